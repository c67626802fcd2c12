/- Proved in this text: lemmas and contracts of functions that the claim uses (parts: Lw, Lev, Stat, Sid, ResL, EdgL, Nb, PredAt, PredL, RecL, Best). No condition. -/
import Derived.Test.YtainhhfnnclfiaaGreatBmM9
import Derived.Test.YtainhhfnnclfiaaGreatBmM10
set_option linter.unusedVariables false
set_option linter.unusedSimpArgs false
set_option maxRecDepth 100000
set_option maxHeartbeats 16000000


namespace Go.Proofs.YtainhhfnnclfiaaGreat
open Go Go.Abs
attribute [local irreducible] WpA WpL Rnd Blk Abs.Seq Abs.Fin Abs.FinG FnC FnG Only
def marksI (k:Int) (n:Nat):List Int:=(List.range n).map fun i:Nat=>k+(i:Int)
@[simp] theorem marksI_len (k:Int) (n:Nat):(marksI k n).length=n:=by simp [marksI]
instance markIntS_c:ConG 55 (∀ (l:List Int) (k:Int),l.length≤1099511627776∧0≤k∧k≤1099511627776→Gn 55 [.own 0 0 0 l.length,I k] [IN l] [IN (marksI k l.length)] [] (I (k+l.length))):=⟨fun l k hk=>by
 refine FnG.of_bodyF tabOk Tryz.func55 Tryz.ntmps55 rfl (by decide +kernel) (by simp) rfl rfl fun G=>?_
 refine go (r:=?_);and_intros<;>intros<;>try exact True.intro
 refine WpA.loop (fun i:Nat=>⟨[(0,.own 0 0 0 l.length),(1,I (k+i)),(5,I i)],[IN (marksI k i++l.drop i)]⟩) (fun i=>i≤l.length) (fun i=>l.length-i) 0 (by simp) (go (r:=?_)) (fun i hi=>?_)
 ·simp [marksI]
 have hml:=marksI_len k i
 refine go (r:=?_);and_intros<;>intros<;>try exact True.intro
 ·first|exact mark_step (fun i:Nat=>k+(i:Int)) l i (by omega)|(simp only [Nat.mul_one,Int.toNat_natCast];exact mark_step (fun i:Nat=>k+(i:Int)) l i (by omega))
 ·have:i=l.length:=by omega
  subst this;simp⟩
instance heldIntS_c:Con 56 (∀ (l:List Int) (k:Int),l.length≤1099511627776∧0≤k∧k≤1099511627776→Fn 56 [IL l,I k] [] (I (if l=marksI k l.length then k+l.length else -1))):=⟨fun l k hk=>by
 refine FnC.of_body tabOk Tryz.func56 Tryz.ntmps56 rfl (by decide +kernel) (by simp) fun G=>?_
 refine go (r:=?_);and_intros<;>intros<;>try exact True.intro
 refine WpA.loop (fun i:Nat=>⟨[(0,IL l),(1,I (k+i)),(5,I i)],[]⟩) (fun i=>i≤l.length∧l.take i=marksI k i) (fun i=>l.length-i) 0 (by simp [marksI]) (go (r:=?_)) (fun i hi=>?_)
 ·simp
 refine go (r:=?_);and_intros<;>intros<;>try exact True.intro
 ·rw [if_neg];exact held_not (fun i:Nat=>k+(i:Int)) 0 l i (by omega) ‹_›
 ·exact held_step (fun i:Nat=>k+(i:Int)) 0 l i (by omega) hi.2 ‹_›
 ·have:i=l.length:=by omega
  subst this;rw [if_pos (by simpa using hi.2)]⟩
instance toBoolS_c:Con 95 (∀ xs:List Bool,xs.length≤1099511627776→Fn 95 [BL xs] [BO xs] (.own 0 0 0 xs.length)):=⟨fun xs hl=>by
 refine FnC.of_body tabOk Tryz.func95 Tryz.ntmps95 rfl (by decide +kernel) (by simp) fun G=>?_
 refine go (r:=?_);and_intros<;>intros<;>try exact True.intro
 refine WpA.loop (fun k:Nat=>⟨[(0,BL xs),(3,.own 0 0 0 xs.length),(4,I k)],[BO (xs.take k++List.replicate (xs.length-k) false)]⟩) (fun k=>k≤xs.length) (fun k=>xs.length-k) 0 (by omega) (go (r:=?_)) (fun k hk=>?_)
 ·simp
 refine go (r:=?_);and_intros<;>intros<;>try exact True.intro
 ·rw [←fill_step _ _ _ (by omega)];simp
 ·have:k=xs.length:=by omega
  subst this;simp⟩
instance eqBoolS_c:Con 98 (∀ xs ys:List Bool,xs.length≤1099511627776∧ys.length≤1099511627776→Fn 98 [BL xs,BL ys] [] (B (decide (xs=ys)))):=⟨fun xs ys hl=>by
 refine FnC.of_body tabOk Tryz.func98 Tryz.ntmps98 rfl (by decide +kernel) (by simp) fun G=>?_
 refine go (r:=?_);and_intros<;>intros<;>try exact True.intro
 ·simp;intro h;subst h;contradiction
 ·refine WpA.loop (fun k:Nat=>⟨[(0,BL xs),(1,BL ys),(5,I k)],[]⟩) (fun k=>k≤xs.length∧∀j<k,xs.getD j false=ys.getD j false) (fun k=>xs.length-k) 0 (by simp) (go (r:=trivial)) (fun k hk=>?_)
  refine go (r:=?_);and_intros<;>intros<;>try exact True.intro
  ·simp;rintro rfl;contradiction
  ·rename_i j hj;by_cases h:j=k
   ·subst h;simp_all
   ·exact hk.2 j (by omega)
  ·have:=eq_all false (xs:=xs) (ys:=ys) (by omega) (fun j hj=>hk.2 j (by omega))
   simp [this]⟩
instance szBoolS_c:Con 84 (∀ (p:List Bool) (left:Int),p.length≤9223372036854775807∧0≤left∧left≤1048576→Fn 84 [BL p,I left] [] (I (max (-1) (left-p.length)))):=⟨fun p left hl=>by
 refine FnC.of_body tabOk Tryz.func84 Tryz.ntmps84 rfl (by decide +kernel) (by simp) fun G=>?_
 exact go (r:=trivial)⟩
def marksB (k:Int) (n:Nat):List Bool:=(List.range n).map fun i:Nat=>decide ((k+(i:Int))%3=0)
@[simp] theorem marksB_len (k:Int) (n:Nat):(marksB k n).length=n:=by simp [marksB]
instance markBoolS_c:ConG 99 (∀ (l:List Bool) (k:Int),l.length≤1099511627776∧0≤k∧k≤1099511627776→Gn 99 [.own 0 0 0 l.length,I k] [BN l] [BN (marksB k l.length)] [] (I (k+l.length))):=⟨fun l k hk=>by
 refine FnG.of_bodyF tabOk Tryz.func99 Tryz.ntmps99 rfl (by decide +kernel) (by simp) rfl rfl fun G=>?_
 refine go (r:=?_);and_intros<;>intros<;>try exact True.intro
 refine WpA.loop (fun i:Nat=>⟨[(0,.own 0 0 0 l.length),(1,I (k+i)),(5,I i)],[BN (marksB k i++l.drop i)]⟩) (fun i=>i≤l.length) (fun i=>l.length-i) 0 (by simp) (go (r:=?_)) (fun i hi=>?_)
 ·simp [marksB]
 have hml:=marksB_len k i
 refine go (r:=?_);and_intros<;>intros<;>try exact True.intro
 ·first|exact mark_step (fun i:Nat=>decide ((k+(i:Int))%3=0)) l i (by omega)|(simp only [Nat.mul_one,Int.toNat_natCast];exact mark_step (fun i:Nat=>decide ((k+(i:Int))%3=0)) l i (by omega))
 ·have:i=l.length:=by omega
  subst this;simp⟩
instance szOptions_c:Con 32 (∀ (q:Int) (b d:Bool) (l m:List Int) (e:List Bool) (left:Int),l.length≤9223372036854775807∧m.length≤9223372036854775807∧e.length≤9223372036854775807∧0≤left∧left≤1048576→
 Fn 32 [OpA q b d l m e,I left] [] (I (max (-1) (left-l.length-m.length-e.length)))):=⟨fun q b d l m e left hl=>by
 refine FnC.of_body tabOk Tryz.func32 Tryz.ntmps32 rfl (by decide +kernel) (by simp) fun G=>?_
 refine go (r:=?_);and_intros<;>intros<;>try exact True.intro⟩
instance toOptions_c:Con 35 (∀ (q:Int) (b d:Bool) (l m:List Int) (e:List Bool),l.length≤1099511627776∧m.length≤1099511627776∧e.length≤1099511627776→
 Fn 35 [OpA q b d l m e] [⟨ints l,0,1,some 3⟩,⟨ints m,0,1,some 3⟩,BO e] (.agg [I q,B b,B d,.own 0 0 0 l.length,.own 1 0 0 m.length,.own 2 0 0 e.length])):=⟨fun q b d l m e hl=>by
 refine FnC.of_body tabOk Tryz.func35 Tryz.ntmps35 rfl (by decide +kernel) (by simp) fun G=>?_
 refine go (r:=?_);and_intros<;>intros<;>try exact True.intro⟩
instance eqOptions_c:Con 38 (∀ (q:Int) (b d:Bool) (l m:List Int) (e:List Bool) (q2:Int) (b2 d2:Bool) (l2 m2:List Int) (e2:List Bool),l.length≤1099511627776∧m.length≤1099511627776∧e.length≤1099511627776∧l2.length≤1099511627776∧m2.length≤1099511627776∧e2.length≤1099511627776→
 Fn 38 [OpA q b d l m e,OpA q2 b2 d2 l2 m2 e2] [] (B (decide (q=q2∧b=b2∧d=d2∧l=l2∧m=m2∧e=e2)))):=⟨fun q b d l m e q2 b2 d2 l2 m2 e2 hl=>by
 refine FnC.of_body tabOk Tryz.func38 Tryz.ntmps38 rfl (by decide +kernel) (by simp) fun G=>?_
 refine go (r:=?_);and_intros<;>intros<;>try exact True.intro
 all_goals simp_all⟩
instance markOptions_c:ConG 40 (∀ (q:Int) (b d:Bool) (l m:List Int) (e:List Bool) (k:Int),l.length≤1048576∧m.length≤1048576∧e.length≤1048576∧0≤k∧k≤1073741824→
 Gn 40 [.agg [I q,B b,B d,.own 0 0 0 l.length,.own 1 0 0 m.length,.own 2 0 0 e.length],I k] [IN l,IN m,BN e] [IN (marksI k l.length),IN (marksI (k+l.length) m.length),BN (marksB (k+l.length+m.length) e.length)] [] (I (k+l.length+m.length+e.length))):=⟨fun q b d l m e k hk=>by
 refine FnG.of_bodyF tabOk Tryz.func40 Tryz.ntmps40 rfl (by decide +kernel) (by simp) rfl rfl fun G=>?_
 have h1:=marksI_len k l.length
 have h2:=marksI_len (k+l.length) m.length
 refine go (r:=?_);and_intros<;>intros<;>try exact True.intro⟩
end Go.Proofs.YtainhhfnnclfiaaGreat


namespace Go.Proofs.YtainhhfnnclfiaaGreat
open Go Go.Abs
attribute [local irreducible] WpA WpL Rnd Blk Abs.Seq Abs.Fin Abs.FinG FnC FnG Only
abbrev FitM (l:List Int):Prop:=In l (-1000000000) 1000000000
instance l12Fits_s:Con 153 (∀ (l:List Int) (n:Int),l.length≤1099511627776∧0≤n∧n≤8→Fn 153 [IL l,I n] [] (B (decide (FitM l∧(l.length:Int)=n*n)))):=⟨fun l n hl=>by
 have hnn:=mul_in (a:=n) (b:=n) (by omega) (by omega)
 refine FnC.of_body tabOk Tryz.func153 Tryz.ntmps153 rfl (by decide +kernel) (by simp) fun G=>?_
 refine go (r:=?_);and_intros<;>intros<;>try exact True.intro
 refine WpA.loop (fun k:Nat=>⟨[(0,IL l),(1,I n),(5,I k)],[]⟩) (fun k=>k≤l.length∧In (l.take k) (-1000000000) 1000000000) (fun k=>l.length-k) 0 (by simp [in_nil]) (go (r:=?_)) (fun k hk=>?_)
 ·trivial
 refine go (r:=?_);and_intros<;>intros<;>try exact True.intro
 ·rename_i h1 h2
  symm;rw [decide_eq_false_iff_not];exact fun hh=>h2 (in_get hh.1 (by omega))
 ·rw [in_snoc (by omega)];simp_all
 ·have e:k=l.length:=by omega
  subst e
  have h3:=hk.2
  rw [List.take_length] at h3
  simp [h3]⟩
instance l12Mul_s:Con 274 (∀ (l:List Int) (n:Int) (b:Bool),(n=4∨n=8)∧(l.length:Int)=n*n∧FitM l→Fn 274 [IL l,I n,B b] [XI (mulM n.toNat (mg n.toNat b) l)] (.own 0 0 0 (mulM n.toNat (mg n.toNat b) l).length)):=⟨fun l n b h=>by
 obtain ⟨rfl|rfl,h1,h2⟩:=h
 ·exact l12Mul_4 b l ⟨by omega,h2⟩
 ·exact l12Mul_8 b l ⟨by omega,h2⟩⟩
theorem prodL_le {n:Nat} {g:Nat→Nat→Int} {l:List Int} (h:n≤8):(prodL n g l).length≤64:=by
 have:=prodL_len n g l
 have h2:n*n≤8*8:=Nat.mul_le_mul h h
 split at this<;>omega
def trL (n:Int) (b:Bool) (l:List Int):List Int:=prodL n.toNat (mg n.toNat b) l
theorem trL_le {n:Int} {b:Bool} {l:List Int} (h:n≤8):(trL n b l).length≤64:=prodL_le (by omega)
theorem trL_yes {n:Int} {b:Bool} {l:List Int} (h:n=4∨n=8) (h1:FitM l∧(l.length:Int)=n*n):trL n b l=mulM n.toNat (mg n.toNat b) l:=by
 rw [trL,prodL,if_pos]
 refine ⟨?_,h1.1⟩
 have:=h1.2
 rcases h with rfl|rfl
 ·show l.length=16;omega
 ·show l.length=64;omega
theorem trL_no {n:Int} {b:Bool} {l:List Int} (h:n=4∨n=8) (h1:¬(FitM l∧(l.length:Int)=n*n)):trL n b l=[]:=by
 rw [trL,prodL,if_neg]
 intro hh;apply h1
 refine ⟨hh.2,?_⟩
 rcases h with rfl|rfl
 ·have:l.length=16:=hh.1
  omega
 ·have:l.length=64:=hh.1
  omega
instance l12Some_s:Con 229 (∀ (l:List Int) (n:Int) (b:Bool),(n=4∨n=8)∧l.length≤1099511627776→Fn 229 [IL l,I n,B b] [XI (trL n b l)] (.own 0 0 0 (trL n b l).length)):=⟨fun l n b h=>by
 have hn:=h.1
 have hfl:=trL_yes (b:=b) (l:=l) hn
 refine FnC.of_body tabOk Tryz.func229 Tryz.ntmps229 rfl (by decide +kernel) (by simp) fun G=>?_
 refine go (r:=?_);and_intros<;>intros<;>try exact True.intro
 all_goals first|(rw [trL_no h.1 (by assumption)];done)|(rw [trL_no h.1 (by assumption)];rfl)|(rw [hfl (by assumption)];done)|(exact (‹_∧_›).1)⟩
instance Forward4_s:Con 156 (∀ l:List Int,l.length≤1099511627776→Fn 156 [IL l] [XI (trL 4 false l)] (.own 0 0 0 (trL 4 false l).length)):=⟨fun l h=>by
 refine FnC.of_body tabOk Tryz.func156 Tryz.ntmps156 rfl (by decide +kernel) (by simp) fun G=>?_
 refine go (r:=?_);and_intros<;>intros<;>try exact True.intro⟩
instance Forward8_s:Con 157 (∀ l:List Int,l.length≤1099511627776→Fn 157 [IL l] [XI (trL 8 false l)] (.own 0 0 0 (trL 8 false l).length)):=⟨fun l h=>by
 refine FnC.of_body tabOk Tryz.func157 Tryz.ntmps157 rfl (by decide +kernel) (by simp) fun G=>?_
 refine go (r:=?_);and_intros<;>intros<;>try exact True.intro⟩
instance Inverse4_s:Con 232 (∀ l:List Int,l.length≤1099511627776→Fn 232 [IL l] [XI (trL 4 true l)] (.own 0 0 0 (trL 4 true l).length)):=⟨fun l h=>by
 refine FnC.of_body tabOk Tryz.func232 Tryz.ntmps232 rfl (by decide +kernel) (by simp) fun G=>?_
 refine go (r:=?_);and_intros<;>intros<;>try exact True.intro⟩
instance Inverse8_s:Con 234 (∀ l:List Int,l.length≤1099511627776→Fn 234 [IL l] [XI (trL 8 true l)] (.own 0 0 0 (trL 8 true l).length)):=⟨fun l h=>by
 refine FnC.of_body tabOk Tryz.func234 Tryz.ntmps234 rfl (by decide +kernel) (by simp) fun G=>?_
 refine go (r:=?_);and_intros<;>intros<;>try exact True.intro⟩
def gOf (M:List (List Int)) (r i:Nat):Int:=(M.getD r default).getD i 0
def MatOk (n:Nat) (M:List (List Int)):Prop:=M.length=n∧(∀ r,r<n→(M.getD r default).length=n)∧Sgn (gOf M)
instance product_c:Con 252 (∀ (n:Nat) (M:List (List Int)) (l:List Int),(n=4∨n=8)∧MatOk n M∧l.length≤1099511627776→Fn 252 [LLn n M,IL l] [XI (prodL n (gOf M) l)] (.own 0 0 0 (prodL n (gOf M) l).length)):=⟨fun n M l h=>by
 obtain ⟨rfl|rfl,h1,h2⟩:=h
 ·exact product_4 (gOf M) M l h1.2.2 ⟨h1.1,h1.2.1,fun _ _ _ _=>rfl⟩ h2
 ·exact product_8 (gOf M) M l h1.2.2 ⟨h1.1,h1.2.1,fun _ _ _ _=>rfl⟩ h2⟩
theorem sumF_congr {f g:Nat→Int}:∀k,(∀ i,i<k→f i=g i)→sumF f k=sumF g k
 |0,_=>rfl
 |k+1,h=>by rw [sumF,sumF,sumF_congr k (fun i hi=>h i (by omega)),h k (by omega)]
theorem prodL_congr {n:Nat} {f g:Nat→Nat→Int} {l:List Int} (hn:0<n) (h:∀r i,r<n→i<n→f r i=g r i):prodL n f l=prodL n g l:=by
 have hm:mulM n f l=mulM n g l:=by
  refine list_ext (N:=n*n) (tabL_len _ _) (tabL_len _ _) fun q hq=>?_
  unfold mulM
  rw [tabL_get hq,tabL_get hq]
  have h1:q/n<n:=Nat.div_lt_of_lt_mul hq
  have h2:q%n<n:=Nat.mod_lt _ hn
  refine sumF_congr n fun i hi=>?_
  rw [h _ _ h2 hi]
  congr 1
  exact sumF_congr n fun j hj=>by rw [h _ _ h1 hj]
 unfold prodL;rw [hm]
theorem A4_ok:MatOk 4 A4:=by
 refine ⟨rfl,?_,fun r i=>mx_val 4 r i⟩
 intro r hr
 rcases (by omega:r=0∨r=1∨r=2∨r=3) with rfl|rfl|rfl|rfl<;>rfl
theorem H8_row {r:Nat} (h:r<8):H8.getD r default=tabL (mx 8 r) 8:=by
 simp [H8,h]
theorem gOf_H8 {r i:Nat} (h:r<8) (h2:i<8):gOf H8 r i=mx 8 r i:=by
 rw [gOf,H8_row h,tabL_get h2]
theorem H8_ok:MatOk 8 H8:=by
 refine ⟨by simp [H8],fun r hr=>by rw [H8_row hr,tabL_len],fun r i=>?_⟩
 by_cases h:r<8
 ·by_cases h2:i<8
  ·rw [gOf_H8 h h2];exact mx_val 8 r i
  ·right;right;left
   rw [gOf,H8_row h,List.getD_eq_getElem?_getD,List.getElem?_eq_none (by rw [tabL_len];omega)];rfl
 ·right;right;left
  have:H8.getD r default=[]:=by rw [List.getD_eq_getElem?_getD,List.getElem?_eq_none (by simp [H8];omega)];rfl
  rw [gOf,this];rfl
theorem trA4 (l:List Int):prodL 4 (gOf A4) l=trL 4 false l:=rfl
theorem trH8 (l:List Int):prodL 8 (gOf H8) l=trL 8 false l:=prodL_congr (by decide) fun r i hr hi=>gOf_H8 hr hi
instance Forward4_c:Con 196 (∀ l:List Int,l.length≤1099511627776→Fn 196 [IL l] [XI (trL 4 false l)] (.own 0 0 0 (trL 4 false l).length)):=⟨fun l h=>by
 have hA:=A4_ok
 rw [←trA4]
 refine FnC.of_body tabOk Tryz.func196 Tryz.ntmps196 rfl (by decide +kernel) (by simp) fun G=>?_
 refine go (r:=?_);and_intros<;>intros<;>try exact True.intro
 refine K.call ?_
 refine K.con (fun hcon=>?_)
 refine WpL.callF (hcon 4 A4 l ⟨by decide,hA,h⟩) snapA locA outA rfl rfl rfl (by decide) ?_
 refine go (r:=?_);and_intros<;>intros<;>try exact True.intro⟩
instance Forward8_c:Con 197 (∀ l:List Int,l.length≤1099511627776→Fn 197 [IL l] [XI (trL 8 false l)] (.own 0 0 0 (trL 8 false l).length)):=⟨fun l h=>by
 have hA:=H8_ok
 rw [←trH8]
 refine FnC.of_body tabOk Tryz.func197 Tryz.ntmps197 rfl (by decide +kernel) (by simp) fun G=>?_
 refine go (r:=?_);and_intros<;>intros<;>try exact True.intro
 refine K.call ?_
 refine K.con (fun hcon=>?_)
 refine WpL.callF (hcon 8 H8 l ⟨by decide,hA,h⟩) snapA locA outA rfl rfl rfl (by decide) ?_
 refine go (r:=?_);and_intros<;>intros<;>try exact True.intro⟩
def clampL (v:Int):Int:=max (-16383) (min 16383 v)
def levL (b:Bool) (q:Int) (l r:List Int):List Int:=if OptOk q l∧0<side r.length∧FitM r then
 (if b=true then scnL (r.map clampL) else scnL (quantL (trL (side r.length) false r) q)) else []
theorem quantL_le (l:List Int) (q:Int):(quantL l q).length≤l.length:=by unfold quantL;split<;>simp
theorem scn_le (l:List Int):(scnL l).length≤64:=by rw [scnL_len];exact (scan_fit l).2
theorem levL_le (b:Bool) (q:Int) (l r:List Int):(levL b q l r).length≤64:=by
 unfold levL;split
 ·split<;>exact scn_le _
 ·simp
theorem clampL_snoc (l:List Int) (k:Nat) (h:k<l.length):(l.take k).map clampL++[clampL (l.getD k 0)]=(l.take (k+1)).map clampL:=qz_snoc clampL l k h
instance LevelsFor_s:Con 89 (∀ (q:Int) (b d:Bool) (l m:List Int) (e:List Bool) (r:List Int),l.length≤1099511627776∧r.length≤1099511627776→Fn 89 [OpA q b d l m e,IL r] [XI (levL b q l r)] (.own 0 0 0 (levL b q l r).length)):=⟨fun q b d l m e r hl=>by
 have hsc:=side_cases r.length
 have ht4:=trL_le (n:=4) (b:=false) (l:=r) (by decide)
 have ht8:=trL_le (n:=8) (b:=false) (l:=r) (by decide)
 have hq4:=quantL_le (trL 4 false r) q
 have hq8:=quantL_le (trL 8 false r) q
 refine FnC.of_body tabOk Tryz.func89 Tryz.ntmps89 rfl (by decide +kernel) (by simp) fun G=>?_
 by_cases h:OptOk q l∧0<side r.length∧FitM r
 ·obtain ⟨h1,h2,h3⟩:=id h
  have h4:(r.length:Int)=side r.length*side r.length:=by rcases hsc with ⟨a,b⟩|⟨a,b⟩|⟨_,_,b⟩<;>rw [b]<;>omega
  have h5:=And.intro h3 h4
  have he:levL b q l r=if b=true then scnL (r.map clampL) else scnL (quantL (trL (side r.length) false r) q):=by rw [levL,if_pos h]
  have hb1:b=true→levL b q l r=scnL (r.map clampL):=fun h=>by rw [he,if_pos h]
  have hb4:b=false→(r.length:Int)=16→levL b q l r=scnL (quantL (trL 4 false r) q):=fun h hh=>by
   have hs4:side r.length=4:=by omega
   rw [he,if_neg (by simp [h]),hs4]
  have hb8:b=false→¬(r.length:Int)=16→levL b q l r=scnL (quantL (trL 8 false r) q):=fun h hh=>by
   have hs4:side r.length=8:=by omega
   rw [he,if_neg (by simp [h]),hs4]
  refine go (r:=?_);and_intros<;>intros<;>try exact True.intro
  ·rename_i hb
   refine WpA.loop (fun k:Nat=>⟨[(1,IL r),(5,.own 1 0 0 k),(6,I k)],[OpO q b d l m e,XI ((r.take k).map clampL)]⟩) (fun k=>k≤r.length) (fun k=>r.length-k) 0 (by omega) (go (r:=?_)) (fun k hk=>?_)
   ·simp
   have hkl:((r.take k).map clampL).length=k:=by simp;omega
   have hcs:=clampL_snoc r k
   refine go (r:=?_);and_intros<;>intros<;>try exact True.intro
   ·rw [←hcs (by omega)];rfl
   all_goals have ek:k=r.length:=by omega
   all_goals subst ek
   all_goals rw [hb1 hb,List.take_length]
  all_goals first|(rw [hb4 (by assumption) (by assumption)];done)|(rw [hb8 (by assumption) (by assumption)];done)
 ·have he:levL b q l r=[]:=by rw [levL,if_neg h]
  refine go (r:=?_);and_intros<;>intros<;>try exact True.intro
  all_goals first|(rw [he];done)|(rw [he];rfl)|(exact absurd ⟨by assumption,by omega,And.left (by assumption)⟩ h)⟩
theorem clampL_map (r:List Int):(List.range r.length).map (fun i=>clampL (r.getD i 0))=r.map clampL:=by
 apply List.ext_getElem (by simp)
 intro i h1 h2
 simp at h1
 simp [h1]
theorem clampL_min (v:Int):max (-16383) (min v 16383)=clampL v:=by unfold clampL;rw [Int.min_comm]
instance LevelsFor_c:Con 137 (∀ (q:Int) (b d:Bool) (l m:List Int) (e:List Bool) (r:List Int),l.length≤1099511627776∧r.length≤1099511627776→Fn 137 [OpA q b d l m e,IL r] [XI (levL b q l r)] (.own 0 0 0 (levL b q l r).length)):=⟨fun q b d l m e r hl=>by
 have hsc:=side_cases r.length
 have ht4:=trL_le (n:=4) (b:=false) (l:=r) (by decide)
 have ht8:=trL_le (n:=8) (b:=false) (l:=r) (by decide)
 have hq4:=quantL_le (trL 4 false r) q
 have hq8:=quantL_le (trL 8 false r) q
 refine FnC.of_body tabOk Tryz.func137 Tryz.ntmps137 rfl (by decide +kernel) (by simp) fun G=>?_
 by_cases h:OptOk q l∧0<side r.length∧FitM r
 ·obtain ⟨h1,h2,h3⟩:=id h
  have he:levL b q l r=if b=true then scnL (r.map clampL) else scnL (quantL (trL (side r.length) false r) q):=by rw [levL,if_pos h]
  have hb1:b=true→levL b q l r=scnL (r.map clampL):=fun h=>by rw [he,if_pos h]
  have hb4:b=false→(r.length:Int)=16→levL b q l r=scnL (quantL (trL 4 false r) q):=fun h hh=>by
   have hs4:side r.length=4:=by omega
   rw [he,if_neg (by simp [h]),hs4]
  have hb8:b=false→¬(r.length:Int)=16→levL b q l r=scnL (quantL (trL 8 false r) q):=fun h hh=>by
   have hs4:side r.length=8:=by omega
   rw [he,if_neg (by simp [h]),hs4]
  refine go (r:=?_);and_intros<;>intros<;>try exact True.intro
  ·rename_i hb
   refine WpA.loop (fun k:Nat=>⟨[(5,.own 1 0 0 r.length),(26,.own 1 0 0 r.length),(27,I r.length),(28,I k)],[OpO q b d l m e,XI ((List.range k).map (fun i=>clampL (r.getD i 0))++r.drop k)]⟩) (fun k=>k≤r.length) (fun k=>r.length-k) 0 (by omega) (go (r:=?_)) (fun k hk=>?_)
   ·simp
   have hkl:((List.range k).map (fun i=>clampL (r.getD i 0))++r.drop k).length=r.length:=by simp;omega
   have hms:=mark_step (fun i=>clampL (r.getD i 0)) r k
   refine go (r:=?_);and_intros<;>intros<;>try exact True.intro
   ·rename_i hk1
    have hk2:k<r.length:=by omega
    have hgd:((List.range k).map (fun i=>clampL (r.getD i 0))++r.drop k).getD k 0=r.getD k 0:=by
     rw [List.getD_eq_getElem?_getD,List.getElem?_append_right (by simp),List.getElem?_drop];simp
    rw [Int.toNat_natCast,hgd,clampL_min];exact hms hk2
   all_goals have ek:k=r.length:=by omega
   all_goals rw [ek,clampL_map,List.drop_length,List.append_nil,hb1 hb]
  all_goals first|(rw [hb4 (by assumption) (by assumption)];done)|(rw [hb8 (by assumption) (by assumption)];done)
 ·have he:levL b q l r=[]:=by rw [levL,if_neg h]
  refine go (r:=?_);and_intros<;>intros<;>try exact True.intro
  all_goals first|(rw [he];done)|(rw [he];rfl)|(exact absurd ⟨by assumption,by omega,by assumption⟩ h)⟩
end Go.Proofs.YtainhhfnnclfiaaGreat


namespace Go.Proofs.YtainhhfnnclfiaaGreat
open Go Go.Abs
attribute [local irreducible] WpA WpL Rnd Blk Abs.Seq Abs.Fin Abs.FinG FnC FnG Only
def modeNames:List (List UInt8):=[[109,101,97,110],[100,111,119,110],[97,99,114,111,115,115],[115,108,111,112,101],[108,101,102,116],[114,105,103,104,116]]
def modeW (m:Int):List UInt8:=if 0≤m∧m≤5 then modeNames.getD m.toNat [] else []
theorem modeW_nil (m:Int):modeW m=[]↔¬(0≤m∧m≤5):=by
 have key:∀k:Fin 6,modeNames.getD k.val []≠[]:=by decide
 unfold modeW
 constructor
 ·intro h hm
  rw [if_pos hm] at h
  exact key ⟨m.toNat,by omega⟩ h
 ·intro h;rw [if_neg h]
instance ModeWord_s:Con 119 (∀ m:Int,Fn 119 [I m] [] (Z (modeW m))):=⟨fun m=>by
 refine FnC.of_body tabOk Tryz.func119 Tryz.ntmps119 rfl (by decide +kernel) (by simp) fun G=>?_
 refine go (r:=?_);and_intros<;>intros<;>try exact True.intro
 all_goals first|(rw [modeW,if_neg (by assumption)];done)|(rw [modeW,if_pos (by assumption)];rfl)⟩
end Go.Proofs.YtainhhfnnclfiaaGreat


namespace Go.Proofs.YtainhhfnnclfiaaGreat
open Go Go.Abs
attribute [local irreducible] WpA WpL Rnd Blk Abs.Seq Abs.Fin Abs.FinG FnC FnG Only
def cntM (w h:Int):Int:=w/8*(h/8)
theorem cntM_bd {w h:Int} (hs:SidesOk w h):(0≤w/8∧w/8≤4)∧(0≤h/8∧h/8≤4)∧0≤cntM w h∧cntM w h≤16:=by
 have h1:0≤w/8∧w/8≤4:=by omega
 have h2:0≤h/8∧h/8≤4:=by omega
 refine ⟨h1,h2,Int.mul_nonneg h1.1 h2.1,?_⟩
 have:=Int.mul_le_mul h1.2 h2.2 h2.1 (by decide)
 exact this
instance l24Count_s:Con 79 (∀ (w h q:Int) (b d:Bool) (l:List Int),SidesOk w h→Fn 79 [HdA w h q b d l] [] (I (cntM w h))):=⟨fun w h q b d l hs=>by
 have:=cntM_bd hs
 unfold cntM at*
 refine FnC.of_body tabOk Tryz.func79 Tryz.ntmps79 rfl (by decide +kernel) (by simp) fun G=>?_
 refine go (r:=?_);and_intros<;>intros<;>try exact True.intro⟩
instance many_c:Con 133 (∀ (w h q:Int) (b d:Bool) (l:List Int),SidesOk w h→Fn 133 [HdA w h q b d l] [] (I (cntM w h))):=⟨fun w h q b d l hs=>by
 have:=cntM_bd hs
 unfold cntM at*
 refine FnC.of_body tabOk Tryz.func133 Tryz.ntmps133 rfl (by decide +kernel) (by simp) fun G=>?_
 refine go (r:=?_);and_intros<;>intros<;>try exact True.intro⟩
abbrev LvOk (l:List Int):Prop:=In l (-16383) 16383∧(l.length=16∨l.length=64)
instance LevelsOk_s:Con 216 (∀ l:List Int,l.length≤1099511627776→Fn 216 [IL l] [] (B (decide (LvOk l)))):=⟨fun l hl=>by
 have hsp:=side_pos l.length
 refine FnC.of_body tabOk Tryz.func216 Tryz.ntmps216 rfl (by decide +kernel) (by simp) fun G=>?_
 refine go (r:=?_);and_intros<;>intros<;>try exact True.intro
 refine WpA.loop (fun k:Nat=>⟨[(0,IL l),(3,I k)],[]⟩) (fun k=>k≤l.length∧In (l.take k) (-16383) 16383) (fun k=>l.length-k) 0 (by simp [in_nil]) (go (r:=?_)) (fun k hk=>?_)
 ·trivial
 have hi:=fun h=>in_snoc (lo:=-16383) (hi:=16383) (l:=l) (k:=k) h
 refine go (r:=?_);and_intros<;>intros<;>try exact True.intro
 ·have:=notin (k:=k) (by omega) ‹¬ (-16383≤l.getD k 0∧_)›;rw [eq_comm,decide_eq_false_iff_not] at *;exact fun h=>this h.1
 ·rw [hi (by omega)];exact ⟨hk.2,‹_›⟩
 all_goals have e:k=l.length:=by omega
 all_goals subst e
 all_goals rw [List.take_length] at*
 simp [hk.2,hsp]⟩
instance LevelsOk_c:Con 255 (∀ l:List Int,l.length≤1099511627776→Fn 255 [IL l] [] (B (decide (LvOk l)))):=⟨fun l hl=>by
 have hsp:=side_pos l.length
 refine FnC.of_body tabOk Tryz.func255 Tryz.ntmps255 rfl (by decide +kernel) (by simp) fun G=>?_
 refine go (r:=?_);and_intros<;>intros<;>try exact True.intro
 refine WpA.loop (fun k:Nat=>⟨[(0,IL l),(5,IL l),(6,I l.length),(7,I k)],[]⟩) (fun k=>k≤l.length∧In (l.take k) (-16383) 16383) (fun k=>l.length-k) 0 (by simp [in_nil]) (go (r:=?_)) (fun k hk=>?_)
 ·trivial
 have hi:=fun h=>in_snoc (lo:=-16383) (hi:=16383) (l:=l) (k:=k) h
 refine go (r:=?_);and_intros<;>intros<;>try exact True.intro
 ·have:=notin (k:=k) (by omega) ‹¬ (-16383≤l.getD k 0∧_)›;rw [eq_comm,decide_eq_false_iff_not] at *;exact fun h=>this h.1
 ·rw [hi (by omega)];exact ⟨hk.2,‹_›⟩
 all_goals have e:k=l.length:=by omega
 all_goals subst e
 all_goals rw [List.take_length] at*
 simp [hk.2,hsp]⟩
abbrev BlkOk (m:Int) (lv:List Int) (lens:List Int) (n:Int):Prop:=(n=4∨n=8)∧HasC lens m∧(lv.length:Int)=n*n∧LvOk lv
def badB (lens:List Int) (n:Int) (b:Blok):Bool:=decide (¬ BlkOk b.1 b.2 lens n)
end Go.Proofs.YtainhhfnnclfiaaGreat


namespace Go.Proofs.YtainhhfnnclfiaaGreat
open Go Go.Abs
def plcK (o l:List Int):Nat→List Int
 |0=>List.replicate o.length 0
 |k+1=>(plcK o l k).set (o.getD k 0).toNat (l.getD k 0)
def plcL (l:List Int):List Int:=plcK (scanL (side l.length)) l (scanL (side l.length)).length
theorem plcK_len (o l:List Int):∀k,(plcK o l k).length=o.length
 |0=>by simp [plcK]
 |k+1=>by rw [plcK,List.length_set];exact plcK_len o l k
theorem plcL_len (l:List Int):(plcL l).length=(scanL (side l.length)).length:=plcK_len _ _ _
theorem plcK_in {o l:List Int} {c:Int} (hc:0≤c) (h:In l (-c) c):∀k,In (plcK o l k) (-c) c
 |0=>in_all fun j hj=>by
  rw [plcK,List.getD_eq_getElem?_getD,List.getElem?_replicate]
  split<;>simp<;>omega
 |k+1=>in_all fun j hj=>by
  rw [plcK,List.getD_eq_getElem?_getD,List.getElem?_set]
  split
  ·split
   ·exact in_getZ h hc k
   ·simp;omega
  ·have:=in_getZ (plcK_in (o:=o) hc h k) hc j
   rw [List.getD_eq_getElem?_getD] at this;exact this
theorem plcL_ok {l:List Int} (h:LvOk l):LvOk (plcL l):=by
 refine ⟨plcK_in (by decide) h.1 _,?_⟩
 rw [plcL_len]
 rcases h.2 with e|e
 ·rw [e];exact .inl (by have:=(scan_rg 4 (by omega)).2;show (scanL 4).length=16;omega)
 ·rw [e];exact .inr (by have:=(scan_rg 8 (by omega)).2;show (scanL 8).length=64;omega)
theorem plcL_len2 {l:List Int} (h:l.length=16∨l.length=64):(plcL l).length=l.length:=by
 rw [plcL_len]
 rcases h with e|e
 ·rw [e];have:=(scan_rg 4 (by omega)).2;show (scanL 4).length=16;omega
 ·rw [e];have:=(scan_rg 8 (by omega)).2;show (scanL 8).length=64;omega
def normL (n i:Int):Int:=if (n=4∨n=8)∧0≤i∧i≤n*n-1 then (if n=8 then 1 else if i/4%2+i%4%2=0 then 100 else if i/4%2+i%4%2=2 then 16 else 40) else 0
theorem normL_bd (n i:Int):0≤normL n i∧normL n i≤100:=by unfold normL;split<;>(try split)<;>(try split)<;>(try split)<;>omega
def scaF (l:List Int) (q:Int) (i:Nat):Int:=l.getD i 0*stepL q*normL (side l.length) i
def scaL (l:List Int) (q:Int):List Int:=if LvOk l∧0<stepL q then tabL (scaF l q) l.length else []
theorem stepL_bd (q:Int):0≤stepL q∧stepL q≤500:=by
 by_cases h:0≤q∧q≤51
 ·have:=stepL_in q h;omega
 ·unfold stepL;rw [if_neg h];omega
theorem mul_bds {a b A B:Int} (ha:-A≤a∧a≤A) (hb:0≤b∧b≤B) (hA:0≤A):-(A*B)≤a*b∧a*b≤A*B:=by
 have h1:a*b≤A*b:=Int.mul_le_mul_of_nonneg_right ha.2 hb.1
 have h2:A*b≤A*B:=Int.mul_le_mul_of_nonneg_left hb.2 hA
 have h3:-A*b≤a*b:=Int.mul_le_mul_of_nonneg_right ha.1 hb.1
 rw [Int.neg_mul] at h3
 omega
theorem sca1_bd {l:List Int} (h:In l (-16383) 16383) (q:Int) (i:Nat):-8191500≤l.getD i 0*stepL q∧l.getD i 0*stepL q≤8191500:=by
 have:=mul_bds (in_getZ (c:=16383) h (by decide) i) (stepL_bd q) (by decide)
 omega
theorem scaF_bd {l:List Int} (h:In l (-16383) 16383) (q:Int) (i:Nat):-819150000≤scaF l q i∧scaF l q i≤819150000:=by
 have:=mul_bds (sca1_bd h q i) (normL_bd (side l.length) i) (by decide)
 unfold scaF;omega
theorem scaL_len (l:List Int) (q:Int):(scaL l q).length=if LvOk l∧0<stepL q then l.length else 0:=by
 unfold scaL;split<;>simp [tabL_len]
theorem scaL_fit (l:List Int) (q:Int):FitM (scaL l q):=by
 unfold FitM In
 intro x hx
 unfold scaL at hx
 split at hx
 ·rename_i h
  unfold tabL at hx
  obtain ⟨i,_,rfl⟩:=List.mem_map.1 hx
  have:=scaF_bd h.1.1 q i
  omega
 ·cases hx
def rnd1 (k:Nat) (v:Int):Int:=if k=16 then (max (-1000000000000) (min 1000000000000 v)+800)/1600 else (max (-1000000000000) (min 1000000000000 v)+32)/64
def rndL (l:List Int):List Int:=if 0<side l.length then l.map (rnd1 l.length) else []
theorem rndL_le (l:List Int):(rndL l).length≤64:=by
 unfold rndL;split
 ·rename_i h;rw [List.length_map];have:=(side_pos l.length).1 h;omega
 ·simp
theorem floor_neg {v d:Int} (hv:v<0) (hd:0<d):-((-v+d-1)/d)=v/d:=by
 have h1:=Int.mul_ediv_add_emod v d
 have h2:=Int.emod_nonneg v (by omega:d≠0)
 have h3:=Int.emod_lt_of_pos v hd
 have e:(-v+d-1)/d=-(v/d):=by
  have e2:-v+d-1=(d-1-v%d)+d*(-(v/d)):=by rw [Int.mul_neg];omega
  rw [e2,Int.add_mul_ediv_left _ _ (by omega),Int.ediv_eq_zero_of_lt (by omega) (by omega),Int.zero_add]
 omega
theorem floor_t {a b:Int} (hb:0<b):(if a.tmod b<0 then a.tdiv b-1 else a.tdiv b)=a/b:=by
 have h1:=Int.mul_ediv_add_emod a b
 have h2:=Int.emod_nonneg a (by omega:b≠0)
 have h3:=Int.emod_lt_of_pos a hb
 have h4:=Int.mul_tdiv_add_tmod a b
 rcases Int.lt_or_le a 0 with h|h
 ·have h0:(-a).tmod b=-(a.tmod b):=Int.neg_tmod ..
  have h5:=Int.tmod_nonneg b (show 0≤-a by omega)
  have h6:=Int.tmod_lt_of_pos (-a) hb
  rw [h0] at h5 h6
  split
  ·rename_i h7
   have:b*(a.tdiv b-1-a/b)=-(a.tmod b+b)+a%b:=by rw [Int.mul_sub,Int.mul_sub];omega
   have h8:a.tdiv b-1-a/b=0:=by
    rcases Int.lt_trichotomy (a.tdiv b-1-a/b) 0 with h9|h9|h9
    ·have:=Int.mul_le_mul_of_nonneg_left (show a.tdiv b-1-a/b≤-1 by omega) (Int.le_of_lt hb);omega
    ·exact h9
    ·have:=Int.mul_le_mul_of_nonneg_left (show 1≤a.tdiv b-1-a/b by omega) (Int.le_of_lt hb);omega
   omega
  ·have:b*(a.tdiv b-a/b)=a%b-a.tmod b:=by rw [Int.mul_sub];omega
   have h8:a.tdiv b-a/b=0:=by
    rcases Int.lt_trichotomy (a.tdiv b-a/b) 0 with h9|h9|h9
    ·have:=Int.mul_le_mul_of_nonneg_left (show a.tdiv b-a/b≤-1 by omega) (Int.le_of_lt hb);omega
    ·exact h9
    ·have:=Int.mul_le_mul_of_nonneg_left (show 1≤a.tdiv b-a/b by omega) (Int.le_of_lt hb);omega
   omega
 ·rw [Int.tdiv_eq_ediv_of_nonneg h,Int.tmod_eq_emod_of_nonneg h]
  rw [if_neg (by omega)]
def resL (b:Bool) (q:Int) (l:List Int):List Int:=if LvOk l∧0<stepL q then (if b=true then plcL l else rndL (trL (side l.length) true (scaL (plcL l) q))) else []
theorem resL_le (b:Bool) (q:Int) (l:List Int):(resL b q l).length≤64:=by
 unfold resL;split
 ·rename_i h
  split
  ·rw [plcL_len];exact (scan_fit l).2
  ·exact rndL_le _
 ·simp
theorem scan4_all (p:Nat) (hp:p<16):∃k,k<16∧(scanL 4).getD k 0=(p:Int):=by
 have key:∀p:Fin 16,∃k:Fin 16,(scanL 4).getD k.val 0=((p.val:Nat):Int):=by decide +kernel
 obtain ⟨k,hk⟩:=key ⟨p,hp⟩
 exact ⟨k.val,k.isLt,hk⟩
theorem scan8_all (p:Nat) (hp:p<64):∃k,k<64∧(scanL 8).getD k 0=(p:Int):=by
 have key:∀p:Fin 64,∃k:Fin 64,(scanL 8).getD k.val 0=((p.val:Nat):Int):=by decide +kernel
 obtain ⟨k,hk⟩:=key ⟨p,hp⟩
 exact ⟨k.val,k.isLt,hk⟩
theorem scan4_inj (i:Nat) (hi:i<16) (j:Nat) (hj:j<16) (h:(scanL 4).getD i 0=(scanL 4).getD j 0):i=j:=by
 have key:∀i j:Fin 16,(scanL 4).getD i.val 0=(scanL 4).getD j.val 0→i=j:=by decide +kernel
 exact congrArg Fin.val (key ⟨i,hi⟩ ⟨j,hj⟩ h)
theorem scan8_inj (i:Nat) (hi:i<64) (j:Nat) (hj:j<64) (h:(scanL 8).getD i 0=(scanL 8).getD j 0):i=j:=by
 have key:∀i j:Fin 64,(scanL 8).getD i.val 0=(scanL 8).getD j.val 0→i=j:=by decide +kernel
 exact congrArg Fin.val (key ⟨i,hi⟩ ⟨j,hj⟩ h)
theorem scan_facts {l:List Int} (h:l.length=16∨l.length=64):(scanL (side l.length)).length=l.length∧In (scanL (side l.length)) 0 (l.length-1)∧(∀ i,i<l.length→∀j,j<l.length→(scanL (side l.length)).getD i 0=(scanL (side l.length)).getD j 0→i=j)∧∀p,p<l.length→∃k,k<l.length∧(scanL (side l.length)).getD k 0=(p:Int):=by
 rcases h with e|e
 ·rw [e]
  have h1:=scan_rg 4 (by omega)
  exact ⟨by show (scanL 4).length=16;omega,h1.1,scan4_inj,scan4_all⟩
 ·rw [e]
  have h1:=scan_rg 8 (by omega)
  exact ⟨by show (scanL 8).length=64;omega,h1.1,scan8_inj,scan8_all⟩
end Go.Proofs.YtainhhfnnclfiaaGreat


namespace Go.Proofs.YtainhhfnnclfiaaGreat
open Go Go.Abs
def alphaL (q:Int):Int:=if 0≤q∧q≤51 then q+4 else 0
def betaL (q:Int):Int:=if 0≤q∧q≤51 then q/3+2 else 0
abbrev EdOk (a b c d q:Int):Prop:=In [a,b,c,d] 0 255∧max (b-c) (c-b)<alphaL q∧max (a-b) (b-a)<betaL q∧max (c-d) (d-c)<betaL q
def edD (a b c d q:Int):Int:=max (-(q/4+1)) (min (q/4+1) ((4*(c-b)+(a-d)+4)/8))
def edP (a b c d q:Int):Int×Int:=if EdOk a b c d q then (max 0 (min 255 (b+edD a b c d q)),max 0 (min 255 (c-edD a b c d q))) else (b,c)
def edg (q:Int) (e s:Nat) (f l:List Int):List Int:=(l.set (e-s) (edP (f.getD (e-2*s) 0) (f.getD (e-s) 0) (f.getD e 0) (f.getD (e+s) 0) q).1).set e (edP (f.getD (e-2*s) 0) (f.getD (e-s) 0) (f.getD e 0) (f.getD (e+s) 0) q).2
def run (q:Int):List (Nat×Nat)→List Int→List Int
 |[],l=>l
 |x::E,l=>run q E (edg q x.1 x.2 l l)
def runF (q:Int) (f:List Int):List (Nat×Nat)→List Int→List Int
 |[],l=>l
 |x::E,l=>runF q f E (edg q x.1 x.2 f l)
theorem edg_len (q:Int) (e s:Nat) (f l:List Int):(edg q e s f l).length=l.length:=by simp [edg]
theorem run_len (q:Int):∀(E:List (Nat×Nat)) (l:List Int),(run q E l).length=l.length
 |[],_=>rfl
 |x::E,l=>by rw [run,run_len q E,edg_len]
theorem run_app (q:Int):∀(E D:List (Nat×Nat)) (l:List Int),run q (E++D) l=run q D (run q E l)
 |[],_,_=>rfl
 |x::E,D,l=>by rw [List.cons_append,run,run,run_app q E D]
def vx (w y j:Nat):List (Nat×Nat):=(List.range j).map fun i=>(y*w+(8*i+8),1)
def vy (w a k:Nat):List (Nat×Nat):=(List.range k).flatMap fun i=>vx w (a+i) (w/8-1)
def hx (w y k:Nat):List (Nat×Nat):=(List.range k).map fun i=>(y*w+i,w)
def hy (w k:Nat):List (Nat×Nat):=(List.range k).flatMap fun i=>hx w (8*i+8) w
theorem vx_succ (w y j:Nat):vx w y (j+1)=vx w y j++[(y*w+(8*j+8),1)]:=by simp [vx,List.range_succ]
theorem vy_succ (w a k:Nat):vy w a (k+1)=vy w a k++vx w (a+k) (w/8-1):=by simp [vy,List.range_succ]
theorem hx_succ (w y k:Nat):hx w y (k+1)=hx w y k++[(y*w+k,w)]:=by simp [hx,List.range_succ]
theorem hy_succ (w k:Nat):hy w (k+1)=hy w k++hx w (8*k+8) w:=by simp [hy,List.range_succ]
def debL (q:Int) (w h:Nat) (p:List Int):List Int:=run q (hy w (h/8-1)) (run q (vy w 0 h) p)
theorem debL_len (q:Int) (w h:Nat) (p:List Int):(debL q w h p).length=p.length:=by rw [debL,run_len,run_len]
theorem edP_in {a b c d q:Int} (hb:0≤b∧b≤255) (hc:0≤c∧c≤255):(0≤(edP a b c d q).1∧(edP a b c d q).1≤255)∧0≤(edP a b c d q).2∧(edP a b c d q).2≤255:=by
 unfold edP;split<;>simp only<;>omega
theorem in_setV {l:List Int} {lo hi v:Int} (h:In l lo hi) (hv:lo≤v∧v≤hi) (i:Nat):In (l.set i v) lo hi:=by
 unfold In at*
 intro x hx
 rcases List.mem_or_eq_of_mem_set hx with h1|h1
 ·exact h x h1
 ·rw [h1];exact hv
theorem in_getZ255 {l:List Int} (h:In l 0 255) (k:Nat):0≤l.getD k 0∧l.getD k 0≤255:=by
 by_cases hk:k<l.length
 ·exact in_get h hk
 ·rw [List.getD_eq_getElem?_getD,List.getElem?_eq_none (by omega)];simp
theorem edg_in {q:Int} {e s:Nat} {f l:List Int} (hf:In f 0 255) (hl:In l 0 255):In (edg q e s f l) 0 255:=by
 have h:=edP_in (a:=f.getD (e-2*s) 0) (d:=f.getD (e+s) 0) (q:=q) (in_getZ255 hf (e-s)) (in_getZ255 hf e)
 exact in_setV (in_setV hl h.1 _) h.2 _
theorem run_rg {q:Int}:∀{E:List (Nat×Nat)} {l:List Int},In l 0 255→In (run q E l) 0 255
 |[],_,h=>h
 |x::E,l,h=>by rw [run];exact run_rg (E:=E) (edg_in h h)
end Go.Proofs.YtainhhfnnclfiaaGreat


namespace Go.Proofs.YtainhhfnnclfiaaGreat
open Go Go.Abs
attribute [local irreducible] WpA WpL Rnd Blk Abs.Seq Abs.Fin Abs.FinG FnC FnG Only
abbrev NbA (t l:List Int) (c:Int) (a b:Bool):AV:=.agg [IL t,IL l,I c,B a,B b]
abbrev NbO (t l:List Int) (c:Int) (a b:Bool):AObj:=⟨[IL t,IL l,I c,B a,B b],0,0,none⟩
abbrev NbOk (t l:List Int) (c n:Int):Prop:=(n=4∨n=8)∧(t.length:Int)=2*n∧(l.length:Int)=n∧In t 0 255∧In l 0 255∧0≤c∧c≤255
instance NbOk_s:Con 114 (∀ (t l:List Int) (c:Int) (a b:Bool) (n:Int),t.length≤1099511627776∧l.length≤1099511627776→Fn 114 [NbA t l c a b,I n] [] (B (decide (NbOk t l c n)))):=⟨fun t l c a b n hl=>by
 refine FnC.of_body tabOk Tryz.func114 Tryz.ntmps114 rfl (by decide +kernel) (by simp) fun G=>?_
 refine go (r:=?_);and_intros<;>intros<;>try exact True.intro
 all_goals simp_all⟩
instance NbOk_c:Con 109 (∀ (t l:List Int) (c:Int) (a b:Bool) (n:Int),t.length≤1099511627776∧l.length≤1099511627776→Fn 109 [NbA t l c a b,I n] [] (B (decide (NbOk t l c n)))):=⟨fun t l c a b n hl=>by
 refine FnC.of_body tabOk Tryz.func109 Tryz.ntmps109 rfl (by decide +kernel) (by simp) fun G=>?_
 refine go (r:=?_);and_intros<;>intros<;>try exact True.intro
 all_goals simp_all⟩
def bordL (t l:List Int) (c n:Int):List Int:=if NbOk t l c n then l.reverse++[c]++t.take n.toNat else []
theorem bord_len {t l:List Int} {c n:Int} (h:NbOk t l c n):((bordL t l c n).length:Int)=2*n+1:=by
 rw [bordL,if_pos h];obtain ⟨h1,h2,h3,_⟩:=h;simp;omega
instance Border_s:Con 183 (∀ (t l:List Int) (c:Int) (a b:Bool) (n:Int),t.length≤1099511627776∧l.length≤1099511627776→Fn 183 [NbA t l c a b,I n] [XI (bordL t l c n)] (.own 0 0 0 (bordL t l c n).length)):=⟨fun t l c a b n hl=>by
 refine FnC.of_body tabOk Tryz.func183 Tryz.ntmps183 rfl (by decide +kernel) (by simp) fun G=>?_
 refine go (r:=?_);and_intros<;>intros<;>try exact True.intro
 ·rw [bordL,if_neg (by assumption)];rfl
 ·rw [bordL,if_neg (by assumption)]
 have h:NbOk t l c n:=‹_›
 obtain ⟨h1,h2,h3,h4,h5,h6⟩:=id h
 have htk:(t.take n.toNat).length=n.toNat:=by simp;omega
 have hbl:=bord_len h
 refine WpA.loop (fun k:Nat=>⟨[(1,I n),(2,.ptr 0 0 0),(5,.own 1 0 0 k),(6,I (n-1-k))],[NbO t l c a b,XI (l.reverse.take k)]⟩) (fun k=>k≤l.length) (fun k=>l.length-k) 0 (by omega) (go (r:=?_)) (fun k hk=>?_)
 ·simp
 have hlk:(l.reverse.take k).length=k:=by simp;omega
 refine go (r:=?_);and_intros<;>intros<;>try exact True.intro
 ·rw [take_snoc _ k (by simp;omega)];congr 2;rw [show (default:Int)=0 from rfl,rev_get l k (by omega)];congr 1;omega
 all_goals have e:k=l.length:=by omega
 all_goals subst e
 rw [List.take_of_length_le (by simp),bordL,if_pos h]⟩
instance Border_c:Con 244 (∀ (t l:List Int) (c:Int) (a b:Bool) (n:Int),t.length≤1099511627776∧l.length≤1099511627776→Fn 244 [NbA t l c a b,I n] [XI (bordL t l c n)] (.own 0 0 0 (bordL t l c n).length)):=⟨fun t l c a b n hl=>by
 by_cases h:NbOk t l c n
 ·have hbl:=bord_len h
  obtain ⟨h1,h2,h3,h4,h5,h6⟩:=id h
  have htk:(t.take n.toNat).length=n.toNat:=by simp;omega
  have hlr:l.reverse.length=l.length:=List.length_reverse
  refine FnC.of_body tabOk Tryz.func244 Tryz.ntmps244 rfl (by decide +kernel) (by simp) fun G=>?_
  refine go (r:=?_);and_intros<;>intros<;>try exact True.intro
  all_goals first|(exact absurd h ‹¬ NbOk t l c n›)|skip
  rw [bordL,if_pos h]
 ·refine FnC.of_body tabOk Tryz.func244 Tryz.ntmps244 rfl (by decide +kernel) (by simp) fun G=>?_
  refine go (r:=?_);and_intros<;>intros<;>try exact True.intro
  all_goals first|(exact absurd ‹NbOk t l c n› h)|skip
  ·rw [bordL,if_neg h];rfl
  ·rw [bordL,if_neg h]⟩
def meanL (t l:List Int) (c:Int) (a b:Bool) (n:Int):Int:=if NbOk t l c n then (match a,b with
 |true,true=>((t.take n.toNat).sum+l.sum+n)/(2*n)
 |true,false=>((t.take n.toNat).sum+n/2)/n
 |false,true=>(l.sum+n/2)/n
 |false,false=>128) else 0
theorem sum_bd255 {l:List Int} (h:In l 0 255):0≤l.sum∧l.sum≤255*l.length:=by
 have:=psum_bd h l.length (Nat.le_refl _)
 rw [psum_all] at this;exact this
theorem mean_in {t l:List Int} {c n:Int} (a b:Bool) (h:NbOk t l c n):0≤meanL t l c a b n∧meanL t l c a b n≤255:=by
 unfold meanL
 rw [if_pos h]
 obtain ⟨h1,h2,h3,h4,h5,h6⟩:=h
 have htk:(t.take n.toNat).length=n.toNat:=by simp;omega
 have s1:=sum_bd255 (in_take h4 n.toNat)
 have s2:=sum_bd255 h5
 rw [htk] at s1
 rcases h1 with rfl|rfl<;>cases a<;>cases b<;>simp only<;>omega
instance Mean_s:Con 184 (∀ (t l:List Int) (c:Int) (a b:Bool) (n:Int),t.length≤1099511627776∧l.length≤1099511627776→Fn 184 [NbA t l c a b,I n] [] (I (meanL t l c a b n))):=⟨fun t l c a b n hl=>by
 by_cases h:NbOk t l c n
 ·obtain ⟨h1,h2,h3,h4,h5,h6⟩:=id h
  have htk:(t.take n.toNat).length=n.toNat:=by simp;omega
  have s0:=in_take h4 n.toNat
  have s1:=sum_bd255 s0
  have s2:=sum_bd255 h5
  rw [htk] at s1
  cases a<;>cases b
  all_goals refine FnC.of_body tabOk Tryz.func184 Tryz.ntmps184 rfl (by decide +kernel) (by simp) fun G=>?_
  ·refine go (r:=?_);and_intros<;>intros<;>try exact True.intro
   all_goals first|(exact absurd h ‹¬ NbOk t l c n›)|(unfold meanL;rw [if_pos h];done)|(unfold meanL;rw [if_pos h];rfl)
  ·refine go (r:=?_);and_intros<;>intros<;>try exact True.intro
   all_goals first|(exact absurd h ‹¬ NbOk t l c n›)|(unfold meanL;rw [if_pos h];done)|(unfold meanL;rw [if_pos h];rfl)
  ·refine go (r:=?_);and_intros<;>intros<;>try exact True.intro
   all_goals first|(exact absurd h ‹¬ NbOk t l c n›)|(unfold meanL;rw [if_pos h];done)|(unfold meanL;rw [if_pos h];rfl)
  ·refine go (r:=?_);and_intros<;>intros<;>try exact True.intro
   all_goals first|(exact absurd h ‹¬ NbOk t l c n›)|(unfold meanL;rw [if_pos h];done)|(unfold meanL;rw [if_pos h];rfl)
 ·refine FnC.of_body tabOk Tryz.func184 Tryz.ntmps184 rfl (by decide +kernel) (by simp) fun G=>?_
  refine go (r:=?_);and_intros<;>intros<;>try exact True.intro
  all_goals first|(exact absurd ‹NbOk t l c n› h)|skip
  all_goals (unfold meanL;rw [if_neg h])⟩
instance Mean_c:Con 242 (∀ (t l:List Int) (c:Int) (a b:Bool) (n:Int),t.length≤1099511627776∧l.length≤1099511627776→Fn 242 [NbA t l c a b,I n] [] (I (meanL t l c a b n))):=⟨fun t l c a b n hl=>by
 by_cases h:NbOk t l c n
 ·obtain ⟨h1,h2,h3,h4,h5,h6⟩:=id h
  have htk:(t.take n.toNat).length=n.toNat:=by simp;omega
  have s0:=in_take h4 n.toNat
  have s1:=sum_bd255 s0
  have s2:=sum_bd255 h5
  rw [htk] at s1
  cases a<;>cases b
  ·refine FnC.of_body tabOk Tryz.func242 Tryz.ntmps242 rfl (by decide +kernel) (by simp) fun G=>?_
   refine go (r:=?_);and_intros<;>intros<;>try exact True.intro
   all_goals first|(exact absurd h ‹¬ NbOk t l c n›)|skip
   unfold meanL;rw [if_pos h]
  ·refine FnC.of_body tabOk Tryz.func242 Tryz.ntmps242 rfl (by decide +kernel) (by simp) fun G=>?_
   refine go (r:=?_);and_intros<;>intros<;>try exact True.intro
   all_goals first|(exact absurd h ‹¬ NbOk t l c n›)|skip
   refine WpA.loop (fun k:Nat=>⟨[(1,I n),(5,I (psum l k)),(6,I 0),(36,IL l),(37,I l.length),(38,I k)],[NbO t l c false true]⟩) (fun k=>k≤l.length) (fun k=>l.length-k) 0 (by omega) (go (r:=?_)) (fun k hk=>?_)
   ·simp [psum_zero]
   have hb:=psum_bd h5 k hk
   have hg:=fun h=>in_get h5 (k:=k) h
   have hs:=fun h=>psum_succ l k h
   refine go (r:=?_);and_intros<;>intros<;>try exact True.intro
   all_goals have e:k=l.length:=by omega
   all_goals subst e
   all_goals rw [psum_all]
   unfold meanL;rw [if_pos h];rcases h1 with rfl|rfl<;>simp<;>omega
  ·refine FnC.of_body tabOk Tryz.func242 Tryz.ntmps242 rfl (by decide +kernel) (by simp) fun G=>?_
   refine go (r:=?_);and_intros<;>intros<;>try exact True.intro
   all_goals first|(exact absurd h ‹¬ NbOk t l c n›)|skip
   refine WpA.loop (fun k:Nat=>⟨[(1,I n),(2,.ptr 0 0 0),(5,I (psum (t.take n.toNat) k)),(6,I 0),(20,IL (t.take n.toNat)),(21,I (t.take n.toNat).length),(22,I k)],[NbO t l c true false]⟩) (fun k=>k≤(t.take n.toNat).length) (fun k=>(t.take n.toNat).length-k) 0 (by omega) (go (r:=?_)) (fun k hk=>?_)
   ·simp [psum_zero]
   have hb:=psum_bd s0 k hk
   have hg:=fun h=>in_get s0 (k:=k) h
   have hs:=fun h=>psum_succ (t.take n.toNat) k h
   refine go (r:=?_);and_intros<;>intros<;>try exact True.intro
   all_goals have e:k=(t.take n.toNat).length:=by omega
   all_goals subst e
   all_goals rw [psum_all]
   unfold meanL;rw [if_pos h];rcases h1 with rfl|rfl<;>simp<;>omega
  ·refine FnC.of_body tabOk Tryz.func242 Tryz.ntmps242 rfl (by decide +kernel) (by simp) fun G=>?_
   refine go (r:=?_);and_intros<;>intros<;>try exact True.intro
   all_goals first|(exact absurd h ‹¬ NbOk t l c n›)|skip
   refine WpA.loop (fun k:Nat=>⟨[(1,I n),(2,.ptr 0 0 0),(5,I (psum (t.take n.toNat) k)),(6,I 0),(20,IL (t.take n.toNat)),(21,I (t.take n.toNat).length),(22,I k)],[NbO t l c true true]⟩) (fun k=>k≤(t.take n.toNat).length) (fun k=>(t.take n.toNat).length-k) 0 (by omega) (go (r:=?_)) (fun k hk=>?_)
   ·simp [psum_zero]
   have hb:=psum_bd s0 k hk
   have hg:=fun h=>in_get s0 (k:=k) h
   have hs:=fun h=>psum_succ (t.take n.toNat) k h
   refine go (r:=?_);and_intros<;>intros<;>try exact True.intro
   have e:k=(t.take n.toNat).length:=by omega
   subst e
   refine WpA.loop (fun k:Nat=>⟨[(1,I n),(5,I ((t.take n.toNat).sum+psum l k)),(6,I n),(36,IL l),(37,I l.length),(38,I k)],[NbO t l c true true]⟩) (fun k=>k≤l.length) (fun k=>l.length-k) 0 (by omega) (go (r:=?_)) (fun k hk=>?_)
   ·refine ⟨?_,trivial⟩;rw [psum_all,psum_zero];omega
   have hb:=psum_bd h5 k hk
   have hg:=fun h=>in_get h5 (k:=k) h
   have hs:=fun h=>psum_succ l k h
   refine go (r:=?_);and_intros<;>intros<;>try exact True.intro
   all_goals have e:k=l.length:=by omega
   all_goals subst e
   all_goals rw [psum_all]
   unfold meanL;rw [if_pos h];rcases h1 with rfl|rfl<;>simp<;>omega
 ·refine FnC.of_body tabOk Tryz.func242 Tryz.ntmps242 rfl (by decide +kernel) (by simp) fun G=>?_
  refine go (r:=?_);and_intros<;>intros<;>try exact True.intro
  all_goals first|(exact absurd ‹NbOk t l c n› h)|skip
  all_goals (unfold meanL;rw [if_neg h])⟩
end Go.Proofs.YtainhhfnnclfiaaGreat


namespace Go.Proofs.YtainhhfnnclfiaaGreat
open Go Go.Abs
attribute [local irreducible] WpA WpL Rnd Blk Abs.Seq Abs.Fin Abs.FinG FnC FnG Only
theorem in_append {l m:List Int} {lo hi:Int} (h1:In l lo hi) (h2:In m lo hi):In (l++m) lo hi:=by
 unfold In at *;intro v hv
 rcases List.mem_append.1 hv with h|h
 ·exact h1 v h
 ·exact h2 v h
theorem in_one {v lo hi:Int} (h:lo≤v∧v≤hi):In [v] lo hi:=by unfold In;intro x hx;have:x=v:=by simpa using hx
                                                            subst this;exact h
theorem in_rev {l:List Int} {lo hi:Int} (h:In l lo hi):In l.reverse lo hi:=by unfold In at *;intro v hv;exact h v (by simpa using hv)
theorem bord_in {t l:List Int} {c n:Int} (h:NbOk t l c n):In (bordL t l c n) 0 255:=by
 rw [bordL,if_pos h]
 obtain ⟨h1,h2,h3,h4,h5,h6⟩:=h
 exact in_append (in_append (in_rev h5) (in_one h6)) (in_take h4 _)
instance l15Clip_s:Con 185 (∀ v:Int,Fn 185 [I v] [] (I (max 0 (min 255 v)))):=⟨fun v=>by
 refine FnC.of_body tabOk Tryz.func185 Tryz.ntmps185 rfl (by decide +kernel) (by simp) fun G=>?_
 exact go (r:=trivial)⟩
def soft (a b c:Int):Int:=(a+2*b+c+2)/4
instance l15Soft_s:Con 186 (∀ a b c:Int,(0≤a∧a≤255)∧(0≤b∧b≤255)∧0≤c∧c≤255→Fn 186 [I a,I b,I c] [] (I (soft a b c))):=⟨fun a b c h=>by
 refine FnC.of_body tabOk Tryz.func186 Tryz.ntmps186 rfl (by decide +kernel) (by simp) fun G=>?_
 refine go (r:=?_);and_intros<;>intros<;>try exact True.intro
 all_goals rfl⟩
instance smoothed_c:Con 243 (∀ a b c:Int,(0≤a∧a≤255)∧(0≤b∧b≤255)∧0≤c∧c≤255→Fn 243 [I a,I b,I c] [] (I (soft a b c))):=⟨fun a b c h=>by
 refine FnC.of_body tabOk Tryz.func243 Tryz.ntmps243 rfl (by decide +kernel) (by simp) fun G=>?_
 refine go (r:=?_);and_intros<;>intros<;>try exact True.intro
 all_goals rfl⟩
theorem soft_in {a b c:Int} (h:(0≤a∧a≤255)∧(0≤b∧b≤255)∧0≤c∧c≤255):0≤soft a b c∧soft a b c≤255:=by unfold soft;omega
def predL (m:Int) (t l:List Int) (c:Int) (a b:Bool) (n x y:Int):Int:=if NbOk t l c n∧(0≤x∧x≤n-1)∧0≤y∧y≤n-1 then
 (if m=0 then meanL t l c a b n else if m=1 then t.getD x.toNat 0 else if m=2 then l.getD y.toNat 0 else if m=3 then max 0 (min 255 (l.getD y.toNat 0+t.getD x.toNat 0-c))
  else if m=4 then soft (t.getD (x+y).toNat 0) (t.getD (min (2*n-1) (x+y+1)).toNat 0) (t.getD (min (2*n-1) (x+y+2)).toNat 0)
  else if m=5 then soft ((bordL t l c n).getD (x-y+n-1).toNat 0) ((bordL t l c n).getD (x-y+n).toNat 0) ((bordL t l c n).getD (x-y+n+1).toNat 0) else -1) else -1
theorem predL_no {m:Int} {t l:List Int} {c:Int} {a b:Bool} {n x y:Int} (h:¬(NbOk t l c n∧(0≤x∧x≤n-1)∧0≤y∧y≤n-1)):-1=predL m t l c a b n x y:=by unfold predL;rw [if_neg h]
instance PredAt_s:Con 120 (∀ (m:Int) (t l:List Int) (c:Int) (a b:Bool) (n x y:Int),t.length≤1099511627776∧l.length≤1099511627776∧-9223372036854775807≤n→Fn 120 [I m,NbA t l c a b,I n,I x,I y] [] (I (predL m t l c a b n x y))):=⟨fun m t l c a b n x y hl=>by
 by_cases h:NbOk t l c n∧(0≤x∧x≤n-1)∧0≤y∧y≤n-1
 ·obtain ⟨h0,hx,hy⟩:=id h
  obtain ⟨h1,h2,h3,h4,h5,h6⟩:=id h0
  have hbl:=bord_len h0
  have hbi:=bord_in h0
  have g1:=in_get h4 (k:=x.toNat) (by omega)
  have g2:=in_get h5 (k:=y.toNat) (by omega)
  have g3:=in_get h4 (k:=(x+y).toNat) (by omega)
  have g4:=in_get h4 (k:=(min (2*n-1) (x+y+1)).toNat) (by omega)
  have g5:=in_get h4 (k:=(min (2*n-1) (x+y+2)).toNat) (by omega)
  have g6:=in_get hbi (k:=(x-y+n-1).toNat) (by omega)
  have g7:=in_get hbi (k:=(x-y+n).toNat) (by omega)
  have g8:=in_get hbi (k:=(x-y+n+1).toNat) (by omega)
  refine FnC.of_body tabOk Tryz.func120 Tryz.ntmps120 rfl (by decide +kernel) (by simp) fun G=>?_
  refine go (r:=?_);and_intros<;>intros<;>try exact True.intro
  all_goals first|(exact absurd h0 ‹¬ NbOk t l c n›)|(exact absurd hx (by assumption))|(exact absurd hy (by assumption))|skip
  all_goals (unfold predL;rw [if_pos h];first|(subst_vars;rfl)|(simp_all;done))
 ·by_cases h0:NbOk t l c n
  ·by_cases hx:0≤x∧x≤n-1
   ·have hy:¬(0≤y∧y≤n-1):=fun hh=>h ⟨h0,hx,hh⟩
    refine FnC.of_body tabOk Tryz.func120 Tryz.ntmps120 rfl (by decide +kernel) (by simp) fun G=>?_
    refine go (r:=?_);and_intros<;>intros<;>try exact True.intro
    all_goals exact predL_no h
   ·refine FnC.of_body tabOk Tryz.func120 Tryz.ntmps120 rfl (by decide +kernel) (by simp) fun G=>?_
    refine go (r:=?_);and_intros<;>intros<;>try exact True.intro
    all_goals exact predL_no h
  ·refine FnC.of_body tabOk Tryz.func120 Tryz.ntmps120 rfl (by decide +kernel) (by simp) fun G=>?_
   refine go (r:=?_);and_intros<;>intros<;>try exact True.intro
   all_goals exact predL_no h⟩
instance PredAt_c:Con 178 (∀ (m:Int) (t l:List Int) (c:Int) (a b:Bool) (n x y:Int),t.length≤1099511627776∧l.length≤1099511627776∧-9223372036854775807≤n→Fn 178 [I m,NbA t l c a b,I n,I x,I y] [] (I (predL m t l c a b n x y))):=⟨fun m t l c a b n x y hl=>by
 by_cases h:NbOk t l c n∧(0≤x∧x≤n-1)∧0≤y∧y≤n-1
 ·obtain ⟨h0,hx,hy⟩:=id h
  obtain ⟨h1,h2,h3,h4,h5,h6⟩:=id h0
  have hbl:=bord_len h0
  have hbi:=bord_in h0
  have g1:=in_get h4 (k:=x.toNat) (by omega)
  have g2:=in_get h5 (k:=y.toNat) (by omega)
  have g3:=in_get h4 (k:=(x+y).toNat) (by omega)
  have g4:=in_get h4 (k:=(min (x+y+1) (2*n-1)).toNat) (by omega)
  have g5:=in_get h4 (k:=(min (x+y+2) (2*n-1)).toNat) (by omega)
  have g6:=in_get hbi (k:=(x-y+n-1).toNat) (by omega)
  have g7:=in_get hbi (k:=(x-y+n).toNat) (by omega)
  have g8:=in_get hbi (k:=(x-y+n+1).toNat) (by omega)
  refine FnC.of_body tabOk Tryz.func178 Tryz.ntmps178 rfl (by decide +kernel) (by simp) fun G=>?_
  refine go (r:=?_);and_intros<;>intros<;>try exact True.intro
  all_goals (unfold predL;rw [if_pos h];first|(subst_vars;rfl)|(simp_all [Int.min_comm];done))
 ·by_cases h0:NbOk t l c n
  ·by_cases hx:0≤x∧x≤n-1
   ·have hy:¬(0≤y∧y≤n-1):=fun hh=>h ⟨h0,hx,hh⟩
    refine FnC.of_body tabOk Tryz.func178 Tryz.ntmps178 rfl (by decide +kernel) (by simp) fun G=>?_
    refine go (r:=?_);and_intros<;>intros<;>try exact True.intro
    all_goals exact predL_no h
   ·refine FnC.of_body tabOk Tryz.func178 Tryz.ntmps178 rfl (by decide +kernel) (by simp) fun G=>?_
    refine go (r:=?_);and_intros<;>intros<;>try exact True.intro
    all_goals exact predL_no h
  ·refine FnC.of_body tabOk Tryz.func178 Tryz.ntmps178 rfl (by decide +kernel) (by simp) fun G=>?_
   refine go (r:=?_);and_intros<;>intros<;>try exact True.intro
   all_goals exact predL_no h⟩
end Go.Proofs.YtainhhfnnclfiaaGreat


namespace Go.Proofs.YtainhhfnnclfiaaGreat
open Go Go.Abs
abbrev PF (m:Int) (t l:List Int) (c:Int) (a b:Bool) (n:Nat) (i:Nat):Int:=predL m t l c a b n ((i%n:Nat):Int) ((i/n:Nat):Int)
def prK (m:Int) (t l:List Int) (c:Int) (a b:Bool) (n k:Nat):List Int:=(List.range k).map (PF m t l c a b n)
theorem prK_len (m:Int) (t l:List Int) (c:Int) (a b:Bool) (n k:Nat):(prK m t l c a b n k).length=k:=by simp [prK]
theorem prK_snoc (m:Int) (t l:List Int) (c:Int) (a b:Bool) (n k:Nat):prK m t l c a b n (k+1)=prK m t l c a b n k++[PF m t l c a b n k]:=by simp [prK,List.range_succ]
def predS (m:Int) (t l:List Int) (c:Int) (a b:Bool) (n:Int):List Int:=if NbOk t l c n∧0≤m∧m≤5 then prK m t l c a b n.toNat (n.toNat*n.toNat) else []
theorem mod_div_in {n i:Nat} (h:i<n*n):i%n<n∧i/n<n:=by
 have hn:0<n:=by rcases Nat.eq_zero_or_pos n with rfl|h0
                 ·simp at h
                 ·exact h0
 exact ⟨Nat.mod_lt _ hn,Nat.div_lt_of_lt_mul h⟩
theorem pred_in {m:Int} {t l:List Int} {c:Int} (a b:Bool) {n x y:Int} (h:NbOk t l c n) (hm:0≤m∧m≤5) (hx:0≤x∧x≤n-1) (hy:0≤y∧y≤n-1):0≤predL m t l c a b n x y∧predL m t l c a b n x y≤255:=by
 unfold predL
 rw [if_pos ⟨h,hx,hy⟩]
 have hme:=mean_in a b h
 have hbl:=bord_len h
 have hbi:=bord_in h
 obtain ⟨h1,h2,h3,h4,h5,h6⟩:=h
 have g1:=in_get h4 (k:=x.toNat) (by omega)
 have g2:=in_get h5 (k:=y.toNat) (by omega)
 have g3:=in_get h4 (k:=(x+y).toNat) (by omega)
 have g4:=in_get h4 (k:=(min (2*n-1) (x+y+1)).toNat) (by omega)
 have g5:=in_get h4 (k:=(min (2*n-1) (x+y+2)).toNat) (by omega)
 have g6:=in_get hbi (k:=(x-y+n-1).toNat) (by omega)
 have g7:=in_get hbi (k:=(x-y+n).toNat) (by omega)
 have g8:=in_get hbi (k:=(x-y+n+1).toNat) (by omega)
 have s1:=soft_in ⟨g3,g4,g5⟩
 have s2:=soft_in ⟨g6,g7,g8⟩
 repeat' split
 all_goals omega
theorem predS_len (m:Int) (t l:List Int) (c:Int) (a b:Bool) (n:Int):(predS m t l c a b n).length=if NbOk t l c n∧0≤m∧m≤5 then n.toNat*n.toNat else 0:=by
 unfold predS;split
 ·rw [prK_len]
 ·rfl
theorem predS_in (m:Int) (t l:List Int) (c:Int) (a b:Bool) (n:Int):In (predS m t l c a b n) 0 255:=by
 unfold predS;split
 ·rename_i h
  have h1:=h.1.1
  unfold In prK
  intro v hv
  obtain ⟨i,hi,rfl⟩:=List.mem_map.1 hv
  have hi:=List.mem_range.1 hi
  have hmd:=mod_div_in hi
  have e:((n.toNat:Nat):Int)=n:=by omega
  have hx1:((i%n.toNat:Nat):Int)≤n-1:=by have:=Int.ofNat_lt.2 hmd.1;rw [e] at this;exact Int.le_sub_one_of_lt this
  have hy1:((i/n.toNat:Nat):Int)≤n-1:=by have:=Int.ofNat_lt.2 hmd.2;rw [e] at this;exact Int.le_sub_one_of_lt this
  have:=pred_in a b (x:=((i%n.toNat:Nat):Int)) (y:=((i/n.toNat:Nat):Int)) h.1 h.2 ⟨Int.natCast_nonneg _,hx1⟩ ⟨Int.natCast_nonneg _,hy1⟩
  unfold PF;rw [e];exact this
 ·unfold In;intro v hv;cases hv
def rsK (f p:List Int) (k:Nat):List Int:=(List.range k).map fun i=>f.getD i 0-p.getD i 0
theorem rsK_len (f p:List Int) (k:Nat):(rsK f p k).length=k:=by simp [rsK]
theorem rsK_snoc (f p:List Int) (k:Nat):rsK f p (k+1)=rsK f p k++[f.getD k 0-p.getD k 0]:=by simp [rsK,List.range_succ]
def ResOk (f p:List Int):Prop:=(f.length=16∨f.length=64)∧p.length=f.length∧In f 0 255∧In p 0 255
instance (f p:List Int):Decidable (ResOk f p):=by unfold ResOk;infer_instance
def resS (f p:List Int):List Int:=if ResOk f p then rsK f p f.length else []
theorem resS_len (f p:List Int):(resS f p).length=if ResOk f p then f.length else 0:=by
 unfold resS;split
 ·rw [rsK_len]
 ·rfl
theorem resS_small (f p:List Int):(resS f p).length≤64:=by
 rw [resS_len];split
 ·rename_i h;have:=h.1;omega
 ·omega
def bmS (l t le:List Int) (c:Int) (a b:Bool) (n:Int) (lens:List Int):Nat→Int×Int
 |0=>(-1,0)
 |m+1=>if HasC lens m then
   (if (bmS l t le c a b n lens m).1<0∨costs (resS l (predS m t le c a b n))<(bmS l t le c a b n lens m).2 then ((m:Int),costs (resS l (predS m t le c a b n))) else bmS l t le c a b n lens m)
  else bmS l t le c a b n lens m
def BmOk (l t le:List Int) (c n:Int):Prop:=NbOk t le c n∧(l.length:Int)=n*n∧In l 0 255
instance (l t le:List Int) (c n:Int):Decidable (BmOk l t le c n):=by unfold BmOk;infer_instance
def bestM (l t le:List Int) (c:Int) (a b:Bool) (n:Int) (lens:List Int):Int:=if BmOk l t le c n then (bmS l t le c a b n lens 6).1 else -1
theorem bm_bd (l t le:List Int) (c:Int) (a b:Bool) (n:Int) (lens:List Int):∀m:Nat,-1≤(bmS l t le c a b n lens m).1∧(bmS l t le c a b n lens m).1<m∧0≤(bmS l t le c a b n lens m).2∧(bmS l t le c a b n lens m).2≤64000000
 |0=>by simp [bmS]
 |m+1=>by
  have h:=bm_bd l t le c a b n lens m
  have hc:=costs_bd (resS l (predS m t le c a b n))
  have hl:=resS_small l (predS m t le c a b n)
  rw [bmS]
  split
  ·split
   ·simp only;omega
   ·omega
  ·omega
end Go.Proofs.YtainhhfnnclfiaaGreat


namespace Go.Proofs.YtainhhfnnclfiaaGreat
open Go Go.Abs
theorem tab_in {f:Nat→Int} {lo hi:Int} {N:Nat} (h:∀i,i<N→lo≤f i∧f i≤hi):In (tabL f N) lo hi:=by
 unfold In tabL
 intro v hv
 obtain ⟨i,hi,rfl⟩:=List.mem_map.1 hv
 exact h i (by simpa using hi)
abbrev Fits (W H:Int) (p:List Int) (x y n:Int):Prop:=FrameOk W H p∧(n=4∨n=8)∧(0≤x∧x≤W-n)∧(0≤y∧y≤H-n)∧x%n=0∧y%n=0
theorem ix_in {W H:Int} {p:List Int} (h:FrameOk W H p) {a b:Int} (ha:0≤a∧a≤H-1) (hb:0≤b∧b≤W-1):0≤a*W∧a*W+b<p.length∧a*W≤1024:=by
 obtain ⟨⟨h1,h2,h3,h4,_⟩,h5,_⟩:=h
 have e1:0≤a*W:=Int.mul_nonneg ha.1 (by omega)
 have e2:a*W≤(H-1)*W:=Int.mul_le_mul_of_nonneg_right ha.2 (by omega)
 have e3:(H-1)*W=W*H-W:=by rw [Int.sub_mul,Int.one_mul,Int.mul_comm]
 have e4:W*H≤32*32:=Int.mul_le_mul h2 h4 (by omega) (by omega)
 omega
abbrev pxI (W x y n:Int) (i:Nat):Int:=(y+(i:Int)/n)*W+x+(i:Int)%n
theorem px_in {W H:Int} {p:List Int} {x y n:Int} (h:Fits W H p x y n) {i:Nat} (hi:(i:Int)<n*n):(0≤(i:Int)/n∧(i:Int)/n≤n-1∧0≤(i:Int)%n∧(i:Int)%n≤n-1)∧0≤(y+(i:Int)/n)*W∧(y+(i:Int)/n)*W≤1024∧0≤pxI W x y n i∧pxI W x y n i<p.length:=by
 obtain ⟨h0,h1,hx,hy,_⟩:=h
 have e:0≤(i:Int)/n∧(i:Int)/n≤n-1∧0≤(i:Int)%n∧(i:Int)%n≤n-1:=by rcases h1 with rfl|rfl<;>omega
 have:=ix_in h0 (a:=y+(i:Int)/n) (b:=x+(i:Int)%n) (by omega) (by omega)
 unfold pxI
 omega
def blkV (W:Int) (p:List Int) (x y n:Int) (i:Nat):Int:=p.getD (pxI W x y n i).toNat 0
def blkL (W H:Int) (p:List Int) (x y n:Int):List Int:=if Fits W H p x y n then tabL (blkV W p x y n) (n*n).toNat else []
theorem blkL_le (W H:Int) (p:List Int) (x y n:Int):(blkL W H p x y n).length≤64:=by
 unfold blkL;split
 ·rename_i h
  rw [tabL_len]
  rcases h.2.1 with rfl|rfl<;>decide
 ·simp
def setK (W x y n:Int) (l p:List Int):Nat→List Int
 |0=>p
 |k+1=>(setK W x y n l p k).set (pxI W x y n k).toNat (l.getD k 0)
theorem setK_len (W x y n:Int) (l p:List Int):∀k,(setK W x y n l p k).length=p.length
 |0=>rfl
 |k+1=>by rw [setK,List.length_set];exact setK_len W x y n l p k
theorem setK_in {W x y n:Int} {l p:List Int} (hl:In l 0 255) (hp:In p 0 255):∀k,In (setK W x y n l p k) 0 255
 |0=>hp
 |k+1=>in_setV (setK_in hl hp k) (in_getZ255 hl k) _
abbrev SetOk (W H:Int) (p:List Int) (x y:Int) (l:List Int):Prop:=Fits W H p x y (side l.length)∧In l 0 255
def setL (W H:Int) (p:List Int) (x y:Int) (l:List Int):List Int:=if SetOk W H p x y l then setK W x y (side l.length) l p l.length else p
theorem setL_len (W H:Int) (p:List Int) (x y:Int) (l:List Int):(setL W H p x y l).length=p.length:=by
 unfold setL;split
 ·exact setK_len ..
 ·rfl
theorem setL_ok {W H:Int} {p:List Int} {x y:Int} {l:List Int} (h:FrameOk W H p):FrameOk W H (setL W H p x y l):=by
 refine ⟨h.1,by rw [setL_len];exact h.2.1,?_⟩
 unfold setL;split
 ·rename_i hs;exact setK_in hs.2 h.2.2 _
 ·exact h.2.2
def topF (W:Int) (p:List Int) (x y n:Int):Nat→Int
 |0=>if y=0 then 128 else p.getD ((y-1)*W+x+(0:Nat)).toNat 0
 |i+1=>if y=0 then 128 else if ((i+1:Nat):Int)<n∨(y%8=0∧x+(i+1:Nat)<W) then p.getD ((y-1)*W+x+(i+1:Nat)).toNat 0 else topF W p x y n i
def lefF (W:Int) (p:List Int) (x y:Int) (i:Nat):Int:=if 0<x then p.getD ((y+(i:Int))*W+x-1).toNat 0 else 128
def topL (W H:Int) (p:List Int) (x y n:Int):List Int:=if Fits W H p x y n then tabL (topF W p x y n) (2*n).toNat else []
def lefL (W H:Int) (p:List Int) (x y n:Int):List Int:=if Fits W H p x y n then tabL (lefF W p x y) n.toNat else []
def corL (W H:Int) (p:List Int) (x y n:Int):Int:=if Fits W H p x y n then (if 0<x∧0<y then p.getD ((y-1)*W+x-1).toNat 0 else 128) else 0
def hasT (W H:Int) (p:List Int) (x y n:Int):Bool:=decide (Fits W H p x y n∧0<y)
def hasE (W H:Int) (p:List Int) (x y n:Int):Bool:=decide (Fits W H p x y n∧0<x)
theorem topF_in {W:Int} {p:List Int} (hp:In p 0 255) (x y n:Int):∀i,0≤topF W p x y n i∧topF W p x y n i≤255
 |0=>by
  rw [topF];split
  ·omega
  ·exact in_getZ255 hp _
 |i+1=>by
  rw [topF];split
  ·omega
  ·split
   ·exact in_getZ255 hp _
   ·exact topF_in hp x y n i
theorem lefF_in {W:Int} {p:List Int} (hp:In p 0 255) (x y:Int) (i:Nat):0≤lefF W p x y i∧lefF W p x y i≤255:=by
 unfold lefF;split
 ·exact in_getZ255 hp _
 ·omega
theorem nb_le (W H:Int) (p:List Int) (x y n:Int):(topL W H p x y n).length≤16∧(lefL W H p x y n).length≤8:=by
 unfold topL lefL
 split
 ·rename_i h
  rw [tabL_len,tabL_len]
  rcases h.2.1 with rfl|rfl<;>decide
 ·simp
theorem nb_ok {W H:Int} {p:List Int} {x y n:Int} (h:Fits W H p x y n):NbOk (topL W H p x y n) (lefL W H p x y n) (corL W H p x y n) n:=by
 have hp:=h.1.2.2
 unfold topL lefL corL
 rw [if_pos h,if_pos h,if_pos h]
 refine ⟨h.2.1,by rw [tabL_len];rcases h.2.1 with rfl|rfl<;>decide,by rw [tabL_len];rcases h.2.1 with rfl|rfl<;>decide,tab_in fun i _=>topF_in hp x y n i,tab_in fun i _=>lefF_in hp x y i,?_⟩
 split
 ·exact in_getZ255 hp _
 ·omega
abbrev TwoOk (p r:List Int):Prop:=0<side p.length∧p.length=r.length∧In p 0 255
def recF (p r:List Int) (i:Nat):Int:=max 0 (min 255 (p.getD i 0+max (-1000000) (min 1000000 (r.getD i 0))))
def recL (p r:List Int):List Int:=if TwoOk p r then tabL (recF p r) p.length else []
theorem recL_in (p r:List Int):In (recL p r) 0 255:=by
 unfold recL;split
 ·exact tab_in fun i _=>by unfold recF;omega
 ·exact in_nil 0 255
theorem recL_len (p r:List Int):(recL p r).length=if TwoOk p r then p.length else 0:=by
 unfold recL;split
 ·exact tabL_len ..
 ·rfl
abbrev PutOk (W H:Int) (p:List Int) (q x y m:Int) (lv:List Int):Prop:=Fits W H p x y (side lv.length)∧(LvOk lv∧0<stepL q)∧0≤m∧m≤5
def nbP (W H:Int) (p:List Int) (x y n m:Int):List Int:=predS m (topL W H p x y n) (lefL W H p x y n) (corL W H p x y n) (hasT W H p x y n) (hasE W H p x y n) n
def putL (W H:Int) (p:List Int) (q:Int) (b:Bool) (x y m:Int) (lv:List Int):List Int:=if PutOk W H p q x y m lv then setL W H p x y (recL (nbP W H p x y (side lv.length) m) (resL b q lv)) else p
theorem putL_len (W H:Int) (p:List Int) (q:Int) (b:Bool) (x y m:Int) (lv:List Int):(putL W H p q b x y m lv).length=p.length:=by
 unfold putL;split
 ·exact setL_len ..
 ·rfl
theorem putL_ok {W H:Int} {p:List Int} {q:Int} {b:Bool} {x y m:Int} {lv:List Int} (h:FrameOk W H p):FrameOk W H (putL W H p q b x y m lv):=by
 unfold putL;split
 ·exact setL_ok h
 ·exact h
theorem resL_len {b:Bool} {q:Int} {l:List Int} (h:LvOk l∧0<stepL q):(resL b q l).length=l.length:=by
 have h1:=plcL_len2 h.1.2
 unfold resL
 rw [if_pos h]
 split
 ·exact h1
 ·have hs:scaL (plcL l) q=tabL (scaF (plcL l) q) (plcL l).length:=by unfold scaL;rw [if_pos ⟨plcL_ok h.1,h.2⟩]
  have hl:(scaL (plcL l) q).length=l.length:=by rw [hs,tabL_len,h1]
  have hsq:(side l.length).toNat*(side l.length).toNat=l.length:=by
   rcases h.1.2 with e|e
   ·have e4:side l.length=4:=by rw [e];rfl
    rw [e4,e];rfl
   ·have e8:side l.length=8:=by rw [e];rfl
    rw [e8,e];rfl
  have ht:(trL (side l.length) true (scaL (plcL l) q)).length=l.length:=by
   unfold trL
   rw [prodL_len,if_pos ⟨by rw [hl,hsq],scaL_fit _ _⟩,hsq]
  unfold rndL
  rw [if_pos (by rw [ht];exact (side_pos _).2 h.1.2),List.length_map,ht]
theorem put_two {W H:Int} {p:List Int} {q x y m:Int} {b:Bool} {lv:List Int} (h:PutOk W H p q x y m lv):TwoOk (nbP W H p x y (side lv.length) m) (resL b q lv)∧(nbP W H p x y (side lv.length) m).length=lv.length:=by
 obtain ⟨h1,h2,h3⟩:=h
 have hn:=nb_ok h1
 have hl:(nbP W H p x y (side lv.length) m).length=lv.length:=by
  unfold nbP
  rw [predS_len,if_pos ⟨hn,h3⟩]
  rcases h2.1.2 with e|e<;>rw [e]<;>rfl
 refine ⟨⟨?_,?_,?_⟩,hl⟩
 ·rw [hl];exact (side_pos _).2 h2.1.2
 ·rw [hl,resL_len h2]
 ·exact predS_in _ _ _ _ _ _ _
theorem put_set {W H:Int} {p:List Int} {q x y m:Int} {b:Bool} {lv:List Int} (h:PutOk W H p q x y m lv):SetOk W H p x y (recL (nbP W H p x y (side lv.length) m) (resL b q lv)):=by
 have ht:=put_two (b:=b) h
 refine ⟨?_,recL_in _ _⟩
 rw [recL_len,if_pos ht.1,ht.2];exact h.1
end Go.Proofs.YtainhhfnnclfiaaGreat


namespace Go.Proofs.YtainhhfnnclfiaaGreat
open Go Go.Abs
attribute [local irreducible] WpA WpL Rnd Blk Abs.Seq Abs.Fin Abs.FinG FnC FnG Only
instance Pred_s:Con 50 (∀ (m:Int) (t l:List Int) (c:Int) (a b:Bool) (n:Int),t.length≤1099511627776∧l.length≤1099511627776∧-9223372036854775807≤n→Fn 50 [I m,NbA t l c a b,I n] [XI (predS m t l c a b n)] (.own 0 0 0 (predS m t l c a b n).length)):=⟨fun m t l c a b n hl=>by
 have hnw:=modeW_nil m
 by_cases h:NbOk t l c n∧0≤m∧m≤5
 ·obtain ⟨h0,hm⟩:=id h
  have h1:=h0.1
  have hnw2:¬modeW m=[]:=fun hh=>(hnw.1 hh) hm
  rcases h1 with rfl|rfl
  ·have e:predS m t l c a b 4=prK m t l c a b 4 16:=by rw [predS,if_pos h];rfl
   refine FnC.of_body tabOk Tryz.func50 Tryz.ntmps50 rfl (by decide +kernel) (by simp) fun G=>?_
   refine go (r:=?_);and_intros<;>intros<;>try exact True.intro
   refine WpA.loop (fun y:Nat=>⟨[(0,I m),(2,I 4),(4,.ptr 0 0 0),(7,.own 1 0 0 (y*4)),(8,I y)],[NbO t l c a b,XI (prK m t l c a b 4 (y*4))]⟩) (fun y=>y≤4) (fun y=>4-y) 0 (by omega) (go (r:=?_)) (fun y hy=>?_)
   ·simp [prK]
   refine go (r:=?_);and_intros<;>intros<;>try exact True.intro
   ·refine WpA.loop (fun x:Nat=>⟨[(0,I m),(2,I 4),(4,.ptr 0 0 0),(7,.own 1 0 0 (y*4+x)),(8,I y),(9,I x)],[NbO t l c a b,XI (prK m t l c a b 4 (y*4+x))]⟩) (fun x=>x≤4) (fun x=>4-x) 0 (by omega) (go (r:=?_)) (fun x hx=>?_)
    ·trivial
    have hkl:=prK_len m t l c a b 4 (y*4+x)
    have hpf:x<4→predL m t l c a b 4 x y=PF m t l c a b 4 (y*4+x):=by intro hh;unfold PF;congr 1<;>omega
    refine go (r:=?_);and_intros<;>intros<;>try exact True.intro
    ·rw [show y*4+(x+1)=(y*4+x)+1 by omega,prK_snoc,hpf (by omega)]
    all_goals have ex:x=4:=by omega
    all_goals subst ex
    all_goals first|omega|(congr 1;omega)
   all_goals have ey:y=4:=by omega
   all_goals subst ey
   all_goals rw [e]
   rw [prK_len]
  ·have e:predS m t l c a b 8=prK m t l c a b 8 64:=by rw [predS,if_pos h];rfl
   refine FnC.of_body tabOk Tryz.func50 Tryz.ntmps50 rfl (by decide +kernel) (by simp) fun G=>?_
   refine go (r:=?_);and_intros<;>intros<;>try exact True.intro
   refine WpA.loop (fun y:Nat=>⟨[(0,I m),(2,I 8),(4,.ptr 0 0 0),(7,.own 1 0 0 (y*8)),(8,I y)],[NbO t l c a b,XI (prK m t l c a b 8 (y*8))]⟩) (fun y=>y≤8) (fun y=>8-y) 0 (by omega) (go (r:=?_)) (fun y hy=>?_)
   ·simp [prK]
   refine go (r:=?_);and_intros<;>intros<;>try exact True.intro
   ·refine WpA.loop (fun x:Nat=>⟨[(0,I m),(2,I 8),(4,.ptr 0 0 0),(7,.own 1 0 0 (y*8+x)),(8,I y),(9,I x)],[NbO t l c a b,XI (prK m t l c a b 8 (y*8+x))]⟩) (fun x=>x≤8) (fun x=>8-x) 0 (by omega) (go (r:=?_)) (fun x hx=>?_)
    ·trivial
    have hkl:=prK_len m t l c a b 8 (y*8+x)
    have hpf:x<8→predL m t l c a b 8 x y=PF m t l c a b 8 (y*8+x):=by intro hh;unfold PF;congr 1<;>omega
    refine go (r:=?_);and_intros<;>intros<;>try exact True.intro
    ·rw [show y*8+(x+1)=(y*8+x)+1 by omega,prK_snoc,hpf (by omega)]
    all_goals have ex:x=8:=by omega
    all_goals subst ex
    all_goals first|omega|(congr 1;omega)
   all_goals have ey:y=8:=by omega
   all_goals subst ey
   all_goals rw [e]
   rw [prK_len]
 ·have e:predS m t l c a b n=[]:=by rw [predS,if_neg h]
  refine FnC.of_body tabOk Tryz.func50 Tryz.ntmps50 rfl (by decide +kernel) (by simp) fun G=>?_
  refine go (r:=?_);and_intros<;>intros<;>try exact True.intro
  refine WpA.loop (fun y:Nat=>⟨[(0,I m),(2,I n),(4,.ptr 0 0 0),(7,.own 1 0 0 0),(8,I 0)],[NbO t l c a b,XI []]⟩) (fun y=>y≤0) (fun y=>0) 0 (by omega) (go (r:=trivial)) (fun y hy=>?_)
  by_cases h0:NbOk t l c n
  ·have h3:modeW m=[]:=hnw.2 fun hm=>h ⟨h0,hm⟩
   refine go (r:=?_);and_intros<;>intros<;>try exact True.intro
   all_goals first|(rw [e];done)|(rw [e];rfl)
  ·refine go (r:=?_);and_intros<;>intros<;>try exact True.intro
   all_goals first|(rw [e];done)|(rw [e];rfl)⟩
instance Pred_c:Con 113 (∀ (m:Int) (t l:List Int) (c:Int) (a b:Bool) (n:Int),t.length≤1099511627776∧l.length≤1099511627776∧-9223372036854775807≤n→Fn 113 [I m,NbA t l c a b,I n] [XI (predS m t l c a b n)] (.own 0 0 0 (predS m t l c a b n).length)):=⟨fun m t l c a b n hl=>by
 by_cases h:NbOk t l c n∧0≤m∧m≤5
 ·obtain ⟨h0,hm⟩:=id h
  have h1:=h0.1
  rcases h1 with rfl|rfl
  ·have e:predS m t l c a b 4=prK m t l c a b 4 16:=by rw [predS,if_pos h];rfl
   refine FnC.of_body tabOk Tryz.func113 Tryz.ntmps113 rfl (by decide +kernel) (by simp) fun G=>?_
   refine go (r:=?_);and_intros<;>intros<;>try exact True.intro
   refine WpA.loop (fun k:Nat=>⟨[(0,I m),(2,I 4),(4,.ptr 0 0 0),(7,.own 1 0 0 k),(21,I 16),(22,I k)],[NbO t l c a b,XI (prK m t l c a b 4 k)]⟩) (fun k=>k≤16) (fun k=>16-k) 0 (by omega) (go (r:=?_)) (fun k hk=>?_)
   ·simp [prK]
   have hkl:=prK_len m t l c a b 4 k
   refine go (r:=?_);and_intros<;>intros<;>try exact True.intro
   ·rw [prK_snoc];rfl
   all_goals have ey:k=16:=by omega
   all_goals subst ey
   all_goals rw [e]
   rw [prK_len]
  ·have e:predS m t l c a b 8=prK m t l c a b 8 64:=by rw [predS,if_pos h];rfl
   refine FnC.of_body tabOk Tryz.func113 Tryz.ntmps113 rfl (by decide +kernel) (by simp) fun G=>?_
   refine go (r:=?_);and_intros<;>intros<;>try exact True.intro
   refine WpA.loop (fun k:Nat=>⟨[(0,I m),(2,I 8),(4,.ptr 0 0 0),(7,.own 1 0 0 k),(21,I 64),(22,I k)],[NbO t l c a b,XI (prK m t l c a b 8 k)]⟩) (fun k=>k≤64) (fun k=>64-k) 0 (by omega) (go (r:=?_)) (fun k hk=>?_)
   ·simp [prK]
   have hkl:=prK_len m t l c a b 8 k
   refine go (r:=?_);and_intros<;>intros<;>try exact True.intro
   ·rw [prK_snoc];rfl
   all_goals have ey:k=64:=by omega
   all_goals subst ey
   all_goals rw [e]
   rw [prK_len]
 ·have e:predS m t l c a b n=[]:=by rw [predS,if_neg h]
  refine FnC.of_body tabOk Tryz.func113 Tryz.ntmps113 rfl (by decide +kernel) (by simp) fun G=>?_
  refine go (r:=?_);and_intros<;>intros<;>try exact True.intro
  all_goals first|(exact absurd ⟨‹_›,‹_›⟩ h)|(rw [e];done)|(rw [e];rfl)⟩
instance l19Two_s:Con 118 (∀ p f:List Int,p.length≤1099511627776∧f.length≤1099511627776→Fn 118 [IL p,IL f] [] (B (decide (0<side p.length∧p.length=f.length∧In p 0 255)))):=⟨fun p f hl=>by
 refine FnC.of_body tabOk Tryz.func118 Tryz.ntmps118 rfl (by decide +kernel) (by simp) fun G=>?_
 refine go (r:=?_);and_intros<;>intros<;>try exact True.intro
 all_goals first|(rw [Bool.eq_iff_iff];simp_all;omega)|(simp_all;omega)|simp_all⟩
instance Residual_s:Con 49 (∀ f p:List Int,f.length≤1099511627776∧p.length≤1099511627776→Fn 49 [IL f,IL p] [XI (resS f p)] (.own 0 0 0 (resS f p).length)):=⟨fun f p hl=>by
 have hsp:=side_pos p.length
 by_cases h:ResOk f p
 ·obtain ⟨h1,h2,h3,h4⟩:=id h
  have h5:0<side p.length∧p.length=f.length∧In p 0 255:=⟨hsp.2 (by omega),h2,h4⟩
  refine FnC.of_body tabOk Tryz.func49 Tryz.ntmps49 rfl (by decide +kernel) (by simp) fun G=>?_
  refine go (r:=?_);and_intros<;>intros<;>try exact True.intro
  refine WpA.loop (fun k:Nat=>⟨[(0,IL f),(1,IL p),(5,.own 0 0 0 k),(6,I k)],[XI (rsK f p k)]⟩) (fun k=>k≤p.length) (fun k=>p.length-k) 0 (by omega) (go (r:=?_)) (fun k hk=>?_)
  ·simp [rsK]
  have hkl:=rsK_len f p k
  have g1:=fun hh=>in_get h3 (k:=k) hh
  have g2:=fun hh=>in_get h4 (k:=k) hh
  refine go (r:=?_);and_intros<;>intros<;>try exact True.intro
  ·rw [rsK_snoc]
  all_goals have e:k=f.length:=by omega
  all_goals subst e
  ·rw [resS_len,if_pos h]
  ·rw [resS,if_pos h]
 ·have e:resS f p=[]:=by rw [resS,if_neg h]
  have e2:resS f p=[]:=e
  have hno:∀(h5:0<side p.length∧p.length=f.length∧In p 0 255),¬In f 0 255:=fun h5 h6=>h ⟨by have:=hsp.1 h5.1;omega,h5.2.1,h6,h5.2.2⟩
  refine FnC.of_body tabOk Tryz.func49 Tryz.ntmps49 rfl (by decide +kernel) (by simp) fun G=>?_
  refine go (r:=?_);and_intros<;>intros<;>try exact True.intro
  refine WpA.loop (fun k:Nat=>⟨[(0,IL f),(1,IL p),(5,.own 0 0 0 0),(6,I 0)],[XI []]⟩) (fun k=>k≤0) (fun k=>0) 0 (by omega) (go (r:=trivial)) (fun k hk=>?_)
  by_cases h5:0<side p.length∧p.length=f.length∧In p 0 255
  ·have h6:=hno h5
   refine go (r:=?_);and_intros<;>intros<;>try exact True.intro
   all_goals first|(rw [e];done)|(rw [e];rfl)
  ·refine go (r:=?_);and_intros<;>intros<;>try exact True.intro
   all_goals first|(rw [e];done)|(rw [e];rfl)⟩
instance Residual_c:Con 112 (∀ f p:List Int,f.length≤1099511627776∧p.length≤1099511627776→Fn 112 [IL f,IL p] [XI (resS f p)] (.own 0 0 0 (resS f p).length)):=⟨fun f p hl=>by
 have hsd:=side_cases f.length
 by_cases h:ResOk f p
 ·obtain ⟨h1,h2,h3,h4⟩:=id h
  refine FnC.of_body tabOk Tryz.func112 Tryz.ntmps112 rfl (by decide +kernel) (by simp) fun G=>?_
  refine go (r:=?_);and_intros<;>intros<;>try exact True.intro
  refine WpA.loop (fun k:Nat=>⟨[(1,IL p),(5,.own 0 0 0 k),(30,IL f),(31,I f.length),(32,I k)],[XI (rsK f p k)]⟩) (fun k=>k≤f.length) (fun k=>f.length-k) 0 (by omega) (go (r:=?_)) (fun k hk=>?_)
  ·simp [rsK]
  have hkl:=rsK_len f p k
  have g1:=fun hh=>in_get h3 (k:=k) hh
  have g2:=fun hh=>in_get h4 (k:=k) hh
  refine go (r:=?_);and_intros<;>intros<;>try exact True.intro
  ·rw [rsK_snoc]
  all_goals have e:k=f.length:=by omega
  all_goals subst e
  ·rw [resS_len,if_pos h]
  ·rw [resS,if_pos h]
 ·have e:resS f p=[]:=by rw [resS,if_neg h]
  refine FnC.of_body tabOk Tryz.func112 Tryz.ntmps112 rfl (by decide +kernel) (by simp) fun G=>?_
  refine go (r:=?_);and_intros<;>intros<;>try exact True.intro
  all_goals first|(rw [e];done)|(rw [e];rfl)|(exact absurd ⟨by omega,by omega,‹_›,‹_›⟩ h)⟩
instance BestMode_s:Con 47 (∀ (l t le:List Int) (c:Int) (a b:Bool) (n:Int) (lens:List Int),l.length≤1099511627776∧t.length≤1099511627776∧le.length≤1099511627776∧lens.length≤1099511627776→Fn 47 [IL l,NbA t le c a b,I n,IL lens] [] (I (bestM l t le c a b n lens))):=⟨fun l t le c a b n lens hl=>by
 by_cases h:BmOk l t le c n
 ·obtain ⟨h0,h2,h3⟩:=id h
  have h1:=h0.1
  have hnn:0≤n*n∧n*n≤64:=by rcases h1 with rfl|rfl<;>decide
  have hl64:l.length≤64:=by omega
  refine FnC.of_body tabOk Tryz.func47 Tryz.ntmps47 rfl (by decide +kernel) (by simp) fun G=>?_
  refine go (r:=?_);and_intros<;>intros<;>try exact True.intro
  all_goals first|(exact absurd h0 ‹¬ NbOk t le c n›)|(exact absurd h3 ‹¬ In l 0 255›)|skip
  refine WpA.loop (fun m:Nat=>⟨[(0,IL l),(2,I n),(3,IL lens),(5,.ptr 0 0 0),(9,I (bmS l t le c a b n lens m).1),(10,I (bmS l t le c a b n lens m).2),(11,I m)],[NbO t le c a b]⟩) (fun m=>m≤6) (fun m=>6-m) 0 (by omega) (go (r:=?_)) (fun m hm=>?_)
  ·simp [bmS]
  have hb:=bm_bd l t le c a b n lens m
  have hb1:=bm_bd l t le c a b n lens (m+1)
  have hsl:=symL_pos lens m
  have hc:=costs_bd (resS l (predS m t le c a b n))
  have hrl:=resS_small l (predS m t le c a b n)
  have hpl:=predS_len m t le c a b n
  have hpl2:(predS m t le c a b n).length≤64:=by
   rw [hpl];split
   ·rcases h1 with rfl|rfl<;>decide
   ·omega
  have hst:=bmS.eq_2 l t le c a b n lens m
  by_cases hh:HasC lens m
  ·rw [if_pos hh] at hst
   have hsl2:=hsl.2 hh
   by_cases h5:(bmS l t le c a b n lens m).1<0∨costs (resS l (predS m t le c a b n))<(bmS l t le c a b n lens m).2
   ·rw [if_pos h5] at hst
    refine go (r:=?_);and_intros<;>intros<;>try exact True.intro
    all_goals first|(rw [hst];done)|(exfalso;omega)|skip
    all_goals (have e:m=6:=by omega);subst e;rw [bestM,if_pos h]
   ·rw [if_neg h5] at hst
    refine go (r:=?_);and_intros<;>intros<;>try exact True.intro
    all_goals first|(rw [hst];done)|(exfalso;omega)|skip
    all_goals (have e:m=6:=by omega);subst e;rw [bestM,if_pos h]
  ·rw [if_neg hh] at hst
   have hsl2:¬0<(symL lens m).length:=fun h=>hh (hsl.1 h)
   refine go (r:=?_);and_intros<;>intros<;>try exact True.intro
   all_goals first|(rw [hst];done)|(exfalso;omega)|skip
   all_goals (have e:m=6:=by omega);subst e;rw [bestM,if_pos h]
 ·have e:bestM l t le c a b n lens=-1:=by rw [bestM,if_neg h]
  by_cases h0:NbOk t le c n
  ·have h1:=h0.1
   have hnn:0≤n*n∧n*n≤64:=by rcases h1 with rfl|rfl<;>decide
   have h8:∀h7:(l.length:Int)=n*n,¬In l 0 255:=fun h7 h6=>h ⟨h0,h7,h6⟩
   by_cases h7:(l.length:Int)=n*n
   ·have h9:=h8 h7
    refine FnC.of_body tabOk Tryz.func47 Tryz.ntmps47 rfl (by decide +kernel) (by simp) fun G=>?_
    refine go (r:=?_);and_intros<;>intros<;>try exact True.intro
    all_goals first|(rw [e];done)|(exfalso;omega)
   ·refine FnC.of_body tabOk Tryz.func47 Tryz.ntmps47 rfl (by decide +kernel) (by simp) fun G=>?_
    refine go (r:=?_);and_intros<;>intros<;>try exact True.intro
    all_goals first|(rw [e];done)|(exfalso;omega)
  ·refine FnC.of_body tabOk Tryz.func47 Tryz.ntmps47 rfl (by decide +kernel) (by simp) fun G=>?_
   refine go (r:=?_);and_intros<;>intros<;>try exact True.intro
   all_goals first|(rw [e];done)|(exfalso;omega)⟩
instance BestMode_c:Con 46 (∀ (l t le:List Int) (c:Int) (a b:Bool) (n:Int) (lens:List Int),l.length≤1099511627776∧t.length≤1099511627776∧le.length≤1099511627776∧lens.length≤1099511627776→Fn 46 [IL l,NbA t le c a b,I n,IL lens] [] (I (bestM l t le c a b n lens))):=⟨fun l t le c a b n lens hl=>by
 by_cases h:BmOk l t le c n
 ·obtain ⟨h0,h2,h3⟩:=id h
  have h1:=h0.1
  have hnn:0≤n*n∧n*n≤64:=by rcases h1 with rfl|rfl<;>decide
  have hl64:l.length≤64:=by omega
  refine FnC.of_body tabOk Tryz.func46 Tryz.ntmps46 rfl (by decide +kernel) (by simp) fun G=>?_
  refine go (r:=?_);and_intros<;>intros<;>try exact True.intro
  all_goals first|(exact absurd h0 ‹¬ NbOk t le c n›)|(exact absurd h3 ‹¬ In l 0 255›)|skip
  refine WpA.loop (fun m:Nat=>⟨[(0,IL l),(2,I n),(3,IL lens),(5,.ptr 0 0 0),(9,I (bmS l t le c a b n lens m).1),(10,I (bmS l t le c a b n lens m).2),(30,I m)],[NbO t le c a b]⟩) (fun m=>m≤6) (fun m=>6-m) 0 (by omega) (go (r:=?_)) (fun m hm=>?_)
  ·simp [bmS]
  have hb:=bm_bd l t le c a b n lens m
  have hb1:=bm_bd l t le c a b n lens (m+1)
  have hsl:=symL_pos lens m
  have hc:=costs_bd (resS l (predS m t le c a b n))
  have hrl:=resS_small l (predS m t le c a b n)
  have hpl:=predS_len m t le c a b n
  have hpl2:(predS m t le c a b n).length≤64:=by
   rw [hpl];split
   ·rcases h1 with rfl|rfl<;>decide
   ·omega
  have hst:=bmS.eq_2 l t le c a b n lens m
  by_cases hh:HasC lens m
  ·rw [if_pos hh] at hst
   have hsl2:=hsl.2 hh
   by_cases h5:(bmS l t le c a b n lens m).1<0∨costs (resS l (predS m t le c a b n))<(bmS l t le c a b n lens m).2
   ·rw [if_pos h5] at hst
    refine go (r:=?_);and_intros<;>intros<;>try exact True.intro
    all_goals first|(rw [hst];done)|(exfalso;omega)|skip
    all_goals (have e:m=6:=by omega);subst e;rw [bestM,if_pos h]
   ·rw [if_neg h5] at hst
    refine go (r:=?_);and_intros<;>intros<;>try exact True.intro
    all_goals first|(rw [hst];done)|(exfalso;omega)|skip
    all_goals (have e:m=6:=by omega);subst e;rw [bestM,if_pos h]
  ·rw [if_neg hh] at hst
   have hsl2:¬0<(symL lens m).length:=fun h=>hh (hsl.1 h)
   refine go (r:=?_);and_intros<;>intros<;>try exact True.intro
   all_goals first|(rw [hst];done)|(exfalso;omega)|skip
   all_goals (have e:m=6:=by omega);subst e;rw [bestM,if_pos h]
 ·have e:bestM l t le c a b n lens=-1:=by rw [bestM,if_neg h]
  by_cases h0:NbOk t le c n
  ·have h1:=h0.1
   have hnn:0≤n*n∧n*n≤64:=by rcases h1 with rfl|rfl<;>decide
   have h8:∀h7:(l.length:Int)=n*n,¬In l 0 255:=fun h7 h6=>h ⟨h0,h7,h6⟩
   by_cases h7:(l.length:Int)=n*n
   ·have h9:=h8 h7
    refine FnC.of_body tabOk Tryz.func46 Tryz.ntmps46 rfl (by decide +kernel) (by simp) fun G=>?_
    refine go (r:=?_);and_intros<;>intros<;>try exact True.intro
    all_goals first|(rw [e];done)|(exfalso;omega)
   ·refine FnC.of_body tabOk Tryz.func46 Tryz.ntmps46 rfl (by decide +kernel) (by simp) fun G=>?_
    refine go (r:=?_);and_intros<;>intros<;>try exact True.intro
    all_goals first|(rw [e];done)|(exfalso;omega)
  ·refine FnC.of_body tabOk Tryz.func46 Tryz.ntmps46 rfl (by decide +kernel) (by simp) fun G=>?_
   refine go (r:=?_);and_intros<;>intros<;>try exact True.intro
   all_goals first|(rw [e];done)|(exfalso;omega)⟩
end Go.Proofs.YtainhhfnnclfiaaGreat
