/- Proved in this text: lemmas and contracts of functions that the claim uses (parts: Base, Frame, Defs, Code, MatL, Mat, GoR, DefsQ, Mat2). No condition. -/
import Derived.Test.YtainhhfnnclfiaaGreatBsM8
import Derived.Test.YtainhhfnnclfiaaGreatBsM6
set_option linter.unusedVariables false
set_option linter.unusedSimpArgs false
set_option maxRecDepth 100000
set_option maxHeartbeats 16000000


namespace Go.Proofs.YtainhhfnnclfiaaGreat
open Go Go.Abs
attribute [local irreducible] WpA WpL Rnd Blk Abs.Seq Abs.Fin FnC Only
instance within_c:Con 123 (∀ n lo hi:Int,Fn 123 [I n,I lo,I hi] [] (B (decide (lo≤n∧n≤hi)))):=⟨fun n lo hi=>by
 refine FnC.of_body tabOk Tryz.func123 Tryz.ntmps123 rfl (by decide +kernel) (by simp) fun G=>?_
 refine go (r:=?_);and_intros<;>intros
 all_goals first|exact True.intro|(simp_all;done)|(simp;omega)⟩
instance l1In_c:Con 140 (∀ n lo hi:Int,Fn 140 [I n,I lo,I hi] [] (B (decide (lo≤n∧n≤hi)))):=⟨fun n lo hi=>by
 refine FnC.of_body tabOk Tryz.func140 Tryz.ntmps140 rfl (by decide +kernel) (by simp) fun G=>?_
 refine go (r:=?_);and_intros<;>intros
 all_goals first|exact True.intro|(simp_all;done)|(simp;omega)⟩
instance limited_c:Con 117 (∀ n lo hi:Int,Fn 117 [I n,I lo,I hi] [] (I (max lo (min n hi)))):=⟨fun n lo hi=>by
 refine FnC.of_body tabOk Tryz.func117 Tryz.ntmps117 rfl (by decide +kernel) (by simp) fun G=>?_
 exact go (r:=trivial)⟩
instance l20Abs_c:Con 182 (∀ n:Int,-9223372036854775807≤n∧n≤9223372036854775807→Fn 182 [I n] [] (I (max n (-n)))):=⟨fun n h=>by
 refine FnC.of_body tabOk Tryz.func182 Tryz.ntmps182 rfl (by decide +kernel) (by simp) fun G=>?_
 exact go (r:=trivial)⟩
def clampM (v:Int):Int:=max (-1000000) (min v 1000000)
def costs (xs:List Int):Int:=(xs.map fun v=>max (clampM v) (- clampM v)).sum
theorem costs_bd (xs:List Int):0≤costs xs∧costs xs≤1000000*xs.length:=by
 induction xs with
 |nil=>simp [costs]
 |cons x xs ih=>simp only [costs,List.map_cons,List.sum_cons,List.length_cons,clampM] at ih ⊢;omega
theorem costs_snoc (xs:List Int) (k:Nat) (h:k<xs.length):costs (xs.take (k+1))=costs (xs.take k)+max (clampM (xs.getD k 0)) (- clampM (xs.getD k 0)):=by
 unfold costs;rw [List.take_succ_eq_append_getElem h,List.map_append,List.sum_append];simp [List.getElem?_eq_getElem h]
instance CostOf_c:Con 48 (∀ xs:List Int,xs.length≤1099511627776→Fn 48 [IL xs] [] (I (costs xs))):=⟨fun xs hl=>by
 refine FnC.of_body tabOk Tryz.func48 Tryz.ntmps48 rfl (by decide +kernel) (by simp) fun G=>?_
 refine go (r:=?_);and_intros<;>intros<;>try exact True.intro
 refine WpA.loop (fun k:Nat=>⟨[(3,I (costs (xs.take k))),(6,IL xs),(7,I xs.length),(8,I k)],[]⟩) (fun k=>k≤xs.length) (fun k=>xs.length-k) 0 (by omega) (go (r:=trivial)) (fun k hk=>?_)
 have hb:=costs_bd (xs.take k)
 have hlt:=List.length_take_le k xs
 refine go (r:=?_);and_intros<;>intros<;>try exact True.intro
 ·rw [costs_snoc _ _ (by omega)];simp [clampM]
 ·have:k=xs.length:=by omega
  subst this;simp⟩
instance CostOf_s:Con 116 (∀ xs:List Int,xs.length≤1099511627776→Fn 116 [IL xs] [] (I (costs xs))):=⟨fun xs hl=>by
 refine FnC.of_body tabOk Tryz.func116 Tryz.ntmps116 rfl (by decide +kernel) (by simp) fun G=>?_
 refine go (r:=?_);and_intros<;>intros<;>try exact True.intro
 refine WpA.loop (fun k:Nat=>⟨[(0,IL xs),(3,I (costs (xs.take k))),(4,I k)],[]⟩) (fun k=>k≤xs.length) (fun k=>xs.length-k) 0 (by omega) (go (r:=trivial)) (fun k hk=>?_)
 have hb:=costs_bd (xs.take k)
 have hlt:=List.length_take_le k xs
 refine go (r:=?_);and_intros<;>intros<;>try exact True.intro
 ·rw [costs_snoc _ _ (by omega)];simp [clampM,Int.min_comm]
 ·have:k=xs.length:=by omega
  subst this;simp⟩
end Go.Proofs.YtainhhfnnclfiaaGreat


namespace Go.Proofs.YtainhhfnnclfiaaGreat
open Go Go.Abs
attribute [local irreducible] WpA WpL Rnd Blk Abs.Seq Abs.Fin FnC Only
abbrev FrA (W H:Int) (p:List Int):AV:=.agg [I W,I H,IL p]
@[irreducible] def In (l:List Int) (lo hi:Int):Prop:=∀v∈l,lo≤v∧v≤hi
instance (l:List Int) (lo hi:Int):Decidable (In l lo hi):=by unfold In;exact List.decidableBAll _ l
theorem in_get {l:List Int} {lo hi:Int} (h:In l lo hi) {k:Nat} (hk:k<l.length):lo≤l.getD k 0∧l.getD k 0≤hi:=by
 unfold In at h
 have:=h (l.getD k 0) (by simp [List.getElem?_eq_getElem hk])
 exact this
theorem in_all {l:List Int} {lo hi:Int} (h:∀j<l.length,lo≤l.getD j 0∧l.getD j 0≤hi):In l lo hi:=by
 unfold In
 intro v hv
 obtain ⟨i,hi,rfl⟩:=List.getElem_of_mem hv
 simpa [List.getElem?_eq_getElem hi] using h i hi
theorem notin {l:List Int} {lo hi:Int} {k:Nat} (hk:k<l.length) (h:¬(lo≤l.getD k 0∧l.getD k 0≤hi)):false=decide (In l lo hi):=by
 symm;rw [decide_eq_false_iff_not];exact fun hh=>h (in_get hh hk)
theorem in_snoc {l:List Int} {lo hi:Int} {k:Nat} (hk:k<l.length):In (l.take (k+1)) lo hi↔In (l.take k) lo hi∧lo≤l.getD k 0∧l.getD k 0≤hi:=by
 unfold In;rw [List.take_succ_eq_append_getElem hk,List.forall_mem_append];simp [List.getElem?_eq_getElem hk]
theorem in_nil (lo hi:Int):In [] lo hi:=by unfold In;intro v hv;cases hv
instance allWithin_c:Con 110 (∀ (l:List Int) (lo hi:Int),l.length≤1099511627776→Fn 110 [IL l,I lo,I hi] [] (B (decide (In l lo hi)))):=⟨fun l lo hi hl=>by
 refine FnC.of_body tabOk Tryz.func110 Tryz.ntmps110 rfl (by decide +kernel) (by simp) fun G=>?_
 refine go (r:=?_);and_intros<;>intros<;>try exact True.intro
 refine WpA.loop (fun k:Nat=>⟨[(1,I lo),(2,I hi),(9,IL l),(10,I l.length),(11,I k)],[]⟩) (fun k=>k≤l.length∧In (l.take k) lo hi) (fun k=>l.length-k) 0 (by simp [in_nil]) (go (r:=trivial)) (fun k hk=>?_)
 refine go (r:=?_);and_intros<;>intros<;>try exact True.intro
 ·exact notin (k:=k) (by omega) ‹_›
 ·rw [in_snoc (by omega)];simp_all
 ·have e:k=l.length:=by omega
  subst e;simp_all⟩
instance l14Pix_c:Con 72 (∀ l:List Int,l.length≤1099511627776→Fn 72 [IL l] [] (B (decide (In l 0 255)))):=⟨fun l hl=>by
 refine FnC.of_body tabOk Tryz.func72 Tryz.ntmps72 rfl (by decide +kernel) (by simp) fun G=>?_
 refine go (r:=?_);and_intros<;>intros<;>try exact True.intro
 refine WpA.loop (fun k:Nat=>⟨[(0,IL l),(3,I k)],[]⟩) (fun k=>k≤l.length∧In (l.take k) 0 255) (fun k=>l.length-k) 0 (by simp [in_nil]) (go (r:=trivial)) (fun k hk=>?_)
 refine go (r:=?_);and_intros<;>intros<;>try exact True.intro
 ·exact notin (k:=k) (by omega) ‹_›
 ·rw [in_snoc (by omega)];simp_all
 ·have e:k=l.length:=by omega
  subst e;simp_all⟩
abbrev SidesOk (w h:Int):Prop:=8≤w∧w≤32∧8≤h∧h≤32∧w%8=0∧h%8=0
instance SidesOk_c:Con 129 (∀ w h:Int,Fn 129 [I w,I h] [] (B (decide (SidesOk w h)))):=⟨fun w h=>by
 refine FnC.of_body tabOk Tryz.func129 Tryz.ntmps129 rfl (by decide +kernel) (by simp) fun G=>?_
 refine go (r:=?_);and_intros<;>intros<;>try exact True.intro
 all_goals first|(simp_all;done)|(rw [Bool.eq_iff_iff];simp only [decide_eq_true_eq,Bool.not_eq_true',decide_eq_false_iff_not,Bool.false_eq_true,true_iff,false_iff,iff_true,iff_false,Bool.not_eq_eq_eq_not,Bool.not_true];omega)⟩
instance SidesOk_s:Con 71 (∀ w h:Int,Fn 71 [I w,I h] [] (B (decide (SidesOk w h)))):=⟨fun w h=>by
 refine FnC.of_body tabOk Tryz.func71 Tryz.ntmps71 rfl (by decide +kernel) (by simp) fun G=>?_
 refine go (r:=?_);and_intros<;>intros<;>try exact True.intro
 all_goals first|(simp_all;done)|(rw [Bool.eq_iff_iff];simp only [decide_eq_true_eq,Bool.not_eq_true',decide_eq_false_iff_not,Bool.false_eq_true,true_iff,false_iff,iff_true,iff_false,Bool.not_eq_eq_eq_not,Bool.not_true];omega)⟩
abbrev FrameOk (W H:Int) (p:List Int):Prop:=SidesOk W H∧(p.length:Int)=W*H∧In p 0 255
instance FrameOk_c:Con 66 (∀ (W H:Int) (p:List Int),p.length≤1099511627776→Fn 66 [FrA W H p] [] (B (decide (FrameOk W H p)))):=⟨fun W H p hl=>by
 refine FnC.of_body tabOk Tryz.func66 Tryz.ntmps66 rfl (by decide +kernel) (by simp) fun G=>?_
 refine go (r:=?_);and_intros<;>intros<;>try exact True.intro
 all_goals simp_all⟩
instance FrameOk_s:Con 24 (∀ (W H:Int) (p:List Int),p.length≤1099511627776→Fn 24 [FrA W H p] [] (B (decide (FrameOk W H p)))):=⟨fun W H p hl=>by
 refine FnC.of_body tabOk Tryz.func24 Tryz.ntmps24 rfl (by decide +kernel) (by simp) fun G=>?_
 refine go (r:=?_);and_intros<;>intros<;>try exact True.intro
 all_goals simp_all⟩
end Go.Proofs.YtainhhfnnclfiaaGreat


namespace Go.Proofs.YtainhhfnnclfiaaGreat
open Go Go.Abs
theorem mark_step {α:Type} (f:Nat→α) (l:List α) (i:Nat) (h:i<l.length):((List.range i).map f++l.drop i).set i (f i)=(List.range (i+1)).map f++l.drop (i+1):=by
 rw [List.set_append_right _ _ (by simp),List.range_succ,List.drop_eq_getElem_cons h];simp;rw [List.drop_eq_getElem_cons h];rfl
theorem eq_all {α:Type} (z:α) {xs ys:List α} (hl:xs.length=ys.length) (h:∀j<xs.length,xs.getD j z=ys.getD j z):xs=ys:=by
 apply List.ext_getElem hl
 intro i h1 h2
 have:=h i h1
 simpa [h1,h2] using this
abbrev IN (l:List Int):AObj:=⟨ints l,0,1,none⟩
abbrev BL (xs:List Bool):AV:=.imm 1 xs.length (bools xs)
abbrev OpA (q:Int) (b d:Bool) (l m:List Int) (e:List Bool):AV:=.agg [I q,B b,B d,IL l,IL m,BL e]
abbrev HdA (w h q:Int) (b d:Bool) (l:List Int):AV:=.agg [I w,I h,I q,B b,B d,IL l]
abbrev StA (w h q:Int) (b d:Bool) (l:List Int) (M:List Mbk):AV:=.agg [I w,I h,I q,B b,B d,IL l,.imm 2 M.length (rows mbI M)]
abbrev BkL (l:List Blok):AV:=.imm 2 l.length (rows blkI l)
abbrev MbL (l:List Mbk):AV:=.imm 2 l.length (rows mbI l)
def bn (b:Blok):Nat:=b.2.length
def bw (l:List Blok):Nat:=l.length+(l.map bn).sum
def mn (m:Mbk):Nat:=bw m.2
def mw (l:List Mbk):Nat:=l.length+(l.map mn).sum
@[irreducible] def SmB (c:Nat) (l:List Blok):Prop:=∀b∈l,b.2.length≤c
@[irreducible] def SmM (c:Nat) (l:List Mbk):Prop:=∀m∈l,m.2.length≤c∧SmB c m.2
theorem smB_get {c:Nat} {l:List Blok} (h:SmB c l) {k:Nat} (hk:k<l.length):(l.getD k default).2.length≤c:=by
 unfold SmB at h;exact h _ (by simp [hk])
theorem smM_get {c:Nat} {l:List Mbk} (h:SmM c l) {k:Nat} (hk:k<l.length):(l.getD k default).2.length≤c∧SmB c (l.getD k default).2:=by
 unfold SmM at h;exact h _ (by simp [hk])
theorem sum_mem {α:Type} (f:α→Nat) {l:List α} {a:α} (h:a∈l):f a≤(l.map f).sum:=by
 induction l with
 |nil=>cases h
 |cons b l ih=>
  rw [List.map_cons,List.sum_cons]
  rcases List.mem_cons.1 h with rfl|h
  ·omega
  ·have:=ih h;omega
theorem smB_of {c:Nat} {l:List Blok} (h:bw l≤c):SmB c l:=by
 unfold SmB bw at*
 intro b hb
 have:bn b≤_:=sum_mem bn hb
 unfold bn at this;unfold bn at h;omega
theorem smM_of {c:Nat} {l:List Mbk} (h:mw l≤c):SmM c l:=by
 unfold SmM mw at*
 intro m hm
 have h1:mn m≤_:=sum_mem mn hm
 have h2:bw m.2≤c:=by unfold mn at *;omega
 exact ⟨by unfold bw at h2;omega,smB_of h2⟩
theorem take_snoc {α:Type} [Inhabited α] (l:List α) (i:Nat) (h:i<l.length):l.take (i+1)=l.take i++[l.getD i default]:=by
 rw [List.take_succ_eq_append_getElem h];simp [h]
abbrev XI (l:List Int):AObj:=⟨ints l,0,1,some 3⟩
end Go.Proofs.YtainhhfnnclfiaaGreat


namespace Go.Proofs.YtainhhfnnclfiaaGreat
open Go Go.Abs
attribute [local irreducible] WpA WpL Rnd Blk Abs.Seq Abs.Fin Abs.FinG FnC FnG Only
theorem wrap64 (p:Int) (h:-9223372036854775808≤p∧p≤9223372036854775807):IntKind.i64.wrap p=p:=IntWalk.i64_in p h
def stepX (q:Int):Int:=IntKind.i64.wrap (([8,9,10,11,13,14]:List Int).getD (q%6).toNat 0*2 ^ (q/6).toNat)
theorem stepX_bd (q:Int) (h:0≤q∧q≤51):8≤stepX q∧stepX q≤4000:=by
 have key:∀k:Fin 52,8≤stepX k.val∧stepX k.val≤4000:=by decide
 obtain ⟨k,rfl⟩:∃k:Nat,q=k:=⟨q.toNat,by omega⟩
 exact key ⟨k,by omega⟩
def stepL (q:Int):Int:=if 0≤q∧q≤51 then stepX q/8 else 0
theorem stepL_in (q:Int) (h:0≤q∧q≤51):1≤stepL q∧stepL q≤500:=by
 have:=stepX_bd q h
 rw [stepL,if_pos h];omega
theorem stepL_pos (q:Int):0<stepL q↔0≤q∧q≤51:=by
 by_cases h:0≤q∧q≤51
 ·have:=stepL_in q h;constructor<;>intro _<;>omega
 ·rw [stepL,if_neg h];constructor<;>intro _<;>omega
instance StepOf_s:Con 73 (∀ q:Int,Fn 73 [I q] [] (I (stepL q))):=⟨fun q=>by
 refine FnC.of_body tabOk Tryz.func73 Tryz.ntmps73 rfl (by decide +kernel) (by simp) fun G=>?_
 have hx:=stepX_bd q
 unfold stepX at hx
 refine go (r:=?_);and_intros<;>intros<;>try exact True.intro
 all_goals first|(rw [stepL,if_neg (by assumption)];done)|(rw [stepL,if_pos (by assumption)];rfl)⟩
instance StepOf_c:Con 251 (∀ q:Int,Fn 251 [I q] [] (I (stepL q))):=⟨fun q=>by
 refine FnC.of_body tabOk Tryz.func251 Tryz.ntmps251 rfl (by decide +kernel) (by simp) fun G=>?_
 have hx:=stepX_bd q
 unfold stepX at hx
 refine go (r:=?_);and_intros<;>intros<;>try exact True.intro
 all_goals first|(rw [stepL,if_neg (by assumption)];done)|(rw [stepL,if_pos (by assumption)];rfl)⟩
def cw (n:Int):Int:=if 0<n then 2 ^ (7-n).toNat else 0
theorem cw_wrap (n:Int) (h:0≤n∧n≤7) (h0:n>0):IntKind.i64.wrap (1*2 ^ (7-n).toNat)=cw n∧1≤cw n∧cw n≤64:=by
 have key:∀k:Fin 8,0<k.val→IntKind.i64.wrap (1*2 ^ (7-(k.val:Int)).toNat)=cw k.val∧1≤cw k.val∧cw k.val≤64:=by decide
 obtain ⟨k,rfl⟩:∃k:Nat,n=k:=⟨n.toNat,by omega⟩
 exact key ⟨k,by omega⟩ (show 0<k by omega)
def csum (l:List Int):Int:=(l.map cw).sum
theorem csum_snoc (l:List Int) (k:Nat) (h:k<l.length):csum (l.take (k+1))=csum (l.take k)+cw (l.getD k 0):=by
 unfold csum;rw [List.take_succ_eq_append_getElem h,List.map_append,List.sum_append];simp [h]
def CodeOk (l:List Int):Prop:=In l 0 7∧l.length=6∧csum l=128
instance (l:List Int):Decidable (CodeOk l):=by unfold CodeOk;infer_instance
instance CodeOk_s:Con 74 (∀ l:List Int,l.length≤1099511627776→Fn 74 [IL l] [] (B (decide (CodeOk l)))):=⟨fun l hl=>by
 refine FnC.of_body tabOk Tryz.func74 Tryz.ntmps74 rfl (by decide +kernel) (by simp) fun G=>?_
 refine go (r:=?_);and_intros<;>intros<;>try exact True.intro
 refine WpA.loop (fun k:Nat=>⟨[(0,IL l),(3,I (csum (l.take k))),(4,I k)],[]⟩) (fun k=>k≤l.length∧In (l.take k) 0 7∧0≤csum (l.take k)∧csum (l.take k)≤64*k) (fun k=>l.length-k) 0 (by simp [in_nil,csum]) (go (r:=?_)) (fun k hk=>?_)
 ·simp [csum]
 have hs:=fun h=>csum_snoc l k h
 have hi:=fun h=>in_snoc (lo:=0) (hi:=7) (l:=l) (k:=k) h
 have hw:=cw_wrap (l.getD k 0)
 have hw0:¬l.getD k 0>0→cw (l.getD k 0)=0:=fun h=>by unfold cw;rw [if_neg (by omega)]
 refine go (r:=?_);and_intros<;>intros<;>try exact True.intro
 ·have:=notin (k:=k) (by omega) ‹¬ (0≤l.getD k 0∧_)›;rw [eq_comm,decide_eq_false_iff_not] at *;exact fun h=>this h.1
 ·rw [hi (by omega)];exact ⟨hk.2.1,‹_›⟩
 ·rw [hi (by omega)];exact ⟨hk.2.1,‹_›⟩
 all_goals have e:k=l.length:=by omega
 all_goals subst e
 all_goals rw [List.take_length] at*
 ·have h6:l.length=6:=by omega
  simp [CodeOk,hk.2.1,h6]
 ·have h6:¬l.length=6:=by omega
  simp [CodeOk,h6]⟩
instance CodeOk_c:Con 130 (∀ l:List Int,l.length≤1099511627776→Fn 130 [IL l] [] (B (decide (CodeOk l)))):=⟨fun l hl=>by
 refine FnC.of_body tabOk Tryz.func130 Tryz.ntmps130 rfl (by decide +kernel) (by simp) fun G=>?_
 refine go (r:=?_);and_intros<;>intros<;>try exact True.intro
 refine WpA.loop (fun k:Nat=>⟨[(0,IL l),(3,I (csum (l.take k))),(6,IL l),(7,I l.length),(8,I k)],[]⟩) (fun k=>k≤l.length∧In (l.take k) 0 7∧0≤csum (l.take k)∧csum (l.take k)≤64*k) (fun k=>l.length-k) 0 (by simp [in_nil,csum]) (go (r:=?_)) (fun k hk=>?_)
 ·simp [csum]
 have hs:=fun h=>csum_snoc l k h
 have hi:=fun h=>in_snoc (lo:=0) (hi:=7) (l:=l) (k:=k) h
 have hw:=cw_wrap (l.getD k 0)
 have hw0:¬l.getD k 0>0→cw (l.getD k 0)=0:=fun h=>by unfold cw;rw [if_neg (by omega)]
 refine go (r:=?_);and_intros<;>intros<;>try exact True.intro
 ·have:=notin (k:=k) (by omega) ‹¬ (0≤l.getD k 0∧_)›;rw [eq_comm,decide_eq_false_iff_not] at *;exact fun h=>this h.1
 ·rw [hi (by omega)];exact ⟨hk.2.1,‹_›⟩
 ·rw [hi (by omega)];exact ⟨hk.2.1,‹_›⟩
 all_goals have e:k=l.length:=by omega
 all_goals subst e
 all_goals rw [List.take_length] at*
 ·have h6:l.length=6:=by omega
  simp [CodeOk,hk.2.1,h6]
 ·have h6:¬l.length=6:=by omega
  simp [CodeOk,h6]⟩
def cIn (w:Int) (l:List Int):Nat→List Int×Int→List Int×Int
 |0,s=>s
 |i+1,s=>if l.getD i 0=w then ((cIn w l i s).1.set i (cIn w l i s).2,(cIn w l i s).2+1) else cIn w l i s
def cOut (l:List Int):Nat→List Int×Int
 |0=>(List.replicate l.length (-1),0)
 |w+1=>cIn ((w:Int)+1) l l.length ((cOut l w).1,(cOut l w).2*2)
def codes (l:List Int):List Int:=(cOut l 7).1
theorem cIn_len (w:Int) (l:List Int):∀(i:Nat) (s:List Int×Int),(cIn w l i s).1.length=s.1.length
 |0,s=>rfl
 |i+1,s=>by
  rw [cIn];split
  ·rw [List.length_set];exact cIn_len w l i s
  ·exact cIn_len w l i s
theorem cOut_len (l:List Int):∀w,(cOut l w).1.length=l.length
 |0=>by simp [cOut]
 |w+1=>by rw [cOut,cIn_len,cOut_len l w]
theorem codes_len (l:List Int):(codes l).length=l.length:=cOut_len l 7
theorem cIn_bd (w:Int) (l:List Int):∀(i:Nat) (s:List Int×Int),s.2≤(cIn w l i s).2∧(cIn w l i s).2≤s.2+i
 |0,s=>by simp [cIn]
 |i+1,s=>by rw [cIn];have:=cIn_bd w l i s;split<;>first|(simp only;omega)|omega
theorem cOut_bd (l:List Int) (h:l.length=6):∀w,0≤(cOut l w).2∧(cOut l w).2≤6*(2 ^ w-1)
 |0=>by simp [cOut]
 |w+1=>by
  rw [cOut]
  have h1:=cIn_bd ((w:Int)+1) l l.length ((cOut l w).1,(cOut l w).2*2)
  have h2:=cOut_bd l h w
  simp only at h1
  rw [Int.pow_succ];omega
theorem cOut_bd7 (l:List Int) (h:l.length=6) (w:Nat) (hw:w≤7):0≤(cOut l w).2∧(cOut l w).2≤768:=by
 have h1:=cOut_bd l h w
 have:(2:Int) ^ w≤2 ^ 7:=by
  have:=Nat.pow_le_pow_right (n:=2) (by decide) hw
  exact_mod_cast this
 omega
def codesR (l:List Int):List Int:=if CodeOk l then codes l else []
theorem codesR_len (l:List Int) (h:CodeOk l):(codesR l).length=6:=by rw [codesR,if_pos h,codes_len,h.2.1]
theorem codesR_ok (l:List Int) (h:CodeOk l):codesR l=codes l:=by rw [codesR,if_pos h]
theorem codesR_no (l:List Int) (h:¬CodeOk l):codesR l=[]:=by rw [codesR,if_neg h]
theorem cIn_yes {w:Int} {l:List Int} {i:Nat} {s:List Int×Int} (h:l.getD i 0=w):cIn w l (i+1) s=((cIn w l i s).1.set i (cIn w l i s).2,(cIn w l i s).2+1):=by rw [cIn,if_pos h]
theorem cIn_no {w:Int} {l:List Int} {i:Nat} {s:List Int×Int} (h:¬l.getD i 0=w):cIn w l (i+1) s=cIn w l i s:=by rw [cIn,if_neg h]
instance CodesOf_s:Con 181 (∀ l:List Int,l.length≤1099511627776→Fn 181 [IL l] [XI (codesR l)] (.own 0 0 0 (codesR l).length)):=⟨fun l hl=>by
 refine FnC.of_body tabOk Tryz.func181 Tryz.ntmps181 rfl (by decide +kernel) (by simp) fun G=>?_
 refine go (r:=?_);and_intros<;>intros<;>try exact True.intro
 ·rw [codesR_no l ‹_›];rfl
 ·rw [codesR_no l ‹_›]
 have hok:CodeOk l:=‹_›
 have h6:=hok.2.1
 refine WpA.loop (fun k:Nat=>⟨[(0,IL l),(3,.own 0 0 0 k),(4,I k)],[XI (List.replicate k (-1))]⟩) (fun k=>k≤l.length) (fun k=>l.length-k) 0 (by simp) (go (r:=trivial)) (fun k hk=>?_)
 refine go (r:=?_);and_intros<;>intros<;>try exact True.intro
 ·rw [List.replicate_succ']
 have e:k=l.length:=by omega
 subst e
 refine WpA.loop (fun w:Nat=>⟨[(0,IL l),(3,.own 0 0 0 l.length),(5,I (cOut l w).2),(6,I ((w:Int)+1))],[XI (cOut l w).1]⟩) (fun w=>w≤7) (fun w=>7-w) 0 (by simp) (go (r:=?_)) (fun w hw=>?_)
 ·simp [cOut]
 have hb:=cOut_bd7 l h6 w hw
 refine go (r:=?_);and_intros<;>intros<;>try exact True.intro
 ·refine WpA.loop (fun i:Nat=>⟨[(0,IL l),(3,.own 0 0 0 l.length),(5,I (cIn ((w:Int)+1) l i ((cOut l w).1,(cOut l w).2*2)).2),(6,I ((w:Int)+1)),(7,I i)],[XI (cIn ((w:Int)+1) l i ((cOut l w).1,(cOut l w).2*2)).1]⟩) (fun i=>i≤l.length) (fun i=>l.length-i) 0 (by simp) (go (r:=?_)) (fun i hi=>?_)
  ·simp [cIn]
  have hb2:=cIn_bd ((w:Int)+1) l i ((cOut l w).1,(cOut l w).2*2)
  have hl2:=cIn_len ((w:Int)+1) l i ((cOut l w).1,(cOut l w).2*2)
  have hl3:=cOut_len l w
  simp only at hb2 hl2
  refine go (r:=?_);and_intros<;>intros<;>try exact True.intro
  ·rw [cIn_yes (by assumption)]
  ·rw [cIn_yes (by assumption)];rfl
  ·rw [cIn_no (by assumption)]
  ·rw [cIn_no (by assumption)]
  all_goals have e:i=l.length:=by omega
  all_goals subst e;rfl
 all_goals have e:w=7:=by omega
 all_goals subst e
 ·rw [codesR_len l hok,h6]
 ·rw [codesR_ok l hok];rfl⟩
instance CodesOf_c:ConB 241 (∀ l:List Int,l.length≤1099511627776→Bn 241 [IL l] (CodeOk l) [XI (codes l)] (.own 0 0 0 6) [] .nilS):=⟨fun l hl=>by
 refine ⟨fun hok=>?_,fun hno=>?_⟩
 ·have h6:=hok.2.1
  refine FnC.of_body tabOk Tryz.func241 Tryz.ntmps241 rfl (by decide +kernel) (by simp) fun G=>?_
  refine go (r:=?_);and_intros<;>intros<;>try exact True.intro
  all_goals first|(exact absurd hok ‹¬ CodeOk l›)|skip
  refine WpA.loop (fun w:Nat=>⟨[(0,IL l),(3,.own 0 0 0 l.length),(4,I (cOut l w).2),(5,I ((w:Int)+1))],[XI (cOut l w).1]⟩) (fun w=>w≤7) (fun w=>7-w) 0 (by simp) (go (r:=?_)) (fun w hw=>?_)
  ·simp [cOut,h6]
  have hb:=cOut_bd7 l h6 w hw
  have hsh:IntKind.i64.wrap ((cOut l w).2*2)=(cOut l w).2*2:=wrap64 _ (by omega)
  refine go (r:=?_);and_intros<;>intros<;>try exact True.intro
  ·refine WpA.loop (fun i:Nat=>⟨[(0,IL l),(3,.own 0 0 0 l.length),(4,I (cIn ((w:Int)+1) l i ((cOut l w).1,(cOut l w).2*2)).2),(5,I ((w:Int)+1)),(18,IL l),(19,I l.length),(20,I i)],[XI (cIn ((w:Int)+1) l i ((cOut l w).1,(cOut l w).2*2)).1]⟩) (fun i=>i≤l.length) (fun i=>l.length-i) 0 (by simp) (go (r:=?_)) (fun i hi=>?_)
   ·simp [cIn,hsh]
   have hb2:=cIn_bd ((w:Int)+1) l i ((cOut l w).1,(cOut l w).2*2)
   have hl2:=cIn_len ((w:Int)+1) l i ((cOut l w).1,(cOut l w).2*2)
   have hl3:=cOut_len l w
   simp only at hb2 hl2
   refine go (r:=?_);and_intros<;>intros<;>try exact True.intro
   ·rw [cIn_yes (by assumption)]
   ·rw [cIn_yes (by assumption)];rfl
   ·rw [cIn_no (by assumption)]
   ·rw [cIn_no (by assumption)]
   all_goals have e:i=l.length:=by omega
   all_goals subst e;rfl
  all_goals have e:w=7:=by omega
  all_goals subst e;rfl
 ·refine FnC.of_body tabOk Tryz.func241 Tryz.ntmps241 rfl (by decide +kernel) (by simp) fun G=>?_
  refine go (r:=?_);and_intros<;>intros<;>try exact True.intro
  all_goals exact absurd ‹CodeOk l› hno⟩
def bitOk (n w:Int):Prop:=(0≤w∧w≤48)∧0≤n∧n/2 ^ w.toNat=0
instance (n w:Int):Decidable (bitOk n w):=by unfold bitOk;infer_instance
def bitsR (n:Int) (w:Nat) (k:Nat):List Int:=(List.range k).map fun j:Nat=>n/2 ^ (w-1-j)%2
def bitsL (n w:Int):List Int:=if bitOk n w then bitsR n w.toNat w.toNat else []
theorem bitsR_len (n:Int) (w k:Nat):(bitsR n w k).length=k:=by simp [bitsR]
theorem bitsR_snoc (n:Int) (w k:Nat):bitsR n w (k+1)=bitsR n w k++[n/2 ^ (w-1-k)%2]:=by simp [bitsR,List.range_succ]
theorem low1 (k:Int) (h:0≤k∧k≤9223372036854775807):IntKind.i64.wrap ((BitVec.ofInt IntKind.i64.bits k &&& BitVec.ofInt IntKind.i64.bits 1).toNat:Nat)=k%2:=by
 obtain ⟨m,rfl⟩:∃m:Nat,k=m:=⟨k.toNat,by omega⟩
 have e1:(BitVec.ofInt IntKind.i64.bits (m:Int)).toNat=m:=by simp only [IntKind.bits,BitVec.toNat_ofInt];omega
 have e:(BitVec.ofInt IntKind.i64.bits (m:Int) &&& BitVec.ofInt IntKind.i64.bits 1).toNat=m%2:=by
  rw [BitVec.toNat_and,e1,show (BitVec.ofInt IntKind.i64.bits (1:Int)).toNat=2 ^ 1-1 from by decide,Nat.and_two_pow_sub_one_eq_mod]
 rw [e,wrap64 _ (by omega)];omega
theorem shr_bd (n:Int) (k:Nat) (h:0≤n):0≤n/2 ^ k∧n/2 ^ k≤n:=by
 constructor
 ·exact Int.ediv_nonneg h (Int.le_of_lt (Int.pow_pos (by decide)))
 ·exact Int.ediv_le_self _ h
instance BitsIn_s:Con 180 (∀ n w:Int,n≤9223372036854775807→Fn 180 [I n,I w] [XI (bitsL n w)] (.own 0 0 0 (bitsL n w).length)):=⟨fun n w hn=>by
 refine FnC.of_body tabOk Tryz.func180 Tryz.ntmps180 rfl (by decide +kernel) (by simp) fun G=>?_
 refine go (r:=?_);and_intros<;>intros<;>try exact True.intro
 all_goals first|(rw [bitsL,if_neg (by unfold bitOk;omega)];done)|(rw [bitsL,if_neg (by unfold bitOk;omega)];rfl)|skip
 have hok:bitOk n w:=⟨‹_›,by omega,‹_›⟩
 obtain ⟨⟨h0,h48⟩,hn0,_⟩:=id hok
 obtain ⟨W,rfl⟩:∃W:Nat,w=W:=⟨w.toNat,by omega⟩
 refine WpA.loop (fun k:Nat=>⟨[(0,I n),(5,.own 0 0 0 k),(6,I ((W:Int)-1-k))],[XI (bitsR n W k)]⟩) (fun k=>k≤W) (fun k=>W-k) 0 (by simp) (go (r:=?_)) (fun k hk=>?_)
 ·simp [bitsR]
 have hl:=bitsR_len n W k
 have hb:=shr_bd n ((W:Int)-1-k).toNat hn0
 refine go (r:=?_);and_intros<;>intros<;>try exact True.intro
 ·rw [bitsR_snoc,low1 _ (by omega)];congr 6;omega
 all_goals have e:k=W:=by omega
 all_goals subst e
 ·rw [bitsL,if_pos hok,bitsR_len];rfl
 ·rw [bitsL,if_pos hok];rfl⟩
instance BitsIn_c:Con 223 (∀ n w:Int,n≤9223372036854775807→Fn 223 [I n,I w] [XI (bitsL n w)] (.own 0 0 0 (bitsL n w).length)):=⟨fun n w hn=>by
 refine FnC.of_body tabOk Tryz.func223 Tryz.ntmps223 rfl (by decide +kernel) (by simp) fun G=>?_
 refine go (r:=?_);and_intros<;>intros<;>try exact True.intro
 all_goals first|(rw [bitsL,if_neg (by unfold bitOk;omega)];done)|(rw [bitsL,if_neg (by unfold bitOk;omega)];rfl)|skip
 have hok:bitOk n w:=⟨‹_›,by omega,‹_›⟩
 obtain ⟨⟨h0,h48⟩,hn0,_⟩:=id hok
 obtain ⟨W,rfl⟩:∃W:Nat,w=W:=⟨w.toNat,by omega⟩
 refine WpA.loop (fun k:Nat=>⟨[(0,I n),(5,.own 0 0 0 k),(6,I ((W:Int)-1-k))],[XI (bitsR n W k)]⟩) (fun k=>k≤W) (fun k=>W-k) 0 (by simp) (go (r:=?_)) (fun k hk=>?_)
 ·simp [bitsR]
 have hl:=bitsR_len n W k
 have hb:=shr_bd n ((W:Int)-1-k).toNat hn0
 refine go (r:=?_);and_intros<;>intros<;>try exact True.intro
 ·rw [bitsR_snoc,low1 _ (by omega)];congr 6;omega
 all_goals have e:k=W:=by omega
 all_goals subst e
 ·rw [bitsL,if_pos hok,bitsR_len];rfl
 ·rw [bitsL,if_pos hok];rfl⟩
def OptOk (q:Int) (l:List Int):Prop:=(0≤q∧q≤51)∧CodeOk l
instance (q:Int) (l:List Int):Decidable (OptOk q l):=by unfold OptOk;infer_instance
instance OptionsOk_s:Con 25 (∀ (q:Int) (b d:Bool) (l m:List Int) (e:List Bool),l.length≤1099511627776→Fn 25 [OpA q b d l m e] [] (B (decide (OptOk q l)))):=⟨fun q b d l m e hl=>by
 refine FnC.of_body tabOk Tryz.func25 Tryz.ntmps25 rfl (by decide +kernel) (by simp) fun G=>?_
 have hs:=stepL_pos q
 refine go (r:=?_);and_intros<;>intros<;>try exact True.intro
 all_goals first|(have h:0≤q∧q≤51:=by omega
                  simp [OptOk,h];done)|(have h:¬(0≤q∧q≤51):=by omega
                                        simp [OptOk,h];done)⟩
instance OptionsOk_c:Con 67 (∀ (q:Int) (b d:Bool) (l m:List Int) (e:List Bool),l.length≤1099511627776→Fn 67 [OpA q b d l m e] [] (B (decide (OptOk q l)))):=⟨fun q b d l m e hl=>by
 refine FnC.of_body tabOk Tryz.func67 Tryz.ntmps67 rfl (by decide +kernel) (by simp) fun G=>?_
 refine go (r:=?_);and_intros<;>intros<;>try exact True.intro
 all_goals first|(have h:0≤q∧q≤51:=by omega
                  simp [OptOk,h];done)|(have h:¬(0≤q∧q≤51):=by omega
                                        simp [OptOk,h];done)⟩
end Go.Proofs.YtainhhfnnclfiaaGreat


namespace Go.Proofs.YtainhhfnnclfiaaGreat
open Go Go.Abs
def part (f:Nat→Int) (N j:Nat) (v:Int):List Int:=(List.range N).map fun q=>if q<j then f q else if q=j then v else 0
def tabL (f:Nat→Int) (N:Nat):List Int:=(List.range N).map f
theorem part_len (f:Nat→Int) (N j:Nat) (v:Int):(part f N j v).length=N:=by simp [part]
theorem tabL_len (f:Nat→Int) (N:Nat):(tabL f N).length=N:=by simp [tabL]
theorem map_getD {f:Nat→Int} {N j:Nat} (h:j<N):((List.range N).map f).getD j 0=f j:=by
 simp only [List.getD_eq_getElem?_getD,List.getElem?_map,List.getElem?_range h,Option.map_some,Option.getD_some]
theorem part_get {f:Nat→Int} {N j:Nat} {v:Int} (h:j<N):(part f N j v).getD j 0=v:=by
 unfold part;rw [map_getD h,if_neg (by omega),if_pos rfl]
theorem tabL_get {f:Nat→Int} {N j:Nat} (h:j<N):(tabL f N).getD j 0=f j:=map_getD h
theorem list_ext {xs ys:List Int} {N:Nat} (h1:xs.length=N) (h2:ys.length=N) (h:∀j,j<N→xs.getD j 0=ys.getD j 0):xs=ys:=
 eq_all 0 (by omega) (fun j hj=>h j (by omega))
theorem getD_set2 {c:List Int} {i j:Nat} {v:Int} (h:i<c.length):(c.set i v).getD j 0=if j=i then v else c.getD j 0:=by
 rw [List.getD_eq_getElem?_getD,List.getElem?_set]
 by_cases e:i=j
 ·subst e;simp [h]
 ·have:¬j=i:=fun h=>e h.symm
  simp [e,this]
theorem part_set {f:Nat→Int} {N j:Nat} {v u:Int} (h:j<N):(part f N j v).set j u=part f N j u:=by
 refine list_ext (N:=N) (by simp [part]) (part_len _ _ _ _) fun q hq=>?_
 rw [getD_set2 (by rw [part_len];exact h)]
 unfold part
 rw [map_getD hq,map_getD hq]
 by_cases e:q=j
 ·rw [if_pos e,if_neg (by omega),if_pos e]
 ·rw [if_neg e,if_neg e,if_neg e]
theorem part_next {f:Nat→Int} {N j:Nat} {v:Int} (h:v=f j):part f N j v=part f N (j+1) 0:=by
 refine list_ext (N:=N) (part_len _ _ _ _) (part_len _ _ _ _) fun q hq=>?_
 unfold part
 rw [map_getD hq,map_getD hq]
 by_cases e:q<j
 ·rw [if_pos e,if_pos (by omega)]
 ·by_cases e2:q=j
  ·rw [if_neg e,if_pos e2,if_pos (by omega),h,e2]
  ·rw [if_neg e,if_neg e2,if_neg (by omega)];split<;>rfl
theorem part_zero (f:Nat→Int) (N:Nat):part f N 0 0=List.replicate N 0:=by
 refine list_ext (N:=N) (part_len _ _ _ _) (by simp) fun q hq=>?_
 unfold part
 rw [map_getD hq,if_neg (by omega)]
 simp [hq]
theorem part_all (f:Nat→Int) (N:Nat) (v:Int):part f N N v=tabL f N:=by
 refine list_ext (N:=N) (part_len _ _ _ _) (tabL_len _ _) fun q hq=>?_
 unfold part
 rw [map_getD hq,tabL_get hq,if_pos hq]
def sumF (f:Nat→Int):Nat→Int
 |0=>0
 |k+1=>sumF f k+f k
theorem sumF_bd {f:Nat→Int} {c:Int} (hc:0≤c):∀k,(∀ i,i<k→-c≤f i∧f i≤c)→-(k*c)≤sumF f k∧sumF f k≤k*c
 |0,h=>by simp [sumF]
 |k+1,h=>by
  have h1:=sumF_bd hc k (fun i hi=>h i (by omega))
  have h2:=h k (by omega)
  have e:((k+1:Nat):Int)*c=k*c+c:=by rw [Int.natCast_add,Int.add_mul];simp
  rw [sumF,e];omega
theorem mul2 {a b c:Int} (ha:a=-2∨a=-1∨a=0∨a=1∨a=2) (hb:-c≤b∧b≤c) (hc:0≤c):-(2*c)≤a*b∧a*b≤2*c:=by
 rcases ha with rfl|rfl|rfl|rfl|rfl<;>omega
def A4:List (List Int):=[[1,1,1,1],[2,1,-1,-2],[1,-1,-1,1],[1,-2,2,-1]]
def par (b:Nat):Int:=if (b%2+b/2%2+b/4%2)%2=0 then 1 else -1
def mx (n r i:Nat):Int:=if n=4 then (A4.getD r []).getD i 0 else par (r &&& i)
theorem mx_val (n r i:Nat):mx n r i=-2∨mx n r i=-1∨mx n r i=0∨mx n r i=1∨mx n r i=2:=by
 unfold mx
 split
 ·rcases Nat.lt_or_ge r 4 with h|h
  ·rcases Nat.lt_or_ge i 4 with h2|h2
   ·have key:∀r i:Fin 4,(A4.getD r.val []).getD i.val 0=-2∨(A4.getD r.val []).getD i.val 0=-1∨(A4.getD r.val []).getD i.val 0=0∨(A4.getD r.val []).getD i.val 0=1∨(A4.getD r.val []).getD i.val 0=2:=by decide
    exact key ⟨r,h⟩ ⟨i,h2⟩
   ·have key:∀r:Fin 4,(A4.getD r.val []).length=4:=by decide
    have:=key ⟨r,h⟩
    right;right;left
    rw [List.getD_eq_getElem?_getD,List.getElem?_eq_none (by simp only at this;omega)];rfl
  ·right;right;left
   have:A4.getD r []=[]:=by rw [List.getD_eq_getElem?_getD,List.getElem?_eq_none (by show 4≤r;exact h)];rfl
   rw [this];rfl
 ·unfold par;split<;>omega
theorem andw (p q:Nat) (h:p<2 ^ 62) (h2:q<2 ^ 62):IntKind.i64.wrap ((BitVec.ofInt IntKind.i64.bits (p:Int) &&& BitVec.ofInt IntKind.i64.bits (q:Int)).toNat:Nat)=((p &&& q:Nat):Int):=by
 have e1:(BitVec.ofInt IntKind.i64.bits (p:Int)).toNat=p:=by simp only [IntKind.bits,BitVec.toNat_ofInt];omega
 have e2:(BitVec.ofInt IntKind.i64.bits (q:Int)).toNat=q:=by simp only [IntKind.bits,BitVec.toNat_ofInt];omega
 rw [BitVec.toNat_and,e1,e2]
 have:=Nat.and_le_left (n:=p) (m:=q)
 exact wrap64 _ (by omega)
def mg (n:Nat) (back:Bool) (r i:Nat):Int:=if back then mx n i r else mx n r i
theorem mg_val (n:Nat) (back:Bool) (r i:Nat):mg n back r i=-2∨mg n back r i=-1∨mg n back r i=0∨mg n back r i=1∨mg n back r i=2:=by unfold mg;split<;>exact mx_val _ _ _
def halfM (n:Nat) (g:Nat→Nat→Int) (l:List Int) (r k:Nat):Int:=sumF (fun i=>g r i*l.getD (i*n+k) 0) n
def fullM (n:Nat) (g:Nat→Nat→Int) (l:List Int) (r k:Nat):Int:=sumF (fun i=>halfM n g l r i*g k i) n
def mulM (n:Nat) (g:Nat→Nat→Int) (l:List Int):List Int:=tabL (fun q=>fullM n g l (q/n) (q%n)) (n*n)
theorem in_getZ {l:List Int} {c:Int} (h:In l (-c) c) (hc:0≤c) (k:Nat):-c≤l.getD k 0∧l.getD k 0≤c:=by
 rcases Nat.lt_or_ge k l.length with h1|h1
 ·exact in_get h h1
 ·rw [List.getD_eq_getElem?_getD,List.getElem?_eq_none h1,Option.getD_none];omega
theorem half_bd {n:Nat} {g:Nat→Nat→Int} {l:List Int} {c:Int} (hg:∀r i,g r i=-2∨g r i=-1∨g r i=0∨g r i=1∨g r i=2) (h:In l (-c) c) (hc:0≤c) (r k i:Nat):
 -(i*(2*c))≤sumF (fun i=>g r i*l.getD (i*n+k) 0) i∧sumF (fun i=>g r i*l.getD (i*n+k) 0) i≤i*(2*c):=
 sumF_bd (by omega) i fun j _=>mul2 (hg r j) (in_getZ h hc _) hc
end Go.Proofs.YtainhhfnnclfiaaGreat


namespace Go.Proofs.YtainhhfnnclfiaaGreat
open Go Go.Abs
attribute [local irreducible] WpA WpL Rnd Blk Abs.Seq Abs.Fin Abs.FinG FnC FnG Only
theorem tabL_snoc (f:Nat→Int) (k:Nat):tabL f (k+1)=tabL f k++[f k]:=by simp [tabL,List.range_succ]
def H8:List (List Int):=(List.range 8).map fun r=>tabL (mx 8 r) 8
instance matrixA_c:Con 253 (Fn 253 [] [⟨rows liF A4,0,1,some 32⟩] (.own 0 0 0 4)):=⟨by
 refine FnC.of_body tabOk Tryz.func253 Tryz.ntmps253 rfl (by decide +kernel) (by simp) fun G=>?_
 refine go (r:=?_);and_intros<;>intros<;>try exact True.intro
 all_goals rfl⟩
end Go.Proofs.YtainhhfnnclfiaaGreat


namespace Go.Proofs.YtainhhfnnclfiaaGreat
open Go Go.Abs
theorem goR {P R:Prop} (h:(Hold R→P)∧IsT R:=by
 refine And.intro ?_ ?_
 ·intro hold
  repeat' (first
  |(refine K.L ?_;first
   |(refine K.mv ?_;refine WpL.move rfl (by decide) ?_)
   |(refine K.asg ?_;refine WpL.assign rfl (by decide) ?_)
   |(refine K.bin ?_;first
    |refine WpL.add rfl rfl (by omega) (by decide) ?_
    |refine WpL.sub rfl rfl (by omega) (by decide) ?_
    |refine WpL.mul rfl rfl (by first|omega|exact mul_in (by omega) (by omega)|assumption) (by decide) ?_
    |refine WpL.quo rfl rfl (by omega) (by decide) ?_
    |refine WpL.rem rfl rfl (by omega) (by decide) ?_
    |refine WpL.bin rfl rfl rfl (by decide) ?_
    |refine WpL.strNe rfl rfl (by decide) ?_
    |refine WpL.nilEq (TabOk.slice tabOk rfl).1 rfl rfl (by decide) ?_
    |refine WpL.immEq (TabOk.slice tabOk rfl).1 rfl rfl (by decide) (fun hgo=>?_) ?_
    |refine WpL.ownEq (TabOk.slice tabOk rfl).1 rfl rfl rfl (by first|rfl|omega|(simp;done)|(simp;omega)) rfl (by decide) ?_
    |refine WpL.shl rfl rfl (by first|decide|(simp only [IntKind.bits];omega)) (by decide) ?_
    |refine WpL.shr rfl rfl (by first|decide|(simp only [IntKind.bits];omega)) (by decide) ?_)
   |(refine K.ld ?_;first
    |refine WpL.loadInts tabOk rfl rfl rfl (by first|omega|(simp;omega)) (by decide) ?_
    |refine WpL.loadU8s tabOk rfl rfl rfl (by first|omega|(simp;omega)) (by decide) ?_
    |refine WpL.loadStrs tabOk rfl rfl rfl (by first|omega|(simp;omega)) (by decide) ?_
    |refine WpL.loadBools tabOk rfl rfl rfl (by first|omega|(simp;omega)) (by decide) ?_
    |refine WpL.loadRow tabOk rfl rfl (fun _=>rfl) (fun _=>rfl) (by first|rfl|omega|(simp;done)|(simp;omega)) (by decide) rfl ?_
    |refine WpL.loadField tabOk rfl rfl rfl (fun _=>rfl) rfl rfl (by first|rfl|omega|(simp;done)|(simp;omega)) (by decide) ?_
    |refine WpL.loadOwn tabOk rfl rfl rfl rfl (fun _=>rfl) rfl (by first|rfl|omega|(simp;done)|(simp;omega)) (by decide) rfl ?_
    |refine WpL.load1 tabOk rfl rfl rfl rfl rfl (by decide) ?_
    |refine WpL.loadAgg (ds:=[_]) tabOk rfl rfl rfl rfl rfl (by decide) ?_
    |refine WpL.loadAgg (ds:=[_,_]) tabOk rfl rfl rfl rfl rfl (by decide) ?_
    |refine WpL.loadAgg (ds:=[_,_,_]) tabOk rfl rfl rfl rfl rfl (by decide) ?_
    |refine WpL.loadAgg (ds:=[_,_,_,_]) tabOk rfl rfl rfl rfl rfl (by decide) ?_
    |refine WpL.loadAgg (ds:=[_,_,_,_,_]) tabOk rfl rfl rfl rfl rfl (by decide) ?_
    |refine WpL.loadAgg (ds:=[_,_,_,_,_,_]) tabOk rfl rfl rfl rfl rfl (by decide) ?_
    |refine WpL.loadAgg (ds:=[_,_,_,_,_,_,_]) tabOk rfl rfl rfl rfl rfl (by decide) ?_
    |refine WpL.loadAgg (ds:=[_,_,_,_,_,_,_,_]) tabOk rfl rfl rfl rfl rfl (by decide) ?_
    |refine WpL.loadLi tabOk rfl rfl rfl (by first|rfl|omega|(simp;done)|(simp;omega)) (by decide) ?_
    |refine WpL.loadSlot tabOk rfl rfl rfl rfl (by first|rfl|omega|(simp;done)|(simp;omega)) (by first|omega|(simp;omega)|(simp;done)) rfl (by decide) ?_)
   |(refine K.fld ?_;first
    |refine WpL.fieldI tabOk rfl rfl rfl (by decide) ?_
    |refine WpL.fieldP tabOk rfl rfl rfl rfl rfl (by decide) ?_)
   |(refine K.ixa ?_;first
    |refine WpL.idxI1 tabOk rfl rfl rfl (by omega) (by decide) ?_
    |refine WpL.idxIJ tabOk rfl rfl rfl (by omega) (by decide) ?_
    |refine WpL.idxOJ tabOk rfl rfl rfl rfl rfl (by omega) (by decide) ?_
    |refine WpL.idxIN tabOk rfl rfl rfl (by omega) (by decide) ?_
    |refine WpL.idxI tabOk rfl rfl rfl (by omega) (by decide) ?_
    |refine WpL.idxO tabOk rfl rfl rfl rfl rfl (by omega) (by decide) ?_)
   |(refine K.call ?_;refine K.con (fun hcon=>?_);first
    |(refine WpL.callF (hcon ?_) snapA locA outA rfl rfl rfl (by decide) ?_<;>clear hcon)
    |(refine WpL.callF (hcon) snapA locA outA rfl rfl rfl (by decide) ?_<;>clear hcon)
    |(refine WpL.callF (hcon _ ?_) snapA locA outA rfl rfl rfl (by decide) ?_<;>clear hcon)
    |(refine WpL.callF (hcon _) snapA locA outA rfl rfl rfl (by decide) ?_<;>clear hcon)
    |(refine WpL.callF (hcon _ _ ?_) snapA locA outA rfl rfl rfl (by decide) ?_<;>clear hcon)
    |(refine WpL.callF (hcon _ _) snapA locA outA rfl rfl rfl (by decide) ?_<;>clear hcon)
    |(refine WpL.callF (hcon _ _ _ ?_) snapA locA outA rfl rfl rfl (by decide) ?_<;>clear hcon)
    |(refine WpL.callF (hcon _ _ _) snapA locA outA rfl rfl rfl (by decide) ?_<;>clear hcon)
    |(refine WpL.callF (hcon _ _ _ _ ?_) snapA locA outA rfl rfl rfl (by decide) ?_<;>clear hcon)
    |(refine WpL.callF (hcon _ _ _ _) snapA locA outA rfl rfl rfl (by decide) ?_<;>clear hcon)
    |(refine WpL.callF (hcon _ _ _ _ _ ?_) snapA locA outA rfl rfl rfl (by decide) ?_<;>clear hcon)
    |(refine WpL.callF (hcon _ _ _ _ _) snapA locA outA rfl rfl rfl (by decide) ?_<;>clear hcon)
    |(refine WpL.callF (hcon _ _ _ _ _ _ ?_) snapA locA outA rfl rfl rfl (by decide) ?_<;>clear hcon)
    |(refine WpL.callF (hcon _ _ _ _ _ _) snapA locA outA rfl rfl rfl (by decide) ?_<;>clear hcon)
    |(refine WpL.callF (hcon _ _ _ _ _ _ _ ?_) snapA locA outA rfl rfl rfl (by decide) ?_<;>clear hcon)
    |(refine WpL.callF (hcon _ _ _ _ _ _ _) snapA locA outA rfl rfl rfl (by decide) ?_<;>clear hcon)
    |(refine WpL.callF (hcon _ _ _ _ _ _ _ _ ?_) snapA locA outA rfl rfl rfl (by decide) ?_<;>clear hcon)
    |(refine WpL.callF (hcon _ _ _ _ _ _ _ _) snapA locA outA rfl rfl rfl (by decide) ?_<;>clear hcon)
    |(refine WpL.callF (hcon _ _ _ _ _ _ _ _ _ ?_) snapA locA outA rfl rfl rfl (by decide) ?_<;>clear hcon)
    |(refine WpL.callF (hcon _ _ _ _ _ _ _ _ _) snapA locA outA rfl rfl rfl (by decide) ?_<;>clear hcon)
    |(refine WpL.callF (hcon _ _ _ _ _ _ _ _ _ _ ?_) snapA locA outA rfl rfl rfl (by decide) ?_<;>clear hcon)
    |(refine WpL.callF (hcon _ _ _ _ _ _ _ _ _ _) snapA locA outA rfl rfl rfl (by decide) ?_<;>clear hcon)
    |(refine WpL.callF (hcon _ _ _ _ _ _ _ _ _ _ _ ?_) snapA locA outA rfl rfl rfl (by decide) ?_<;>clear hcon)
    |(refine WpL.callF (hcon _ _ _ _ _ _ _ _ _ _ _) snapA locA outA rfl rfl rfl (by decide) ?_<;>clear hcon)
    |(refine WpL.callF (hcon _ _ _ _ _ _ _ _ _ _ _ _ ?_) snapA locA outA rfl rfl rfl (by decide) ?_<;>clear hcon)
    |(refine WpL.callF (hcon _ _ _ _ _ _ _ _ _ _ _ _) snapA locA outA rfl rfl rfl (by decide) ?_<;>clear hcon)
    |(refine WpL.callF (hcon _ _ _ _ _ _ _ _ _ _ _ _ _ ?_) snapA locA outA rfl rfl rfl (by decide) ?_<;>clear hcon)
    |(refine WpL.callF (hcon _ _ _ _ _ _ _ _ _ _ _ _ _) snapA locA outA rfl rfl rfl (by decide) ?_<;>clear hcon)
    |(refine WpL.callF (hcon _ _ _ _ _ _ _ _ _ _ _ _ _ _ ?_) snapA locA outA rfl rfl rfl (by decide) ?_<;>clear hcon)
    |(refine WpL.callF (hcon _ _ _ _ _ _ _ _ _ _ _ _ _ _) snapA locA outA rfl rfl rfl (by decide) ?_<;>clear hcon)
    |(refine WpL.callF (hcon _ _ _ _ _ _ _ _ _ _ _ _ _ _ _ ?_) snapA locA outA rfl rfl rfl (by decide) ?_<;>clear hcon)
    |(refine WpL.callF (hcon _ _ _ _ _ _ _ _ _ _ _ _ _ _ _) snapA locA outA rfl rfl rfl (by decide) ?_<;>clear hcon)
    |(refine WpL.callF (hcon _ _ _ _ _ _ _ _ _ _ _ _ _ _ _ _ ?_) snapA locA outA rfl rfl rfl (by decide) ?_<;>clear hcon)
    |(refine WpL.callF (hcon _ _ _ _ _ _ _ _ _ _ _ _ _ _ _ _) snapA locA outA rfl rfl rfl (by decide) ?_<;>clear hcon)
    |(refine WpL.callF (hcon _ _ _ _ _ _ _ _ _ _ _ _ _ _ _ _ _ ?_) snapA locA outA rfl rfl rfl (by decide) ?_<;>clear hcon)
    |(refine WpL.callF (hcon _ _ _ _ _ _ _ _ _ _ _ _ _ _ _ _ _) snapA locA outA rfl rfl rfl (by decide) ?_<;>clear hcon)
    |(refine WpL.callF (hcon _ _ _ _ _ _ _ _ _ _ _ _ _ _ _ _ _ _ ?_) snapA locA outA rfl rfl rfl (by decide) ?_<;>clear hcon)
    |(refine WpL.callF (hcon _ _ _ _ _ _ _ _ _ _ _ _ _ _ _ _ _ _) snapA locA outA rfl rfl rfl (by decide) ?_<;>clear hcon))
   |(refine K.call ?_;refine K.conG (fun hcon=>?_);first
    |(refine WpL.callM (hs:=[_]) (hcon ?_) handA handOA rfl rfl outA outA rfl rfl rfl rfl (by decide) ?_<;>clear hcon)
    |(refine WpL.callM (hs:=[_]) (hcon) handA handOA rfl rfl outA outA rfl rfl rfl rfl (by decide) ?_<;>clear hcon)
    |(refine WpL.callM (hs:=[_]) (hcon _ ?_) handA handOA rfl rfl outA outA rfl rfl rfl rfl (by decide) ?_<;>clear hcon)
    |(refine WpL.callM (hs:=[_]) (hcon _) handA handOA rfl rfl outA outA rfl rfl rfl rfl (by decide) ?_<;>clear hcon)
    |(refine WpL.callM (hs:=[_]) (hcon _ _ ?_) handA handOA rfl rfl outA outA rfl rfl rfl rfl (by decide) ?_<;>clear hcon)
    |(refine WpL.callM (hs:=[_]) (hcon _ _) handA handOA rfl rfl outA outA rfl rfl rfl rfl (by decide) ?_<;>clear hcon)
    |(refine WpL.callM (hs:=[_]) (hcon _ _ _ ?_) handA handOA rfl rfl outA outA rfl rfl rfl rfl (by decide) ?_<;>clear hcon)
    |(refine WpL.callM (hs:=[_]) (hcon _ _ _) handA handOA rfl rfl outA outA rfl rfl rfl rfl (by decide) ?_<;>clear hcon)
    |(refine WpL.callM (hs:=[_]) (hcon _ _ _ _ ?_) handA handOA rfl rfl outA outA rfl rfl rfl rfl (by decide) ?_<;>clear hcon)
    |(refine WpL.callM (hs:=[_]) (hcon _ _ _ _) handA handOA rfl rfl outA outA rfl rfl rfl rfl (by decide) ?_<;>clear hcon)
    |(refine WpL.callM (hs:=[_]) (hcon _ _ _ _ _ ?_) handA handOA rfl rfl outA outA rfl rfl rfl rfl (by decide) ?_<;>clear hcon)
    |(refine WpL.callM (hs:=[_]) (hcon _ _ _ _ _) handA handOA rfl rfl outA outA rfl rfl rfl rfl (by decide) ?_<;>clear hcon)
    |(refine WpL.callM (hs:=[_]) (hcon _ _ _ _ _ _ ?_) handA handOA rfl rfl outA outA rfl rfl rfl rfl (by decide) ?_<;>clear hcon)
    |(refine WpL.callM (hs:=[_]) (hcon _ _ _ _ _ _) handA handOA rfl rfl outA outA rfl rfl rfl rfl (by decide) ?_<;>clear hcon)
    |(refine WpL.callM (hs:=[_]) (hcon _ _ _ _ _ _ _ ?_) handA handOA rfl rfl outA outA rfl rfl rfl rfl (by decide) ?_<;>clear hcon)
    |(refine WpL.callM (hs:=[_]) (hcon _ _ _ _ _ _ _) handA handOA rfl rfl outA outA rfl rfl rfl rfl (by decide) ?_<;>clear hcon)
    |(refine WpL.callM (hs:=[_]) (hcon _ _ _ _ _ _ _ _ ?_) handA handOA rfl rfl outA outA rfl rfl rfl rfl (by decide) ?_<;>clear hcon)
    |(refine WpL.callM (hs:=[_]) (hcon _ _ _ _ _ _ _ _) handA handOA rfl rfl outA outA rfl rfl rfl rfl (by decide) ?_<;>clear hcon)
    |(refine WpL.callM (hs:=[_,_]) (hcon ?_) handA handOA rfl rfl outA outA rfl rfl rfl rfl (by decide) ?_<;>clear hcon)
    |(refine WpL.callM (hs:=[_,_]) (hcon) handA handOA rfl rfl outA outA rfl rfl rfl rfl (by decide) ?_<;>clear hcon)
    |(refine WpL.callM (hs:=[_,_]) (hcon _ ?_) handA handOA rfl rfl outA outA rfl rfl rfl rfl (by decide) ?_<;>clear hcon)
    |(refine WpL.callM (hs:=[_,_]) (hcon _) handA handOA rfl rfl outA outA rfl rfl rfl rfl (by decide) ?_<;>clear hcon)
    |(refine WpL.callM (hs:=[_,_]) (hcon _ _ ?_) handA handOA rfl rfl outA outA rfl rfl rfl rfl (by decide) ?_<;>clear hcon)
    |(refine WpL.callM (hs:=[_,_]) (hcon _ _) handA handOA rfl rfl outA outA rfl rfl rfl rfl (by decide) ?_<;>clear hcon)
    |(refine WpL.callM (hs:=[_,_]) (hcon _ _ _ ?_) handA handOA rfl rfl outA outA rfl rfl rfl rfl (by decide) ?_<;>clear hcon)
    |(refine WpL.callM (hs:=[_,_]) (hcon _ _ _) handA handOA rfl rfl outA outA rfl rfl rfl rfl (by decide) ?_<;>clear hcon)
    |(refine WpL.callM (hs:=[_,_]) (hcon _ _ _ _ ?_) handA handOA rfl rfl outA outA rfl rfl rfl rfl (by decide) ?_<;>clear hcon)
    |(refine WpL.callM (hs:=[_,_]) (hcon _ _ _ _) handA handOA rfl rfl outA outA rfl rfl rfl rfl (by decide) ?_<;>clear hcon)
    |(refine WpL.callM (hs:=[_,_]) (hcon _ _ _ _ _ ?_) handA handOA rfl rfl outA outA rfl rfl rfl rfl (by decide) ?_<;>clear hcon)
    |(refine WpL.callM (hs:=[_,_]) (hcon _ _ _ _ _) handA handOA rfl rfl outA outA rfl rfl rfl rfl (by decide) ?_<;>clear hcon)
    |(refine WpL.callM (hs:=[_,_]) (hcon _ _ _ _ _ _ ?_) handA handOA rfl rfl outA outA rfl rfl rfl rfl (by decide) ?_<;>clear hcon)
    |(refine WpL.callM (hs:=[_,_]) (hcon _ _ _ _ _ _) handA handOA rfl rfl outA outA rfl rfl rfl rfl (by decide) ?_<;>clear hcon)
    |(refine WpL.callM (hs:=[_,_]) (hcon _ _ _ _ _ _ _ ?_) handA handOA rfl rfl outA outA rfl rfl rfl rfl (by decide) ?_<;>clear hcon)
    |(refine WpL.callM (hs:=[_,_]) (hcon _ _ _ _ _ _ _) handA handOA rfl rfl outA outA rfl rfl rfl rfl (by decide) ?_<;>clear hcon)
    |(refine WpL.callM (hs:=[_,_]) (hcon _ _ _ _ _ _ _ _ ?_) handA handOA rfl rfl outA outA rfl rfl rfl rfl (by decide) ?_<;>clear hcon)
    |(refine WpL.callM (hs:=[_,_]) (hcon _ _ _ _ _ _ _ _) handA handOA rfl rfl outA outA rfl rfl rfl rfl (by decide) ?_<;>clear hcon)
    |(refine WpL.callM (hs:=[_,_,_]) (hcon ?_) handA handOA rfl rfl outA outA rfl rfl rfl rfl (by decide) ?_<;>clear hcon)
    |(refine WpL.callM (hs:=[_,_,_]) (hcon) handA handOA rfl rfl outA outA rfl rfl rfl rfl (by decide) ?_<;>clear hcon)
    |(refine WpL.callM (hs:=[_,_,_]) (hcon _ ?_) handA handOA rfl rfl outA outA rfl rfl rfl rfl (by decide) ?_<;>clear hcon)
    |(refine WpL.callM (hs:=[_,_,_]) (hcon _) handA handOA rfl rfl outA outA rfl rfl rfl rfl (by decide) ?_<;>clear hcon)
    |(refine WpL.callM (hs:=[_,_,_]) (hcon _ _ ?_) handA handOA rfl rfl outA outA rfl rfl rfl rfl (by decide) ?_<;>clear hcon)
    |(refine WpL.callM (hs:=[_,_,_]) (hcon _ _) handA handOA rfl rfl outA outA rfl rfl rfl rfl (by decide) ?_<;>clear hcon)
    |(refine WpL.callM (hs:=[_,_,_]) (hcon _ _ _ ?_) handA handOA rfl rfl outA outA rfl rfl rfl rfl (by decide) ?_<;>clear hcon)
    |(refine WpL.callM (hs:=[_,_,_]) (hcon _ _ _) handA handOA rfl rfl outA outA rfl rfl rfl rfl (by decide) ?_<;>clear hcon)
    |(refine WpL.callM (hs:=[_,_,_]) (hcon _ _ _ _ ?_) handA handOA rfl rfl outA outA rfl rfl rfl rfl (by decide) ?_<;>clear hcon)
    |(refine WpL.callM (hs:=[_,_,_]) (hcon _ _ _ _) handA handOA rfl rfl outA outA rfl rfl rfl rfl (by decide) ?_<;>clear hcon)
    |(refine WpL.callM (hs:=[_,_,_]) (hcon _ _ _ _ _ ?_) handA handOA rfl rfl outA outA rfl rfl rfl rfl (by decide) ?_<;>clear hcon)
    |(refine WpL.callM (hs:=[_,_,_]) (hcon _ _ _ _ _) handA handOA rfl rfl outA outA rfl rfl rfl rfl (by decide) ?_<;>clear hcon)
    |(refine WpL.callM (hs:=[_,_,_]) (hcon _ _ _ _ _ _ ?_) handA handOA rfl rfl outA outA rfl rfl rfl rfl (by decide) ?_<;>clear hcon)
    |(refine WpL.callM (hs:=[_,_,_]) (hcon _ _ _ _ _ _) handA handOA rfl rfl outA outA rfl rfl rfl rfl (by decide) ?_<;>clear hcon)
    |(refine WpL.callM (hs:=[_,_,_]) (hcon _ _ _ _ _ _ _ ?_) handA handOA rfl rfl outA outA rfl rfl rfl rfl (by decide) ?_<;>clear hcon)
    |(refine WpL.callM (hs:=[_,_,_]) (hcon _ _ _ _ _ _ _) handA handOA rfl rfl outA outA rfl rfl rfl rfl (by decide) ?_<;>clear hcon)
    |(refine WpL.callM (hs:=[_,_,_]) (hcon _ _ _ _ _ _ _ _ ?_) handA handOA rfl rfl outA outA rfl rfl rfl rfl (by decide) ?_<;>clear hcon)
    |(refine WpL.callM (hs:=[_,_,_]) (hcon _ _ _ _ _ _ _ _) handA handOA rfl rfl outA outA rfl rfl rfl rfl (by decide) ?_<;>clear hcon)
    |(refine WpL.callM (hs:=[_,_,_,_]) (hcon ?_) handA handOA rfl rfl outA outA rfl rfl rfl rfl (by decide) ?_<;>clear hcon)
    |(refine WpL.callM (hs:=[_,_,_,_]) (hcon) handA handOA rfl rfl outA outA rfl rfl rfl rfl (by decide) ?_<;>clear hcon)
    |(refine WpL.callM (hs:=[_,_,_,_]) (hcon _ ?_) handA handOA rfl rfl outA outA rfl rfl rfl rfl (by decide) ?_<;>clear hcon)
    |(refine WpL.callM (hs:=[_,_,_,_]) (hcon _) handA handOA rfl rfl outA outA rfl rfl rfl rfl (by decide) ?_<;>clear hcon)
    |(refine WpL.callM (hs:=[_,_,_,_]) (hcon _ _ ?_) handA handOA rfl rfl outA outA rfl rfl rfl rfl (by decide) ?_<;>clear hcon)
    |(refine WpL.callM (hs:=[_,_,_,_]) (hcon _ _) handA handOA rfl rfl outA outA rfl rfl rfl rfl (by decide) ?_<;>clear hcon)
    |(refine WpL.callM (hs:=[_,_,_,_]) (hcon _ _ _ ?_) handA handOA rfl rfl outA outA rfl rfl rfl rfl (by decide) ?_<;>clear hcon)
    |(refine WpL.callM (hs:=[_,_,_,_]) (hcon _ _ _) handA handOA rfl rfl outA outA rfl rfl rfl rfl (by decide) ?_<;>clear hcon)
    |(refine WpL.callM (hs:=[_,_,_,_]) (hcon _ _ _ _ ?_) handA handOA rfl rfl outA outA rfl rfl rfl rfl (by decide) ?_<;>clear hcon)
    |(refine WpL.callM (hs:=[_,_,_,_]) (hcon _ _ _ _) handA handOA rfl rfl outA outA rfl rfl rfl rfl (by decide) ?_<;>clear hcon)
    |(refine WpL.callM (hs:=[_,_,_,_]) (hcon _ _ _ _ _ ?_) handA handOA rfl rfl outA outA rfl rfl rfl rfl (by decide) ?_<;>clear hcon)
    |(refine WpL.callM (hs:=[_,_,_,_]) (hcon _ _ _ _ _) handA handOA rfl rfl outA outA rfl rfl rfl rfl (by decide) ?_<;>clear hcon)
    |(refine WpL.callM (hs:=[_,_,_,_]) (hcon _ _ _ _ _ _ ?_) handA handOA rfl rfl outA outA rfl rfl rfl rfl (by decide) ?_<;>clear hcon)
    |(refine WpL.callM (hs:=[_,_,_,_]) (hcon _ _ _ _ _ _) handA handOA rfl rfl outA outA rfl rfl rfl rfl (by decide) ?_<;>clear hcon)
    |(refine WpL.callM (hs:=[_,_,_,_]) (hcon _ _ _ _ _ _ _ ?_) handA handOA rfl rfl outA outA rfl rfl rfl rfl (by decide) ?_<;>clear hcon)
    |(refine WpL.callM (hs:=[_,_,_,_]) (hcon _ _ _ _ _ _ _) handA handOA rfl rfl outA outA rfl rfl rfl rfl (by decide) ?_<;>clear hcon)
    |(refine WpL.callM (hs:=[_,_,_,_]) (hcon _ _ _ _ _ _ _ _ ?_) handA handOA rfl rfl outA outA rfl rfl rfl rfl (by decide) ?_<;>clear hcon)
    |(refine WpL.callM (hs:=[_,_,_,_]) (hcon _ _ _ _ _ _ _ _) handA handOA rfl rfl outA outA rfl rfl rfl rfl (by decide) ?_<;>clear hcon))
   |(refine K.call ?_;refine K.conB (fun hcon=>?_);first
    |(refine WpL.callB (hcon ?_) snapA locA outA locA outA rfl rfl rfl rfl rfl (by decide) ?_ ?_<;>clear hcon)
    |(refine WpL.callB (hcon) snapA locA outA locA outA rfl rfl rfl rfl rfl (by decide) ?_ ?_<;>clear hcon)
    |(refine WpL.callB (hcon _ ?_) snapA locA outA locA outA rfl rfl rfl rfl rfl (by decide) ?_ ?_<;>clear hcon)
    |(refine WpL.callB (hcon _) snapA locA outA locA outA rfl rfl rfl rfl rfl (by decide) ?_ ?_<;>clear hcon)
    |(refine WpL.callB (hcon _ _ ?_) snapA locA outA locA outA rfl rfl rfl rfl rfl (by decide) ?_ ?_<;>clear hcon)
    |(refine WpL.callB (hcon _ _) snapA locA outA locA outA rfl rfl rfl rfl rfl (by decide) ?_ ?_<;>clear hcon)
    |(refine WpL.callB (hcon _ _ _ ?_) snapA locA outA locA outA rfl rfl rfl rfl rfl (by decide) ?_ ?_<;>clear hcon)
    |(refine WpL.callB (hcon _ _ _) snapA locA outA locA outA rfl rfl rfl rfl rfl (by decide) ?_ ?_<;>clear hcon)
    |(refine WpL.callB (hcon _ _ _ _ ?_) snapA locA outA locA outA rfl rfl rfl rfl rfl (by decide) ?_ ?_<;>clear hcon)
    |(refine WpL.callB (hcon _ _ _ _) snapA locA outA locA outA rfl rfl rfl rfl rfl (by decide) ?_ ?_<;>clear hcon)
    |(refine WpL.callB (hcon _ _ _ _ _ ?_) snapA locA outA locA outA rfl rfl rfl rfl rfl (by decide) ?_ ?_<;>clear hcon)
    |(refine WpL.callB (hcon _ _ _ _ _) snapA locA outA locA outA rfl rfl rfl rfl rfl (by decide) ?_ ?_<;>clear hcon)
    |(refine WpL.callB (hcon _ _ _ _ _ _ ?_) snapA locA outA locA outA rfl rfl rfl rfl rfl (by decide) ?_ ?_<;>clear hcon)
    |(refine WpL.callB (hcon _ _ _ _ _ _) snapA locA outA locA outA rfl rfl rfl rfl rfl (by decide) ?_ ?_<;>clear hcon)
    |(refine WpL.callB (hcon _ _ _ _ _ _ _ ?_) snapA locA outA locA outA rfl rfl rfl rfl rfl (by decide) ?_ ?_<;>clear hcon)
    |(refine WpL.callB (hcon _ _ _ _ _ _ _) snapA locA outA locA outA rfl rfl rfl rfl rfl (by decide) ?_ ?_<;>clear hcon)
    |(refine WpL.callB (hcon _ _ _ _ _ _ _ _ ?_) snapA locA outA locA outA rfl rfl rfl rfl rfl (by decide) ?_ ?_<;>clear hcon)
    |(refine WpL.callB (hcon _ _ _ _ _ _ _ _) snapA locA outA locA outA rfl rfl rfl rfl rfl (by decide) ?_ ?_<;>clear hcon))
   |(refine K.call ?_;refine K.conP (fun hcon=>?_);first
    |(refine WpL.callP (hs:=[_]) (hcon ?_) (by assumption) handA handOA rfl rfl (.cons rfl (.sc (.sc (.sc .nil))) .nil) outA rfl rfl rfl rfl (by decide) ?_<;>clear hcon)
    |(refine WpL.callP (hs:=[_]) (hcon) (by assumption) handA handOA rfl rfl (.cons rfl (.sc (.sc (.sc .nil))) .nil) outA rfl rfl rfl rfl (by decide) ?_<;>clear hcon)
    |(refine WpL.callP (hs:=[_]) (hcon _ ?_) (by assumption) handA handOA rfl rfl (.cons rfl (.sc (.sc (.sc .nil))) .nil) outA rfl rfl rfl rfl (by decide) ?_<;>clear hcon)
    |(refine WpL.callP (hs:=[_]) (hcon _) (by assumption) handA handOA rfl rfl (.cons rfl (.sc (.sc (.sc .nil))) .nil) outA rfl rfl rfl rfl (by decide) ?_<;>clear hcon)
    |(refine WpL.callP (hs:=[_]) (hcon _ _ ?_) (by assumption) handA handOA rfl rfl (.cons rfl (.sc (.sc (.sc .nil))) .nil) outA rfl rfl rfl rfl (by decide) ?_<;>clear hcon)
    |(refine WpL.callP (hs:=[_]) (hcon _ _) (by assumption) handA handOA rfl rfl (.cons rfl (.sc (.sc (.sc .nil))) .nil) outA rfl rfl rfl rfl (by decide) ?_<;>clear hcon)
    |(refine WpL.callP (hs:=[_]) (hcon _ _ _ ?_) (by assumption) handA handOA rfl rfl (.cons rfl (.sc (.sc (.sc .nil))) .nil) outA rfl rfl rfl rfl (by decide) ?_<;>clear hcon)
    |(refine WpL.callP (hs:=[_]) (hcon _ _ _) (by assumption) handA handOA rfl rfl (.cons rfl (.sc (.sc (.sc .nil))) .nil) outA rfl rfl rfl rfl (by decide) ?_<;>clear hcon)
    |(refine WpL.callP (hs:=[_]) (hcon _ _ _ _ ?_) (by assumption) handA handOA rfl rfl (.cons rfl (.sc (.sc (.sc .nil))) .nil) outA rfl rfl rfl rfl (by decide) ?_<;>clear hcon)
    |(refine WpL.callP (hs:=[_]) (hcon _ _ _ _) (by assumption) handA handOA rfl rfl (.cons rfl (.sc (.sc (.sc .nil))) .nil) outA rfl rfl rfl rfl (by decide) ?_<;>clear hcon)
    |(refine WpL.callP (hs:=[_]) (hcon _ _ _ _ _ ?_) (by assumption) handA handOA rfl rfl (.cons rfl (.sc (.sc (.sc .nil))) .nil) outA rfl rfl rfl rfl (by decide) ?_<;>clear hcon)
    |(refine WpL.callP (hs:=[_]) (hcon _ _ _ _ _) (by assumption) handA handOA rfl rfl (.cons rfl (.sc (.sc (.sc .nil))) .nil) outA rfl rfl rfl rfl (by decide) ?_<;>clear hcon)
    |(refine WpL.callP (hs:=[_]) (hcon _ _ _ _ _ _ ?_) (by assumption) handA handOA rfl rfl (.cons rfl (.sc (.sc (.sc .nil))) .nil) outA rfl rfl rfl rfl (by decide) ?_<;>clear hcon)
    |(refine WpL.callP (hs:=[_]) (hcon _ _ _ _ _ _) (by assumption) handA handOA rfl rfl (.cons rfl (.sc (.sc (.sc .nil))) .nil) outA rfl rfl rfl rfl (by decide) ?_<;>clear hcon)
    |(refine WpL.callP (hs:=[_]) (hcon _ _ _ _ _ _ _ ?_) (by assumption) handA handOA rfl rfl (.cons rfl (.sc (.sc (.sc .nil))) .nil) outA rfl rfl rfl rfl (by decide) ?_<;>clear hcon)
    |(refine WpL.callP (hs:=[_]) (hcon _ _ _ _ _ _ _) (by assumption) handA handOA rfl rfl (.cons rfl (.sc (.sc (.sc .nil))) .nil) outA rfl rfl rfl rfl (by decide) ?_<;>clear hcon)
    |(refine WpL.callP (hs:=[_]) (hcon _ _ _ _ _ _ _ _ ?_) (by assumption) handA handOA rfl rfl (.cons rfl (.sc (.sc (.sc .nil))) .nil) outA rfl rfl rfl rfl (by decide) ?_<;>clear hcon)
    |(refine WpL.callP (hs:=[_]) (hcon _ _ _ _ _ _ _ _) (by assumption) handA handOA rfl rfl (.cons rfl (.sc (.sc (.sc .nil))) .nil) outA rfl rfl rfl rfl (by decide) ?_<;>clear hcon)
    |(refine WpL.callP (hs:=[_]) (hcon _ _ _ _ _ _ _ _ _ ?_) (by assumption) handA handOA rfl rfl (.cons rfl (.sc (.sc (.sc .nil))) .nil) outA rfl rfl rfl rfl (by decide) ?_<;>clear hcon)
    |(refine WpL.callP (hs:=[_]) (hcon _ _ _ _ _ _ _ _ _) (by assumption) handA handOA rfl rfl (.cons rfl (.sc (.sc (.sc .nil))) .nil) outA rfl rfl rfl rfl (by decide) ?_<;>clear hcon)
    |(refine WpL.callP (hs:=[_]) (hcon _ _ _ _ _ _ _ _ _ _ ?_) (by assumption) handA handOA rfl rfl (.cons rfl (.sc (.sc (.sc .nil))) .nil) outA rfl rfl rfl rfl (by decide) ?_<;>clear hcon)
    |(refine WpL.callP (hs:=[_]) (hcon _ _ _ _ _ _ _ _ _ _) (by assumption) handA handOA rfl rfl (.cons rfl (.sc (.sc (.sc .nil))) .nil) outA rfl rfl rfl rfl (by decide) ?_<;>clear hcon))
   |(refine K.callT ?_;refine K.conV rfl (fun hcon=>?_);first
    |(refine WpL.callVF rfl (hcon _ _ _ _ _ _ _ _ _ _ _ _) rfl snapA locA outA rfl rfl rfl (by decide) ?_<;>clear hcon))
   |(refine K.mkF ?_;refine WpL.makeFunc rfl (by decide) ?_)
   |(refine K.bi ?_;first
    |(refine K.blen ?_;first
     |refine WpL.lenImm (TabOk.slice tabOk rfl).1 rfl (by decide) ?_
     |refine WpL.lenOwn (TabOk.slice tabOk rfl).1 rfl rfl rfl (by decide) ?_)
    |(refine K.bapp ?_;first
     |refine WpL.app1Ints tabOk rfl rfl rfl (by first|exact Nat.zero_le _|exact Nat.le_of_ble_eq_true rfl) rfl rfl (by first|rfl|omega|(simp;done)|(simp;omega)) (by omega) (by decide) ?_
     |refine WpL.appInts tabOk rfl rfl rfl (by first|exact Nat.zero_le _|exact Nat.le_of_ble_eq_true rfl) rfl rfl (by first|rfl|omega|(simp;done)|(simp;omega)) (by first|rfl|omega|(simp;done)|(simp;omega)) (by omega) (by decide) ?_
     |refine WpL.nil1Ints tabOk rfl rfl rfl rfl (by omega) rfl (by decide) ?_
     |refine WpL.appRow (f:=prF) (v:=(_,_)) tabOk rfl rfl rfl (by first|exact Nat.zero_le _|exact Nat.le_of_ble_eq_true rfl) rfl rfl (fun _=>rfl) rfl rfl (by first|rfl|omega|(simp;done)|(simp;omega)) (by omega) (by decide) ?_
     |refine WpL.appRow (f:=plF) (v:=(_,_,_)) tabOk rfl rfl rfl (by first|exact Nat.zero_le _|exact Nat.le_of_ble_eq_true rfl) rfl rfl (fun _=>rfl) rfl rfl (by first|rfl|omega|(simp;done)|(simp;omega)) (by omega) (by decide) ?_
     |refine WpL.appOwn tabOk rfl rfl rfl rfl rfl rfl (by simp) (by first|exact Nat.zero_le _|exact Nat.le_of_ble_eq_true rfl) rfl rfl (by simp) (by simp [all_ints,all_u8s,all_strs,oneB,Value.oneCell']) (by omega) (by decide) ?_
     |refine WpL.appNil tabOk rfl rfl rfl rfl (by simp) (by simp [all_ints,all_u8s,all_strs,oneB,Value.oneCell']) (by omega) rfl (by decide) ?_)
    |refine WpL.min2 rfl rfl (by decide) ?_
    |refine WpL.max2 rfl rfl (by decide) ?_)
   |(refine K.un ?_;first
    |refine WpL.not rfl (by decide) ?_
    |refine WpL.neg rfl (by omega) (by decide) ?_)
   |(refine K.pick ?_;first
    |refine WpL.pickT rfl rfl (by decide) ?_
    |refine WpL.pickF rfl rfl (by decide) ?_)
   |(refine K.bld ?_;refine WpL.build tabOk rfl rfl (by kernel_rfl) (by decide) ?_)
   |(refine K.ext ?_;refine WpL.extract rfl rfl (by first|decide|simp [AV.shL]) (by decide) ?_)
   |(refine K.cv ?_;first
    |refine WpL.conv (P:=Tryz.prog) (by rfl) (K.tyInt tabOk rfl) rfl (by decide) ?_)
   |(refine K.lit ?_;first
    |refine WpL.lit0Ints tabOk rfl rfl rfl (by decide) ?_
    |refine WpL.litInts tabOk rfl rfl rfl rfl rfl (by decide) rfl (by decide) ?_
    |refine WpL.litStrs tabOk rfl rfl rfl rfl rfl (by decide) rfl (by decide) ?_
    |(apply WpL.litLis tabOk
      ·exact rfl
      ·exact rfl
      ·exact rfl
      ·exact rfl
      ·decide
      ·exact rfl
      ·exact rfl
      ·exact rfl
      ·decide
      ·repeat' (first
        |exact NestC.nil
        |(apply NestC.cons
          ·exact rfl
          ·exact rfl
          ·exact rfl
          ·exact rfl
          ·first|exact Nat.zero_le _|exact Nat.le_of_ble_eq_true rfl
          ·exact rfl
          ·first|rfl|exact still_ints _
          ·first|rfl|simp
          ·exact rfl))
      ·exact rfl
      ·exact rfl)
    |refine WpL.litF tabOk rfl rfl rfl rfl (by decide) rfl (by decide) ?_)
   |(refine K.ms ?_;first
    |refine WpL.makeInts tabOk rfl rfl rfl (by omega) (by omega) rfl (by decide) ?_)
   |(refine K.st ?_;first
    |refine WpL.storeInts tabOk rfl rfl rfl rfl rfl (by first|omega|(simp;omega)) ?_
    |refine WpL.storeSlot tabOk rfl rfl rfl rfl rfl rfl (by first|rfl|omega|(simp;done)|(simp;omega)) (by first|omega|(simp;omega)|(simp;done)) ?_
    |refine WpL.storeS tabOk rfl rfl rfl rfl rfl rfl rfl rfl (by first|decide|omega|(simp;omega)|(simp;done)) (by first|(simp only [Go.Abs.setL,List.set_cons_zero,List.set_cons_succ,Nat.zero_add,Nat.reduceAdd];exact rfl)|exact rfl) ?_)
   |(refine K.all ?_;first
    |refine WpL.allocStruct tabOk rfl rfl (by decide) ?_
    |refine WpL.allocPlain tabOk rfl rfl rfl (by decide) ?_)
   |(refine K.box ?_;refine WpL.box rfl rfl rfl (by decide) ?_)
   |(refine K.nc ?_;first
    |refine WpL.nilCheckP rfl rfl rfl (by decide) ?_)
   |(refine K.sl ?_;first
    |refine WpL.subIntsHi tabOk rfl rfl rfl (by first|rfl|omega|(simp;done)|(simp;omega)) (by omega) (by decide) ?_
    |refine WpL.subImm tabOk rfl rfl (by first|exact .inl ⟨rfl,rfl⟩|exact .inr ⟨_,_,rfl,rfl⟩) (by first|exact .inl ⟨rfl,rfl⟩|exact .inr ⟨_,_,rfl,rfl⟩) (by omega) (by decide) ?_)
   |(refine K.gd ?_;first
    |refine K.gT rfl (by decide) rfl ?_
    |refine K.gF rfl (by decide) rfl ?_
    |(refine K.gD rfl rfl (fun hgo=>?_) (fun hgo=>?_)<;>(try (first|contradiction|(exfalso;omega))))
    |(refine K.gN rfl rfl (fun hgo=>?_) (fun hgo=>?_)<;>(try (first|contradiction|(exfalso;omega)))))
   |((repeat (revert hgo));(repeat ((fail_if_success with_reducible apply Hold.h hold);replace hold:=Hold.t hold));with_reducible apply Hold.h hold))
  |refine WpL.nil ?_
  |refine Abs.Seq.n ?_
  |(refine K.A ?_;first
   |refine WpA.seq ?_
   |refine WpA.regionF rfl ?_
   |(refine K.cond ?_;first
    |refine WpA.condT rfl ?_
    |refine WpA.condF rfl ?_
    |(refine WpA.condD rfl (fun hgo=>?_) (fun hgo=>?_)<;>(try (first|contradiction|(exfalso;omega))))
    |(refine WpA.condN rfl (fun hgo=>?_) (fun hgo=>?_)<;>(try (first|contradiction|(exfalso;omega))))
    |(refine WpA.condS rfl (fun hgo=>?_) (fun hgo=>?_)<;>(try (first|contradiction|(exfalso;omega)))))
   |refine WpA.block ?_
   |refine WpA.ret ?_
   |refine WpA.exit ?_
   |refine WpA.skip ?_
   |(refine K.loop ?_;((repeat (revert hgo));(repeat ((fail_if_success with_reducible apply Hold.h hold);replace hold:=Hold.t hold));with_reducible apply Hold.h hold))
   |((repeat (revert hgo));(repeat ((fail_if_success with_reducible apply Hold.h hold);replace hold:=Hold.t hold));with_reducible apply Hold.h hold))
  |(refine K.RT ?_;first
   |exact ReT.nil
   |refine ReT.same rfl rfl ?_
   |refine ReT.own rfl rfl rfl rfl rfl rfl (by first|rfl|omega|(simp;done)|(simp;omega)) ?_
   |refine ReT.i rfl ?_ ?_
   |refine ReT.ptr rfl rfl rfl rfl rfl ?_
   |refine ReT.gen ?_ ?_)
  |(refine TrueB.mk ?_;kernel_rfl)
  |(apply K.eq;first|exact rfl|omega|assumption|(simp;done)|(simp;omega)|(exact absurd (by simp;done) ‹¬ _›)|((repeat (revert hgo));(repeat ((fail_if_success with_reducible apply Hold.h hold);replace hold:=Hold.t hold));with_reducible apply Hold.h hold))
  |(refine K.le ?_;first|omega|(simp;omega)|assumption|((repeat (revert hgo));(repeat ((fail_if_success with_reducible apply Hold.h hold);replace hold:=Hold.t hold));with_reducible apply Hold.h hold))
  |(refine K.lt ?_;first|omega|(simp;omega)|assumption|((repeat (revert hgo));(repeat ((fail_if_success with_reducible apply Hold.h hold);replace hold:=Hold.t hold));with_reducible apply Hold.h hold))
  |refine And.intro ?_ ?_
  |(refine K.RO ?_;first
   |exact ReO.nil
   |refine ReO.ints ?_ (by first|exact .inl rfl|exact .inr rfl) ?_
   |refine ReO.rows (fun _=>rfl) ?_ (by first|exact .inl rfl|exact .inr rfl) ?_
   |refine ReO.cons (Re.same rfl rfl) (by first|exact .inl rfl|exact .inr rfl) ?_
   |refine ReO.cons ?_ (by first|exact .inl rfl|exact .inr rfl) ?_)
  |(refine K.W ?_;first
   |refine Weak.mk ?_ ?_ (by first|exact Nat.zero_le _|exact Nat.le_of_ble_eq_true rfl))
  |refine Abs.Seq.ret ?_
  |refine Abs.Seq.exit ?_
  |refine Blk.n ?_
  |refine Blk.ret ?_
  |refine Blk.exitHere ?_
  |(refine K.R ?_;first
   |refine Rnd.ret ?_
   |refine Rnd.exit ?_
   |refine Rnd.succ ?_ ?_ ?_
   |((repeat (revert hgo));(repeat ((fail_if_success with_reducible apply Hold.h hold);replace hold:=Hold.t hold));with_reducible apply Hold.h hold))
  |(refine K.F ?_;first
   |apply Fin.one0
   |apply Fin.one1
   |apply Fin.one2
   |apply Fin.two0
   |apply Fin.two1
   |((repeat (revert hgo));(repeat ((fail_if_success with_reducible apply Hold.h hold);replace hold:=Hold.t hold));with_reducible apply Hold.h hold))
  |(refine K.FG ?_;first
   |apply FinG.o10
   |apply FinG.o11
   |apply FinG.z10
   |((repeat (revert hgo));(repeat ((fail_if_success with_reducible apply Hold.h hold);replace hold:=Hold.t hold));with_reducible apply Hold.h hold))
  |exact ResV.tmp rfl
  |exact ResV.cellP rfl rfl rfl rfl rfl
  |exact ResV.cell (ds:=[_]) rfl rfl rfl rfl rfl
  |exact ResV.cell (ds:=[_,_]) rfl rfl rfl rfl rfl
  |exact ResV.cell (ds:=[_,_,_]) rfl rfl rfl rfl rfl
  |exact ResV.cell (ds:=[_,_,_,_]) rfl rfl rfl rfl rfl
  |exact ResV.cell (ds:=[_,_,_,_,_]) rfl rfl rfl rfl rfl
  |exact ResV.cell (ds:=[_,_,_,_,_,_]) rfl rfl rfl rfl rfl
  |exact ResV.cell (ds:=[_,_,_,_,_,_,_]) rfl rfl rfl rfl rfl
  |exact ResV.cell (ds:=[_,_,_,_,_,_,_,_]) rfl rfl rfl rfl rfl
  |(refine K.E ?_;first
   |exact Ex.nil
   |refine Ex.keep rfl rfl rfl ?_
   |refine Ex.own rfl rfl rfl rfl ?_
   |refine Ex.own rfl rfl rfl ?_ ?_
   |refine Ex.nilO rfl ?_
   |refine Ex.nilO' rfl ?_ ?_
   |refine Ex.agg ?_ ?_
   |refine Ex.tup ?_ ?_
   |refine Ex.i ?_ ?_
   |refine Ex.b ?_ ?_
   |refine Ex.z ?_ ?_)
  |(refine K.NE ?_;first
   |exact NEx.nil
   |refine NEx.ints rfl ?_ ?_
   |refine NEx.noInts ?_ ?_
   |refine NEx.intsN rfl ?_ ?_
   |refine NEx.rows (fun _=>rfl) rfl ?_ ?_
   |refine NEx.gone ?_ rfl ?_
   |refine NEx.obj rfl ?_ rfl rfl rfl (.inr rfl) ?_)
  |exact Re.nil
  |refine Re.keep rfl rfl ?_
  |refine Re.fn rfl ?_
  |refine Re.own rfl rfl rfl rfl rfl (by first|rfl|omega|(simp;done)|(simp;omega)) ?_
  |refine Re.ptr rfl rfl rfl rfl ?_
  |refine Re.agg ?_ ?_
  |refine Re.tup ?_ ?_
  |refine Re.i ?_ ?_
  |exact rfl
  |omega
  |(refine fun hgo=>?_)
  |(simp;done)
  |(simp;omega)
  |((repeat (revert hgo));(repeat ((fail_if_success with_reducible apply Hold.h hold);replace hold:=Hold.t hold));with_reducible apply Hold.h hold))
  all_goals (try ((repeat (revert hgo));(repeat ((fail_if_success with_reducible apply Hold.h hold);replace hold:=Hold.t hold));with_reducible apply Hold.h hold))
  all_goals exact True
 ·first|exact IsT.t|exact IsT.any
 ) (r:R):P:=h.1 ⟨r⟩
end Go.Proofs.YtainhhfnnclfiaaGreat


namespace Go.Proofs.YtainhhfnnclfiaaGreat
open Go Go.Abs
abbrev XD (l:List Int):AObj:=⟨ints l,1,1,some 3⟩
end Go.Proofs.YtainhhfnnclfiaaGreat


namespace Go.Proofs.YtainhhfnnclfiaaGreat
open Go Go.Abs
attribute [local irreducible] WpA WpL Rnd Blk Abs.Seq Abs.Fin Abs.FinG FnC FnG Only
abbrev fh (n:Nat) (g:Nat→Nat→Int) (l:List Int) (q:Nat):Int:=halfM n g l (q/n) (q%n)
abbrev fo (n:Nat) (g:Nat→Nat→Int) (l:List Int) (q:Nat):Int:=fullM n g l (q/n) (q%n)
abbrev sh (n:Nat) (g:Nat→Nat→Int) (l:List Int) (r k i:Nat):Int:=sumF (fun i=>g r i*l.getD (i*n+k) 0) i
abbrev so (n:Nat) (g:Nat→Nat→Int) (l:List Int) (r k i:Nat):Int:=sumF (fun i=>halfM n g l r i*g k i) i
theorem divmod {n r k:Nat} (h:k<n):(r*n+k)/n=r∧(r*n+k)%n=k:=by
 have hn:0<n:=by omega
 constructor
 ·rw [Nat.mul_comm,Nat.mul_add_div hn,Nat.div_eq_of_lt h,Nat.add_zero]
 ·rw [Nat.mul_comm,Nat.mul_add_mod,Nat.mod_eq_of_lt h]
theorem mul_huge {a b:Int} (h:-17000000000≤a∧a≤17000000000) (h2:b=-2∨b=-1∨b=0∨b=1∨b=2):-34000000000≤a*b∧a*b≤34000000000:=by
 rcases h2 with rfl|rfl|rfl|rfl|rfl<;>omega
abbrev Sgn (g:Nat→Nat→Int):Prop:=∀r i,g r i=-2∨g r i=-1∨g r i=0∨g r i=1∨g r i=2
theorem half_in {n:Nat} {g:Nat→Nat→Int} {l:List Int} (hg:Sgn g) (hl:In l (-1000000000) 1000000000) (hn:n≤8) (r k:Nat):-17000000000≤halfM n g l r k∧halfM n g l r k≤17000000000:=by
 have:=half_bd (n:=n) (g:=g) (l:=l) (c:=1000000000) hg hl (by omega) r k n
 unfold halfM;omega
theorem so_bd {n:Nat} {g:Nat→Nat→Int} {l:List Int} (hg:Sgn g) (hl:In l (-1000000000) 1000000000) (hn:n≤8) (r k i:Nat):-(i*34000000000)≤so n g l r k i∧so n g l r k i≤i*34000000000:=
 sumF_bd (by omega) i fun j _=>mul_huge (half_in hg hl hn r j) (hg k j)
abbrev RowsOk (n:Nat) (g:Nat→Nat→Int) (M:List (List Int)):Prop:=M.length=n∧(∀ r,r<n→(M.getD r default).length=n)∧∀r i,r<n→i<n→(M.getD r default).getD i 0=g r i
def prodL (n:Nat) (g:Nat→Nat→Int) (l:List Int):List Int:=if l.length=n*n∧In l (-1000000000) 1000000000 then mulM n g l else []
theorem prodL_len (n:Nat) (g:Nat→Nat→Int) (l:List Int):(prodL n g l).length=if l.length=n*n∧In l (-1000000000) 1000000000 then n*n else 0:=by
 unfold prodL;split
 ·exact tabL_len _ _
 ·rfl
abbrev LLn (n:Nat) (M:List (List Int)):AV:=.imm 1 n (rows liI M)
theorem product_4 (g:Nat→Nat→Int) (M:List (List Int)) (l:List Int) (hg:Sgn g) (hM:RowsOk 4 g M) (hl:l.length≤1099511627776):Fn 252 [LLn 4 M,IL l] [XI (prodL 4 g l)] (.own 0 0 0 (prodL 4 g l).length):=by
 obtain ⟨hM1,hM2,hM3⟩:=hM
 have hpl:=prodL_len 4 g l
 by_cases h:l.length=16∧In l (-1000000000) 1000000000
 ·obtain ⟨h1,h2⟩:=id h
  have e:prodL 4 g l=tabL (fo 4 g l) 16:=by rw [prodL,if_pos h];rfl
  refine FnC.of_body tabOk Tryz.func252 Tryz.ntmps252 rfl (by decide +kernel) (by simp) fun G=>?_
  refine goR (r:=?_);and_intros<;>intros<;>try exact True.intro
  all_goals first|(exfalso;omega)|(exact absurd h2 (by assumption))|skip
  apply WpA.regionQ0 (O1:=[XD (List.replicate 16 0),XD (List.replicate 16 0),deadO,deadO]) 9 2 mixed (by decide +kernel)
  ·exact rfl
  ·apply HeadQ.consF .none rfl
   ·exact rfl
   ·exact in1
   ·exact rfl
   ·exact rfl
   apply HeadQ.consF .none rfl
   ·exact rfl
   ·exact in1
   ·exact rfl
   ·exact rfl
   apply HeadQ.consF .none rfl
   ·exact rfl
   ·exact in1
   ·exact rfl
   ·exact rfl
   apply HeadQ.consF (V:=.own 0 1 0 16) (.put 0 (XD (List.replicate 16 0))) rfl
   ·exact rfl
   ·intro Tv Ov hc hp hd hk
    refine WpL.makeInts tabOk rfl rfl rfl (by decide) (by decide) (by rw [nid_len,Nat.zero_add]) (by decide) ?_
    apply WpL.putNil (p:=0)
    ·exact hp 0 _ rfl
    ·exact Nat.zero_le _
    ·exact rfl
    ·first|exact still_ints _|exact still_rows (fun _=>rfl) _|rfl
   ·exact rfl
   ·exact rfl
   apply HeadQ.consF .none rfl
   ·exact rfl
   ·exact in1
   ·exact rfl
   ·exact rfl
   apply HeadQ.consF .none rfl
   ·exact rfl
   ·exact in1
   ·exact rfl
   ·exact rfl
   apply HeadQ.consF .none rfl
   ·exact rfl
   ·exact in1
   ·exact rfl
   ·exact rfl
   apply HeadQ.consF (V:=.own 1 1 0 16) (.put 1 (XD (List.replicate 16 0))) rfl
   ·exact rfl
   ·intro Tv Ov hc hp hd hk
    refine WpL.makeInts tabOk rfl rfl rfl (by decide) (by decide) (by rw [nid_len,Nat.zero_add]) (by decide) ?_
    apply WpL.putNil (p:=1)
    ·exact hp 1 _ rfl
    ·exact Nat.zero_le _
    ·exact rfl
    ·first|exact still_ints _|exact still_rows (fun _=>rfl) _|rfl
   ·exact rfl
   ·exact rfl
   apply HeadQ.consF .none rfl
   ·exact rfl
   ·exact in1
   ·exact rfl
   ·exact rfl
   exact HeadQ.nil
  ·exact rfl
  ·exact rfl
  ·exact rfl
  ·exact rfl
  ·exact rfl
  ·exact rfl
  refine go (r:=?_);and_intros<;>intros<;>try exact True.intro
  refine WpA.loop (fun r:Nat=>⟨[(0,LLn 4 M),(1,IL l),(5,I 4),(6,.own 0 1 0 16),(7,.own 1 1 0 16),(35,I 4),(36,I r)],[XD (part (fh 4 g l) 16 (r*4) 0),XD (List.replicate 16 0)]⟩) (fun r=>r≤4) (fun r=>4-r) 0 (by omega) (go (r:=?_)) (fun r hr=>?_)
  ·simp [part_zero]
  have hpl1:=part_len (fh 4 g l) 16 (r*4) 0
  refine go (r:=?_);and_intros<;>intros<;>try exact True.intro
  ·refine WpA.loop (fun k:Nat=>⟨[(0,LLn 4 M),(1,IL l),(5,I 4),(6,.own 0 1 0 16),(7,.own 1 1 0 16),(8,I r),(35,I 4),(36,I r),(39,I 4),(40,I k)],[XD (part (fh 4 g l) 16 (r*4+k) 0),XD (List.replicate 16 0)]⟩) (fun k=>k≤4) (fun k=>4-k) 0 (by omega) (go (r:=?_)) (fun k hk=>?_)
   ·trivial
   have hpl2:=part_len (fh 4 g l) 16 (r*4+k) 0
   refine go (r:=?_);and_intros<;>intros<;>try exact True.intro
   ·refine WpA.loop (fun i:Nat=>⟨[(0,LLn 4 M),(1,IL l),(5,I 4),(6,.own 0 1 0 16),(7,.own 1 1 0 16),(8,I r),(9,I k),(35,I 4),(36,I r),(39,I 4),(40,I k),(43,I 4),(44,I i)],[XD (part (fh 4 g l) 16 (r*4+k) (sh 4 g l r k i)),XD (List.replicate 16 0)]⟩) (fun i=>i≤4) (fun i=>4-i) 0 (by omega) (go (r:=?_)) (fun i hi=>?_)
    ·simp [sumF]
    have hpl3:=part_len (fh 4 g l) 16 (r*4+k) (sh 4 g l r k i)
    have hM2r:=hM2 r
    have hsb:-((i:Int)*(2*1000000000))≤sh 4 g l r k i∧sh 4 g l r k i≤(i:Int)*(2*1000000000):=half_bd (n:=4) (g:=g) (l:=l) (c:=1000000000) hg h2 (by omega) r k i
    have hdm:=divmod (n:=4) (r:=r) (k:=k)
    have hgl:=in_getZ h2 (by decide) (i*4+k)
    have hgg:=mul2 (hg r i) hgl (by decide)
    have hst:sh 4 g l r k (i+1)=sh 4 g l r k i+g r i*l.getD (i*4+k) 0:=rfl
    refine go (r:=?_);and_intros<;>intros<;>try exact True.intro
    ·rename_i hi1
     have hr1:r<4:=by omega
     have hk1:k<4:=by omega
     have e1:((r:Int)*4+k).toNat=r*4+k:=by omega
     have e2:((i:Int)*4+k).toNat=i*4+k:=by omega
     have e3:(M.getD r default).getD i 0=g r i:=hM3 r i hr1 (by omega)
     rw [e1,e2,e3,part_get (by omega),part_set (by omega),wrap64 (g r i*l.getD (i*4+k) 0) (by omega),wrap64 _ (by omega),hst]
    ·have hi1:i=4:=by omega
     subst hi1
     rw [←Nat.add_assoc];exact part_next (by show sh 4 g l r k 4=halfM 4 g l ((r*4+k)/4) ((r*4+k)%4);rw [(hdm (by omega)).1,(hdm (by omega)).2];rfl)
   ·have hk1:k=4:=by omega
    rw [hk1,Nat.succ_mul]
  have hr1:r=4:=by omega
  subst hr1
  have ep:part (fh 4 g l) 16 (4*4) 0=tabL (fh 4 g l) 16:=part_all _ _ _
  rw [ep]
  have hplh:=tabL_len (fh 4 g l) 16
  refine WpA.loop (fun r:Nat=>⟨[(0,LLn 4 M),(5,I 4),(6,.own 0 1 0 16),(7,.own 1 1 0 16),(76,I 4),(77,I r)],[XD (tabL (fh 4 g l) 16),XD (part (fo 4 g l) 16 (r*4) 0)]⟩) (fun r=>r≤4) (fun r=>4-r) 0 (by omega) (go (r:=?_)) (fun r hr=>?_)
  ·simp [part_zero]
  have hpl1:=part_len (fo 4 g l) 16 (r*4) 0
  refine go (r:=?_);and_intros<;>intros<;>try exact True.intro
  ·refine WpA.loop (fun k:Nat=>⟨[(0,LLn 4 M),(5,I 4),(6,.own 0 1 0 16),(7,.own 1 1 0 16),(11,I r),(76,I 4),(77,I r),(80,I 4),(81,I k)],[XD (tabL (fh 4 g l) 16),XD (part (fo 4 g l) 16 (r*4+k) 0)]⟩) (fun k=>k≤4) (fun k=>4-k) 0 (by omega) (go (r:=?_)) (fun k hk=>?_)
   ·trivial
   have hpl2:=part_len (fo 4 g l) 16 (r*4+k) 0
   refine go (r:=?_);and_intros<;>intros<;>try exact True.intro
   ·refine WpA.loop (fun i:Nat=>⟨[(0,LLn 4 M),(5,I 4),(6,.own 0 1 0 16),(7,.own 1 1 0 16),(11,I r),(12,I k),(76,I 4),(77,I r),(80,I 4),(81,I k),(84,I 4),(85,I i)],[XD (tabL (fh 4 g l) 16),XD (part (fo 4 g l) 16 (r*4+k) (so 4 g l r k i))]⟩) (fun i=>i≤4) (fun i=>4-i) 0 (by omega) (go (r:=?_)) (fun i hi=>?_)
    ·simp [sumF]
    have hpl3:=part_len (fo 4 g l) 16 (r*4+k) (so 4 g l r k i)
    have hM2r:=hM2 k
    have hsb:=so_bd (n:=4) hg h2 (by omega) r k i
    have hdm:=divmod (n:=4) (r:=r) (k:=k)
    have hdi:=divmod (n:=4) (r:=r) (k:=i)
    have hgl:=half_in (n:=4) hg h2 (by omega) r i
    have hgg:=mul_huge hgl (hg k i)
    have hst:so 4 g l r k (i+1)=so 4 g l r k i+halfM 4 g l r i*g k i:=rfl
    refine go (r:=?_);and_intros<;>intros<;>try exact True.intro
    ·rename_i hi1
     have hr1:r<4:=by omega
     have hk1:k<4:=by omega
     have e1:((r:Int)*4+k).toNat=r*4+k:=by omega
     have e2:((r:Int)*4+i).toNat=r*4+i:=by omega
     have e3:(M.getD k default).getD i 0=g k i:=hM3 k i hk1 (by omega)
     have e4:(tabL (fh 4 g l) 16).getD (r*4+i) 0=halfM 4 g l r i:=by rw [tabL_get (by omega)];show halfM 4 g l ((r*4+i)/4) ((r*4+i)%4)=_;rw [(hdi (by omega)).1,(hdi (by omega)).2]
     rw [e1,e2,e3,e4,part_get (by omega),part_set (by omega),wrap64 (halfM 4 g l r i*g k i) (by omega),wrap64 _ (by omega),hst]
    ·have hi1:i=4:=by omega
     subst hi1
     rw [←Nat.add_assoc];exact part_next (by show so 4 g l r k 4=fullM 4 g l ((r*4+k)/4) ((r*4+k)%4);rw [(hdm (by omega)).1,(hdm (by omega)).2];rfl)
   ·have hk1:k=4:=by omega
    rw [hk1,Nat.succ_mul]
  all_goals have hr1:r=4:=by omega
  all_goals subst hr1
  all_goals first|(rw [e,tabL_len];done)|(rw [e];exact congrArg _ (part_all _ _ _))|(rw [e];exact part_all _ _ _)
 ·have e:prodL 4 g l=[]:=by rw [prodL,if_neg h]
  refine FnC.of_body tabOk Tryz.func252 Tryz.ntmps252 rfl (by decide +kernel) (by simp) fun G=>?_
  refine goR (r:=?_);and_intros<;>intros<;>try exact True.intro
  all_goals first|(rw [e];done)|(rw [e];rfl)|(exact absurd ⟨by omega,by assumption⟩ h)
theorem product_8 (g:Nat→Nat→Int) (M:List (List Int)) (l:List Int) (hg:Sgn g) (hM:RowsOk 8 g M) (hl:l.length≤1099511627776):Fn 252 [LLn 8 M,IL l] [XI (prodL 8 g l)] (.own 0 0 0 (prodL 8 g l).length):=by
 obtain ⟨hM1,hM2,hM3⟩:=hM
 have hpl:=prodL_len 8 g l
 by_cases h:l.length=64∧In l (-1000000000) 1000000000
 ·obtain ⟨h1,h2⟩:=id h
  have e:prodL 8 g l=tabL (fo 8 g l) 64:=by rw [prodL,if_pos h];rfl
  refine FnC.of_body tabOk Tryz.func252 Tryz.ntmps252 rfl (by decide +kernel) (by simp) fun G=>?_
  refine goR (r:=?_);and_intros<;>intros<;>try exact True.intro
  all_goals first|(exfalso;omega)|(exact absurd h2 (by assumption))|skip
  apply WpA.regionQ0 (O1:=[XD (List.replicate 64 0),XD (List.replicate 64 0),deadO,deadO]) 9 2 mixed (by decide +kernel)
  ·exact rfl
  ·apply HeadQ.consF .none rfl
   ·exact rfl
   ·exact in1
   ·exact rfl
   ·exact rfl
   apply HeadQ.consF .none rfl
   ·exact rfl
   ·exact in1
   ·exact rfl
   ·exact rfl
   apply HeadQ.consF .none rfl
   ·exact rfl
   ·exact in1
   ·exact rfl
   ·exact rfl
   apply HeadQ.consF (V:=.own 0 1 0 64) (.put 0 (XD (List.replicate 64 0))) rfl
   ·exact rfl
   ·intro Tv Ov hc hp hd hk
    refine WpL.makeInts tabOk rfl rfl rfl (by decide) (by decide) (by rw [nid_len,Nat.zero_add]) (by decide) ?_
    apply WpL.putNil (p:=0)
    ·exact hp 0 _ rfl
    ·exact Nat.zero_le _
    ·exact rfl
    ·first|exact still_ints _|exact still_rows (fun _=>rfl) _|rfl
   ·exact rfl
   ·exact rfl
   apply HeadQ.consF .none rfl
   ·exact rfl
   ·exact in1
   ·exact rfl
   ·exact rfl
   apply HeadQ.consF .none rfl
   ·exact rfl
   ·exact in1
   ·exact rfl
   ·exact rfl
   apply HeadQ.consF .none rfl
   ·exact rfl
   ·exact in1
   ·exact rfl
   ·exact rfl
   apply HeadQ.consF (V:=.own 1 1 0 64) (.put 1 (XD (List.replicate 64 0))) rfl
   ·exact rfl
   ·intro Tv Ov hc hp hd hk
    refine WpL.makeInts tabOk rfl rfl rfl (by decide) (by decide) (by rw [nid_len,Nat.zero_add]) (by decide) ?_
    apply WpL.putNil (p:=1)
    ·exact hp 1 _ rfl
    ·exact Nat.zero_le _
    ·exact rfl
    ·first|exact still_ints _|exact still_rows (fun _=>rfl) _|rfl
   ·exact rfl
   ·exact rfl
   apply HeadQ.consF .none rfl
   ·exact rfl
   ·exact in1
   ·exact rfl
   ·exact rfl
   exact HeadQ.nil
  ·exact rfl
  ·exact rfl
  ·exact rfl
  ·exact rfl
  ·exact rfl
  ·exact rfl
  refine go (r:=?_);and_intros<;>intros<;>try exact True.intro
  refine WpA.loop (fun r:Nat=>⟨[(0,LLn 8 M),(1,IL l),(5,I 8),(6,.own 0 1 0 64),(7,.own 1 1 0 64),(35,I 8),(36,I r)],[XD (part (fh 8 g l) 64 (r*8) 0),XD (List.replicate 64 0)]⟩) (fun r=>r≤8) (fun r=>8-r) 0 (by omega) (go (r:=?_)) (fun r hr=>?_)
  ·simp [part_zero]
  have hpl1:=part_len (fh 8 g l) 64 (r*8) 0
  refine go (r:=?_);and_intros<;>intros<;>try exact True.intro
  ·refine WpA.loop (fun k:Nat=>⟨[(0,LLn 8 M),(1,IL l),(5,I 8),(6,.own 0 1 0 64),(7,.own 1 1 0 64),(8,I r),(35,I 8),(36,I r),(39,I 8),(40,I k)],[XD (part (fh 8 g l) 64 (r*8+k) 0),XD (List.replicate 64 0)]⟩) (fun k=>k≤8) (fun k=>8-k) 0 (by omega) (go (r:=?_)) (fun k hk=>?_)
   ·trivial
   have hpl2:=part_len (fh 8 g l) 64 (r*8+k) 0
   refine go (r:=?_);and_intros<;>intros<;>try exact True.intro
   ·refine WpA.loop (fun i:Nat=>⟨[(0,LLn 8 M),(1,IL l),(5,I 8),(6,.own 0 1 0 64),(7,.own 1 1 0 64),(8,I r),(9,I k),(35,I 8),(36,I r),(39,I 8),(40,I k),(43,I 8),(44,I i)],[XD (part (fh 8 g l) 64 (r*8+k) (sh 8 g l r k i)),XD (List.replicate 64 0)]⟩) (fun i=>i≤8) (fun i=>8-i) 0 (by omega) (go (r:=?_)) (fun i hi=>?_)
    ·simp [sumF]
    have hpl3:=part_len (fh 8 g l) 64 (r*8+k) (sh 8 g l r k i)
    have hM2r:=hM2 r
    have hsb:-((i:Int)*(2*1000000000))≤sh 8 g l r k i∧sh 8 g l r k i≤(i:Int)*(2*1000000000):=half_bd (n:=8) (g:=g) (l:=l) (c:=1000000000) hg h2 (by omega) r k i
    have hdm:=divmod (n:=8) (r:=r) (k:=k)
    have hgl:=in_getZ h2 (by decide) (i*8+k)
    have hgg:=mul2 (hg r i) hgl (by decide)
    have hst:sh 8 g l r k (i+1)=sh 8 g l r k i+g r i*l.getD (i*8+k) 0:=rfl
    refine go (r:=?_);and_intros<;>intros<;>try exact True.intro
    ·rename_i hi1
     have hr1:r<8:=by omega
     have hk1:k<8:=by omega
     have e1:((r:Int)*8+k).toNat=r*8+k:=by omega
     have e2:((i:Int)*8+k).toNat=i*8+k:=by omega
     have e3:(M.getD r default).getD i 0=g r i:=hM3 r i hr1 (by omega)
     rw [e1,e2,e3,part_get (by omega),part_set (by omega),wrap64 (g r i*l.getD (i*8+k) 0) (by omega),wrap64 _ (by omega),hst]
    ·have hi1:i=8:=by omega
     subst hi1
     rw [←Nat.add_assoc];exact part_next (by show sh 8 g l r k 8=halfM 8 g l ((r*8+k)/8) ((r*8+k)%8);rw [(hdm (by omega)).1,(hdm (by omega)).2];rfl)
   ·have hk1:k=8:=by omega
    rw [hk1,Nat.succ_mul]
  have hr1:r=8:=by omega
  subst hr1
  have ep:part (fh 8 g l) 64 (8*8) 0=tabL (fh 8 g l) 64:=part_all _ _ _
  rw [ep]
  have hplh:=tabL_len (fh 8 g l) 64
  refine WpA.loop (fun r:Nat=>⟨[(0,LLn 8 M),(5,I 8),(6,.own 0 1 0 64),(7,.own 1 1 0 64),(76,I 8),(77,I r)],[XD (tabL (fh 8 g l) 64),XD (part (fo 8 g l) 64 (r*8) 0)]⟩) (fun r=>r≤8) (fun r=>8-r) 0 (by omega) (go (r:=?_)) (fun r hr=>?_)
  ·simp [part_zero]
  have hpl1:=part_len (fo 8 g l) 64 (r*8) 0
  refine go (r:=?_);and_intros<;>intros<;>try exact True.intro
  ·refine WpA.loop (fun k:Nat=>⟨[(0,LLn 8 M),(5,I 8),(6,.own 0 1 0 64),(7,.own 1 1 0 64),(11,I r),(76,I 8),(77,I r),(80,I 8),(81,I k)],[XD (tabL (fh 8 g l) 64),XD (part (fo 8 g l) 64 (r*8+k) 0)]⟩) (fun k=>k≤8) (fun k=>8-k) 0 (by omega) (go (r:=?_)) (fun k hk=>?_)
   ·trivial
   have hpl2:=part_len (fo 8 g l) 64 (r*8+k) 0
   refine go (r:=?_);and_intros<;>intros<;>try exact True.intro
   ·refine WpA.loop (fun i:Nat=>⟨[(0,LLn 8 M),(5,I 8),(6,.own 0 1 0 64),(7,.own 1 1 0 64),(11,I r),(12,I k),(76,I 8),(77,I r),(80,I 8),(81,I k),(84,I 8),(85,I i)],[XD (tabL (fh 8 g l) 64),XD (part (fo 8 g l) 64 (r*8+k) (so 8 g l r k i))]⟩) (fun i=>i≤8) (fun i=>8-i) 0 (by omega) (go (r:=?_)) (fun i hi=>?_)
    ·simp [sumF]
    have hpl3:=part_len (fo 8 g l) 64 (r*8+k) (so 8 g l r k i)
    have hM2r:=hM2 k
    have hsb:=so_bd (n:=8) hg h2 (by omega) r k i
    have hdm:=divmod (n:=8) (r:=r) (k:=k)
    have hdi:=divmod (n:=8) (r:=r) (k:=i)
    have hgl:=half_in (n:=8) hg h2 (by omega) r i
    have hgg:=mul_huge hgl (hg k i)
    have hst:so 8 g l r k (i+1)=so 8 g l r k i+halfM 8 g l r i*g k i:=rfl
    refine go (r:=?_);and_intros<;>intros<;>try exact True.intro
    ·rename_i hi1
     have hr1:r<8:=by omega
     have hk1:k<8:=by omega
     have e1:((r:Int)*8+k).toNat=r*8+k:=by omega
     have e2:((r:Int)*8+i).toNat=r*8+i:=by omega
     have e3:(M.getD k default).getD i 0=g k i:=hM3 k i hk1 (by omega)
     have e4:(tabL (fh 8 g l) 64).getD (r*8+i) 0=halfM 8 g l r i:=by rw [tabL_get (by omega)];show halfM 8 g l ((r*8+i)/8) ((r*8+i)%8)=_;rw [(hdi (by omega)).1,(hdi (by omega)).2]
     rw [e1,e2,e3,e4,part_get (by omega),part_set (by omega),wrap64 (halfM 8 g l r i*g k i) (by omega),wrap64 _ (by omega),hst]
    ·have hi1:i=8:=by omega
     subst hi1
     rw [←Nat.add_assoc];exact part_next (by show so 8 g l r k 8=fullM 8 g l ((r*8+k)/8) ((r*8+k)%8);rw [(hdm (by omega)).1,(hdm (by omega)).2];rfl)
   ·have hk1:k=8:=by omega
    rw [hk1,Nat.succ_mul]
  all_goals have hr1:r=8:=by omega
  all_goals subst hr1
  all_goals first|(rw [e,tabL_len];done)|(rw [e];exact congrArg _ (part_all _ _ _))|(rw [e];exact part_all _ _ _)
 ·have e:prodL 8 g l=[]:=by rw [prodL,if_neg h]
  refine FnC.of_body tabOk Tryz.func252 Tryz.ntmps252 rfl (by decide +kernel) (by simp) fun G=>?_
  refine goR (r:=?_);and_intros<;>intros<;>try exact True.intro
  all_goals first|(rw [e];done)|(rw [e];rfl)|(exact absurd ⟨by omega,by assumption⟩ h)
end Go.Proofs.YtainhhfnnclfiaaGreat
