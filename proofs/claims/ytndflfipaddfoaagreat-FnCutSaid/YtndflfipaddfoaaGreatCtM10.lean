/- Proved in this text: lemmas and contracts of functions that the claim uses (parts: Pred, Sid, Work, Bits, BitsM, BitsH, Lw, Ln, SizeL, Unp, RdL, RdM, Rd). No condition. -/
import Derived.Test.YtndflfipaddfoaaGreatCtM9
set_option linter.unusedVariables false
set_option linter.unusedSimpArgs false
set_option maxRecDepth 100000
set_option maxHeartbeats 16000000


namespace Go.Proofs.YtndflfipaddfoaaGreat
open Go Go.Abs
attribute [local irreducible] WpA WpL Rnd Blk Abs.Seq Abs.Fin Abs.FinG FnC FnG Only
def side (k:Nat):Int:=if k=16 then 4 else if k=64 then 8 else 0
theorem side_pos (k:Nat):0<side k↔k=16∨k=64:=by unfold side;split<;>(try split)<;>omega
theorem side_cases (k:Nat):(k=16∧side k=4)∨(k=64∧side k=8)∨(k≠16∧k≠64∧side k=0):=by unfold side;split<;>(try split)<;>omega
instance SizeOk_s:Con 134 (∀ n:Int,Fn 134 [I n] [] (B (decide (n=4∨n=8)))):=⟨fun n=>by
 refine FnC.of_body tabOk Tryz.func134 Tryz.ntmps134 rfl (by decide +kernel) (by simp) fun G=>?_
 refine go (r:=?_);and_intros<;>intros<;>try exact True.intro
 all_goals simp_all⟩
instance SizeOk_c:Con 130 (∀ n:Int,Fn 130 [I n] [] (B (decide (n=4∨n=8)))):=⟨fun n=>by
 refine FnC.of_body tabOk Tryz.func130 Tryz.ntmps130 rfl (by decide +kernel) (by simp) fun G=>?_
 refine go (r:=?_);and_intros<;>intros<;>try exact True.intro
 all_goals simp_all⟩
instance l9Side_s:Con 139 (∀ l:List Int,l.length≤9223372036854775807→Fn 139 [IL l] [] (I (side l.length))):=⟨fun l hl=>by
 refine FnC.of_body tabOk Tryz.func139 Tryz.ntmps139 rfl (by decide +kernel) (by simp) fun G=>?_
 have h:=side_cases l.length
 refine go (r:=?_);and_intros<;>intros<;>try exact True.intro⟩
instance sizeOf_c:Con 157 (∀ k:Nat,Fn 157 [I k] [] (I (side k))):=⟨fun k=>by
 refine FnC.of_body tabOk Tryz.func157 Tryz.ntmps157 rfl (by decide +kernel) (by simp) fun G=>?_
 have h:=side_cases k
 refine go (r:=?_);and_intros<;>intros<;>try exact True.intro⟩
def psum (l:List Int) (k:Nat):Int:=(l.take k).sum
theorem psum_zero (l:List Int):psum l 0=0:=by simp [psum]
theorem psum_succ (l:List Int) (k:Nat) (h:k<l.length):psum l (k+1)=psum l k+l.getD k 0:=by
 unfold psum;rw [List.take_succ_eq_append_getElem h,List.sum_append];simp [h]
theorem psum_all (l:List Int):psum l l.length=l.sum:=by simp [psum]
theorem psum_bd {l:List Int} (h:In l 0 255) (k:Nat) (hk:k≤l.length):0≤psum l k∧psum l k≤255*k:=by
 induction k with
 |zero=>simp [psum]
 |succ k ih=>
  have h1:=in_get h (k:=k) (by omega)
  have h2:=ih (by omega)
  rw [psum_succ l k (by omega)];omega
theorem in_take {l:List Int} {lo hi:Int} (h:In l lo hi) (k:Nat):In (l.take k) lo hi:=by unfold In at *;intro v hv;exact h v (List.mem_of_mem_take hv)
instance Clone_c:Con 167 (∀ l:List Int,l.length≤1099511627776→Fn 167 [IL l] [XI l] (.own 0 0 0 l.length)):=⟨fun l hl=>by
 refine FnC.of_body tabOk Tryz.func167 Tryz.ntmps167 rfl (by decide +kernel) (by simp) fun G=>?_
 refine go (r:=?_);and_intros<;>intros<;>try exact True.intro
 all_goals (have e:l=[]:=List.eq_nil_of_length_eq_zero (by omega));subst e;rfl⟩
def revp (l:List Int) (i:Nat):List Int:=(List.range l.length).map fun k=>if k<i∨l.length-1-k<i then l.getD (l.length-1-k) 0 else l.getD k 0
theorem revp_len (l:List Int) (i:Nat):(revp l i).length=l.length:=by simp [revp]
theorem revp_zero (l:List Int):revp l 0=l:=by
 apply eq_all 0 (by rw [revp_len])
 intro j hj
 rw [revp_len] at hj
 simp [revp,hj]
theorem revp_get (l:List Int) (i j:Nat) (hj:j<l.length):(revp l i).getD j 0=if j<i∨l.length-1-j<i then l.getD (l.length-1-j) 0 else l.getD j 0:=by
 simp only [revp,List.getD_eq_getElem?_getD,List.getElem?_map,List.getElem?_range hj,Option.map_some,Option.getD_some]
theorem rev_get (l:List Int) (j:Nat) (hj:j<l.length):l.reverse.getD j 0=l.getD (l.length-1-j) 0:=by
 simp only [List.getD_eq_getElem?_getD,List.getElem?_reverse hj]
theorem revp_end (l:List Int) (i:Nat) (h:l.length≤2*i+1):revp l i=l.reverse:=by
 apply eq_all 0 (by rw [revp_len,List.length_reverse])
 intro j hj
 rw [revp_len] at hj
 rw [revp_get l i j hj,rev_get l j hj]
 split
 ·rfl
 ·have:l.length-1-j=j:=by omega
  rw [this]
theorem revp_step (l:List Int) (i:Nat) (h:2*i+1<l.length):((revp l i).set i ((revp l i).getD (l.length-1-i) 0)).set (l.length-1-i) ((revp l i).getD i 0)=revp l (i+1):=by
 have e1:(revp l i).getD (l.length-1-i) 0=l.getD (l.length-1-i) 0:=by
  rw [revp_get l i _ (by omega),if_neg (by omega)]
 have e2:(revp l i).getD i 0=l.getD i 0:=by
  rw [revp_get l i _ (by omega),if_neg (by omega)]
 rw [e1,e2]
 apply eq_all 0 (by simp [revp_len])
 intro j hj
 simp only [List.length_set,revp_len] at hj
 rw [revp_get l (i+1) j hj,List.getD_eq_getElem?_getD,List.getElem?_set,List.getElem?_set]
 simp only [List.length_set,revp_len]
 by_cases c1:l.length-1-i=j
 ·rw [if_pos c1,if_pos (by omega),if_pos (by omega),Option.getD_some];congr 1;omega
 ·rw [if_neg c1]
  by_cases c2:i=j
  ·rw [if_pos c2,if_pos (by omega),if_pos (by omega),Option.getD_some,c2]
  ·rw [if_neg c2,←List.getD_eq_getElem?_getD,revp_get l i j hj]
   by_cases c3:j<i∨l.length-1-j<i
   ·rw [if_pos c3,if_pos (by omega)]
   ·rw [if_neg c3,if_neg (by omega)]
instance Reverse_c:ConG 309 (∀ l:List Int,1≤l.length∧l.length≤1099511627776→Gn 309 [.own 0 0 0 l.length] [XI l] [XI l.reverse] [] (.tup [])):=⟨fun l hl=>by
 refine FnG.of_bodyF tabOk Tryz.func309 Tryz.ntmps309 rfl (by decide +kernel) (by simp) rfl rfl fun G=>?_
 refine go (r:=?_);and_intros<;>intros<;>try exact True.intro
 refine WpA.loop (fun i:Nat=>⟨[(0,.own 0 0 0 l.length),(2,I i),(3,I ((l.length:Int)-1-i))],[XI (revp l i)]⟩) (fun i=>2*i≤l.length) (fun i=>l.length-i) 0 (by omega) (go (r:=?_)) (fun i hi=>?_)
 ·simp [revp_zero]
 have hl2:=revp_len l i
 refine go (r:=?_);and_intros<;>intros<;>try exact True.intro
 ·have e1:((l.length:Int)-1-(i:Int)).toNat=l.length-1-i:=by omega
  rw [e1,Int.toNat_natCast];exact revp_step l i (by omega)
 ·exact revp_end l i (by omega)⟩
end Go.Proofs.YtndflfipaddfoaaGreat


namespace Go.Proofs.YtndflfipaddfoaaGreat
open Go Go.Abs
attribute [local irreducible] WpA WpL Rnd Blk Abs.Seq Abs.Fin Abs.FinG FnC FnG Only
abbrev HdOk (w h q:Int) (l:List Int):Prop:=SidesOk w h∧(0≤q∧q≤51)∧CodeOk l
instance HeaderOk_s:Con 78 (∀ (w h q:Int) (b d:Bool) (l:List Int),l.length≤1099511627776→Fn 78 [HdA w h q b d l] [] (B (decide (HdOk w h q l)))):=⟨fun w h q b d l hl=>by
 have hs:=stepL_pos q
 refine FnC.of_body tabOk Tryz.func78 Tryz.ntmps78 rfl (by decide +kernel) (by simp) fun G=>?_
 refine go (r:=?_);and_intros<;>intros<;>try exact True.intro
 all_goals simp_all⟩
instance HeaderOk_c:Con 100 (∀ (w h q:Int) (b d:Bool) (l:List Int),l.length≤1099511627776→Fn 100 [HdA w h q b d l] [] (B (decide (HdOk w h q l)))):=⟨fun w h q b d l hl=>by
 refine FnC.of_body tabOk Tryz.func100 Tryz.ntmps100 rfl (by decide +kernel) (by simp) fun G=>?_
 refine go (r:=?_);and_intros<;>intros<;>try exact True.intro
 all_goals simp_all⟩
def cntM (w h:Int):Int:=w/8*(h/8)
theorem cntM_bd {w h:Int} (hs:SidesOk w h):(0≤w/8∧w/8≤4)∧(0≤h/8∧h/8≤4)∧0≤cntM w h∧cntM w h≤16:=by
 have h1:0≤w/8∧w/8≤4:=by omega
 have h2:0≤h/8∧h/8≤4:=by omega
 refine ⟨h1,h2,Int.mul_nonneg h1.1 h2.1,?_⟩
 have:=Int.mul_le_mul h1.2 h2.2 h2.1 (by decide)
 exact this
instance l24Count_s:Con 80 (∀ (w h q:Int) (b d:Bool) (l:List Int),SidesOk w h→Fn 80 [HdA w h q b d l] [] (I (cntM w h))):=⟨fun w h q b d l hs=>by
 have:=cntM_bd hs
 unfold cntM at*
 refine FnC.of_body tabOk Tryz.func80 Tryz.ntmps80 rfl (by decide +kernel) (by simp) fun G=>?_
 refine go (r:=?_);and_intros<;>intros<;>try exact True.intro⟩
instance many_c:Con 90 (∀ (w h q:Int) (b d:Bool) (l:List Int),SidesOk w h→Fn 90 [HdA w h q b d l] [] (I (cntM w h))):=⟨fun w h q b d l hs=>by
 have:=cntM_bd hs
 unfold cntM at*
 refine FnC.of_body tabOk Tryz.func90 Tryz.ntmps90 rfl (by decide +kernel) (by simp) fun G=>?_
 refine go (r:=?_);and_intros<;>intros<;>try exact True.intro⟩
abbrev LvOk (l:List Int):Prop:=In l (-16383) 16383∧(l.length=16∨l.length=64)
instance LevelsOk_s:Con 224 (∀ l:List Int,l.length≤1099511627776→Fn 224 [IL l] [] (B (decide (LvOk l)))):=⟨fun l hl=>by
 have hsp:=side_pos l.length
 refine FnC.of_body tabOk Tryz.func224 Tryz.ntmps224 rfl (by decide +kernel) (by simp) fun G=>?_
 refine go (r:=?_);and_intros<;>intros<;>try exact True.intro
 refine WpA.loop (fun k:Nat=>⟨[(0,IL l),(3,I k)],[]⟩) (fun k=>k≤l.length∧In (l.take k) (-16383) 16383) (fun k=>l.length-k) 0 (by simp [in_nil]) (go (r:=?_)) (fun k hk=>?_)
 ·trivial
 have hi:=fun h=>in_snoc (lo:=-16383) (hi:=16383) (l:=l) (k:=k) h
 refine go (r:=?_);and_intros<;>intros<;>try exact True.intro
 ·have:=notin (k:=k) (by omega) ‹¬ (-16383≤l.getD k 0∧_)›;rw [eq_comm,decide_eq_false_iff_not] at *;exact fun h=>this h.1
 ·rw [hi (by omega)];exact ⟨hk.2,‹_›⟩
 all_goals have e:k=l.length:=by omega
 all_goals subst e
 all_goals rw [List.take_length] at*
 simp [hk.2,hsp]⟩
instance LevelsOk_c:Con 243 (∀ l:List Int,l.length≤1099511627776→Fn 243 [IL l] [] (B (decide (LvOk l)))):=⟨fun l hl=>by
 have hsp:=side_pos l.length
 refine FnC.of_body tabOk Tryz.func243 Tryz.ntmps243 rfl (by decide +kernel) (by simp) fun G=>?_
 refine go (r:=?_);and_intros<;>intros<;>try exact True.intro
 refine WpA.loop (fun k:Nat=>⟨[(0,IL l),(5,IL l),(6,I l.length),(7,I k)],[]⟩) (fun k=>k≤l.length∧In (l.take k) (-16383) 16383) (fun k=>l.length-k) 0 (by simp [in_nil]) (go (r:=?_)) (fun k hk=>?_)
 ·trivial
 have hi:=fun h=>in_snoc (lo:=-16383) (hi:=16383) (l:=l) (k:=k) h
 refine go (r:=?_);and_intros<;>intros<;>try exact True.intro
 ·have:=notin (k:=k) (by omega) ‹¬ (-16383≤l.getD k 0∧_)›;rw [eq_comm,decide_eq_false_iff_not] at *;exact fun h=>this h.1
 ·rw [hi (by omega)];exact ⟨hk.2,‹_›⟩
 all_goals have e:k=l.length:=by omega
 all_goals subst e
 all_goals rw [List.take_length] at*
 simp [hk.2,hsp]⟩
abbrev BlkOk (m:Int) (lv:List Int) (lens:List Int) (n:Int):Prop:=(n=4∨n=8)∧HasC lens m∧(lv.length:Int)=n*n∧LvOk lv
instance BlockOk_s:Con 166 (∀ (m:Int) (lv lens:List Int) (n:Int),lv.length≤1099511627776∧lens.length≤1099511627776→Fn 166 [.agg [I m,IL lv],IL lens,I n] [] (B (decide (BlkOk m lv lens n)))):=⟨fun m lv lens n hl=>by
 have hp:=symL_pos lens m
 have hnn:n=4∨n=8→0≤n*n∧n*n≤64:=by rintro (rfl|rfl)<;>decide
 refine FnC.of_body tabOk Tryz.func166 Tryz.ntmps166 rfl (by decide +kernel) (by simp) fun G=>?_
 refine go (r:=?_);and_intros<;>intros<;>try exact True.intro
 all_goals simp_all⟩
instance BlockOk_c:Con 194 (∀ (m:Int) (lv lens:List Int) (n:Int),lv.length≤1099511627776∧lens.length≤1099511627776→Fn 194 [.agg [I m,IL lv],IL lens,I n] [] (B (decide (BlkOk m lv lens n)))):=⟨fun m lv lens n hl=>by
 have hp:=symL_pos lens m
 have hnn:n=4∨n=8→0≤n*n∧n*n≤64:=by rintro (rfl|rfl)<;>decide
 refine FnC.of_body tabOk Tryz.func194 Tryz.ntmps194 rfl (by decide +kernel) (by simp) fun G=>?_
 refine go (r:=?_);and_intros<;>intros<;>try exact True.intro
 all_goals simp_all⟩
def ixF {α:Type} (p:α→Bool) (l:List α):Int:=if l.any p=true then (l.findIdx p:Int) else -1
theorem ixF_at {α:Type} [Inhabited α] {p:α→Bool} {l:List α} {i:Nat} (hi:i<l.length) (h0:∀j<i,p (l.getD j default)=false) (h1:p (l.getD i default)=true):(i:Int)=ixF p l:=by
 have hg:∀j (hj:j<l.length),l.getD j default=l[j]:=fun j hj=>by simp [hj]
 unfold ixF
 rw [if_pos (List.any_eq_true.2 ⟨l[i],List.getElem_mem hi,by rw [←hg i hi];exact h1⟩)]
 congr 1
 rw [eq_comm,List.findIdx_eq hi]
 exact ⟨by rw [←hg i hi];exact h1,fun j hj=>by rw [←hg j (by omega)];exact h0 j hj⟩
theorem ixF_no {α:Type} [Inhabited α] {p:α→Bool} {l:List α} (h0:∀j<l.length,p (l.getD j default)=false):-1=ixF p l:=by
 have hg:∀j (hj:j<l.length),l.getD j default=l[j]:=fun j hj=>by simp [hj]
 unfold ixF
 rw [if_neg]
 intro h
 obtain ⟨x,hx,hp⟩:=List.any_eq_true.1 h
 obtain ⟨j,hj,rfl⟩:=List.getElem_of_mem hx
 have:=h0 j hj
 rw [hg j hj,hp] at this;cases this
theorem ixF_ge {α:Type} (p:α→Bool) (l:List α):ixF p l≥0↔l.any p=true:=by
 unfold ixF;split
 ·rename_i h;simp [h]
 ·rename_i h;simp [h]
def badB (lens:List Int) (n:Int) (b:Blok):Bool:=decide (¬ BlkOk b.1 b.2 lens n)
abbrev fB (lens:List Int) (n:Int):AV:=.fn 193 [.iptr [IL lens] 0,.iptr [I n] 0]
instance MbOk1_c:Con 193 (∀ (m:Int) (lv lens:List Int) (n:Int),lv.length≤1099511627776∧lens.length≤1099511627776→Fn 193 [.agg [I m,IL lv],.iptr [IL lens] 0,.iptr [I n] 0] [] (B (badB lens n (m,lv)))):=⟨fun m lv lens n hl=>by
 unfold badB
 refine FnC.of_body tabOk Tryz.func193 Tryz.ntmps193 rfl (by decide +kernel) (by simp) fun G=>?_
 refine go (r:=?_);and_intros<;>intros<;>try exact True.intro
 all_goals simp_all⟩
instance IndexFuncB_c:Con 263 (∀ (l:List Blok) (lens:List Int) (n:Int),l.length≤1099511627776∧SmB 1099511627776 l∧lens.length≤1099511627776→Fn 263 [BkL l,fB lens n] [] (I (ixF (badB lens n) l))):=⟨fun l lens n hl=>by
 refine FnC.of_body tabOk Tryz.func263 Tryz.ntmps263 rfl (by decide +kernel) (by simp) fun G=>?_
 refine go (r:=?_);and_intros<;>intros<;>try exact True.intro
 refine WpA.loop (fun k:Nat=>⟨[(0,BkL l),(1,fB lens n),(7,I l.length),(8,I k)],[]⟩) (fun k=>k≤l.length∧∀j<k,badB lens n (l.getD j default)=false) (fun k=>l.length-k) 0 (by simp) (go (r:=?_)) (fun k hk=>?_)
 ·trivial
 have hg:=fun h=>smB_get hl.2.1 (k:=k) h
 refine go (r:=?_);and_intros<;>intros<;>try exact True.intro
 ·exact ixF_at (by omega) hk.2 (by unfold badB;exact decide_eq_true ‹_›)
 ·rename_i j hj;by_cases h:j=k
  ·subst h;unfold badB;exact decide_eq_false ‹_›
  ·exact hk.2 j (by omega)
 all_goals (have e:k=l.length:=by omega);subst e;exact ixF_no hk.2⟩
end Go.Proofs.YtndflfipaddfoaaGreat


namespace Go.Proofs.YtndflfipaddfoaaGreat
open Go Go.Abs
attribute [local irreducible] WpA WpL Rnd Blk Abs.Seq Abs.Fin Abs.FinG FnC FnG Only
theorem any_at {α:Type} [Inhabited α] {p:α→Bool} {l:List α} {i:Nat} (hi:i<l.length) (h:p (l.getD i default)=true):l.any p=true:=
 List.any_eq_true.2 ⟨l.getD i default,by simp [hi],h⟩
theorem any_none {α:Type} [Inhabited α] {p:α→Bool} {l:List α} (h:∀j<l.length,p (l.getD j default)=false):l.any p=false:=by
 rw [List.any_eq_false]
 intro x hx
 obtain ⟨j,hj,rfl⟩:=List.getElem_of_mem hx
 have:=h j hj
 have e:l.getD j default=l[j]:=by simp [hj]
 rw [e] at this;simp [this]
theorem any_get {α:Type} [Inhabited α] {p:α→Bool} {l:List α} (h:l.any p=false) {i:Nat} (hi:i<l.length):p (l.getD i default)=false:=by
 cases hp:p (l.getD i default) with
 |false=>rfl
 |true=>rw [any_at hi hp] at h;cases h
instance ContainsFuncB_c:Con 192 (∀ (l:List Blok) (lens:List Int) (n:Int),l.length≤1099511627776∧SmB 1099511627776 l∧lens.length≤1099511627776→Fn 192 [BkL l,fB lens n] [] (B (l.any (badB lens n)))):=⟨fun l lens n hl=>by
 have hge:=ixF_ge (badB lens n) l
 refine FnC.of_body tabOk Tryz.func192 Tryz.ntmps192 rfl (by decide +kernel) (by simp) fun G=>?_
 refine go (r:=?_);and_intros<;>intros<;>try exact True.intro
 all_goals first|exact hl.2.1|(rw [Bool.eq_iff_iff,←hge];simp)⟩
def sz8 (e:Bool):Int:=bif e then 8 else 4
def nm8 (e:Bool):Int:=bif e then 1 else 4
theorem sz8_cases (e:Bool):(sz8 e=4∧nm8 e=4)∨(sz8 e=8∧nm8 e=1):=by cases e<;>simp [sz8,nm8]
instance l23Side_s:Con 66 (∀ e:Bool,Fn 66 [B e] [] (I (sz8 e))):=⟨fun e=>by
 cases e
 ·refine FnC.of_body tabOk Tryz.func66 Tryz.ntmps66 rfl (by decide +kernel) (by simp) fun G=>?_
  refine go (r:=?_);and_intros<;>intros<;>try exact True.intro
  all_goals rfl
 ·refine FnC.of_body tabOk Tryz.func66 Tryz.ntmps66 rfl (by decide +kernel) (by simp) fun G=>?_
  refine go (r:=?_);and_intros<;>intros<;>try exact True.intro
  all_goals rfl⟩
instance shape_c:Con 113 (∀ e:Bool,Fn 113 [B e] [] (.tup [I (nm8 e),I (sz8 e)])):=⟨fun e=>by
 cases e
 ·refine FnC.of_body tabOk Tryz.func113 Tryz.ntmps113 rfl (by decide +kernel) (by simp) fun G=>?_
  refine go (r:=?_);and_intros<;>intros<;>try exact True.intro
  all_goals rfl
 ·refine FnC.of_body tabOk Tryz.func113 Tryz.ntmps113 rfl (by decide +kernel) (by simp) fun G=>?_
  refine go (r:=?_);and_intros<;>intros<;>try exact True.intro
  all_goals rfl⟩
abbrev MbkOk (e:Bool) (bs:List Blok) (lens:List Int):Prop:=(bs.length:Int)=nm8 e∧bs.any (badB lens (sz8 e))=false
instance MbOk_s:Con 79 (∀ (e:Bool) (bs:List Blok) (lens:List Int),bs.length≤1099511627776∧SmB 1099511627776 bs∧lens.length≤1099511627776→Fn 79 [.agg [B e,BkL bs],IL lens] [] (B (decide (MbkOk e bs lens)))):=⟨fun e bs lens hl=>by
 have hc:=sz8_cases e
 refine FnC.of_body tabOk Tryz.func79 Tryz.ntmps79 rfl (by decide +kernel) (by simp) fun G=>?_
 refine go (r:=?_);and_intros<;>intros<;>try exact True.intro
 refine WpA.loop (fun k:Nat=>⟨[(1,IL lens),(2,.ptr 0 0 0),(5,I (sz8 e)),(6,I k)],[⟨[B e,BkL bs],0,0,none⟩]⟩) (fun k=>k≤bs.length∧∀j<k,badB lens (sz8 e) (bs.getD j default)=false) (fun k=>bs.length-k) 0 (by simp) (go (r:=?_)) (fun k hk=>?_)
 ·trivial
 have hg:=fun h=>smB_get hl.2.1 (k:=k) h
 have hnn:sz8 e*sz8 e=16∨sz8 e*sz8 e=64:=by rcases hc with ⟨h,_⟩|⟨h,_⟩<;>rw [h]<;>decide
 have hq:64/(sz8 e*sz8 e)=nm8 e:=by rcases hc with ⟨h,h2⟩|⟨h,h2⟩<;>rw [h,h2]<;>decide
 refine go (r:=?_);and_intros<;>intros<;>try exact True.intro
 ·have:bs.any (badB lens (sz8 e))=true:=any_at (i:=k) (by omega) (by unfold badB;exact decide_eq_true ‹_›)
  simp [this]
 ·rename_i j hj;by_cases h:j=k
  ·subst h;unfold badB;exact decide_eq_false (fun hh=>hh ‹BlkOk _ _ _ _›)
  ·exact hk.2 j (by omega)
 all_goals have e2:k=bs.length:=by omega
 all_goals subst e2
 have:=any_none (p:=badB lens (sz8 e)) hk.2
 rw [hq];simp [this]⟩
instance MbOk_c:Con 103 (∀ (e:Bool) (bs:List Blok) (lens:List Int),bs.length≤1099511627776∧SmB 1099511627776 bs∧lens.length≤1099511627776→Fn 103 [.agg [B e,BkL bs],IL lens] [] (B (decide (MbkOk e bs lens)))):=⟨fun e bs lens hl=>by
 have hc:=sz8_cases e
 refine FnC.of_body tabOk Tryz.func103 Tryz.ntmps103 rfl (by decide +kernel) (by simp) fun G=>?_
 refine go (r:=?_);and_intros<;>intros<;>try exact True.intro
 all_goals simp_all⟩
def badM (lens:List Int) (m:Mbk):Bool:=decide (¬ MbkOk m.1 m.2 lens)
abbrev StC (w h q:Int) (b d:Bool) (l:List Int) (M:List Mbk):List AV:=[I w,I h,I q,B b,B d,IL l,MbL M]
abbrev fM (w h q:Int) (b d:Bool) (l:List Int) (M:List Mbk):AV:=.fn 102 [.iptr (StC w h q b d l M) 0]
instance StreamOk1_c:Con 102 (∀ (e:Bool) (bs:List Blok) (w h q:Int) (b d:Bool) (l:List Int) (M:List Mbk),bs.length≤1099511627776∧SmB 1099511627776 bs∧l.length≤1099511627776→Fn 102 [.agg [B e,BkL bs],.iptr (StC w h q b d l M) 0] [] (B (badM l (e,bs)))):=⟨fun e bs w h q b d l M hl=>by
 unfold badM
 refine FnC.of_body tabOk Tryz.func102 Tryz.ntmps102 rfl (by decide +kernel) (by simp) fun G=>?_
 refine go (r:=?_);and_intros<;>intros<;>try exact True.intro
 all_goals simp_all⟩
instance IndexFuncM_c:Con 191 (∀ (w h q:Int) (b d:Bool) (l:List Int) (M N:List Mbk),N.length≤1099511627776∧SmM 1099511627776 N∧l.length≤1099511627776→Fn 191 [MbL N,fM w h q b d l M] [] (I (ixF (badM l) N))):=⟨fun w h q b d l M N hl=>by
 refine FnC.of_body tabOk Tryz.func191 Tryz.ntmps191 rfl (by decide +kernel) (by simp) fun G=>?_
 refine go (r:=?_);and_intros<;>intros<;>try exact True.intro
 refine WpA.loop (fun k:Nat=>⟨[(0,MbL N),(1,fM w h q b d l M),(7,I N.length),(8,I k)],[]⟩) (fun k=>k≤N.length∧∀j<k,badM l (N.getD j default)=false) (fun k=>N.length-k) 0 (by simp) (go (r:=?_)) (fun k hk=>?_)
 ·trivial
 have hg:=fun h=>(smM_get hl.2.1 (k:=k) h).1
 have hg2:=fun h=>(smM_get hl.2.1 (k:=k) h).2
 refine go (r:=?_);and_intros<;>intros<;>try exact True.intro
 all_goals first|exact hg2 (by omega)|skip
 ·exact ixF_at (by omega) hk.2 (by unfold badM;exact decide_eq_true ‹_›)
 ·rename_i j hj;by_cases h:j=k
  ·subst h;unfold badM;exact decide_eq_false ‹_›
  ·exact hk.2 j (by omega)
 all_goals (have e:k=N.length:=by omega);subst e;exact ixF_no hk.2⟩
instance ContainsFuncM_c:Con 101 (∀ (w h q:Int) (b d:Bool) (l:List Int) (M N:List Mbk),N.length≤1099511627776∧SmM 1099511627776 N∧l.length≤1099511627776→Fn 101 [MbL N,fM w h q b d l M] [] (B (N.any (badM l)))):=⟨fun w h q b d l M N hl=>by
 have hge:=ixF_ge (badM l) N
 refine FnC.of_body tabOk Tryz.func101 Tryz.ntmps101 rfl (by decide +kernel) (by simp) fun G=>?_
 refine go (r:=?_);and_intros<;>intros<;>try exact True.intro
 all_goals first|exact hl.2.1|(rw [Bool.eq_iff_iff,←hge];simp)⟩
abbrev StOk (w h q:Int) (l:List Int) (M:List Mbk):Prop:=HdOk w h q l∧(M.length:Int)=cntM w h∧M.any (badM l)=false
instance StreamOk_s:Con 27 (∀ (w h q:Int) (b d:Bool) (l:List Int) (M:List Mbk),l.length≤1099511627776∧M.length≤1099511627776∧SmM 1099511627776 M→Fn 27 [StA w h q b d l M] [] (B (decide (StOk w h q l M)))):=⟨fun w h q b d l M hl=>by
 refine FnC.of_body tabOk Tryz.func27 Tryz.ntmps27 rfl (by decide +kernel) (by simp) fun G=>?_
 by_cases h0:HdOk w h q l
 ·have hcb:=cntM_bd h0.1
  refine go (r:=?_);and_intros<;>intros<;>try exact True.intro
  all_goals first|(exact absurd h0 (by assumption))|skip
  refine WpA.loop (fun k:Nat=>⟨[(1,.ptr 0 0 0),(3,I k)],[⟨StC w h q b d l M,0,0,none⟩]⟩) (fun k=>k≤M.length∧∀j<k,badM l (M.getD j default)=false) (fun k=>M.length-k) 0 (by simp) (go (r:=?_)) (fun k hk=>?_)
  ·trivial
  have hg:=fun h=>(smM_get hl.2.2 (k:=k) h).1
  have hg2:=fun h=>(smM_get hl.2.2 (k:=k) h).2
  refine go (r:=?_);and_intros<;>intros<;>try exact True.intro
  ·exact hg2 (by omega)
  ·have:M.any (badM l)=true:=any_at (i:=k) (by omega) (by unfold badM;exact decide_eq_true ‹_›)
   simp [this]
  ·rename_i j hj;by_cases h:j=k
   ·subst h;unfold badM;exact decide_eq_false (fun hh=>hh ‹MbkOk _ _ _›)
   ·exact hk.2 j (by omega)
  all_goals have e2:k=M.length:=by omega
  all_goals subst e2
  have:=any_none (p:=badM l) hk.2
  simp [this,h0]
 ·refine go (r:=?_);and_intros<;>intros<;>try exact True.intro
  all_goals simp [StOk,h0]⟩
theorem Weak.eqv {m d:Nat} {V V':AV} {T:List (Nat×AV)} {O:List AObj} (h:V=V'):Weak m ⟨(d,V)::T,O⟩ ⟨(d,V')::T,O⟩:=by subst h;exact fun n G a w h=>h
instance StreamOk_c:Con 46 (∀ (w h q:Int) (b d:Bool) (l:List Int) (M:List Mbk),l.length≤1099511627776∧M.length≤1099511627776∧SmM 1099511627776 M→Fn 46 [StA w h q b d l M] [] (B (decide (StOk w h q l M)))):=⟨fun w h q b d l M hl=>by
 refine FnC.of_body tabOk Tryz.func46 Tryz.ntmps46 rfl (by decide +kernel) (by simp) fun G=>?_
 refine K.A ?_
 refine WpA.seq ?_
 refine WpA.regionF rfl ?_
 refine WpL.box rfl rfl rfl (by decide) ?_
 refine WpL.assign rfl (by decide) ?_
 refine WpL.nil ?_
 refine Abs.Seq.n ?_
 refine WpA.seq ?_
 by_cases h0:HdOk w h q l
 ·have e0:decide (HdOk w h q l)=true:=decide_eq_true h0
  by_cases h1:(M.length:Int)=cntM w h
  ·have e1:decide ((M.length:Int)=cntM w h)=true:=decide_eq_true h1
   apply WpA.regionM 16 mixed (by decide +kernel)
   ·apply HeadJ.consF rfl
    ·exact rfl
    ·exact in1
    ·exact rfl
    apply HeadJ.consF rfl
    ·exact rfl
    ·exact in1
    ·exact rfl
    apply HeadJ.consF rfl
    ·exact rfl
    ·(refine fun Tv=>?_;refine K.call ?_;refine K.con (fun hcon=>?_);refine WpL.call0 (hcon _ _ _ _ _ _ ?_) snapA locA rfl rfl (by decide) ?_;(· exact hl.1);refine WpL.weak (Weak.eqv (V':=B true) (by rw [e0])) ?_;exact WpL.nil (Only.mk rfl))
    ·exact rfl
    apply HeadJ.consF rfl
    ·exact rfl
    ·exact in1
    ·exact rfl
    apply HeadJ.consF rfl
    ·exact rfl
    ·(refine fun Tv=>?_;refine K.gT rfl (by decide) rfl ?_;exact in1)
    ·exact rfl
    apply HeadJ.consF rfl
    ·exact rfl
    ·(refine fun Tv=>?_;refine K.gT rfl (by decide) rfl ?_;exact in1)
    ·exact rfl
    apply HeadJ.consF rfl
    ·exact rfl
    ·(refine fun Tv=>?_;refine K.gT rfl (by decide) rfl ?_;exact in1)
    ·exact rfl
    apply HeadJ.consF rfl
    ·exact rfl
    ·(refine fun Tv=>?_;refine K.gT rfl (by decide) rfl ?_;exact in1)
    ·exact rfl
    apply HeadJ.consF rfl
    ·exact rfl
    ·(refine fun Tv=>?_;refine K.gT rfl (by decide) rfl ?_;exact in1)
    ·exact rfl
    apply HeadJ.consF rfl
    ·exact rfl
    ·(refine fun Tv=>?_;refine K.gT rfl (by decide) rfl ?_;refine K.call ?_;refine K.con (fun hcon=>?_);refine WpL.call0 (hcon _ _ _ _ _ _ h0.1) snapA locA rfl rfl (by decide) ?_;exact WpL.nil (Only.mk rfl))
    ·exact rfl
    apply HeadJ.consF rfl
    ·exact rfl
    ·(refine fun Tv=>?_;refine K.gT rfl (by decide) rfl ?_;refine WpL.bin rfl rfl rfl (by decide) ?_;refine WpL.weak (Weak.eqv (V':=B true) (by simp only [e1])) ?_;exact WpL.nil (Only.mk rfl))
    ·exact rfl
    apply HeadJ.consF rfl
    ·exact rfl
    ·exact in1
    ·exact rfl
    apply HeadJ.consF rfl
    ·exact rfl
    ·exact in1
    ·exact rfl
    apply HeadJ.consF rfl
    ·exact rfl
    ·(refine fun Tv=>?_;refine K.gT rfl (by decide) rfl ?_;exact in1)
    ·exact rfl
    apply HeadJ.consF rfl
    ·exact rfl
    ·(refine fun Tv=>?_;refine K.gT rfl (by decide) rfl ?_;exact in1)
    ·exact rfl
    apply HeadJ.consF rfl
    ·exact rfl
    ·(refine fun Tv=>?_;refine K.gT rfl (by decide) rfl ?_;refine WpL.makeFunc (cs:=[.ptr 0 0 0]) rfl (by decide) ?_;exact WpL.nil (Only.mk rfl))
    ·exact rfl
    exact HeadJ.nil
   ·kernel_rfl
   ·kernel_rfl
   ·exact rfl
   refine go (r:=?_);and_intros<;>intros<;>try exact True.intro
   all_goals first|exact hl.2.2|(simp [StOk,h0,h1];done)
  ·have e1:decide ((M.length:Int)=cntM w h)=false:=decide_eq_false h1
   apply WpA.regionM 16 mixed (by decide +kernel)
   ·apply HeadJ.consF rfl
    ·exact rfl
    ·exact in1
    ·exact rfl
    apply HeadJ.consF rfl
    ·exact rfl
    ·exact in1
    ·exact rfl
    apply HeadJ.consF rfl
    ·exact rfl
    ·(refine fun Tv=>?_;refine K.call ?_;refine K.con (fun hcon=>?_);refine WpL.call0 (hcon _ _ _ _ _ _ ?_) snapA locA rfl rfl (by decide) ?_;(· exact hl.1);refine WpL.weak (Weak.eqv (V':=B true) (by rw [e0])) ?_;exact WpL.nil (Only.mk rfl))
    ·exact rfl
    apply HeadJ.consF rfl
    ·exact rfl
    ·exact in1
    ·exact rfl
    apply HeadJ.consF rfl
    ·exact rfl
    ·(refine fun Tv=>?_;refine K.gT rfl (by decide) rfl ?_;exact in1)
    ·exact rfl
    apply HeadJ.consF rfl
    ·exact rfl
    ·(refine fun Tv=>?_;refine K.gT rfl (by decide) rfl ?_;exact in1)
    ·exact rfl
    apply HeadJ.consF rfl
    ·exact rfl
    ·(refine fun Tv=>?_;refine K.gT rfl (by decide) rfl ?_;exact in1)
    ·exact rfl
    apply HeadJ.consF rfl
    ·exact rfl
    ·(refine fun Tv=>?_;refine K.gT rfl (by decide) rfl ?_;exact in1)
    ·exact rfl
    apply HeadJ.consF rfl
    ·exact rfl
    ·(refine fun Tv=>?_;refine K.gT rfl (by decide) rfl ?_;exact in1)
    ·exact rfl
    apply HeadJ.consF rfl
    ·exact rfl
    ·(refine fun Tv=>?_;refine K.gT rfl (by decide) rfl ?_;refine K.call ?_;refine K.con (fun hcon=>?_);refine WpL.call0 (hcon _ _ _ _ _ _ h0.1) snapA locA rfl rfl (by decide) ?_;exact WpL.nil (Only.mk rfl))
    ·exact rfl
    apply HeadJ.consF rfl
    ·exact rfl
    ·(refine fun Tv=>?_;refine K.gT rfl (by decide) rfl ?_;refine WpL.bin rfl rfl rfl (by decide) ?_;refine WpL.weak (Weak.eqv (V':=B false) (by simp only [e1])) ?_;exact WpL.nil (Only.mk rfl))
    ·exact rfl
    apply HeadJ.consF rfl
    ·exact rfl
    ·exact in1
    ·exact rfl
    apply HeadJ.consF rfl
    ·exact rfl
    ·exact in1
    ·exact rfl
    apply HeadJ.consF rfl
    ·exact rfl
    ·(refine fun Tv=>?_;refine K.gF rfl (by decide) rfl ?_;exact WpL.nil (Only.mk rfl))
    ·exact rfl
    apply HeadJ.consF rfl
    ·exact rfl
    ·(refine fun Tv=>?_;refine K.gF rfl (by decide) rfl ?_;exact WpL.nil (Only.mk rfl))
    ·exact rfl
    apply HeadJ.consF rfl
    ·exact rfl
    ·(refine fun Tv=>?_;refine K.gF rfl (by decide) rfl ?_;exact WpL.nil (Only.mk rfl))
    ·exact rfl
    exact HeadJ.nil
   ·kernel_rfl
   ·kernel_rfl
   ·exact rfl
   refine go (r:=?_);and_intros<;>intros<;>try exact True.intro
   all_goals simp [StOk,h1]
 ·have e0:decide (HdOk w h q l)=false:=decide_eq_false h0
  apply WpA.regionM 16 mixed (by decide +kernel)
  ·apply HeadJ.consF rfl
   ·exact rfl
   ·exact in1
   ·exact rfl
   apply HeadJ.consF rfl
   ·exact rfl
   ·exact in1
   ·exact rfl
   apply HeadJ.consF rfl
   ·exact rfl
   ·(refine fun Tv=>?_;refine K.call ?_;refine K.con (fun hcon=>?_);refine WpL.call0 (hcon _ _ _ _ _ _ ?_) snapA locA rfl rfl (by decide) ?_;(· exact hl.1);refine WpL.weak (Weak.eqv (V':=B false) (by rw [e0])) ?_;exact WpL.nil (Only.mk rfl))
   ·exact rfl
   apply HeadJ.consF rfl
   ·exact rfl
   ·exact in1
   ·exact rfl
   apply HeadJ.consF rfl
   ·exact rfl
   ·(refine fun Tv=>?_;refine K.gF rfl (by decide) rfl ?_;exact WpL.nil (Only.mk rfl))
   ·exact rfl
   apply HeadJ.consF rfl
   ·exact rfl
   ·(refine fun Tv=>?_;refine K.gF rfl (by decide) rfl ?_;exact WpL.nil (Only.mk rfl))
   ·exact rfl
   apply HeadJ.consF rfl
   ·exact rfl
   ·(refine fun Tv=>?_;refine K.gF rfl (by decide) rfl ?_;exact WpL.nil (Only.mk rfl))
   ·exact rfl
   apply HeadJ.consF rfl
   ·exact rfl
   ·(refine fun Tv=>?_;refine K.gF rfl (by decide) rfl ?_;exact WpL.nil (Only.mk rfl))
   ·exact rfl
   apply HeadJ.consF rfl
   ·exact rfl
   ·(refine fun Tv=>?_;refine K.gF rfl (by decide) rfl ?_;exact WpL.nil (Only.mk rfl))
   ·exact rfl
   apply HeadJ.consF rfl
   ·exact rfl
   ·(refine fun Tv=>?_;refine K.gF rfl (by decide) rfl ?_;exact WpL.nil (Only.mk rfl))
   ·exact rfl
   apply HeadJ.consF rfl
   ·exact rfl
   ·(refine fun Tv=>?_;refine K.gF rfl (by decide) rfl ?_;exact WpL.nil (Only.mk rfl))
   ·exact rfl
   apply HeadJ.consF rfl
   ·exact rfl
   ·exact in1
   ·exact rfl
   apply HeadJ.consF rfl
   ·exact rfl
   ·exact in1
   ·exact rfl
   apply HeadJ.consF rfl
   ·exact rfl
   ·(refine fun Tv=>?_;refine K.gF rfl (by decide) rfl ?_;exact WpL.nil (Only.mk rfl))
   ·exact rfl
   apply HeadJ.consF rfl
   ·exact rfl
   ·(refine fun Tv=>?_;refine K.gF rfl (by decide) rfl ?_;exact WpL.nil (Only.mk rfl))
   ·exact rfl
   apply HeadJ.consF rfl
   ·exact rfl
   ·(refine fun Tv=>?_;refine K.gF rfl (by decide) rfl ?_;exact WpL.nil (Only.mk rfl))
   ·exact rfl
   exact HeadJ.nil
  ·kernel_rfl
  ·kernel_rfl
  ·exact rfl
  refine go (r:=?_);and_intros<;>intros<;>try exact True.intro
  all_goals simp [StOk,h0]⟩
def pk (l:List Int):Nat→List (Int×Int)×Int
 |0=>([],0)
 |k+1=>if l.getD k 0=0 then ((pk l k).1,(pk l k).2+1) else ((pk l k).1++[((pk l k).2,l.getD k 0)],0)
def prsL (l:List Int):List (Int×Int):=if LvOk l then (pk l l.length).1 else []
theorem pk_bd (l:List Int):∀k,(pk l k).1.length≤k∧0≤(pk l k).2∧(pk l k).2≤k
 |0=>by simp [pk]
 |k+1=>by have:=pk_bd l k;rw [pk];split<;>simp<;>omega
abbrev XP (l:List (Int×Int)):AObj:=⟨rows prF l,0,2,some 197⟩
instance PairsOf_s:Con 208 (∀ l:List Int,l.length≤1099511627776→Fn 208 [IL l] [XP (prsL l)] (.own 0 0 0 (prsL l).length)):=⟨fun l hl=>by
 refine FnC.of_body tabOk Tryz.func208 Tryz.ntmps208 rfl (by decide +kernel) (by simp) fun G=>?_
 by_cases h:LvOk l
 ·refine go (r:=?_);and_intros<;>intros<;>try exact True.intro
  refine WpA.loop (fun k:Nat=>⟨[(0,IL l),(3,.own 0 0 0 (pk l k).1.length),(4,I (pk l k).2),(5,I k)],[XP (pk l k).1]⟩) (fun k=>k≤l.length) (fun k=>l.length-k) 0 (by simp) (go (r:=?_)) (fun k hk=>?_)
  ·simp [pk]
  have hb:=pk_bd l k
  have hend:k=l.length→(pk l k).1=prsL l:=by rintro rfl;rw [prsL,if_pos h]
  by_cases hz:l.getD k 0=0
  ·have e1:pk l (k+1)=((pk l k).1,(pk l k).2+1):=by rw [pk,if_pos hz]
   have e2:(pk l (k+1)).1.length=(pk l k).1.length:=by rw [e1]
   refine go (r:=?_);and_intros<;>intros<;>try exact True.intro
   all_goals first|(rw [e1];done)|(rw [hend (by omega)];done)
  ·have e1:pk l (k+1)=((pk l k).1++[((pk l k).2,l.getD k 0)],0):=by rw [pk,if_neg hz]
   have e2:(pk l (k+1)).1.length=(pk l k).1.length+1:=by rw [e1,List.length_append,List.length_singleton]
   refine go (r:=?_);and_intros<;>intros<;>try exact True.intro
   all_goals first|(rw [e1];done)|(rw [e1];rfl)|(rw [hend (by omega)];done)
 ·have e:prsL l=[]:=by rw [prsL,if_neg h]
  refine go (r:=?_);and_intros<;>intros<;>try exact True.intro
  refine WpA.loop (fun k:Nat=>⟨[(0,IL l),(3,.own 0 0 0 0),(4,I 0),(5,I 0)],[XP []]⟩) (fun k=>k≤0) (fun k=>0) 0 (by omega) (go (r:=?_)) (fun k hk=>?_)
  ·first|trivial|(refine ⟨?_,?_⟩<;>trivial)|skip
  refine go (r:=?_);and_intros<;>intros<;>try exact True.intro
  all_goals first|(rw [e];done)|(rw [e];rfl)⟩
theorem ok_blk {w h q:Int} {l:List Int} {M:List Mbk} (hs:StOk w h q l M) {i:Nat} (hi:i<M.length):MbkOk (M.getD i default).1 (M.getD i default).2 l:=by
 have:=any_get hs.2.2 hi
 unfold badM at this
 exact Decidable.not_not.1 (of_decide_eq_false this)
theorem ok_lv {e:Bool} {bs:List Blok} {l:List Int} (hs:MbkOk e bs l) {k:Nat} (hk:k<bs.length):BlkOk (bs.getD k default).1 (bs.getD k default).2 l (sz8 e):=by
 have:=any_get hs.2 hk
 unfold badB at this
 exact Decidable.not_not.1 (of_decide_eq_false this)
end Go.Proofs.YtndflfipaddfoaaGreat


namespace Go.Proofs.YtndflfipaddfoaaGreat
open Go Go.Abs
attribute [local irreducible] WpA WpL Rnd Blk Abs.Seq Abs.Fin Abs.FinG FnC FnG Only
theorem fm_snoc {α β:Type} [Inhabited α] (f:α→List β) (l:List α) (k:Nat) (h:k<l.length):(l.take (k+1)).flatMap f=(l.take k).flatMap f++f (l.getD k default):=by
 rw [take_snoc l k h,List.flatMap_append];simp
theorem fm_bd {α β:Type} (f:α→List β) (c:Nat) (h:∀a,(f a).length≤c):∀l:List α,(l.flatMap f).length≤c*l.length
 |[]=>by simp
 |a::l=>by
  have:=fm_bd f c h l
  have h1:=h a
  rw [List.flatMap_cons,List.length_append,List.length_cons,Nat.mul_add];omega
theorem pk_in (l:List Int):∀k,k≤l.length→∀p∈(pk l k).1,(0≤p.1∧p.1≤k)∧p.2≠0∧p.2∈l
 |0,_,p,hp=>by simp [pk] at hp
 |k+1,hk,p,hp=>by
  have ih:=pk_in l k (by omega)
  have hb:=pk_bd l k
  rw [pk] at hp
  split at hp
  ·obtain ⟨a,b,c⟩:=ih p hp;exact ⟨by omega,b,c⟩
  ·rename_i hz
   rcases List.mem_append.1 hp with hp|hp
   ·obtain ⟨a,b,c⟩:=ih p hp;exact ⟨by omega,b,c⟩
   ·simp only [List.mem_singleton] at hp
    subst hp
    refine ⟨by omega,hz,?_⟩
    have e:l.getD k 0=l[k]'(by omega):=by simp [show k<l.length by omega]
    simp only [e];exact List.getElem_mem _
theorem in_mem {l:List Int} {lo hi:Int} (h:In l lo hi) {x:Int} (hx:x∈l):lo≤x∧x≤hi:=by
 unfold In at h;exact h x hx
theorem prs_in {l:List Int} (h:LvOk l) {k:Nat} (hk:k<(prsL l).length):(0≤((prsL l).getD k default).1∧((prsL l).getD k default).1≤64)∧((prsL l).getD k default).2≠0∧-16383≤((prsL l).getD k default).2∧((prsL l).getD k default).2≤16383:=by
 have hm:(prsL l).getD k default∈(prsL l):=by simp [hk]
 generalize (prsL l).getD k default=p at hm
 rw [prsL,if_pos h] at hm
 obtain ⟨h1,h2,h3⟩:=pk_in l l.length (Nat.le_refl _) p hm
 have h4:=in_mem h.1 h3
 have h5:l.length≤64:=by rcases h.2 with h|h<;>omega
 refine ⟨by omega,h2,h4⟩
theorem prs_len (l:List Int):(prsL l).length≤64:=by
 unfold prsL;split
 ·rename_i h
  have:=(pk_bd l l.length).1
  rcases h.2 with h|h<;>omega
 ·simp
theorem nolL_in {v:Int} (h:v≠0∧-16383≤v∧v≤16383):0≤nolL v∧nolL v≤65534:=by unfold nolL;split<;>(try split)<;>omega
def prB (p:Int×Int):List Int:=ueL p.1++ueL (nolL p.2)
theorem prB_len (p:Int×Int):(prB p).length≤128:=by
 have h1:=ueL_len p.1
 have h2:=ueL_len (nolL p.2)
 unfold prB;rw [List.length_append];omega
def bkK (m:Int) (lv lens:List Int) (k:Nat):List Int:=(symL lens m++[1]++ueL ((prsL lv).length-1))++((prsL lv).take k).flatMap prB
def bkL (m:Int) (lv lens:List Int) (n:Int):List Int:=if BlkOk m lv lens n then (if (prsL lv).length=0 then symL lens m++[0] else bkK m lv lens (prsL lv).length) else []
theorem symL_len7 (l:List Int) (m:Int):(symL l m).length≤48:=by
 unfold symL;split
 ·exact bitsL_len _ _
 ·simp
theorem bkK_len (m:Int) (lv lens:List Int) (k:Nat):(bkK m lv lens k).length≤113+128*k:=by
 have h1:=symL_len7 lens m
 have h2:=ueL_len ((prsL lv).length-1)
 have h3:=fm_bd prB 128 prB_len ((prsL lv).take k)
 have h4:((prsL lv).take k).length≤k:=by simp;omega
 unfold bkK;simp only [List.length_append,List.length_cons,List.length_nil];omega
theorem bkK_zero (m:Int) (lv lens:List Int):bkK m lv lens 0=symL lens m++[1]++ueL ((prsL lv).length-1):=by simp [bkK]
theorem bkK_succ (m:Int) (lv lens:List Int) (k:Nat) (h:k<(prsL lv).length):bkK m lv lens (k+1)=bkK m lv lens k++ueL ((prsL lv).getD k default).1++ueL (nolL ((prsL lv).getD k default).2):=by
 unfold bkK;rw [fm_snoc prB _ k h,←List.append_assoc,prB,←List.append_assoc]
theorem bkL_len (m:Int) (lv lens:List Int) (n:Int):(bkL m lv lens n).length≤8400:=by
 have h1:=symL_len7 lens m
 have h2:=bkK_len m lv lens (prsL lv).length
 have h3:=prs_len lv
 unfold bkL;split
 ·split
  ·simp;omega
  ·omega
 ·simp
instance BlockBits_s:Con 124 (∀ (m:Int) (lv lens:List Int) (n:Int),lv.length≤1099511627776∧lens.length≤1099511627776→Fn 124 [.agg [I m,IL lv],IL lens,I n] [XI (bkL m lv lens n)] (.own 0 0 0 (bkL m lv lens n).length)):=⟨fun m lv lens n hl=>by
 have hs:=symL_len7 lens m
 have hu:=ueL_len ((prsL lv).length-1)
 have hp:=prs_len lv
 refine FnC.of_body tabOk Tryz.func124 Tryz.ntmps124 rfl (by decide +kernel) (by simp) fun G=>?_
 by_cases h:BlkOk m lv lens n
 ·by_cases h0:(prsL lv).length=0
  ·have e:bkL m lv lens n=symL lens m++[0]:=by rw [bkL,if_pos h,if_pos h0]
   refine go (r:=?_);and_intros<;>intros<;>try exact True.intro
   all_goals first|(exact absurd h (by assumption))|(rw [e];done)|(rw [e];simp;done)
  ·have e:bkL m lv lens n=bkK m lv lens (prsL lv).length:=by rw [bkL,if_pos h,if_neg h0]
   have e0:=bkK_zero m lv lens
   have el0:(symL lens m).length+1+(ueL ((prsL lv).length-1)).length=(bkK m lv lens 0).length:=by rw [e0];simp;omega
   refine go (r:=?_);and_intros<;>intros<;>try exact True.intro
   all_goals first|(exact absurd h (by assumption))|(exact absurd (by omega) h0)|skip
   refine WpA.loop (fun k:Nat=>⟨[(7,.own 2 0 0 (bkK m lv lens k).length),(8,.own 3 0 0 (prsL lv).length),(9,I k)],[⟨[I m,IL lv],0,0,none⟩,XI [],XI (bkK m lv lens k),XP (prsL lv)]⟩) (fun k=>k≤(prsL lv).length) (fun k=>(prsL lv).length-k) 0 (by omega) (go (r:=?_)) (fun k hk=>?_)
   ·exact ⟨e0.symm,trivial⟩
   have hb:=bkK_len m lv lens k
   have hsc:=fun h=>bkK_succ m lv lens k h
   refine goR (r:=?_);and_intros<;>intros<;>try exact True.intro
   ·have hk2:k<(prsL lv).length:=by omega
    have hpi:=prs_in h.2.2.2 hk2
    have hsc:=hsc hk2
    have hsl:(bkK m lv lens (k+1)).length=(bkK m lv lens k).length+(ueL ((prsL lv).getD k default).1).length+(ueL (nolL ((prsL lv).getD k default).2)).length:=by rw [hsc];simp only [List.length_append]
    have ha:=ueL_len ((prsL lv).getD k default).1
    have hbb:=ueL_len (nolL ((prsL lv).getD k default).2)
    apply WpA.regionQF (O:=[⟨[I m,IL lv],0,0,none⟩,XI []]) (Or:=[XI (bkK m lv lens k),XP (prsL lv)]) (O1:=[⟨[I m,IL lv],0,0,none⟩,XI [],XD (bkK m lv lens k++ueL ((prsL lv).getD k default).1),XP (prsL lv),XD (ueL ((prsL lv).getD k default).1),XD (ueL (nolL ((prsL lv).getD k default).2)),deadO,deadO]) 15 2 [1] rfl mixed (by decide +kernel)
    ·exact rfl
    ·apply HeadQ.consF .none rfl
     ·exact rfl
     ·exact in1
     ·exact rfl
     ·exact rfl
     apply HeadQ.consF .none rfl
     ·exact rfl
     ·exact in1
     ·exact rfl
     ·exact rfl
     apply HeadQ.consF .none rfl
     ·exact rfl
     ·exact in1
     ·exact rfl
     ·exact rfl
     apply HeadQ.consF .none rfl
     ·exact rfl
     ·intro Tv Ov hc hp hd hk
      obtain ⟨A,Ov',rfl⟩:=split2 (hk 1 rfl)
      exact in1
     ·exact rfl
     ·exact rfl
     apply HeadQ.consF .none rfl
     ·exact rfl
     ·intro Tv Ov hc hp hd hk
      obtain ⟨A,Ov',rfl⟩:=split2 (hk 1 rfl)
      exact in1
     ·exact rfl
     ·exact rfl
     apply HeadQ.consF .none rfl
     ·exact rfl
     ·intro Tv Ov hc hp hd hk
      obtain ⟨A,Ov',rfl⟩:=split2 (hk 1 rfl)
      exact in1
     ·exact rfl
     ·exact rfl
     apply HeadQ.consF (V:=.own 4 1 0 (ueL ((prsL lv).getD k default).1).length) (.put 2 (XD (ueL ((prsL lv).getD k default).1))) rfl
     ·exact rfl
     ·intro Tv Ov hc hp hd hk
      refine K.call ?_
      refine K.con (fun hcon=>?_)
      refine WpL.callF (hcon _) snapA locA outA (cnt_some _ 0) rfl rfl (by decide) ?_
      rw [Nat.zero_add]
      apply WpL.putNil (p:=2)
      ·exact hp 2 _ rfl
      ·exact Nat.zero_le _
      ·exact rfl
      ·first|exact still_ints _|exact still_rows (fun _=>rfl) _|rfl
     ·exact rfl
     ·exact rfl
     apply HeadQ.consF (V:=.own 2 1 0 ((bkK m lv lens k).length+(ueL ((prsL lv).getD k default).1).length)) (.step 0 (XD (bkK m lv lens k++ueL ((prsL lv).getD k default).1))) rfl
     ·exact rfl
     ·intro Tv Ov hc hp hd hk
      refine WpL.appInts tabOk rfl rfl (fill_at (O:=[⟨[I m,IL lv],0,0,none⟩,XI []]) (hp 0 _ rfl)) (Nat.zero_le _) rfl (srcB_own (fill_at (O:=[⟨[I m,IL lv],0,0,none⟩,XI []]) (hd 6 _ 2 _ (by decide) rfl rfl)) rfl) (by first|rfl|omega) (by first|rfl|omega) (by omega) (by decide) ?_
      exact WpL.nil (Only.mk (congrArg (St.mk _) (step_eq (O:=[⟨[I m,IL lv],0,0,none⟩,XI []]) Ov (p:=0) _)))
     ·exact rfl
     ·exact rfl
     apply HeadQ.consF .none rfl
     ·exact rfl
     ·exact in1
     ·exact rfl
     ·exact rfl
     apply HeadQ.consF .none rfl
     ·exact rfl
     ·exact in1
     ·exact rfl
     ·exact rfl
     apply HeadQ.consF .none rfl
     ·exact rfl
     ·intro Tv Ov hc hp hd hk
      obtain ⟨A,Ov',rfl⟩:=split2 (hk 1 rfl)
      exact in1
     ·exact rfl
     ·exact rfl
     apply HeadQ.consF .none rfl
     ·exact rfl
     ·intro Tv Ov hc hp hd hk
      obtain ⟨A,Ov',rfl⟩:=split2 (hk 1 rfl)
      exact in1
     ·exact rfl
     ·exact rfl
     apply HeadQ.consF .none rfl
     ·exact rfl
     ·intro Tv Ov hc hp hd hk
      obtain ⟨A,Ov',rfl⟩:=split2 (hk 1 rfl)
      exact in1
     ·exact rfl
     ·exact rfl
     apply HeadQ.consF .none rfl
     ·exact rfl
     ·exact in0
     ·exact rfl
     ·exact rfl
     apply HeadQ.consF (V:=.own 5 1 0 (ueL (nolL ((prsL lv).getD k default).2)).length) (.put 3 (XD (ueL (nolL ((prsL lv).getD k default).2)))) rfl
     ·exact rfl
     ·intro Tv Ov hc hp hd hk
      refine K.call ?_
      refine K.con (fun hcon=>?_)
      refine WpL.callF (hcon _) snapA locA outA (cnt_some _ 0) rfl rfl (by decide) ?_
      rw [Nat.zero_add]
      apply WpL.putNil (p:=3)
      ·exact hp 3 _ rfl
      ·exact Nat.zero_le _
      ·exact rfl
      ·first|exact still_ints _|exact still_rows (fun _=>rfl) _|rfl
     ·exact rfl
     ·exact rfl
     exact HeadQ.nil
    ·exact rfl
    ·exact rfl
    ·exact rfl
    ·exact rfl
    ·exact rfl
    ·exact rfl
    ·exact rfl
    refine go (r:=?_);and_intros<;>intros<;>try exact True.intro
    all_goals first|(rw [hsc];done)
   all_goals have ek:k=(prsL lv).length:=by omega
   all_goals subst ek
   all_goals rw [e]
 ·have e:bkL m lv lens n=[]:=by rw [bkL,if_neg h]
  refine go (r:=?_);and_intros<;>intros<;>try exact True.intro
  all_goals first|(exact absurd (by assumption) h)|(rw [e];done)|(rw [e];rfl)⟩
end Go.Proofs.YtndflfipaddfoaaGreat


namespace Go.Proofs.YtndflfipaddfoaaGreat
open Go Go.Abs
attribute [local irreducible] WpA WpL Rnd Blk Abs.Seq Abs.Fin Abs.FinG FnC FnG Only
def mbK (e:Bool) (bs:List Blok) (lens:List Int) (k:Nat):List Int:=[bif e then 1 else 0]++(bs.take k).flatMap fun b=>bkL b.1 b.2 lens (sz8 e)
def mbbL (e:Bool) (bs:List Blok) (lens:List Int):List Int:=if MbkOk e bs lens then mbK e bs lens bs.length else []
theorem mbK_len (e:Bool) (bs:List Blok) (lens:List Int) (k:Nat):(mbK e bs lens k).length≤1+8400*k:=by
 have h3:=fm_bd (fun b:Blok=>bkL b.1 b.2 lens (sz8 e)) 8400 (fun b=>bkL_len _ _ _ _) (bs.take k)
 have h4:(bs.take k).length≤k:=by simp;omega
 unfold mbK;simp only [List.length_append,List.length_cons,List.length_nil];omega
theorem mbK_succ (e:Bool) (bs:List Blok) (lens:List Int) (k:Nat) (h:k<bs.length):mbK e bs lens (k+1)=mbK e bs lens k++bkL (bs.getD k default).1 (bs.getD k default).2 lens (sz8 e):=by
 unfold mbK;rw [fm_snoc _ _ k h,←List.append_assoc]
theorem mbbL_len (e:Bool) (bs:List Blok) (lens:List Int):(mbbL e bs lens).length≤33601:=by
 unfold mbbL;split
 ·rename_i h
  have h1:=mbK_len e bs lens bs.length
  have h2:=sz8_cases e
  have h3:=h.1
  omega
 ·simp
abbrev BoxM (e:Bool) (bs:List Blok):AObj:=⟨[B e,BkL bs],0,0,none⟩
instance MbBits_s:Con 96 (∀ (e:Bool) (bs:List Blok) (lens:List Int),bs.length≤1099511627776∧SmB 1099511627776 bs∧lens.length≤1099511627776→Fn 96 [.agg [B e,BkL bs],IL lens] [XI (mbbL e bs lens)] (.own 0 0 0 (mbbL e bs lens).length)):=⟨fun e bs lens hl=>by
 have hc:=sz8_cases e
 refine FnC.of_body tabOk Tryz.func96 Tryz.ntmps96 rfl (by decide +kernel) (by simp) fun G=>?_
 by_cases h:MbkOk e bs lens
 ·have he:mbbL e bs lens=mbK e bs lens bs.length:=by rw [mbbL,if_pos h]
  have hz:[bif e then (1:Int) else 0]=mbK e bs lens 0:=by simp [mbK]
  have hn:=h.1
  refine go (r:=?_);and_intros<;>intros<;>try exact True.intro
  all_goals first|exact hl.2.1|(exact absurd h (by assumption))|skip
  refine WpA.loop (fun k:Nat=>⟨[(1,IL lens),(2,.ptr 0 0 0),(5,.own 1 0 0 (mbK e bs lens k).length),(6,I k)],[BoxM e bs,XI (mbK e bs lens k)]⟩) (fun k=>k≤bs.length) (fun k=>bs.length-k) 0 (by omega) (go (r:=?_)) (fun k hk=>?_)
  ·trivial
  have hb:=mbK_len e bs lens k
  have hsc:=fun h=>mbK_succ e bs lens k h
  have hbl:=bkL_len (bs.getD k default).1 (bs.getD k default).2 lens (sz8 e)
  have hsl:k<bs.length→(mbK e bs lens (k+1)).length=(mbK e bs lens k).length+(bkL (bs.getD k default).1 (bs.getD k default).2 lens (sz8 e)).length:=fun h=>by rw [hsc h];simp only [List.length_append]
  have hg:=fun h=>smB_get hl.2.1 (k:=k) h
  refine go (r:=?_);and_intros<;>intros<;>try exact True.intro
  all_goals first|(rw [hsc (by omega)];done)|skip
  all_goals have ek:k=bs.length:=by omega
  all_goals subst ek
  all_goals rw [he]
 ·have he:mbbL e bs lens=[]:=by rw [mbbL,if_neg h]
  refine go (r:=?_);and_intros<;>intros<;>try exact True.intro
  all_goals first|exact hl.2.1|(exact absurd (by assumption) h)|(rw [he];done)|(rw [he];rfl)⟩
def hdB (w h q:Int) (b d:Bool):List Int:=bitsL 183 8++ueL (w/8-1)++ueL (h/8-1)++bitsL q 6++[bif b then 1 else 0,bif d then 1 else 0]
def hdK (w h q:Int) (b d:Bool) (l:List Int) (k:Nat):List Int:=hdB w h q b d++(l.take k).flatMap fun n=>bitsL n 3
def hdL (w h q:Int) (b d:Bool) (l:List Int):List Int:=if HdOk w h q l then hdK w h q b d l l.length else []
theorem hdB_len (w h q:Int) (b d:Bool):(hdB w h q b d).length≤226:=by
 have h1:=bitsL_len 183 8
 have h2:=ueL_len (w/8-1)
 have h3:=ueL_len (h/8-1)
 have h4:=bitsL_len q 6
 unfold hdB;simp only [List.length_append,List.length_cons,List.length_nil];omega
theorem hdK_len (w h q:Int) (b d:Bool) (l:List Int) (k:Nat):(hdK w h q b d l k).length≤226+48*k:=by
 have h1:=hdB_len w h q b d
 have h3:=fm_bd (fun n:Int=>bitsL n 3) 48 (fun n=>bitsL_len _ _) (l.take k)
 have h4:(l.take k).length≤k:=by simp;omega
 unfold hdK;simp only [List.length_append];omega
theorem hdK_succ (w h q:Int) (b d:Bool) (l:List Int) (k:Nat) (hk:k<l.length):hdK w h q b d l (k+1)=hdK w h q b d l k++bitsL (l.getD k 0) 3:=by
 unfold hdK;rw [fm_snoc _ _ k hk,←List.append_assoc];rfl
theorem hdL_len (w h q:Int) (b d:Bool) (l:List Int):(hdL w h q b d l).length≤600:=by
 unfold hdL;split
 ·rename_i hh
  have h1:=hdK_len w h q b d l l.length
  have h6:=hh.2.2.2.1
  omega
 ·simp
theorem in_getH {l:List Int} {lo hi:Int} (h:In l lo hi) {k:Nat} (hk:k<l.length):lo≤l.getD k 0∧l.getD k 0≤hi:=by
 have e:l.getD k 0=l[k]:=by simp [hk]
 rw [e];exact in_mem h (List.getElem_mem _)
abbrev BoxH (w h q:Int) (b d:Bool) (l:List Int):AObj:=⟨[I w,I h,I q,B b,B d,IL l],0,0,none⟩
instance HeaderBits_s:Con 95 (∀ (w h q:Int) (b d:Bool) (l:List Int),l.length≤1099511627776→Fn 95 [HdA w h q b d l] [XI (hdL w h q b d l)] (.own 0 0 0 (hdL w h q b d l).length)):=⟨fun w h q b d l hl=>by
 have h1:=bitsL_len 183 8
 have h2:=ueL_len (w/8-1)
 have h3:=ueL_len (h/8-1)
 have h4:=bitsL_len q 6
 refine FnC.of_body tabOk Tryz.func95 Tryz.ntmps95 rfl (by decide +kernel) (by simp) fun G=>?_
 by_cases h0:HdOk w h q l
 ·have he:hdL w h q b d l=hdK w h q b d l l.length:=by rw [hdL,if_pos h0]
  have hz:bitsL 183 8++ueL (w/8-1)++ueL (h/8-1)++bitsL q 6++[bif b then 1 else 0,bif d then 1 else 0]=hdK w h q b d l 0:=by simp [hdK,hdB]
  have h6:=h0.2.2.2.1
  have hs:=h0.1
  have hq:=h0.2.1
  have hzl:(bitsL 183 8).length+(ueL (w/8-1)).length+(ueL (h/8-1)).length+(bitsL q 6).length+2=(hdK w h q b d l 0).length:=by rw [←hz];simp only [List.length_append,List.length_cons,List.length_nil]
  refine go (r:=?_);and_intros<;>intros<;>try exact True.intro
  all_goals first|(exact absurd h0 (by assumption))|skip
  refine WpA.loop (fun k:Nat=>⟨[(1,.ptr 0 0 0),(3,.own 1 0 0 (hdK w h q b d l k).length),(4,I k)],[BoxH w h q b d l,XI (hdK w h q b d l k)]⟩) (fun k=>k≤l.length) (fun k=>l.length-k) 0 (by omega) (go (r:=?_)) (fun k hk=>?_)
  ·trivial
  have hb:=hdK_len w h q b d l k
  have hsc:=fun hk=>hdK_succ w h q b d l k hk
  have hbl:=bitsL_len (l.getD k 0) 3
  have hin:=fun hk=>in_getH h0.2.2.1 (k:=k) hk
  have hsl:k<l.length→(hdK w h q b d l (k+1)).length=(hdK w h q b d l k).length+(bitsL (l.getD k 0) 3).length:=fun hk=>by rw [hsc hk];simp only [List.length_append]
  refine go (r:=?_);and_intros<;>intros<;>try exact True.intro
  all_goals first|(rw [hsc (by omega)];done)|skip
  all_goals have ek:k=l.length:=by omega
  all_goals subst ek
  all_goals rw [he]
 ·have he:hdL w h q b d l=[]:=by rw [hdL,if_neg h0]
  refine go (r:=?_);and_intros<;>intros<;>try exact True.intro
  all_goals first|(exact absurd (by assumption) h0)|(rw [he];done)|(rw [he];rfl)⟩
end Go.Proofs.YtndflfipaddfoaaGreat


namespace Go.Proofs.YtndflfipaddfoaaGreat
open Go Go.Abs
attribute [local irreducible] WpA WpL Rnd Blk Abs.Seq Abs.Fin Abs.FinG FnC FnG Only
attribute [local irreducible] bitsL ueL
theorem hd_ws {w h:Int} (hs:SidesOk w h):(0≤w/8-1∧w/8-1≤65534)∧(0≤h/8-1∧h/8-1≤65534):=by
 have:=hs;unfold SidesOk at this;omega
end Go.Proofs.YtndflfipaddfoaaGreat


namespace Go.Proofs.YtndflfipaddfoaaGreat
open Go Go.Abs
attribute [local irreducible] WpA WpL Rnd Blk Abs.Seq Abs.Fin Abs.FinG FnC FnG Only
def marksI (k:Int) (n:Nat):List Int:=(List.range n).map fun i:Nat=>k+(i:Int)
@[simp] theorem marksI_len (k:Int) (n:Nat):(marksI k n).length=n:=by simp [marksI]
def marksB (k:Int) (n:Nat):List Bool:=(List.range n).map fun i:Nat=>decide ((k+(i:Int))%3=0)
@[simp] theorem marksB_len (k:Int) (n:Nat):(marksB k n).length=n:=by simp [marksB]
end Go.Proofs.YtndflfipaddfoaaGreat


namespace Go.Proofs.YtndflfipaddfoaaGreat
open Go Go.Abs
attribute [local irreducible] WpA WpL Rnd Blk Abs.Seq Abs.Fin Abs.FinG FnC FnG Only
attribute [local simp] Abs.setL
def endB (k:Int) (l:List Blok):Int:=k+bw l
def markB:Int→List Blok→List Blok
 |_,[]=>[]
 |k,b::l=>(k,marksI (k+1) b.2.length)::markB (k+1+b.2.length) l
theorem bw_nil:bw []=0:=rfl
theorem bw_cons (b:Blok) (l:List Blok):bw (b::l)=bw l+1+b.2.length:=by unfold bw;rw [List.map_cons,List.sum_cons,List.length_cons];unfold bn;omega
@[simp] theorem markB_len:∀(l:List Blok) (k:Int),(markB k l).length=l.length
 |[],k=>rfl
 |b::l,k=>by rw [markB,List.length_cons,List.length_cons,markB_len l]
def markM:Int→List Mbk→List Mbk
 |_,[]=>[]
 |k,m::l=>(decide (k%3=0),markB (k+1) m.2)::markM (k+1+bw m.2) l
theorem mw_nil:mw []=0:=rfl
theorem mw_cons (b:Mbk) (l:List Mbk):mw (b::l)=mw l+1+bw b.2:=by unfold mw;rw [List.map_cons,List.sum_cons,List.length_cons];unfold mn;omega
@[simp] theorem markM_len:∀(l:List Mbk) (k:Int),(markM k l).length=l.length
 |[],k=>rfl
 |b::l,k=>by rw [markM,List.length_cons,List.length_cons,markM_len l]
end Go.Proofs.YtndflfipaddfoaaGreat


namespace Go.Proofs.YtndflfipaddfoaaGreat
open Go Go.Abs
attribute [local irreducible] WpA WpL Rnd Blk Abs.Seq Abs.Fin Abs.FinG FnC FnG Only
def mbF (l:List Int) (m:Mbk):List Int:=mbbL m.1 m.2 l
def stK (w h q:Int) (b d:Bool) (l:List Int) (M:List Mbk) (k:Nat):List Int:=hdL w h q b d l++(M.take k).flatMap (mbF l)
theorem stK_len (w h q:Int) (b d:Bool) (l:List Int) (M:List Mbk) (k:Nat):(stK w h q b d l M k).length≤600+33601*k:=by
 have h1:=hdL_len w h q b d l
 have h3:=fm_bd (mbF l) 33601 (fun m=>mbbL_len _ _ _) (M.take k)
 have h4:(M.take k).length≤k:=by simp;omega
 unfold stK;simp only [List.length_append];omega
theorem stK_succ (w h q:Int) (b d:Bool) (l:List Int) (M:List Mbk) (k:Nat) (hk:k<M.length):stK w h q b d l M (k+1)=stK w h q b d l M k++mbF l (M.getD k default):=by
 unfold stK;rw [fm_snoc _ _ k hk,←List.append_assoc]
end Go.Proofs.YtndflfipaddfoaaGreat


namespace Go.Proofs.YtndflfipaddfoaaGreat
open Go Go.Abs
attribute [local irreducible] WpA WpL Rnd Blk Abs.Seq Abs.Fin Abs.FinG FnC FnG Only
def Bit01 (l:List Int):Prop:=∀x∈l,x=0∨x=1
theorem b01_app {a b:List Int} (h1:Bit01 a) (h2:Bit01 b):Bit01 (a++b):=fun x hx=>(List.mem_append.1 hx).elim (h1 x) (h2 x)
theorem b01_nil:Bit01 []:=fun x hx=>by cases hx
theorem b01_rep (n:Nat):Bit01 (List.replicate n 0):=fun x hx=>.inl (List.mem_replicate.1 hx).2
theorem b01_bits (n w:Int):Bit01 (bitsL n w):=by
 unfold bitsL;split
 ·intro x hx
  unfold bitsR at hx
  obtain ⟨k,_,rfl⟩:=List.mem_map.1 hx
  omega
 ·exact b01_nil
theorem b01_ue (n:Int):Bit01 (ueL n):=by
 unfold ueL;split
 ·exact b01_app (b01_rep _) (b01_bits _ _)
 ·exact b01_nil
theorem b01_sym (l:List Int) (m:Int):Bit01 (symL l m):=by
 unfold symL;split
 ·exact b01_bits _ _
 ·exact b01_nil
theorem b01_one (b:Bool):(bif b then (1:Int) else 0)=0∨(bif b then (1:Int) else 0)=1:=by cases b<;>simp
theorem b01_fm {α:Type} (f:α→List Int) (h:∀a,Bit01 (f a)):∀l:List α,Bit01 (l.flatMap f):=fun l x hx=>by
 obtain ⟨a,_,hx⟩:=List.mem_flatMap.1 hx
 exact h a x hx
theorem b01_prB (p:Int×Int):Bit01 (prB p):=b01_app (b01_ue _) (b01_ue _)
theorem b01_bk (m:Int) (lv lens:List Int) (n:Int):Bit01 (bkL m lv lens n):=by
 unfold bkL;split
 ·split
  ·exact b01_app (b01_sym _ _) (fun x hx=>by simp at hx;exact .inl hx)
  ·unfold bkK
   exact b01_app (b01_app (b01_app (b01_sym _ _) (fun x hx=>by simp at hx;exact .inr hx)) (b01_ue _)) (b01_fm _ b01_prB _)
 ·exact b01_nil
theorem b01_mb (e:Bool) (bs:List Blok) (lens:List Int):Bit01 (mbbL e bs lens):=by
 unfold mbbL;split
 ·unfold mbK
  exact b01_app (fun x hx=>by simp only [List.mem_singleton] at hx;rw [hx];exact b01_one e) (b01_fm _ (fun b=>b01_bk _ _ _ _) _)
 ·exact b01_nil
theorem b01_hd (w h q:Int) (b d:Bool) (l:List Int):Bit01 (hdL w h q b d l):=by
 unfold hdL;split
 ·unfold hdK hdB
  refine b01_app (b01_app (b01_app (b01_app (b01_app (b01_bits _ _) (b01_ue _)) (b01_ue _)) (b01_bits _ _)) ?_) (b01_fm _ (fun n=>b01_bits _ _) _)
  intro x hx
  simp only [List.mem_cons,List.not_mem_nil,or_false] at hx
  rcases hx with rfl|rfl
  ·exact b01_one b
  ·exact b01_one d
 ·exact b01_nil
theorem b01_st (w h q:Int) (b d:Bool) (l:List Int) (M:List Mbk) (k:Nat):Bit01 (stK w h q b d l M k):=by
 unfold stK
 exact b01_app (b01_hd _ _ _ _ _ _) (b01_fm _ (fun m=>b01_mb _ _ _) _)
def numS (l:List Int) (k:Nat):Int:=(l.take k).foldl (fun n b=>n*2+b) 0
theorem numS_succ {l:List Int} {k:Nat} (h:k<l.length):numS l (k+1)=numS l k*2+l.getD k 0:=by
 unfold numS;rw [List.take_succ_eq_append_getElem h,List.foldl_append];simp [h]
theorem b01_get {l:List Int} (h:Bit01 l) (k:Nat):l.getD k 0=0∨l.getD k 0=1:=by
 rcases Nat.lt_or_ge k l.length with h1|h1
 ·exact h _ (by simp [h1])
 ·left;rw [List.getD_eq_getElem?_getD,List.getElem?_eq_none h1];rfl
theorem numS_bd {l:List Int} (h:Bit01 l):∀k,k≤8→0≤numS l k∧numS l k<2 ^ k
 |0,_=>by simp [numS]
 |k+1,hk=>by
  have ih:=numS_bd h k (by omega)
  rcases Nat.lt_or_ge k l.length with h1|h1
  ·rw [numS_succ h1]
   have:=b01_get h k
   have e:(2:Int) ^ (k+1)=2 ^ k*2:=by rw [Int.pow_succ]
   omega
  ·have e:numS l (k+1)=numS l k:=by unfold numS;rw [List.take_of_length_le (by omega),List.take_of_length_le (by omega)]
   have e2:(2:Int) ^ (k+1)=2 ^ k*2:=by rw [Int.pow_succ]
   omega
theorem numS_256 {l:List Int} (h:Bit01 l) {k:Nat} (hk:k≤8):0≤numS l k∧numS l k<256:=by
 have h1:=numS_bd h k hk
 have h2:(2:Int) ^ k≤2 ^ 8:=by
  have:=Nat.pow_le_pow_right (n:=2) (by decide) hk
  exact_mod_cast this
 have h3:(2:Int) ^ 8=256:=by decide
 omega
instance NumOf_s:Con 262 (∀ l:List Int,l.length=8∧Bit01 l→Fn 262 [IL l] [] (.tup [I (numS l 8),B true])):=⟨fun l hl=>by
 have h8:=hl.1
 refine FnC.of_body tabOk Tryz.func262 Tryz.ntmps262 rfl (by decide +kernel) (by simp) fun G=>?_
 refine go (r:=?_);and_intros<;>intros<;>try exact True.intro
 refine WpA.loop (fun k:Nat=>⟨[(0,IL l),(4,I (numS l k)),(5,I k)],[]⟩) (fun k=>k≤8) (fun k=>8-k) 0 (by omega) (go (r:=?_)) (fun k hk=>?_)
 ·simp [numS]
 have hb:=b01_get hl.2 k
 have hn:=numS_256 hl.2 hk
 have hs:=fun h=>numS_succ (l:=l) (k:=k) h
 refine go (r:=?_);and_intros<;>intros<;>try exact True.intro
 all_goals first|(exact (hs (by omega)).symm)|(rw [show k=8 by omega];done)⟩
def byI (x:List Int) (k:Nat):List Int:=(List.range k).map fun i=>numS ((x.drop (8*i)).take 8) 8
def strS (x:List Int):List UInt8:=(byI x (x.length/8)).map fun n:Int=>UInt8.ofNat n.toNat
theorem byI_len (x:List Int) (k:Nat):(byI x k).length=k:=by simp [byI]
theorem byI_succ (x:List Int) (k:Nat):byI x (k+1)=byI x k++[numS ((x.drop (8*k)).take 8) 8]:=by simp [byI,List.range_succ]
theorem strS_len (x:List Int):(strS x).length=x.length/8:=by unfold strS;rw [List.length_map,byI_len]
theorem b01_mid {x:List Int} (h:Bit01 x) (i:Nat):Bit01 ((x.drop i).take 8):=fun y hy=>h y (List.mem_of_mem_drop (List.mem_of_mem_take hy))
instance BytesOf_s:Con 190 (∀ l:List Int,l.length≤1099511627776∧l.length%8=0∧Bit01 l→Fn 190 [IL l] [] (.tup [Z (strS l),B true])):=⟨fun l hl=>by
 have h8:=hl.2.1
 refine FnC.of_body tabOk Tryz.func190 Tryz.ntmps190 rfl (by decide +kernel) (by simp) fun G=>?_
 refine go (r:=?_);and_intros<;>intros<;>try exact True.intro
 all_goals first|contradiction|omega|skip
 refine WpA.loop (fun k:Nat=>⟨[(0,IL l),(4,.own 0 0 0 k),(5,I (8*(k:Int)))],[⟨u8s (byI l k),0,1,some 5⟩]⟩) (fun k=>k≤l.length/8) (fun k=>l.length/8-k) 0 (by omega) (go (r:=?_)) (fun k hk=>?_)
 ·and_intros<;>first|exact True.intro|rfl
 have hln:=byI_len l k
 have hs:=byI_succ l k
 have hm:=b01_mid hl.2.2 (8*k)
 have hn:=numS_256 hm (k:=8) (by omega)
 by_cases hlt:k<l.length/8
 ·have hml:((l.drop (8*k)).take 8).length=8:=by simp;omega
  have e1:(8*(k:Int)+8).toNat-(8*(k:Int)).toNat=8:=by omega
  have e2:(8*(k:Int)).toNat=8*k:=by omega
  refine go (r:=?_);and_intros<;>intros<;>try exact True.intro
  all_goals first|contradiction|omega|skip
  ·rename_i y hy
   rw [e1,e2] at hy;exact hm y hy
  ·rw [e1,e2,u8_in (by omega),hs]
 ·obtain rfl:k=l.length/8:=by omega
  refine go (r:=?_);and_intros<;>intros<;>try exact True.intro
  refine K.cv ?_
  refine WpL.ofBytes tabOk rfl rfl rfl rfl rfl (by simp [u8s,hln]) (by decide) ?_
  refine go (r:=?_);and_intros<;>intros<;>try exact True.intro
  all_goals trace_state⟩
def padN (n:Nat):Nat:=(8-(n+1)%8)%8
def padL (b:List Int) (j:Nat):List Int:=b++[1]++List.replicate j 0
theorem padL_len (b:List Int) (j:Nat):(padL b j).length=b.length+1+j:=by simp [padL];omega
theorem padL_succ (b:List Int) (j:Nat):padL b (j+1)=padL b j++[0]:=by unfold padL;rw [List.replicate_succ',←List.append_assoc]
theorem b01_pad {b:List Int} (h:Bit01 b) (j:Nat):Bit01 (padL b j):=b01_app (b01_app h (fun x hx=>by simp at hx;exact .inr hx)) (b01_rep j)
def stopS (b:List Int):List UInt8:=strS (padL b (padN b.length))
theorem stopS_len (b:List Int):(stopS b).length=(b.length+8)/8:=by
 unfold stopS;rw [strS_len,padL_len];unfold padN;omega
instance Stopped_s:Con 97 (∀ b:List Int,b.length≤1073741824∧Bit01 b→Fn 97 [IL b] [] (Z (stopS b))):=⟨fun b hl=>by
 have h0:=hl.1
 refine FnC.of_body tabOk Tryz.func97 Tryz.ntmps97 rfl (by decide +kernel) (by simp) fun G=>?_
 refine go (r:=?_);and_intros<;>intros<;>try exact True.intro
 all_goals first|contradiction|omega|skip
 refine WpA.loop (fun j:Nat=>⟨[(3,.own 0 0 0 (b.length+1+j))],[XI (padL b j)]⟩) (fun j=>j≤padN b.length) (fun j=>padN b.length-j) 0 (Nat.zero_le _) ?_ (fun j hj=>?_)
 ·exact Weak.mk (by repeat (first|exact ReT.nil|refine ReT.cons (.keep rfl rfl .nil) ?_|refine ReT.cons (.own rfl rfl rfl rfl rfl rfl .nil) ?_|refine ReT.cons (.ptr rfl rfl rfl rfl .nil) ?_|refine ReT.cons (.keep (congrArg (fun z=>AV.sc (Value.int .i64 z)) (by first|omega|(skip))) rfl .nil) ?_|refine ReT.cons (.keep (congrArg (fun z:List UInt8=>AV.sc (Value.string ⟨z.toArray⟩)) (by skip)) rfl .nil) ?_|refine ReT.cons (.own rfl rfl rfl rfl rfl (by first|omega|(simp;done)|(simp;omega)) .nil) ?_)) (by exact ReO.cons (Re.same (by simp [padL]) (still_ints _)) (.inr rfl) .nil) (Nat.zero_le _)
 have hpl:=padL_len b j
 have hps:=padL_succ b j
 have hcond:j<padN b.length↔(b.length+1+j)%8≠0:=by unfold padN at hj ⊢;omega
 have hp8:padN b.length≤7:=by unfold padN;omega
 by_cases hlt:j<padN b.length
 ·have hc:=hcond.1 hlt
  refine go (r:=?_);and_intros<;>intros<;>try exact True.intro
  all_goals first|contradiction|omega|exact hps.symm
 ·obtain rfl:j=padN b.length:=by omega
  have hc:(b.length+1+padN b.length)%8=0:=Decidable.byContradiction fun h=>hlt (hcond.2 h)
  have hb:=b01_pad hl.2 (padN b.length)
  refine go (r:=?_);and_intros<;>intros<;>try exact True.intro
  all_goals first|contradiction|omega|exact hb|exact hb _ (by assumption)⟩
def unpS (w h q:Int) (b d:Bool) (l:List Int) (M:List Mbk):List UInt8:=if StOk w h q l M then stopS (stK w h q b d l M M.length) else []
theorem stK_small {w h q:Int} {b d:Bool} {l:List Int} {M:List Mbk} (h0:StOk w h q l M):(stK w h q b d l M M.length).length≤600000:=by
 have h1:=stK_len w h q b d l M M.length
 have h2:=cntM_bd h0.1.1
 have h3:=h0.2.1
 omega
theorem unpS_len (w h q:Int) (b d:Bool) (l:List Int) (M:List Mbk):(unpS w h q b d l M).length≤100000:=by
 unfold unpS;split
 ·rename_i h0
  rw [stopS_len]
  have:=stK_small (b:=b) (d:=d) h0
  omega
 ·simp
instance Unparse_s:Con 39 (∀ (w h q:Int) (b d:Bool) (l:List Int) (M:List Mbk),l.length≤1099511627776∧mw M≤1048576→Fn 39 [StA w h q b d l M] [] (Z (unpS w h q b d l M))):=⟨fun w h q b d l M hM=>by
 have hmw:mw M=M.length+(M.map mn).sum:=rfl
 have hsm:SmM 1099511627776 M:=smM_of (by omega)
 have hhl:=hdL_len w h q b d l
 refine FnC.of_body tabOk Tryz.func39 Tryz.ntmps39 rfl (by decide +kernel) (by simp) fun G=>?_
 by_cases h0:StOk w h q l M
 ·have hres:unpS w h q b d l M=stopS (stK w h q b d l M M.length):=by rw [unpS,if_pos h0]
  have hz:(hdL w h q b d l).length=(stK w h q b d l M 0).length:=by simp [stK]
  have hz0:hdL w h q b d l=stK w h q b d l M 0:=by simp [stK]
  refine go (r:=?_);and_intros<;>intros<;>try exact True.intro
  all_goals first|exact hsm|(exact absurd h0 (by assumption))|skip
  refine WpA.loop (fun i:Nat=>⟨[(1,.ptr 0 0 0),(3,.own 1 0 0 (stK w h q b d l M i).length),(4,I i)],[⟨StC w h q b d l M,0,0,none⟩,XI (stK w h q b d l M i)]⟩) (fun i=>i≤M.length) (fun i=>M.length-i) 0 (by omega) (go (r:=?_)) (fun i hi=>?_)
  ·and_intros<;>first|exact True.intro|exact hz|exact hz0|exact hz.symm
  have hb:=stK_len w h q b d l M i
  have hsc:=fun hk=>stK_succ w h q b d l M i hk
  have hbl:=mbbL_len (M.getD i default).1 (M.getD i default).2 l
  have hsl:i<M.length→(stK w h q b d l M (i+1)).length=(stK w h q b d l M i).length+(mbbL (M.getD i default).1 (M.getD i default).2 l).length:=fun hk=>by rw [hsc hk,List.length_append];rfl
  by_cases hi2:i<M.length
  ·obtain ⟨hg1,hg2⟩:=smM_get hsm hi2
   have hsl:=hsl hi2
   refine go (r:=?_);and_intros<;>intros<;>try exact True.intro
   all_goals first|(rw [hsc hi2];rfl)
  ·have ek:i=M.length:=by omega
   subst ek
   have hst:=stK_small (b:=b) (d:=d) h0
   have h01:=b01_st w h q b d l M M.length
   refine go (r:=?_);and_intros<;>intros<;>try exact True.intro
   all_goals first|exact h01|exact h01 _ (by assumption)|(rw [hres];done)
 ·have hres:unpS w h q b d l M=[]:=by rw [unpS,if_neg h0]
  refine go (r:=?_);and_intros<;>intros<;>try exact True.intro
  all_goals first|exact hsm|(exact absurd (by assumption) h0)|(rw [hres];done)⟩
end Go.Proofs.YtndflfipaddfoaaGreat


namespace Go.Proofs.YtndflfipaddfoaaGreat
open Go Go.Abs
def bit1 (y:Int):Int:=IntKind.i64.wrap ((BitVec.ofInt IntKind.i64.bits y &&& BitVec.ofInt IntKind.i64.bits 1).toNat:Nat)
theorem bit1_bd (y:Int):0≤bit1 y∧bit1 y≤1:=by
 have h:(BitVec.ofInt IntKind.i64.bits y &&& BitVec.ofInt IntKind.i64.bits 1).toNat≤1:=by
  rw [BitVec.toNat_and]
  exact Nat.le_trans Nat.and_le_right (by decide)
 unfold bit1
 rw [wrap64 _ (by omega)]
 omega
def btA (p:List UInt8) (i:Int):Int:=if i<0∨8*(p.length:Int)≤i then -1 else bit1 (((p.getD (i/8).toNat 0).toNat:Int)/2 ^ (7-i%8).toNat)
theorem btA_out (p:List UInt8) (i:Int):btA p i<0↔(i<0∨8*(p.length:Int)≤i):=by
 unfold btA
 have:=bit1_bd (((p.getD (i/8).toNat 0).toNat:Int)/2 ^ (7-i%8).toNat)
 split<;>omega
theorem btA_bd (p:List UInt8) (i:Int):-1≤btA p i∧btA p i≤1:=by
 unfold btA
 have:=bit1_bd (((p.getD (i/8).toNat 0).toNat:Int)/2 ^ (7-i%8).toNat)
 split<;>omega
def bv (p:List UInt8) (i:Int):Int:=max (btA p i) 0
theorem bv_bd (p:List UInt8) (i:Int):0≤bv p i∧bv p i≤1:=by have:=btA_bd p i;unfold bv;omega
def numB (p:List UInt8) (s:Int):Nat→Int
 |0=>0
 |k+1=>numB p s k*2+bv p (s+k)
theorem numB_bd (p:List UInt8) (s:Int):∀k,0≤numB p s k∧numB p s k<2 ^ k
 |0=>by simp [numB]
 |k+1=>by
  have h1:=numB_bd p s k
  have h2:=bv_bd p (s+k)
  rw [numB,Int.pow_succ];omega
theorem numB_le (p:List UInt8) (s:Int) {k j:Nat} (h:k≤j):numB p s k<2 ^ j:=by
 have h1:=numB_bd p s k
 have h2:(2:Int) ^ k≤2 ^ j:=by exact_mod_cast Nat.pow_le_pow_right (by decide) h
 omega
theorem numB_add (p:List UInt8) (s:Int) (a:Nat):∀b,numB p s (a+b)=numB p s a*2 ^ b+numB p (s+a) b
 |0=>by simp [numB]
 |b+1=>by
  rw [←Nat.add_assoc,numB,numB_add p s a b,numB,Int.pow_succ,Int.natCast_add,←Int.add_assoc,Int.add_mul,Int.mul_assoc,Int.add_assoc]
abbrev RdOk (p:List UInt8) (s:Int):Prop:=0≤s∧s≤8*(p.length:Int)
def lft (p:List UInt8) (s:Int):Int:=if RdOk p s then 8*(p.length:Int)-s else 0
theorem lft_bd (p:List UInt8) (s:Int):0≤lft p s∧lft p s≤8*(p.length:Int):=by unfold lft;split<;>omega
theorem lft_ok {p:List UInt8} {s:Int} (h:RdOk p s):lft p s=8*(p.length:Int)-s:=by rw [lft,if_pos h]
theorem lft_no {p:List UInt8} {s:Int} (h:¬RdOk p s):lft p s=0:=by rw [lft,if_neg h]
abbrev RbOk (p:List UInt8) (s n:Int):Prop:=RdOk p s∧(0≤n∧n≤32)∧n≤lft p s
def rbA (p:List UInt8) (s n:Int):Int:=if RbOk p s n then s+n else s
def rbV (p:List UInt8) (s n:Int):Int:=if RbOk p s n then numB p s n.toNat else 0
theorem rbV_bd (p:List UInt8) (s n:Int):0≤rbV p s n∧rbV p s n<4294967296:=by
 unfold rbV;split
 ·rename_i h
  have h1:=numB_bd p s n.toNat
  have h2:=numB_le p s (k:=n.toNat) (j:=32) (by omega)
  omega
 ·omega
theorem rb_yes {p:List UInt8} {s n:Int} (h:RbOk p s n):rbA p s n=s+n∧rbV p s n=numB p s n.toNat:=⟨if_pos h,if_pos h⟩
theorem rb_no {p:List UInt8} {s n:Int} (h:¬RbOk p s n):rbA p s n=s∧rbV p s n=0:=⟨if_neg h,if_neg h⟩
def zrW (p:List UInt8) (s:Int):Nat→Nat→Nat
 |0,n=>n
 |f+1,n=>if btA p (s+n)=0 then zrW p s f (n+1) else n
def zrs (p:List UInt8) (s:Int):Nat:=zrW p s (lft p s).toNat 0
theorem zrW_le (p:List UInt8) (s:Int):∀f n,n≤zrW p s f n∧zrW p s f n≤n+f
 |0,n=>by simp [zrW]
 |f+1,n=>by
  rw [zrW];split
  ·have:=zrW_le p s f (n+1);omega
  ·omega
theorem zrs_le (p:List UInt8) (s:Int):(zrs p s:Int)≤lft p s:=by
 have:=zrW_le p s (lft p s).toNat 0
 have:=lft_bd p s
 unfold zrs;omega
theorem zrW_eq (p:List UInt8) (s:Int):∀(f n k:Nat),k≤f→(∀ j<k,btA p (s+(n+j:Nat))=0)→(k=f∨btA p (s+(n+k:Nat))≠0)→zrW p s f n=n+k
 |0,n,k,h1,_,_=>by have:k=0:=by omega
                   subst this;rfl
 |f+1,n,0,_,_,h3=>by
  rw [zrW]
  rcases h3 with h3|h3
  ·omega
  ·rw [if_neg (by simpa using h3)];rfl
 |f+1,n,k+1,h1,h2,h3=>by
  have h0:=h2 0 (by omega)
  rw [zrW,if_pos (by simpa using h0),zrW_eq p s f (n+1) k (by omega) (fun j hj=>by have:=h2 (j+1) (by omega);rw [show n+1+j=n+(j+1) by omega];exact this)
   (by rcases h3 with h3|h3;exact .inl (by omega);exact .inr (by rw [show n+1+k=n+(k+1) by omega];exact h3))]
  omega
theorem zrs_eq {p:List UInt8} {s:Int} {k:Nat} (h1:(k:Int)≤lft p s) (h2:∀j<k,btA p (s+(j:Nat))=0) (h3:(k:Int)=lft p s∨btA p (s+(k:Nat))≠0):zrs p s=k:=by
 have h0:=lft_bd p s
 unfold zrs
 rw [zrW_eq p s _ 0 k (by omega) (fun j hj=>by rw [Nat.zero_add];exact h2 j hj) (by rw [Nat.zero_add];rcases h3 with h3|h3;exact .inl (by omega);exact .inr h3)]
 omega
theorem zrW_zero (p:List UInt8) (s:Int):∀(f n j:Nat),n≤j→j<zrW p s f n→btA p (s+(j:Nat))=0
 |0,n,j,h1,h2=>by rw [zrW] at h2;omega
 |f+1,n,j,h1,h2=>by
  rw [zrW] at h2
  split at h2
  ·rename_i h0
   rcases Nat.lt_or_ge n j with h|h
   ·exact zrW_zero p s f (n+1) j (by omega) h2
   ·have:n=j:=by omega
    subst this;exact h0
  ·omega
theorem zrs_zero {p:List UInt8} {s:Int} {j:Nat} (h:j<zrs p s):btA p (s+(j:Nat))=0:=zrW_zero p s _ 0 j (Nat.zero_le _) h
def ueA (p:List UInt8) (s:Int):Int:=if zrs p s≤15 then rbA p s (2*(zrs p s:Int)+1) else s
def ueC (p:List UInt8) (s:Int):Int:=if zrs p s≤15 then (if RbOk p s (2*(zrs p s:Int)+1) then 0 else 1) else 4
def ueV (p:List UInt8) (s:Int):Int:=if ueC p s=0 then rbV p s (2*(zrs p s:Int)+1)-1 else 0
def lvOf (n:Int):Int:=if n<0 then 0 else if n%2=0 then n/2+1 else -(n/2)-1
theorem ue_yes {p:List UInt8} {s:Int} (h:zrs p s≤15) (h2:RbOk p s (2*(zrs p s:Int)+1)):ueA p s=s+(2*(zrs p s:Int)+1)∧ueC p s=0∧ueV p s=numB p s (2*(zrs p s:Int)+1).toNat-1:=by
 have e:ueC p s=0:=by rw [ueC,if_pos h,if_pos h2]
 exact ⟨by rw [ueA,if_pos h,(rb_yes h2).1],e,by rw [ueV,if_pos e,(rb_yes h2).2]⟩
theorem ue_short {p:List UInt8} {s:Int} (h:zrs p s≤15) (h2:¬RbOk p s (2*(zrs p s:Int)+1)):ueA p s=s∧ueC p s=1∧ueV p s=0:=by
 have e:ueC p s=1:=by rw [ueC,if_pos h,if_neg h2]
 exact ⟨by rw [ueA,if_pos h,(rb_no h2).1],e,by rw [ueV,if_neg (by omega)]⟩
theorem ue_code {p:List UInt8} {s:Int} (h:¬zrs p s≤15):ueA p s=s∧ueC p s=4∧ueV p s=0:=by
 have e:ueC p s=4:=by rw [ueC,if_neg h]
 exact ⟨by rw [ueA,if_neg h],e,by rw [ueV,if_neg (by omega)]⟩
abbrev SymAt (p:List UInt8) (s:Int) (l:List Int) (m:Nat):Prop:=0<l.getD m 0∧RbOk p s (l.getD m 0)∧numB p s (l.getD m 0).toNat=(codes l).getD m 0
theorem sym_hit {p:List UInt8} {s:Int} {l:List Int} {m:Nat} (hl:CodeOk l) (hm:m<6) (h:SymAt p s l m):hit (codes l) l m (numB p s 7):=by
 have hb:=code_in hl hm
 obtain ⟨w,hw⟩:∃w:Nat,l.getD m 0=w:=⟨(l.getD m 0).toNat,by omega⟩
 have hw7:w≤7:=by omega
 have h1:=numB_add p s w (7-w)
 have h2:=numB_bd p (s+w) (7-w)
 have h3:=h.2.2
 have h5:=h.1
 rw [show w+(7-w)=7 by omega] at h1
 rw [hw] at h3
 have h4:numB p s w=(codes l).getD m 0:=by simpa using h3
 unfold hit
 rw [hw]
 have hcw:cw (w:Int)=2 ^ (7-w):=by
  rcases (by omega:w=1∨w=2∨w=3∨w=4∨w=5∨w=6∨w=7) with rfl|rfl|rfl|rfl|rfl|rfl|rfl<;>rfl
 rw [hcw,h1,h4,Int.add_mul]
 omega
theorem sym_uni {p:List UInt8} {s:Int} {l:List Int} {m m':Nat} (hl:CodeOk l) (hm:m<6) (hm':m'<6) (h:SymAt p s l m) (h':SymAt p s l m'):m=m':=
 code_uni hl hm hm' (by omega) (by omega) (sym_hit hl hm h) (sym_hit hl hm' h')
def symM (p:List UInt8) (s:Int) (l:List Int):Nat:=((List.range 6).find? fun m=>decide (SymAt p s l m)).getD 6
theorem symM_eq {p:List UInt8} {s:Int} {l:List Int} {m:Nat} (hl:CodeOk l) (hm:m<6) (h:SymAt p s l m):symM p s l=m:=by
 unfold symM
 cases hf:(List.range 6).find? fun m=>decide (SymAt p s l m) with
 |none=>
  have:=List.find?_eq_none.1 hf m (by simp [hm])
  exact absurd (decide_eq_true h) this
 |some m'=>
  have h1:=List.find?_some hf
  have h2:=List.mem_of_find?_eq_some hf
  exact (sym_uni hl (by simpa using h2) hm (of_decide_eq_true h1) h)
theorem symM_none {p:List UInt8} {s:Int} {l:List Int} (h:∀m,m<6→¬SymAt p s l m):symM p s l=6:=by
 unfold symM
 have:(List.range 6).find? (fun m=>decide (SymAt p s l m))=none:=List.find?_eq_none.2 fun m hm=>by simpa using h m (by simpa using hm)
 rw [this];rfl
theorem symM_lt {p:List UInt8} {s:Int} {l:List Int} (h:symM p s l<6):SymAt p s l (symM p s l):=by
 unfold symM at*
 cases hf:(List.range 6).find? fun m=>decide (SymAt p s l m) with
 |none=>rw [hf] at h;simp at h
 |some m'=>
  have h1:=List.find?_some hf
  exact of_decide_eq_true (p:=SymAt p s l m') h1
def smC (p:List UInt8) (s:Int) (l:List Int):Int:=if CodeOk l then (if symM p s l<6 then 0 else 1) else 4
def smA (p:List UInt8) (s:Int) (l:List Int):Int:=if smC p s l=0 then s+l.getD (symM p s l) 0 else s
def smV (p:List UInt8) (s:Int) (l:List Int):Int:=if smC p s l=0 then symM p s l else 0
theorem sm_yes {p:List UInt8} {s:Int} {l:List Int} {m:Nat} (hl:CodeOk l) (hm:m<6) (h:SymAt p s l m):smA p s l=s+l.getD m 0∧smV p s l=m∧smC p s l=0:=by
 have e:=symM_eq hl hm h
 have c:smC p s l=0:=by rw [smC,if_pos hl,if_pos (by omega)]
 exact ⟨by rw [smA,if_pos c,e],by rw [smV,if_pos c,e],c⟩
theorem sm_none {p:List UInt8} {s:Int} {l:List Int} (hl:CodeOk l) (h:∀m,m<6→¬SymAt p s l m):smA p s l=s∧smV p s l=0∧smC p s l=1:=by
 have e:=symM_none h
 have c:smC p s l=1:=by rw [smC,if_pos hl,if_neg (by omega)]
 exact ⟨by rw [smA,if_neg (by omega)],by rw [smV,if_neg (by omega)],c⟩
theorem sm_bad {p:List UInt8} {s:Int} {l:List Int} (hl:¬CodeOk l):smA p s l=s∧smV p s l=0∧smC p s l=4:=by
 have c:smC p s l=4:=by rw [smC,if_neg hl]
 exact ⟨by rw [smA,if_neg (by omega)],by rw [smV,if_neg (by omega)],c⟩
end Go.Proofs.YtndflfipaddfoaaGreat


namespace Go.Proofs.YtndflfipaddfoaaGreat
open Go Go.Abs
def fbC (p:List UInt8) (s c n:Int) (k:Int→Int):Int:=if c=0 then (if RbOk p s n then k (rbV p s n) else 1) else c
def fbA (p:List UInt8) (s c n:Int) (k:Int→Int):Int:=if c=0∧fbC p s c n k=0 then rbA p s n else s
def fbV (p:List UInt8) (s c n:Int) (k:Int→Int):Int:=if fbC p s c n k=0 then rbV p s n else 0
def fuC (p:List UInt8) (s c:Int) (k:Int→Int):Int:=if c=0 then (if ueC p s=0 then k (ueV p s) else ueC p s) else c
def fuA (p:List UInt8) (s c:Int) (k:Int→Int):Int:=if fuC p s c k=0 then ueA p s else s
def fuV (p:List UInt8) (s c:Int) (k:Int→Int):Int:=if fuC p s c k=0 then ueV p s else 0
def ifE (b:Prop) [Decidable b] (e:Int):Int:=bif decide b then 0 else e
theorem ifE_yes {b:Prop} [Decidable b] {e:Int} (h:b):ifE b e=0:=by rw [ifE,decide_eq_true h];rfl
theorem ifE_no {b:Prop} [Decidable b] {e:Int} (h:¬b):ifE b e=e:=by rw [ifE,decide_eq_false h];rfl
def lenAt (v:Int) (i:Nat):Int:=v/2 ^ (3*i)%8
def lensV (v:Int):List Int:=[lenAt v 5,lenAt v 4,lenAt v 3,lenAt v 2,lenAt v 1,lenAt v 0]
structure HdS where
 a:Int
 c:Int
 w:Int
 h:Int
 q:Int
 f:Int
 l:Int
abbrev hk1 (x:Int):Int:=ifE (x=183) 2
abbrev hk2 (x:Int):Int:=ifE (x≤3) 3
abbrev hk3 (x:Int):Int:=ifE (x≤51) 3
abbrev hk4 (x:Int):Int:=0
abbrev hk5 (x:Int):Int:=ifE (CodeOk (lensV x)) 4
def hdS (p:List UInt8) (s:Int):HdS:=
 let a1:=fbA p s 0 8 hk1
 let c1:=fbC p s 0 8 hk1
 let a2:=fuA p a1 c1 hk2
 let c2:=fuC p a1 c1 hk2
 let a3:=fuA p a2 c2 hk2
 let c3:=fuC p a2 c2 hk2
 let a4:=fbA p a3 c3 6 hk3
 let c4:=fbC p a3 c3 6 hk3
 let a5:=fbA p a4 c4 2 hk4
 let c5:=fbC p a4 c4 2 hk4
 let a6:=fbA p a5 c5 18 hk5
 let c6:=fbC p a5 c5 18 hk5
 ⟨a6,c6,fuV p a1 c1 hk2,fuV p a2 c2 hk2,fbV p a3 c3 6 hk3,fbV p a4 c4 2 hk4,fbV p a5 c5 18 hk5⟩
def HdS.W (x:HdS):Int:=if x.c=0 then 8*(x.w+1) else 0
def HdS.H (x:HdS):Int:=if x.c=0 then 8*(x.h+1) else 0
def HdS.Q (x:HdS):Int:=if x.c=0 then x.q else 0
def HdS.B (x:HdS):Bool:=decide (x.c=0∧x.f≥2)
def HdS.D (x:HdS):Bool:=decide (x.c=0∧x.f%2=1)
def HdS.L (x:HdS):List Int:=if x.c=0 then lensV x.l else []
structure LvS where
 a:Int
 c:Int
 at_:Int
 out:List Int
def lvStep (p:List UInt8) (nn:Int) (x:LvS):LvS:=
 if x.c=0 then
  let k1:=fun y:Int=>ifE (y<nn-x.at_) 5
  let k2:=fun y:Int=>ifE (-16383≤lvOf y∧lvOf y≤16383) 5
  let a1:=fuA p x.a 0 k1
  let c1:=fuC p x.a 0 k1
  let t1:=x.at_+fuV p x.a 0 k1
  let a2:=fuA p a1 c1 k2
  let c2:=fuC p a1 c1 k2
  if c2=0 then ⟨a2,c2,t1+1,x.out.set t1.toNat (lvOf (fuV p a1 c1 k2))⟩ else ⟨a2,c2,t1,x.out⟩
 else x
def lvRun (p:List UInt8) (nn:Int) (x:LvS):Nat→LvS
 |0=>x
 |k+1=>lvStep p nn (lvRun p nn x k)
def lvS (p:List UInt8) (s n:Int):LvS:=
 let nn:=n*n
 let z:=List.replicate nn.toNat 0
 let k0:=fun _:Int=>0
 let k1:=fun y:Int=>ifE (y<nn) 5
 let a1:=fbA p s 0 1 k0
 let c1:=fbC p s 0 1 k0
 if fbV p s 0 1 k0=0 then ⟨a1,c1,0,z⟩ else
  let a2:=fuA p a1 c1 k1
  let c2:=fuC p a1 c1 k1
  lvRun p nn ⟨a2,c2,0,z⟩ (1+fuV p a1 c1 k1).toNat
theorem lvStep_len (p:List UInt8) (nn:Int) (x:LvS):(lvStep p nn x).out.length=x.out.length:=by
 unfold lvStep;split
 ·simp only;split
  ·simp
  ·rfl
 ·rfl
theorem lvRun_len (p:List UInt8) (nn:Int) (x:LvS):∀k,(lvRun p nn x k).out.length=x.out.length
 |0=>rfl
 |k+1=>by rw [lvRun,lvStep_len,lvRun_len p nn x k]
theorem lvS_len (p:List UInt8) (s n:Int):(lvS p s n).out.length=(n*n).toNat:=by
 unfold lvS;simp only;split
 ·simp
 ·rw [lvRun_len];simp
structure BlS where
 a:Int
 c:Int
 m:Int
 l:List Int
def blS (p:List UInt8) (s:Int) (lens:List Int) (n:Int):BlS:=
 if n=4∨n=8 then
  if smC p s lens=0 then
   let x:=lvS p (smA p s lens) n
   if x.c=0 then ⟨x.a,0,smV p s lens,x.out⟩ else ⟨x.a,x.c,0,[]⟩
  else ⟨s,smC p s lens,0,[]⟩
 else ⟨s,5,0,[]⟩
theorem blS_len (p:List UInt8) (s:Int) (lens:List Int) (n:Int):(blS p s lens n).l.length≤64:=by
 unfold blS;split
 ·rename_i h
  split
  ·simp only;split
   ·have:=lvS_len p (smA p s lens) n
    rcases h with rfl|rfl
    ·have h2:((4:Int)*4).toNat=16:=rfl
     show (lvS p (smA p s lens) 4).out.length≤64
     omega
    ·have h2:((8:Int)*8).toNat=64:=rfl
     show (lvS p (smA p s lens) 8).out.length≤64
     omega
   ·simp
  ·simp
 ·simp
structure MbS where
 a:Int
 c:Int
 bs:List Blok
def mbRun (p:List UInt8) (s:Int) (lens:List Int) (n:Int):Nat→MbS
 |0=>⟨s,0,[]⟩
 |k+1=>
  let x:=mbRun p s lens n k
  if x.c=0 then
   let b:=blS p x.a lens n
   if b.c=0 then ⟨b.a,0,x.bs++[(b.m,b.l)]⟩ else ⟨b.a,b.c,[]⟩
  else x
def mbS (p:List UInt8) (s:Int) (lens:List Int):MbS×Bool:=
 if RbOk p s 1 then
  let e:=decide (rbV p s 1=1)
  let x:=mbRun p (s+1) lens (bif e then 8 else 4) (bif e then 1 else 4)
  (x,bif decide (x.c=0) then e else false)
 else (⟨s,1,[]⟩,false)
structure StS where
 a:Int
 c:Int
 ms:List Mbk
def stRun (p:List UInt8) (s:Int) (lens:List Int):Nat→StS
 |0=>⟨s,0,[]⟩
 |k+1=>
  let x:=stRun p s lens k
  if x.c=0 then
   let m:=mbS p x.a lens
   if m.1.c=0 then ⟨m.1.a,0,x.ms++[(m.2,m.1.bs)]⟩ else ⟨m.1.a,m.1.c,[]⟩
  else x
def endC (p:List UInt8) (s:Int):Int:=if lft p s=0 then 1 else if lft p s≤8∧numB p s (lft p s).toNat=2 ^ (lft p s-1).toNat then 0 else 6
end Go.Proofs.YtndflfipaddfoaaGreat


namespace Go.Proofs.YtndflfipaddfoaaGreat
open Go Go.Abs
attribute [local irreducible] WpA WpL Rnd Blk Abs.Seq Abs.Fin Abs.FinG FnC FnG Only
theorem shr8_in (x:UInt8) (k:Nat):IntKind.i64.wrap ((x.toNat:Int)/2 ^ k)=(x.toNat:Int)/2 ^ k:=by
 have h1:(x.toNat:Int)/2 ^ k≤x.toNat:=Int.ediv_le_self _ (by omega)
 have h2:0≤(x.toNat:Int)/2 ^ k:=Int.ediv_nonneg (by omega) (Int.pow_nonneg (by decide))
 have:=x.toNat_lt
 exact wrap64 _ (by omega)
instance BitAt_c:Con 94 (∀ (p:List UInt8) (i:Int),p.length≤1099511627776→Fn 94 [Z p,I i] [] (I (btA p i))):=⟨fun p i hl=>by
 refine FnC.of_body tabOk Tryz.func94 Tryz.ntmps94 rfl (by decide +kernel) (by simp) fun G=>?_
 refine go (r:=?_);and_intros<;>intros<;>try exact True.intro
 ·rw [btA,if_pos (by omega)]
 ·rw [btA,if_pos (by omega)]
 ·rw [btA,if_neg (by omega),bit1,shr8_in]⟩
abbrev RA (p:List UInt8) (s:Int):AV:=.agg [Z p,I s]
theorem or1 (x b:Int) (h:0≤x∧x<2 ^ 61) (hb:0≤b∧b≤1):IntKind.i64.wrap ((BitVec.ofInt IntKind.i64.bits (IntKind.i64.wrap (x*2 ^ Int.toNat 1)) ||| BitVec.ofInt IntKind.i64.bits b).toNat:Nat)=x*2+b:=by
 have e0:x*2 ^ Int.toNat 1=x*2:=rfl
 rw [e0,wrap64 (x*2) (by omega)]
 obtain ⟨a,rfl⟩:∃a:Nat,x=a:=⟨x.toNat,by omega⟩
 obtain ⟨c,rfl⟩:∃c:Nat,b=c:=⟨b.toNat,by omega⟩
 have h1:(BitVec.ofInt IntKind.i64.bits ((a:Int)*2)).toNat=2*a:=by simp only [IntKind.bits,BitVec.toNat_ofInt];omega
 have h2:(BitVec.ofInt IntKind.i64.bits (c:Int)).toNat=c:=by simp only [IntKind.bits,BitVec.toNat_ofInt];omega
 rw [BitVec.toNat_or,h1,h2]
 have h3:=Nat.two_pow_add_eq_or_of_lt (i:=1) (b:=c) (by omega) a
 rw [show 2*a=2 ^ 1*a by omega,←h3,wrap64 _ (by omega)]
 omega
instance bits_c:Con 184 (∀ (p:List UInt8) (s n:Int),p.length≤1099511627776∧(-1125899906842624≤s∧s≤1125899906842624)∧0≤n∧n≤56→Fn 184 [Z p,I s,I n] [] (I (numB p s n.toNat))):=⟨fun p s n hl=>by
 obtain ⟨N,rfl⟩:∃N:Nat,n=N:=⟨n.toNat,by omega⟩
 refine FnC.of_body tabOk Tryz.func184 Tryz.ntmps184 rfl (by decide +kernel) (by simp) fun G=>?_
 refine go (r:=?_);and_intros<;>intros<;>try exact True.intro
 refine WpA.loop (fun k:Nat=>⟨[(0,Z p),(1,I s),(7,I (numB p s k)),(9,I N),(10,I k)],[]⟩) (fun k=>k≤N) (fun k=>N-k) 0 (by omega) (go (r:=?_)) (fun k hk=>?_)
 ·trivial
 have hb:=numB_bd p s k
 have hb2:=numB_le p s (k:=k) (j:=60) (by omega)
 have h1:=or1 (numB p s k) (max (btA p (s+k)) 0) (by omega) (bv_bd p (s+k))
 have h2:numB p s (k+1)=numB p s k*2+max (btA p (s+k)) 0:=rfl
 refine go (r:=?_);and_intros<;>intros<;>try exact True.intro
 all_goals first|(rw [h2,←h1];done)|(have e:k=N:=by omega);(first|(rw [e,Int.toNat_natCast];done)|(subst e;rfl))⟩
abbrev BoxR (p:List UInt8) (s:Int):AObj:=⟨[Z p,I s],0,0,none⟩
instance ReaderOk_c:Con 197 (∀ (p:List UInt8) (s:Int),p.length≤1099511627776→Fn 197 [RA p s] [] (B (decide (RdOk p s)))):=⟨fun p s hl=>by
 refine FnC.of_body tabOk Tryz.func197 Tryz.ntmps197 rfl (by decide +kernel) (by simp) fun G=>?_
 refine go (r:=?_);and_intros<;>intros<;>try exact True.intro⟩
instance Left_c:Con 183 (∀ (p:List UInt8) (s:Int),p.length≤1099511627776→Fn 183 [RA p s] [] (I (lft p s))):=⟨fun p s hl=>by
 refine FnC.of_body tabOk Tryz.func183 Tryz.ntmps183 rfl (by decide +kernel) (by simp) fun G=>?_
 refine go (r:=?_);and_intros<;>intros<;>try exact True.intro
 all_goals first|(rw [lft_no (by assumption)];done)|(rw [lft_ok (by assumption)];done)⟩
instance ReadBits_c:Con 112 (∀ (p:List UInt8) (s n:Int),p.length≤1099511627776→Fn 112 [RA p s,I n] [] (.tup [RA p (rbA p s n),I (rbV p s n),B (decide (RbOk p s n))])):=⟨fun p s n hl=>by
 have hb:=lft_bd p s
 refine FnC.of_body tabOk Tryz.func112 Tryz.ntmps112 rfl (by decide +kernel) (by simp) fun G=>?_
 by_cases hok:RbOk p s n
 ·obtain ⟨e1,e2⟩:=rb_yes hok
  obtain ⟨h1,h2,h3⟩:=id hok
  refine go (r:=?_);and_intros<;>intros<;>try exact True.intro
  all_goals first|(exact absurd (by assumption) (by assumption))|(rw [e1];done)|(rw [e2];done)|(simp [hok];done)|(exfalso;omega)
 ·obtain ⟨e1,e2⟩:=rb_no hok
  refine go (r:=?_);and_intros<;>intros<;>try exact True.intro
  all_goals first|(exact absurd ⟨by assumption,by assumption,by omega⟩ hok)|(rw [e1];done)|(rw [e2];done)|(simp [hok];done)⟩
instance ZerosAhead_c:Con 298 (∀ (p:List UInt8) (s:Int),p.length≤1099511627776→Fn 298 [RA p s] [] (I (zrs p s))):=⟨fun p s hl=>by
 have hb:=lft_bd p s
 refine FnC.of_body tabOk Tryz.func298 Tryz.ntmps298 rfl (by decide +kernel) (by simp) fun G=>?_
 by_cases hok:RdOk p s
 ·have hlo:=lft_ok hok
  refine go (r:=?_);and_intros<;>intros<;>try exact True.intro
  all_goals first|(exact absurd hok (by assumption))|skip
  refine WpA.loop (fun k:Nat=>⟨[(1,.ptr 0 0 0),(3,I k)],[BoxR p s]⟩) (fun k=>(k:Int)≤lft p s∧∀j<k,btA p (s+(j:Nat))=0) (fun k=>(lft p s).toNat-k) 0 ⟨by omega,fun j hj=>by omega⟩ (go (r:=?_)) (fun k hk=>?_)
  ·trivial
  have hbo:=btA_out p (s+k)
  have hz:=fun h3=>zrs_eq hk.1 hk.2 h3
  refine go (r:=?_);and_intros<;>intros<;>try exact True.intro
  all_goals first|(rename_i h1 j hj;rcases Nat.lt_succ_iff_lt_or_eq.1 hj with h|h;(exact hk.2 j h);(subst h;assumption))|(rw [hz (.inr (by assumption))];done)
 ·have hz:zrs p s=0:=by have:=zrs_le p s;rw [lft_no hok] at this;omega
  refine go (r:=?_);and_intros<;>intros<;>try exact True.intro
  all_goals first|(exact absurd (by assumption) hok)|(rw [hz];done)|(rw [hz];rfl)⟩
instance ReadUe_c:Con 261 (∀ (p:List UInt8) (s:Int),p.length≤1099511627776→Fn 261 [RA p s] [] (.tup [RA p (ueA p s),I (ueV p s),I (ueC p s)])):=⟨fun p s hl=>by
 have hb:=lft_bd p s
 have hz:=zrs_le p s
 have hv:=rbV_bd p s (2*(zrs p s:Int)+1)
 refine FnC.of_body tabOk Tryz.func261 Tryz.ntmps261 rfl (by decide +kernel) (by simp) fun G=>?_
 by_cases h15:zrs p s≤15
 ·by_cases hok:RbOk p s (2*(zrs p s:Int)+1)
  ·obtain ⟨e1,e2,e3⟩:=ue_yes h15 hok
   obtain ⟨e4,e5⟩:=rb_yes hok
   refine go (r:=?_);and_intros<;>intros<;>try exact True.intro
   all_goals first|(exact absurd hok (by assumption))|(exfalso;omega)|(rw [e1,e4];done)|(rw [e3,e5];done)|(rw [e2];done)
  ·obtain ⟨e1,e2,e3⟩:=ue_short h15 hok
   refine go (r:=?_);and_intros<;>intros<;>try exact True.intro
   all_goals first|(exact absurd (by assumption) hok)|(exfalso;omega)|(rw [e1];done)|(rw [e3];done)|(rw [e2];done)
 ·obtain ⟨e1,e2,e3⟩:=ue_code (s:=s) (p:=p) h15
  refine go (r:=?_);and_intros<;>intros<;>try exact True.intro
  all_goals first|(exfalso;omega)|(rw [e1];done)|(rw [e3];done)|(rw [e2];done)⟩
instance LevelOf_c:Con 216 (∀ n:Int,-4611686018427387904≤n∧n≤4611686018427387904→Fn 216 [I n] [] (I (lvOf n))):=⟨fun n h=>by
 refine FnC.of_body tabOk Tryz.func216 Tryz.ntmps216 rfl (by decide +kernel) (by simp) fun G=>?_
 refine go (r:=?_);and_intros<;>intros<;>try exact True.intro
 ·rw [lvOf,if_pos (by assumption)]
 ·rw [lvOf,if_neg (by omega),if_pos (by assumption)]
 ·rw [lvOf,if_neg (by omega),if_neg (by assumption)];omega⟩
end Go.Proofs.YtndflfipaddfoaaGreat
