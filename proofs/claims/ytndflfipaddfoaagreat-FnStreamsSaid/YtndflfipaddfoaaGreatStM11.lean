/- Proved in this text: lemmas and contracts of functions that the claim uses (parts: Sym, Stat, Pred, Sid, Work, Bits, BitsM, BitsH, Lw, Ln, SizeL). No condition. -/
import Derived.Test.YtndflfipaddfoaaGreatStM10
set_option linter.unusedVariables false
set_option linter.unusedSimpArgs false
set_option maxRecDepth 100000
set_option maxHeartbeats 4000000


namespace Go.Proofs.YtndflfipaddfoaaGreat
open Go Go.Abs
attribute [local irreducible] WpA WpL Rnd Blk Abs.Seq Abs.Fin Abs.FinG FnC FnG Only
def HasC (l:List Int) (m:Int):Prop:=CodeOk l∧(0≤m∧m≤5)∧l.getD m.toNat 0≠0
instance (l:List Int) (m:Int):Decidable (HasC l m):=by unfold HasC;infer_instance
def symL (l:List Int) (m:Int):List Int:=if HasC l m then bitsL ((codes l).getD m.toNat 0) (l.getD m.toNat 0) else []
theorem sym_fit {l:List Int} {m:Int} (h:HasC l m):(1≤l.getD m.toNat 0∧l.getD m.toNat 0≤7)∧0≤(codes l).getD m.toNat 0∧(codes l).getD m.toNat 0≤127∧bitOk ((codes l).getD m.toNat 0) (l.getD m.toNat 0):=by
 obtain ⟨h1,h2,h3⟩:=h
 have a:=code_in h1 (m:=m.toNat) (by omega)
 have b:=code_fit h1 (m:=m.toNat) (by omega) h3
 have c:=code_lt h1 (m:=m.toNat) (by omega) h3
 have d:(codes l).getD m.toNat 0≤127:=by
  have:(2:Int) ^ (l.getD m.toNat 0).toNat≤2 ^ 7:=by
   have:=Nat.pow_le_pow_right (n:=2) (by decide) (show (l.getD m.toNat 0).toNat≤7 by omega)
   exact_mod_cast this
  omega
 exact ⟨by omega,b.1,d,by omega,b.1,Int.ediv_eq_zero_of_lt b.1 c⟩
theorem symL_len (l:List Int) (m:Int):((symL l m).length:Int)=if HasC l m then l.getD m.toNat 0 else 0:=by
 unfold symL
 split
 ·rename_i h
  obtain ⟨h1,h2,h3,h4⟩:=sym_fit h
  rw [bitsL,if_pos h4,bitsR_len];omega
 ·rfl
theorem symL_pos (l:List Int) (m:Int):0<(symL l m).length↔HasC l m:=by
 have:=symL_len l m
 split at this
 ·rename_i h;have:=(sym_fit h).1;constructor<;>intro _<;>first|assumption|omega
 ·rename_i h;constructor
  ·intro h';omega
  ·intro h';exact absurd h' h
instance SymBits_s:Con 207 (∀ (l:List Int) (m:Int),l.length≤1099511627776→Fn 207 [IL l,I m] [XI (symL l m)] (.own 0 0 0 (symL l m).length)):=⟨fun l m hl=>by
 by_cases h:HasC l m
 ·obtain ⟨h1,h2,h3⟩:=id h
  obtain ⟨f1,f2,f3,f4⟩:=sym_fit h
  have h6:=h1.2.1
  have e:=codesR_ok l h1
  have h7:(codesR l).length=6:=codesR_len l h1
  rw [←e] at f2 f3
  refine FnC.of_body tabOk Tryz.func207 Tryz.ntmps207 rfl (by decide +kernel) (by simp) fun G=>?_
  refine go (r:=?_);and_intros<;>intros<;>try exact True.intro
  all_goals first|(exact absurd ‹CodeOk l› ‹¬ CodeOk l›)|(exact absurd h1 (by assumption))|(exact absurd h2 (by assumption))|(exact absurd (by assumption) h3)|skip
  ·rw [symL,if_pos h,e]
  ·rw [symL,if_pos h,e]
 ·have e:symL l m=[]:=by rw [symL,if_neg h]
  by_cases hc:CodeOk l
  ·have h6:=hc.2.1
   have h7:(codes l).length=6:=by rw [codes_len,h6]
   by_cases hm:0≤m∧m≤5
   ·have h0:l.getD m.toNat 0=0:=Decidable.not_not.1 fun hh=>h ⟨hc,hm,hh⟩
    refine FnC.of_body tabOk Tryz.func207 Tryz.ntmps207 rfl (by decide +kernel) (by simp) fun G=>?_
    refine go (r:=?_);and_intros<;>intros<;>try exact True.intro
    all_goals first|(rw [e];done)|(rw [e];rfl)|skip
   ·refine FnC.of_body tabOk Tryz.func207 Tryz.ntmps207 rfl (by decide +kernel) (by simp) fun G=>?_
    refine go (r:=?_);and_intros<;>intros<;>try exact True.intro
    all_goals first|(rw [e];done)|(rw [e];rfl)|skip
  ·refine FnC.of_body tabOk Tryz.func207 Tryz.ntmps207 rfl (by decide +kernel) (by simp) fun G=>?_
   refine go (r:=?_);and_intros<;>intros<;>try exact True.intro
   all_goals first|(rw [e];done)|(rw [e];rfl)|skip⟩
instance SymBits_c:Con 264 (∀ (l:List Int) (m:Int),l.length≤1099511627776→Fn 264 [IL l,I m] [XI (symL l m)] (.own 0 0 0 (symL l m).length)):=⟨fun l m hl=>by
 by_cases h:HasC l m
 ·obtain ⟨h1,h2,h3⟩:=id h
  obtain ⟨f1,f2,f3,f4⟩:=sym_fit h
  have h6:=h1.2.1
  have h7:(codes l).length=6:=by rw [codes_len,h6]
  refine FnC.of_body tabOk Tryz.func264 Tryz.ntmps264 rfl (by decide +kernel) (by simp) fun G=>?_
  refine go (r:=?_);and_intros<;>intros<;>try exact True.intro
  all_goals first|(exact absurd ‹CodeOk l› ‹¬ CodeOk l›)|(exact absurd h1 (by assumption))|(exact absurd h2 (by assumption))|(exact absurd (by assumption) h3)|skip
  ·rw [symL,if_pos h]
  ·rw [symL,if_pos h]
 ·have e:symL l m=[]:=by rw [symL,if_neg h]
  by_cases hc:CodeOk l
  ·have h6:=hc.2.1
   have h7:(codes l).length=6:=by rw [codes_len,h6]
   by_cases hm:0≤m∧m≤5
   ·have h0:l.getD m.toNat 0=0:=Decidable.not_not.1 fun hh=>h ⟨hc,hm,hh⟩
    refine FnC.of_body tabOk Tryz.func264 Tryz.ntmps264 rfl (by decide +kernel) (by simp) fun G=>?_
    refine go (r:=?_);and_intros<;>intros<;>try exact True.intro
    all_goals first|(rw [e];done)|(rw [e];rfl)|skip
   ·refine FnC.of_body tabOk Tryz.func264 Tryz.ntmps264 rfl (by decide +kernel) (by simp) fun G=>?_
    refine go (r:=?_);and_intros<;>intros<;>try exact True.intro
    all_goals first|(rw [e];done)|(rw [e];rfl)|skip
  ·refine FnC.of_body tabOk Tryz.func264 Tryz.ntmps264 rfl (by decide +kernel) (by simp) fun G=>?_
   refine go (r:=?_);and_intros<;>intros<;>try exact True.intro
   all_goals first|(rw [e];done)|(rw [e];rfl)|skip⟩
end Go.Proofs.YtndflfipaddfoaaGreat


namespace Go.Proofs.YtndflfipaddfoaaGreat
open Go Go.Abs
attribute [local irreducible] WpA WpL Rnd Blk Abs.Seq Abs.Fin Abs.FinG FnC FnG Only
end Go.Proofs.YtndflfipaddfoaaGreat


namespace Go.Proofs.YtndflfipaddfoaaGreat
open Go Go.Abs
attribute [local irreducible] WpA WpL Rnd Blk Abs.Seq Abs.Fin Abs.FinG FnC FnG Only
def side (k:Nat):Int:=if k=16 then 4 else if k=64 then 8 else 0
theorem side_pos (k:Nat):0<side k↔k=16∨k=64:=by unfold side;split<;>(try split)<;>omega
theorem side_cases (k:Nat):(k=16∧side k=4)∨(k=64∧side k=8)∨(k≠16∧k≠64∧side k=0):=by unfold side;split<;>(try split)<;>omega
instance SizeOk_s:Con 134 (∀ n:Int,Fn 134 [I n] [] (B (decide (n=4∨n=8)))):=⟨fun n=>by
 refine FnC.of_body tabOk Tryz.func134 Tryz.ntmps134 rfl (by decide +kernel) (by simp) fun G=>?_
 refine go (r:=?_);and_intros<;>intros<;>try exact True.intro
 all_goals simp_all⟩
instance SizeOk_c:Con 130 (∀ n:Int,Fn 130 [I n] [] (B (decide (n=4∨n=8)))):=⟨fun n=>by
 refine FnC.of_body tabOk Tryz.func130 Tryz.ntmps130 rfl (by decide +kernel) (by simp) fun G=>?_
 refine go (r:=?_);and_intros<;>intros<;>try exact True.intro
 all_goals simp_all⟩
instance l9Side_s:Con 139 (∀ l:List Int,l.length≤9223372036854775807→Fn 139 [IL l] [] (I (side l.length))):=⟨fun l hl=>by
 refine FnC.of_body tabOk Tryz.func139 Tryz.ntmps139 rfl (by decide +kernel) (by simp) fun G=>?_
 have h:=side_cases l.length
 refine go (r:=?_);and_intros<;>intros<;>try exact True.intro⟩
instance sizeOf_c:Con 157 (∀ k:Nat,Fn 157 [I k] [] (I (side k))):=⟨fun k=>by
 refine FnC.of_body tabOk Tryz.func157 Tryz.ntmps157 rfl (by decide +kernel) (by simp) fun G=>?_
 have h:=side_cases k
 refine go (r:=?_);and_intros<;>intros<;>try exact True.intro⟩
instance Clone_c:Con 167 (∀ l:List Int,l.length≤1099511627776→Fn 167 [IL l] [XI l] (.own 0 0 0 l.length)):=⟨fun l hl=>by
 refine FnC.of_body tabOk Tryz.func167 Tryz.ntmps167 rfl (by decide +kernel) (by simp) fun G=>?_
 refine go (r:=?_);and_intros<;>intros<;>try exact True.intro
 all_goals (have e:l=[]:=List.eq_nil_of_length_eq_zero (by omega));subst e;rfl⟩
end Go.Proofs.YtndflfipaddfoaaGreat


namespace Go.Proofs.YtndflfipaddfoaaGreat
open Go Go.Abs
attribute [local irreducible] WpA WpL Rnd Blk Abs.Seq Abs.Fin Abs.FinG FnC FnG Only
abbrev HdOk (w h q:Int) (l:List Int):Prop:=SidesOk w h∧(0≤q∧q≤51)∧CodeOk l
instance HeaderOk_s:Con 78 (∀ (w h q:Int) (b d:Bool) (l:List Int),l.length≤1099511627776→Fn 78 [HdA w h q b d l] [] (B (decide (HdOk w h q l)))):=⟨fun w h q b d l hl=>by
 have hs:=stepL_pos q
 refine FnC.of_body tabOk Tryz.func78 Tryz.ntmps78 rfl (by decide +kernel) (by simp) fun G=>?_
 refine go (r:=?_);and_intros<;>intros<;>try exact True.intro
 all_goals simp_all⟩
instance HeaderOk_c:Con 100 (∀ (w h q:Int) (b d:Bool) (l:List Int),l.length≤1099511627776→Fn 100 [HdA w h q b d l] [] (B (decide (HdOk w h q l)))):=⟨fun w h q b d l hl=>by
 refine FnC.of_body tabOk Tryz.func100 Tryz.ntmps100 rfl (by decide +kernel) (by simp) fun G=>?_
 refine go (r:=?_);and_intros<;>intros<;>try exact True.intro
 all_goals simp_all⟩
def cntM (w h:Int):Int:=w/8*(h/8)
theorem cntM_bd {w h:Int} (hs:SidesOk w h):(0≤w/8∧w/8≤4)∧(0≤h/8∧h/8≤4)∧0≤cntM w h∧cntM w h≤16:=by
 have h1:0≤w/8∧w/8≤4:=by omega
 have h2:0≤h/8∧h/8≤4:=by omega
 refine ⟨h1,h2,Int.mul_nonneg h1.1 h2.1,?_⟩
 have:=Int.mul_le_mul h1.2 h2.2 h2.1 (by decide)
 exact this
instance l24Count_s:Con 80 (∀ (w h q:Int) (b d:Bool) (l:List Int),SidesOk w h→Fn 80 [HdA w h q b d l] [] (I (cntM w h))):=⟨fun w h q b d l hs=>by
 have:=cntM_bd hs
 unfold cntM at*
 refine FnC.of_body tabOk Tryz.func80 Tryz.ntmps80 rfl (by decide +kernel) (by simp) fun G=>?_
 refine go (r:=?_);and_intros<;>intros<;>try exact True.intro⟩
instance many_c:Con 90 (∀ (w h q:Int) (b d:Bool) (l:List Int),SidesOk w h→Fn 90 [HdA w h q b d l] [] (I (cntM w h))):=⟨fun w h q b d l hs=>by
 have:=cntM_bd hs
 unfold cntM at*
 refine FnC.of_body tabOk Tryz.func90 Tryz.ntmps90 rfl (by decide +kernel) (by simp) fun G=>?_
 refine go (r:=?_);and_intros<;>intros<;>try exact True.intro⟩
abbrev LvOk (l:List Int):Prop:=In l (-16383) 16383∧(l.length=16∨l.length=64)
instance LevelsOk_s:Con 224 (∀ l:List Int,l.length≤1099511627776→Fn 224 [IL l] [] (B (decide (LvOk l)))):=⟨fun l hl=>by
 have hsp:=side_pos l.length
 refine FnC.of_body tabOk Tryz.func224 Tryz.ntmps224 rfl (by decide +kernel) (by simp) fun G=>?_
 refine go (r:=?_);and_intros<;>intros<;>try exact True.intro
 refine WpA.loop (fun k:Nat=>⟨[(0,IL l),(3,I k)],[]⟩) (fun k=>k≤l.length∧In (l.take k) (-16383) 16383) (fun k=>l.length-k) 0 (by simp [in_nil]) (go (r:=?_)) (fun k hk=>?_)
 ·trivial
 have hi:=fun h=>in_snoc (lo:=-16383) (hi:=16383) (l:=l) (k:=k) h
 refine go (r:=?_);and_intros<;>intros<;>try exact True.intro
 ·have:=notin (k:=k) (by omega) ‹¬ (-16383≤l.getD k 0∧_)›;rw [eq_comm,decide_eq_false_iff_not] at *;exact fun h=>this h.1
 ·rw [hi (by omega)];exact ⟨hk.2,‹_›⟩
 all_goals have e:k=l.length:=by omega
 all_goals subst e
 all_goals rw [List.take_length] at*
 simp [hk.2,hsp]⟩
instance LevelsOk_c:Con 243 (∀ l:List Int,l.length≤1099511627776→Fn 243 [IL l] [] (B (decide (LvOk l)))):=⟨fun l hl=>by
 have hsp:=side_pos l.length
 refine FnC.of_body tabOk Tryz.func243 Tryz.ntmps243 rfl (by decide +kernel) (by simp) fun G=>?_
 refine go (r:=?_);and_intros<;>intros<;>try exact True.intro
 refine WpA.loop (fun k:Nat=>⟨[(0,IL l),(5,IL l),(6,I l.length),(7,I k)],[]⟩) (fun k=>k≤l.length∧In (l.take k) (-16383) 16383) (fun k=>l.length-k) 0 (by simp [in_nil]) (go (r:=?_)) (fun k hk=>?_)
 ·trivial
 have hi:=fun h=>in_snoc (lo:=-16383) (hi:=16383) (l:=l) (k:=k) h
 refine go (r:=?_);and_intros<;>intros<;>try exact True.intro
 ·have:=notin (k:=k) (by omega) ‹¬ (-16383≤l.getD k 0∧_)›;rw [eq_comm,decide_eq_false_iff_not] at *;exact fun h=>this h.1
 ·rw [hi (by omega)];exact ⟨hk.2,‹_›⟩
 all_goals have e:k=l.length:=by omega
 all_goals subst e
 all_goals rw [List.take_length] at*
 simp [hk.2,hsp]⟩
abbrev BlkOk (m:Int) (lv:List Int) (lens:List Int) (n:Int):Prop:=(n=4∨n=8)∧HasC lens m∧(lv.length:Int)=n*n∧LvOk lv
instance BlockOk_s:Con 166 (∀ (m:Int) (lv lens:List Int) (n:Int),lv.length≤1099511627776∧lens.length≤1099511627776→Fn 166 [.agg [I m,IL lv],IL lens,I n] [] (B (decide (BlkOk m lv lens n)))):=⟨fun m lv lens n hl=>by
 have hp:=symL_pos lens m
 have hnn:n=4∨n=8→0≤n*n∧n*n≤64:=by rintro (rfl|rfl)<;>decide
 refine FnC.of_body tabOk Tryz.func166 Tryz.ntmps166 rfl (by decide +kernel) (by simp) fun G=>?_
 refine go (r:=?_);and_intros<;>intros<;>try exact True.intro
 all_goals simp_all⟩
instance BlockOk_c:Con 194 (∀ (m:Int) (lv lens:List Int) (n:Int),lv.length≤1099511627776∧lens.length≤1099511627776→Fn 194 [.agg [I m,IL lv],IL lens,I n] [] (B (decide (BlkOk m lv lens n)))):=⟨fun m lv lens n hl=>by
 have hp:=symL_pos lens m
 have hnn:n=4∨n=8→0≤n*n∧n*n≤64:=by rintro (rfl|rfl)<;>decide
 refine FnC.of_body tabOk Tryz.func194 Tryz.ntmps194 rfl (by decide +kernel) (by simp) fun G=>?_
 refine go (r:=?_);and_intros<;>intros<;>try exact True.intro
 all_goals simp_all⟩
def ixF {α:Type} (p:α→Bool) (l:List α):Int:=if l.any p=true then (l.findIdx p:Int) else -1
theorem ixF_at {α:Type} [Inhabited α] {p:α→Bool} {l:List α} {i:Nat} (hi:i<l.length) (h0:∀j<i,p (l.getD j default)=false) (h1:p (l.getD i default)=true):(i:Int)=ixF p l:=by
 have hg:∀j (hj:j<l.length),l.getD j default=l[j]:=fun j hj=>by simp [hj]
 unfold ixF
 rw [if_pos (List.any_eq_true.2 ⟨l[i],List.getElem_mem hi,by rw [←hg i hi];exact h1⟩)]
 congr 1
 rw [eq_comm,List.findIdx_eq hi]
 exact ⟨by rw [←hg i hi];exact h1,fun j hj=>by rw [←hg j (by omega)];exact h0 j hj⟩
theorem ixF_no {α:Type} [Inhabited α] {p:α→Bool} {l:List α} (h0:∀j<l.length,p (l.getD j default)=false):-1=ixF p l:=by
 have hg:∀j (hj:j<l.length),l.getD j default=l[j]:=fun j hj=>by simp [hj]
 unfold ixF
 rw [if_neg]
 intro h
 obtain ⟨x,hx,hp⟩:=List.any_eq_true.1 h
 obtain ⟨j,hj,rfl⟩:=List.getElem_of_mem hx
 have:=h0 j hj
 rw [hg j hj,hp] at this;cases this
theorem ixF_ge {α:Type} (p:α→Bool) (l:List α):ixF p l≥0↔l.any p=true:=by
 unfold ixF;split
 ·rename_i h;simp [h]
 ·rename_i h;simp [h]
def badB (lens:List Int) (n:Int) (b:Blok):Bool:=decide (¬ BlkOk b.1 b.2 lens n)
abbrev fB (lens:List Int) (n:Int):AV:=.fn 193 [.iptr [IL lens] 0,.iptr [I n] 0]
instance MbOk1_c:Con 193 (∀ (m:Int) (lv lens:List Int) (n:Int),lv.length≤1099511627776∧lens.length≤1099511627776→Fn 193 [.agg [I m,IL lv],.iptr [IL lens] 0,.iptr [I n] 0] [] (B (badB lens n (m,lv)))):=⟨fun m lv lens n hl=>by
 unfold badB
 refine FnC.of_body tabOk Tryz.func193 Tryz.ntmps193 rfl (by decide +kernel) (by simp) fun G=>?_
 refine go (r:=?_);and_intros<;>intros<;>try exact True.intro
 all_goals simp_all⟩
instance IndexFuncB_c:Con 263 (∀ (l:List Blok) (lens:List Int) (n:Int),l.length≤1099511627776∧SmB 1099511627776 l∧lens.length≤1099511627776→Fn 263 [BkL l,fB lens n] [] (I (ixF (badB lens n) l))):=⟨fun l lens n hl=>by
 refine FnC.of_body tabOk Tryz.func263 Tryz.ntmps263 rfl (by decide +kernel) (by simp) fun G=>?_
 refine go (r:=?_);and_intros<;>intros<;>try exact True.intro
 refine WpA.loop (fun k:Nat=>⟨[(0,BkL l),(1,fB lens n),(7,I l.length),(8,I k)],[]⟩) (fun k=>k≤l.length∧∀j<k,badB lens n (l.getD j default)=false) (fun k=>l.length-k) 0 (by simp) (go (r:=?_)) (fun k hk=>?_)
 ·trivial
 have hg:=fun h=>smB_get hl.2.1 (k:=k) h
 refine go (r:=?_);and_intros<;>intros<;>try exact True.intro
 ·exact ixF_at (by omega) hk.2 (by unfold badB;exact decide_eq_true ‹_›)
 ·rename_i j hj;by_cases h:j=k
  ·subst h;unfold badB;exact decide_eq_false ‹_›
  ·exact hk.2 j (by omega)
 all_goals (have e:k=l.length:=by omega);subst e;exact ixF_no hk.2⟩
end Go.Proofs.YtndflfipaddfoaaGreat


namespace Go.Proofs.YtndflfipaddfoaaGreat
open Go Go.Abs
attribute [local irreducible] WpA WpL Rnd Blk Abs.Seq Abs.Fin Abs.FinG FnC FnG Only
theorem any_at {α:Type} [Inhabited α] {p:α→Bool} {l:List α} {i:Nat} (hi:i<l.length) (h:p (l.getD i default)=true):l.any p=true:=
 List.any_eq_true.2 ⟨l.getD i default,by simp [hi],h⟩
theorem any_none {α:Type} [Inhabited α] {p:α→Bool} {l:List α} (h:∀j<l.length,p (l.getD j default)=false):l.any p=false:=by
 rw [List.any_eq_false]
 intro x hx
 obtain ⟨j,hj,rfl⟩:=List.getElem_of_mem hx
 have:=h j hj
 have e:l.getD j default=l[j]:=by simp [hj]
 rw [e] at this;simp [this]
theorem any_get {α:Type} [Inhabited α] {p:α→Bool} {l:List α} (h:l.any p=false) {i:Nat} (hi:i<l.length):p (l.getD i default)=false:=by
 cases hp:p (l.getD i default) with
 |false=>rfl
 |true=>rw [any_at hi hp] at h;cases h
instance ContainsFuncB_c:Con 192 (∀ (l:List Blok) (lens:List Int) (n:Int),l.length≤1099511627776∧SmB 1099511627776 l∧lens.length≤1099511627776→Fn 192 [BkL l,fB lens n] [] (B (l.any (badB lens n)))):=⟨fun l lens n hl=>by
 have hge:=ixF_ge (badB lens n) l
 refine FnC.of_body tabOk Tryz.func192 Tryz.ntmps192 rfl (by decide +kernel) (by simp) fun G=>?_
 refine go (r:=?_);and_intros<;>intros<;>try exact True.intro
 all_goals first|exact hl.2.1|(rw [Bool.eq_iff_iff,←hge];simp)⟩
def sz8 (e:Bool):Int:=bif e then 8 else 4
def nm8 (e:Bool):Int:=bif e then 1 else 4
theorem sz8_cases (e:Bool):(sz8 e=4∧nm8 e=4)∨(sz8 e=8∧nm8 e=1):=by cases e<;>simp [sz8,nm8]
instance l23Side_s:Con 66 (∀ e:Bool,Fn 66 [B e] [] (I (sz8 e))):=⟨fun e=>by
 cases e
 ·refine FnC.of_body tabOk Tryz.func66 Tryz.ntmps66 rfl (by decide +kernel) (by simp) fun G=>?_
  refine go (r:=?_);and_intros<;>intros<;>try exact True.intro
  all_goals rfl
 ·refine FnC.of_body tabOk Tryz.func66 Tryz.ntmps66 rfl (by decide +kernel) (by simp) fun G=>?_
  refine go (r:=?_);and_intros<;>intros<;>try exact True.intro
  all_goals rfl⟩
instance shape_c:Con 113 (∀ e:Bool,Fn 113 [B e] [] (.tup [I (nm8 e),I (sz8 e)])):=⟨fun e=>by
 cases e
 ·refine FnC.of_body tabOk Tryz.func113 Tryz.ntmps113 rfl (by decide +kernel) (by simp) fun G=>?_
  refine go (r:=?_);and_intros<;>intros<;>try exact True.intro
  all_goals rfl
 ·refine FnC.of_body tabOk Tryz.func113 Tryz.ntmps113 rfl (by decide +kernel) (by simp) fun G=>?_
  refine go (r:=?_);and_intros<;>intros<;>try exact True.intro
  all_goals rfl⟩
abbrev MbkOk (e:Bool) (bs:List Blok) (lens:List Int):Prop:=(bs.length:Int)=nm8 e∧bs.any (badB lens (sz8 e))=false
instance MbOk_s:Con 79 (∀ (e:Bool) (bs:List Blok) (lens:List Int),bs.length≤1099511627776∧SmB 1099511627776 bs∧lens.length≤1099511627776→Fn 79 [.agg [B e,BkL bs],IL lens] [] (B (decide (MbkOk e bs lens)))):=⟨fun e bs lens hl=>by
 have hc:=sz8_cases e
 refine FnC.of_body tabOk Tryz.func79 Tryz.ntmps79 rfl (by decide +kernel) (by simp) fun G=>?_
 refine go (r:=?_);and_intros<;>intros<;>try exact True.intro
 refine WpA.loop (fun k:Nat=>⟨[(1,IL lens),(2,.ptr 0 0 0),(5,I (sz8 e)),(6,I k)],[⟨[B e,BkL bs],0,0,none⟩]⟩) (fun k=>k≤bs.length∧∀j<k,badB lens (sz8 e) (bs.getD j default)=false) (fun k=>bs.length-k) 0 (by simp) (go (r:=?_)) (fun k hk=>?_)
 ·trivial
 have hg:=fun h=>smB_get hl.2.1 (k:=k) h
 have hnn:sz8 e*sz8 e=16∨sz8 e*sz8 e=64:=by rcases hc with ⟨h,_⟩|⟨h,_⟩<;>rw [h]<;>decide
 have hq:64/(sz8 e*sz8 e)=nm8 e:=by rcases hc with ⟨h,h2⟩|⟨h,h2⟩<;>rw [h,h2]<;>decide
 refine go (r:=?_);and_intros<;>intros<;>try exact True.intro
 ·have:bs.any (badB lens (sz8 e))=true:=any_at (i:=k) (by omega) (by unfold badB;exact decide_eq_true ‹_›)
  simp [this]
 ·rename_i j hj;by_cases h:j=k
  ·subst h;unfold badB;exact decide_eq_false (fun hh=>hh ‹BlkOk _ _ _ _›)
  ·exact hk.2 j (by omega)
 all_goals have e2:k=bs.length:=by omega
 all_goals subst e2
 have:=any_none (p:=badB lens (sz8 e)) hk.2
 rw [hq];simp [this]⟩
instance MbOk_c:Con 103 (∀ (e:Bool) (bs:List Blok) (lens:List Int),bs.length≤1099511627776∧SmB 1099511627776 bs∧lens.length≤1099511627776→Fn 103 [.agg [B e,BkL bs],IL lens] [] (B (decide (MbkOk e bs lens)))):=⟨fun e bs lens hl=>by
 have hc:=sz8_cases e
 refine FnC.of_body tabOk Tryz.func103 Tryz.ntmps103 rfl (by decide +kernel) (by simp) fun G=>?_
 refine go (r:=?_);and_intros<;>intros<;>try exact True.intro
 all_goals simp_all⟩
def badM (lens:List Int) (m:Mbk):Bool:=decide (¬ MbkOk m.1 m.2 lens)
abbrev StC (w h q:Int) (b d:Bool) (l:List Int) (M:List Mbk):List AV:=[I w,I h,I q,B b,B d,IL l,MbL M]
abbrev fM (w h q:Int) (b d:Bool) (l:List Int) (M:List Mbk):AV:=.fn 102 [.iptr (StC w h q b d l M) 0]
instance StreamOk1_c:Con 102 (∀ (e:Bool) (bs:List Blok) (w h q:Int) (b d:Bool) (l:List Int) (M:List Mbk),bs.length≤1099511627776∧SmB 1099511627776 bs∧l.length≤1099511627776→Fn 102 [.agg [B e,BkL bs],.iptr (StC w h q b d l M) 0] [] (B (badM l (e,bs)))):=⟨fun e bs w h q b d l M hl=>by
 unfold badM
 refine FnC.of_body tabOk Tryz.func102 Tryz.ntmps102 rfl (by decide +kernel) (by simp) fun G=>?_
 refine go (r:=?_);and_intros<;>intros<;>try exact True.intro
 all_goals simp_all⟩
instance IndexFuncM_c:Con 191 (∀ (w h q:Int) (b d:Bool) (l:List Int) (M N:List Mbk),N.length≤1099511627776∧SmM 1099511627776 N∧l.length≤1099511627776→Fn 191 [MbL N,fM w h q b d l M] [] (I (ixF (badM l) N))):=⟨fun w h q b d l M N hl=>by
 refine FnC.of_body tabOk Tryz.func191 Tryz.ntmps191 rfl (by decide +kernel) (by simp) fun G=>?_
 refine go (r:=?_);and_intros<;>intros<;>try exact True.intro
 refine WpA.loop (fun k:Nat=>⟨[(0,MbL N),(1,fM w h q b d l M),(7,I N.length),(8,I k)],[]⟩) (fun k=>k≤N.length∧∀j<k,badM l (N.getD j default)=false) (fun k=>N.length-k) 0 (by simp) (go (r:=?_)) (fun k hk=>?_)
 ·trivial
 have hg:=fun h=>(smM_get hl.2.1 (k:=k) h).1
 have hg2:=fun h=>(smM_get hl.2.1 (k:=k) h).2
 refine go (r:=?_);and_intros<;>intros<;>try exact True.intro
 all_goals first|exact hg2 (by omega)|skip
 ·exact ixF_at (by omega) hk.2 (by unfold badM;exact decide_eq_true ‹_›)
 ·rename_i j hj;by_cases h:j=k
  ·subst h;unfold badM;exact decide_eq_false ‹_›
  ·exact hk.2 j (by omega)
 all_goals (have e:k=N.length:=by omega);subst e;exact ixF_no hk.2⟩
instance ContainsFuncM_c:Con 101 (∀ (w h q:Int) (b d:Bool) (l:List Int) (M N:List Mbk),N.length≤1099511627776∧SmM 1099511627776 N∧l.length≤1099511627776→Fn 101 [MbL N,fM w h q b d l M] [] (B (N.any (badM l)))):=⟨fun w h q b d l M N hl=>by
 have hge:=ixF_ge (badM l) N
 refine FnC.of_body tabOk Tryz.func101 Tryz.ntmps101 rfl (by decide +kernel) (by simp) fun G=>?_
 refine go (r:=?_);and_intros<;>intros<;>try exact True.intro
 all_goals first|exact hl.2.1|(rw [Bool.eq_iff_iff,←hge];simp)⟩
abbrev StOk (w h q:Int) (l:List Int) (M:List Mbk):Prop:=HdOk w h q l∧(M.length:Int)=cntM w h∧M.any (badM l)=false
instance StreamOk_s:Con 27 (∀ (w h q:Int) (b d:Bool) (l:List Int) (M:List Mbk),l.length≤1099511627776∧M.length≤1099511627776∧SmM 1099511627776 M→Fn 27 [StA w h q b d l M] [] (B (decide (StOk w h q l M)))):=⟨fun w h q b d l M hl=>by
 refine FnC.of_body tabOk Tryz.func27 Tryz.ntmps27 rfl (by decide +kernel) (by simp) fun G=>?_
 by_cases h0:HdOk w h q l
 ·have hcb:=cntM_bd h0.1
  refine go (r:=?_);and_intros<;>intros<;>try exact True.intro
  all_goals first|(exact absurd h0 (by assumption))|skip
  refine WpA.loop (fun k:Nat=>⟨[(1,.ptr 0 0 0),(3,I k)],[⟨StC w h q b d l M,0,0,none⟩]⟩) (fun k=>k≤M.length∧∀j<k,badM l (M.getD j default)=false) (fun k=>M.length-k) 0 (by simp) (go (r:=?_)) (fun k hk=>?_)
  ·trivial
  have hg:=fun h=>(smM_get hl.2.2 (k:=k) h).1
  have hg2:=fun h=>(smM_get hl.2.2 (k:=k) h).2
  refine go (r:=?_);and_intros<;>intros<;>try exact True.intro
  ·exact hg2 (by omega)
  ·have:M.any (badM l)=true:=any_at (i:=k) (by omega) (by unfold badM;exact decide_eq_true ‹_›)
   simp [this]
  ·rename_i j hj;by_cases h:j=k
   ·subst h;unfold badM;exact decide_eq_false (fun hh=>hh ‹MbkOk _ _ _›)
   ·exact hk.2 j (by omega)
  all_goals have e2:k=M.length:=by omega
  all_goals subst e2
  have:=any_none (p:=badM l) hk.2
  simp [this,h0]
 ·refine go (r:=?_);and_intros<;>intros<;>try exact True.intro
  all_goals simp [StOk,h0]⟩
theorem Weak.eqv {m d:Nat} {V V':AV} {T:List (Nat×AV)} {O:List AObj} (h:V=V'):Weak m ⟨(d,V)::T,O⟩ ⟨(d,V')::T,O⟩:=by subst h;exact fun n G a w h=>h
instance StreamOk_c:Con 46 (∀ (w h q:Int) (b d:Bool) (l:List Int) (M:List Mbk),l.length≤1099511627776∧M.length≤1099511627776∧SmM 1099511627776 M→Fn 46 [StA w h q b d l M] [] (B (decide (StOk w h q l M)))):=⟨fun w h q b d l M hl=>by
 refine FnC.of_body tabOk Tryz.func46 Tryz.ntmps46 rfl (by decide +kernel) (by simp) fun G=>?_
 refine K.A ?_
 refine WpA.seq ?_
 refine WpA.regionF rfl ?_
 refine WpL.box rfl rfl rfl (by decide) ?_
 refine WpL.assign rfl (by decide) ?_
 refine WpL.nil ?_
 refine Abs.Seq.n ?_
 refine WpA.seq ?_
 by_cases h0:HdOk w h q l
 ·have e0:decide (HdOk w h q l)=true:=decide_eq_true h0
  by_cases h1:(M.length:Int)=cntM w h
  ·have e1:decide ((M.length:Int)=cntM w h)=true:=decide_eq_true h1
   apply WpA.regionM 16 mixed (by decide +kernel)
   ·apply HeadJ.consF rfl
    ·exact rfl
    ·exact in1
    ·exact rfl
    apply HeadJ.consF rfl
    ·exact rfl
    ·exact in1
    ·exact rfl
    apply HeadJ.consF rfl
    ·exact rfl
    ·(refine fun Tv=>?_;refine K.call ?_;refine K.con (fun hcon=>?_);refine WpL.call0 (hcon _ _ _ _ _ _ ?_) snapA locA rfl rfl (by decide) ?_;(· exact hl.1);refine WpL.weak (Weak.eqv (V':=B true) (by rw [e0])) ?_;exact WpL.nil (Only.mk rfl))
    ·exact rfl
    apply HeadJ.consF rfl
    ·exact rfl
    ·exact in1
    ·exact rfl
    apply HeadJ.consF rfl
    ·exact rfl
    ·(refine fun Tv=>?_;refine K.gT rfl (by decide) rfl ?_;exact in1)
    ·exact rfl
    apply HeadJ.consF rfl
    ·exact rfl
    ·(refine fun Tv=>?_;refine K.gT rfl (by decide) rfl ?_;exact in1)
    ·exact rfl
    apply HeadJ.consF rfl
    ·exact rfl
    ·(refine fun Tv=>?_;refine K.gT rfl (by decide) rfl ?_;exact in1)
    ·exact rfl
    apply HeadJ.consF rfl
    ·exact rfl
    ·(refine fun Tv=>?_;refine K.gT rfl (by decide) rfl ?_;exact in1)
    ·exact rfl
    apply HeadJ.consF rfl
    ·exact rfl
    ·(refine fun Tv=>?_;refine K.gT rfl (by decide) rfl ?_;exact in1)
    ·exact rfl
    apply HeadJ.consF rfl
    ·exact rfl
    ·(refine fun Tv=>?_;refine K.gT rfl (by decide) rfl ?_;refine K.call ?_;refine K.con (fun hcon=>?_);refine WpL.call0 (hcon _ _ _ _ _ _ h0.1) snapA locA rfl rfl (by decide) ?_;exact WpL.nil (Only.mk rfl))
    ·exact rfl
    apply HeadJ.consF rfl
    ·exact rfl
    ·(refine fun Tv=>?_;refine K.gT rfl (by decide) rfl ?_;refine WpL.bin rfl rfl rfl (by decide) ?_;refine WpL.weak (Weak.eqv (V':=B true) (by simp only [e1])) ?_;exact WpL.nil (Only.mk rfl))
    ·exact rfl
    apply HeadJ.consF rfl
    ·exact rfl
    ·exact in1
    ·exact rfl
    apply HeadJ.consF rfl
    ·exact rfl
    ·exact in1
    ·exact rfl
    apply HeadJ.consF rfl
    ·exact rfl
    ·(refine fun Tv=>?_;refine K.gT rfl (by decide) rfl ?_;exact in1)
    ·exact rfl
    apply HeadJ.consF rfl
    ·exact rfl
    ·(refine fun Tv=>?_;refine K.gT rfl (by decide) rfl ?_;exact in1)
    ·exact rfl
    apply HeadJ.consF rfl
    ·exact rfl
    ·(refine fun Tv=>?_;refine K.gT rfl (by decide) rfl ?_;refine WpL.makeFunc (cs:=[.ptr 0 0 0]) rfl (by decide) ?_;exact WpL.nil (Only.mk rfl))
    ·exact rfl
    exact HeadJ.nil
   ·kernel_rfl
   ·kernel_rfl
   ·exact rfl
   refine go (r:=?_);and_intros<;>intros<;>try exact True.intro
   all_goals first|exact hl.2.2|(simp [StOk,h0,h1];done)
  ·have e1:decide ((M.length:Int)=cntM w h)=false:=decide_eq_false h1
   apply WpA.regionM 16 mixed (by decide +kernel)
   ·apply HeadJ.consF rfl
    ·exact rfl
    ·exact in1
    ·exact rfl
    apply HeadJ.consF rfl
    ·exact rfl
    ·exact in1
    ·exact rfl
    apply HeadJ.consF rfl
    ·exact rfl
    ·(refine fun Tv=>?_;refine K.call ?_;refine K.con (fun hcon=>?_);refine WpL.call0 (hcon _ _ _ _ _ _ ?_) snapA locA rfl rfl (by decide) ?_;(· exact hl.1);refine WpL.weak (Weak.eqv (V':=B true) (by rw [e0])) ?_;exact WpL.nil (Only.mk rfl))
    ·exact rfl
    apply HeadJ.consF rfl
    ·exact rfl
    ·exact in1
    ·exact rfl
    apply HeadJ.consF rfl
    ·exact rfl
    ·(refine fun Tv=>?_;refine K.gT rfl (by decide) rfl ?_;exact in1)
    ·exact rfl
    apply HeadJ.consF rfl
    ·exact rfl
    ·(refine fun Tv=>?_;refine K.gT rfl (by decide) rfl ?_;exact in1)
    ·exact rfl
    apply HeadJ.consF rfl
    ·exact rfl
    ·(refine fun Tv=>?_;refine K.gT rfl (by decide) rfl ?_;exact in1)
    ·exact rfl
    apply HeadJ.consF rfl
    ·exact rfl
    ·(refine fun Tv=>?_;refine K.gT rfl (by decide) rfl ?_;exact in1)
    ·exact rfl
    apply HeadJ.consF rfl
    ·exact rfl
    ·(refine fun Tv=>?_;refine K.gT rfl (by decide) rfl ?_;exact in1)
    ·exact rfl
    apply HeadJ.consF rfl
    ·exact rfl
    ·(refine fun Tv=>?_;refine K.gT rfl (by decide) rfl ?_;refine K.call ?_;refine K.con (fun hcon=>?_);refine WpL.call0 (hcon _ _ _ _ _ _ h0.1) snapA locA rfl rfl (by decide) ?_;exact WpL.nil (Only.mk rfl))
    ·exact rfl
    apply HeadJ.consF rfl
    ·exact rfl
    ·(refine fun Tv=>?_;refine K.gT rfl (by decide) rfl ?_;refine WpL.bin rfl rfl rfl (by decide) ?_;refine WpL.weak (Weak.eqv (V':=B false) (by simp only [e1])) ?_;exact WpL.nil (Only.mk rfl))
    ·exact rfl
    apply HeadJ.consF rfl
    ·exact rfl
    ·exact in1
    ·exact rfl
    apply HeadJ.consF rfl
    ·exact rfl
    ·exact in1
    ·exact rfl
    apply HeadJ.consF rfl
    ·exact rfl
    ·(refine fun Tv=>?_;refine K.gF rfl (by decide) rfl ?_;exact WpL.nil (Only.mk rfl))
    ·exact rfl
    apply HeadJ.consF rfl
    ·exact rfl
    ·(refine fun Tv=>?_;refine K.gF rfl (by decide) rfl ?_;exact WpL.nil (Only.mk rfl))
    ·exact rfl
    apply HeadJ.consF rfl
    ·exact rfl
    ·(refine fun Tv=>?_;refine K.gF rfl (by decide) rfl ?_;exact WpL.nil (Only.mk rfl))
    ·exact rfl
    exact HeadJ.nil
   ·kernel_rfl
   ·kernel_rfl
   ·exact rfl
   refine go (r:=?_);and_intros<;>intros<;>try exact True.intro
   all_goals simp [StOk,h1]
 ·have e0:decide (HdOk w h q l)=false:=decide_eq_false h0
  apply WpA.regionM 16 mixed (by decide +kernel)
  ·apply HeadJ.consF rfl
   ·exact rfl
   ·exact in1
   ·exact rfl
   apply HeadJ.consF rfl
   ·exact rfl
   ·exact in1
   ·exact rfl
   apply HeadJ.consF rfl
   ·exact rfl
   ·(refine fun Tv=>?_;refine K.call ?_;refine K.con (fun hcon=>?_);refine WpL.call0 (hcon _ _ _ _ _ _ ?_) snapA locA rfl rfl (by decide) ?_;(· exact hl.1);refine WpL.weak (Weak.eqv (V':=B false) (by rw [e0])) ?_;exact WpL.nil (Only.mk rfl))
   ·exact rfl
   apply HeadJ.consF rfl
   ·exact rfl
   ·exact in1
   ·exact rfl
   apply HeadJ.consF rfl
   ·exact rfl
   ·(refine fun Tv=>?_;refine K.gF rfl (by decide) rfl ?_;exact WpL.nil (Only.mk rfl))
   ·exact rfl
   apply HeadJ.consF rfl
   ·exact rfl
   ·(refine fun Tv=>?_;refine K.gF rfl (by decide) rfl ?_;exact WpL.nil (Only.mk rfl))
   ·exact rfl
   apply HeadJ.consF rfl
   ·exact rfl
   ·(refine fun Tv=>?_;refine K.gF rfl (by decide) rfl ?_;exact WpL.nil (Only.mk rfl))
   ·exact rfl
   apply HeadJ.consF rfl
   ·exact rfl
   ·(refine fun Tv=>?_;refine K.gF rfl (by decide) rfl ?_;exact WpL.nil (Only.mk rfl))
   ·exact rfl
   apply HeadJ.consF rfl
   ·exact rfl
   ·(refine fun Tv=>?_;refine K.gF rfl (by decide) rfl ?_;exact WpL.nil (Only.mk rfl))
   ·exact rfl
   apply HeadJ.consF rfl
   ·exact rfl
   ·(refine fun Tv=>?_;refine K.gF rfl (by decide) rfl ?_;exact WpL.nil (Only.mk rfl))
   ·exact rfl
   apply HeadJ.consF rfl
   ·exact rfl
   ·(refine fun Tv=>?_;refine K.gF rfl (by decide) rfl ?_;exact WpL.nil (Only.mk rfl))
   ·exact rfl
   apply HeadJ.consF rfl
   ·exact rfl
   ·exact in1
   ·exact rfl
   apply HeadJ.consF rfl
   ·exact rfl
   ·exact in1
   ·exact rfl
   apply HeadJ.consF rfl
   ·exact rfl
   ·(refine fun Tv=>?_;refine K.gF rfl (by decide) rfl ?_;exact WpL.nil (Only.mk rfl))
   ·exact rfl
   apply HeadJ.consF rfl
   ·exact rfl
   ·(refine fun Tv=>?_;refine K.gF rfl (by decide) rfl ?_;exact WpL.nil (Only.mk rfl))
   ·exact rfl
   apply HeadJ.consF rfl
   ·exact rfl
   ·(refine fun Tv=>?_;refine K.gF rfl (by decide) rfl ?_;exact WpL.nil (Only.mk rfl))
   ·exact rfl
   exact HeadJ.nil
  ·kernel_rfl
  ·kernel_rfl
  ·exact rfl
  refine go (r:=?_);and_intros<;>intros<;>try exact True.intro
  all_goals simp [StOk,h0]⟩
def pk (l:List Int):Nat→List (Int×Int)×Int
 |0=>([],0)
 |k+1=>if l.getD k 0=0 then ((pk l k).1,(pk l k).2+1) else ((pk l k).1++[((pk l k).2,l.getD k 0)],0)
def prsL (l:List Int):List (Int×Int):=if LvOk l then (pk l l.length).1 else []
theorem pk_bd (l:List Int):∀k,(pk l k).1.length≤k∧0≤(pk l k).2∧(pk l k).2≤k
 |0=>by simp [pk]
 |k+1=>by have:=pk_bd l k;rw [pk];split<;>simp<;>omega
abbrev XP (l:List (Int×Int)):AObj:=⟨rows prF l,0,2,some 197⟩
instance PairsOf_s:Con 208 (∀ l:List Int,l.length≤1099511627776→Fn 208 [IL l] [XP (prsL l)] (.own 0 0 0 (prsL l).length)):=⟨fun l hl=>by
 refine FnC.of_body tabOk Tryz.func208 Tryz.ntmps208 rfl (by decide +kernel) (by simp) fun G=>?_
 by_cases h:LvOk l
 ·refine go (r:=?_);and_intros<;>intros<;>try exact True.intro
  refine WpA.loop (fun k:Nat=>⟨[(0,IL l),(3,.own 0 0 0 (pk l k).1.length),(4,I (pk l k).2),(5,I k)],[XP (pk l k).1]⟩) (fun k=>k≤l.length) (fun k=>l.length-k) 0 (by simp) (go (r:=?_)) (fun k hk=>?_)
  ·simp [pk]
  have hb:=pk_bd l k
  have hend:k=l.length→(pk l k).1=prsL l:=by rintro rfl;rw [prsL,if_pos h]
  by_cases hz:l.getD k 0=0
  ·have e1:pk l (k+1)=((pk l k).1,(pk l k).2+1):=by rw [pk,if_pos hz]
   have e2:(pk l (k+1)).1.length=(pk l k).1.length:=by rw [e1]
   refine go (r:=?_);and_intros<;>intros<;>try exact True.intro
   all_goals first|(rw [e1];done)|(rw [hend (by omega)];done)
  ·have e1:pk l (k+1)=((pk l k).1++[((pk l k).2,l.getD k 0)],0):=by rw [pk,if_neg hz]
   have e2:(pk l (k+1)).1.length=(pk l k).1.length+1:=by rw [e1,List.length_append,List.length_singleton]
   refine go (r:=?_);and_intros<;>intros<;>try exact True.intro
   all_goals first|(rw [e1];done)|(rw [e1];rfl)|(rw [hend (by omega)];done)
 ·have e:prsL l=[]:=by rw [prsL,if_neg h]
  refine go (r:=?_);and_intros<;>intros<;>try exact True.intro
  refine WpA.loop (fun k:Nat=>⟨[(0,IL l),(3,.own 0 0 0 0),(4,I 0),(5,I 0)],[XP []]⟩) (fun k=>k≤0) (fun k=>0) 0 (by omega) (go (r:=?_)) (fun k hk=>?_)
  ·first|trivial|(refine ⟨?_,?_⟩<;>trivial)|skip
  refine go (r:=?_);and_intros<;>intros<;>try exact True.intro
  all_goals first|(rw [e];done)|(rw [e];rfl)⟩
theorem ok_blk {w h q:Int} {l:List Int} {M:List Mbk} (hs:StOk w h q l M) {i:Nat} (hi:i<M.length):MbkOk (M.getD i default).1 (M.getD i default).2 l:=by
 have:=any_get hs.2.2 hi
 unfold badM at this
 exact Decidable.not_not.1 (of_decide_eq_false this)
theorem ok_lv {e:Bool} {bs:List Blok} {l:List Int} (hs:MbkOk e bs l) {k:Nat} (hk:k<bs.length):BlkOk (bs.getD k default).1 (bs.getD k default).2 l (sz8 e):=by
 have:=any_get hs.2 hk
 unfold badB at this
 exact Decidable.not_not.1 (of_decide_eq_false this)
end Go.Proofs.YtndflfipaddfoaaGreat


namespace Go.Proofs.YtndflfipaddfoaaGreat
open Go Go.Abs
attribute [local irreducible] WpA WpL Rnd Blk Abs.Seq Abs.Fin Abs.FinG FnC FnG Only
theorem fm_snoc {α β:Type} [Inhabited α] (f:α→List β) (l:List α) (k:Nat) (h:k<l.length):(l.take (k+1)).flatMap f=(l.take k).flatMap f++f (l.getD k default):=by
 rw [take_snoc l k h,List.flatMap_append];simp
theorem fm_bd {α β:Type} (f:α→List β) (c:Nat) (h:∀a,(f a).length≤c):∀l:List α,(l.flatMap f).length≤c*l.length
 |[]=>by simp
 |a::l=>by
  have:=fm_bd f c h l
  have h1:=h a
  rw [List.flatMap_cons,List.length_append,List.length_cons,Nat.mul_add];omega
theorem pk_in (l:List Int):∀k,k≤l.length→∀p∈(pk l k).1,(0≤p.1∧p.1≤k)∧p.2≠0∧p.2∈l
 |0,_,p,hp=>by simp [pk] at hp
 |k+1,hk,p,hp=>by
  have ih:=pk_in l k (by omega)
  have hb:=pk_bd l k
  rw [pk] at hp
  split at hp
  ·obtain ⟨a,b,c⟩:=ih p hp;exact ⟨by omega,b,c⟩
  ·rename_i hz
   rcases List.mem_append.1 hp with hp|hp
   ·obtain ⟨a,b,c⟩:=ih p hp;exact ⟨by omega,b,c⟩
   ·simp only [List.mem_singleton] at hp
    subst hp
    refine ⟨by omega,hz,?_⟩
    have e:l.getD k 0=l[k]'(by omega):=by simp [show k<l.length by omega]
    simp only [e];exact List.getElem_mem _
theorem in_mem {l:List Int} {lo hi:Int} (h:In l lo hi) {x:Int} (hx:x∈l):lo≤x∧x≤hi:=by
 unfold In at h;exact h x hx
theorem prs_in {l:List Int} (h:LvOk l) {k:Nat} (hk:k<(prsL l).length):(0≤((prsL l).getD k default).1∧((prsL l).getD k default).1≤64)∧((prsL l).getD k default).2≠0∧-16383≤((prsL l).getD k default).2∧((prsL l).getD k default).2≤16383:=by
 have hm:(prsL l).getD k default∈(prsL l):=by simp [hk]
 generalize (prsL l).getD k default=p at hm
 rw [prsL,if_pos h] at hm
 obtain ⟨h1,h2,h3⟩:=pk_in l l.length (Nat.le_refl _) p hm
 have h4:=in_mem h.1 h3
 have h5:l.length≤64:=by rcases h.2 with h|h<;>omega
 refine ⟨by omega,h2,h4⟩
theorem prs_len (l:List Int):(prsL l).length≤64:=by
 unfold prsL;split
 ·rename_i h
  have:=(pk_bd l l.length).1
  rcases h.2 with h|h<;>omega
 ·simp
theorem nolL_in {v:Int} (h:v≠0∧-16383≤v∧v≤16383):0≤nolL v∧nolL v≤65534:=by unfold nolL;split<;>(try split)<;>omega
instance PairsOf_c:Con 296 (∀ l:List Int,LvOk l→Fn 296 [IL l] [XP (prsL l)] (.own 0 0 0 (prsL l).length)):=⟨fun l h=>by
 have hl:l.length≤64:=by rcases h.2 with h|h<;>omega
 refine FnC.of_body tabOk Tryz.func296 Tryz.ntmps296 rfl (by decide +kernel) (by simp) fun G=>?_
 refine go (r:=?_);and_intros<;>intros<;>try exact True.intro
 all_goals first|(exact absurd h (by assumption))|skip
 refine WpA.loop (fun k:Nat=>⟨[(3,.own 0 0 0 (pk l k).1.length),(4,I (pk l k).2),(11,IL l),(12,I l.length),(13,I k)],[XP (pk l k).1]⟩) (fun k=>k≤l.length) (fun k=>l.length-k) 0 (by simp) (go (r:=?_)) (fun k hk=>?_)
 ·simp [pk]
 have hb:=pk_bd l k
 have hend:k=l.length→(pk l k).1=prsL l:=by rintro rfl;rw [prsL,if_pos h]
 by_cases hz:l.getD k 0=0
 ·have e1:pk l (k+1)=((pk l k).1,(pk l k).2+1):=by rw [pk,if_pos hz]
  have e2:(pk l (k+1)).1.length=(pk l k).1.length:=by rw [e1]
  refine go (r:=?_);and_intros<;>intros<;>try exact True.intro
  all_goals first|(rw [e1];done)|(rw [hend (by omega)];done)
 ·have e1:pk l (k+1)=((pk l k).1++[((pk l k).2,l.getD k 0)],0):=by rw [pk,if_neg hz]
  have e2:(pk l (k+1)).1.length=(pk l k).1.length+1:=by rw [e1,List.length_append,List.length_singleton]
  refine go (r:=?_);and_intros<;>intros<;>try exact True.intro
  all_goals first|(rw [e1];done)|(rw [e1];rfl)|(rw [hend (by omega)];done)⟩
def prB (p:Int×Int):List Int:=ueL p.1++ueL (nolL p.2)
theorem prB_len (p:Int×Int):(prB p).length≤128:=by
 have h1:=ueL_len p.1
 have h2:=ueL_len (nolL p.2)
 unfold prB;rw [List.length_append];omega
def bkK (m:Int) (lv lens:List Int) (k:Nat):List Int:=(symL lens m++[1]++ueL ((prsL lv).length-1))++((prsL lv).take k).flatMap prB
def bkL (m:Int) (lv lens:List Int) (n:Int):List Int:=if BlkOk m lv lens n then (if (prsL lv).length=0 then symL lens m++[0] else bkK m lv lens (prsL lv).length) else []
theorem symL_len7 (l:List Int) (m:Int):(symL l m).length≤48:=by
 unfold symL;split
 ·exact bitsL_len _ _
 ·simp
theorem bkK_len (m:Int) (lv lens:List Int) (k:Nat):(bkK m lv lens k).length≤113+128*k:=by
 have h1:=symL_len7 lens m
 have h2:=ueL_len ((prsL lv).length-1)
 have h3:=fm_bd prB 128 prB_len ((prsL lv).take k)
 have h4:((prsL lv).take k).length≤k:=by simp;omega
 unfold bkK;simp only [List.length_append,List.length_cons,List.length_nil];omega
theorem bkK_zero (m:Int) (lv lens:List Int):bkK m lv lens 0=symL lens m++[1]++ueL ((prsL lv).length-1):=by simp [bkK]
theorem bkK_succ (m:Int) (lv lens:List Int) (k:Nat) (h:k<(prsL lv).length):bkK m lv lens (k+1)=bkK m lv lens k++ueL ((prsL lv).getD k default).1++ueL (nolL ((prsL lv).getD k default).2):=by
 unfold bkK;rw [fm_snoc prB _ k h,←List.append_assoc,prB,←List.append_assoc]
theorem bkL_len (m:Int) (lv lens:List Int) (n:Int):(bkL m lv lens n).length≤8400:=by
 have h1:=symL_len7 lens m
 have h2:=bkK_len m lv lens (prsL lv).length
 have h3:=prs_len lv
 unfold bkL;split
 ·split
  ·simp;omega
  ·omega
 ·simp
instance BlockBits_s:Con 124 (∀ (m:Int) (lv lens:List Int) (n:Int),lv.length≤1099511627776∧lens.length≤1099511627776→Fn 124 [.agg [I m,IL lv],IL lens,I n] [XI (bkL m lv lens n)] (.own 0 0 0 (bkL m lv lens n).length)):=⟨fun m lv lens n hl=>by
 have hs:=symL_len7 lens m
 have hu:=ueL_len ((prsL lv).length-1)
 have hp:=prs_len lv
 refine FnC.of_body tabOk Tryz.func124 Tryz.ntmps124 rfl (by decide +kernel) (by simp) fun G=>?_
 by_cases h:BlkOk m lv lens n
 ·by_cases h0:(prsL lv).length=0
  ·have e:bkL m lv lens n=symL lens m++[0]:=by rw [bkL,if_pos h,if_pos h0]
   refine go (r:=?_);and_intros<;>intros<;>try exact True.intro
   all_goals first|(exact absurd h (by assumption))|(rw [e];done)|(rw [e];simp;done)
  ·have e:bkL m lv lens n=bkK m lv lens (prsL lv).length:=by rw [bkL,if_pos h,if_neg h0]
   have e0:=bkK_zero m lv lens
   have el0:(symL lens m).length+1+(ueL ((prsL lv).length-1)).length=(bkK m lv lens 0).length:=by rw [e0];simp;omega
   refine go (r:=?_);and_intros<;>intros<;>try exact True.intro
   all_goals first|(exact absurd h (by assumption))|(exact absurd (by omega) h0)|skip
   refine WpA.loop (fun k:Nat=>⟨[(7,.own 2 0 0 (bkK m lv lens k).length),(8,.own 3 0 0 (prsL lv).length),(9,I k)],[⟨[I m,IL lv],0,0,none⟩,XI [],XI (bkK m lv lens k),XP (prsL lv)]⟩) (fun k=>k≤(prsL lv).length) (fun k=>(prsL lv).length-k) 0 (by omega) (go (r:=?_)) (fun k hk=>?_)
   ·exact ⟨e0.symm,trivial⟩
   have hb:=bkK_len m lv lens k
   have hsc:=fun h=>bkK_succ m lv lens k h
   refine goR (r:=?_);and_intros<;>intros<;>try exact True.intro
   ·have hk2:k<(prsL lv).length:=by omega
    have hpi:=prs_in h.2.2.2 hk2
    have hsc:=hsc hk2
    have hsl:(bkK m lv lens (k+1)).length=(bkK m lv lens k).length+(ueL ((prsL lv).getD k default).1).length+(ueL (nolL ((prsL lv).getD k default).2)).length:=by rw [hsc];simp only [List.length_append]
    have ha:=ueL_len ((prsL lv).getD k default).1
    have hbb:=ueL_len (nolL ((prsL lv).getD k default).2)
    apply WpA.regionQF (O:=[⟨[I m,IL lv],0,0,none⟩,XI []]) (Or:=[XI (bkK m lv lens k),XP (prsL lv)]) (O1:=[⟨[I m,IL lv],0,0,none⟩,XI [],XD (bkK m lv lens k++ueL ((prsL lv).getD k default).1),XP (prsL lv),XD (ueL ((prsL lv).getD k default).1),XD (ueL (nolL ((prsL lv).getD k default).2)),deadO,deadO]) 15 2 [1] rfl mixed (by decide +kernel)
    ·exact rfl
    ·apply HeadQ.consF .none rfl
     ·exact rfl
     ·exact in1
     ·exact rfl
     ·exact rfl
     apply HeadQ.consF .none rfl
     ·exact rfl
     ·exact in1
     ·exact rfl
     ·exact rfl
     apply HeadQ.consF .none rfl
     ·exact rfl
     ·exact in1
     ·exact rfl
     ·exact rfl
     apply HeadQ.consF .none rfl
     ·exact rfl
     ·intro Tv Ov hc hp hd hk
      obtain ⟨A,Ov',rfl⟩:=split2 (hk 1 rfl)
      exact in1
     ·exact rfl
     ·exact rfl
     apply HeadQ.consF .none rfl
     ·exact rfl
     ·intro Tv Ov hc hp hd hk
      obtain ⟨A,Ov',rfl⟩:=split2 (hk 1 rfl)
      exact in1
     ·exact rfl
     ·exact rfl
     apply HeadQ.consF .none rfl
     ·exact rfl
     ·intro Tv Ov hc hp hd hk
      obtain ⟨A,Ov',rfl⟩:=split2 (hk 1 rfl)
      exact in1
     ·exact rfl
     ·exact rfl
     apply HeadQ.consF (V:=.own 4 1 0 (ueL ((prsL lv).getD k default).1).length) (.put 2 (XD (ueL ((prsL lv).getD k default).1))) rfl
     ·exact rfl
     ·intro Tv Ov hc hp hd hk
      refine K.call ?_
      refine K.con (fun hcon=>?_)
      refine WpL.callF (hcon _) snapA locA outA (cnt_some _ 0) rfl rfl (by decide) ?_
      rw [Nat.zero_add]
      apply WpL.putNil (p:=2)
      ·exact hp 2 _ rfl
      ·exact Nat.zero_le _
      ·exact rfl
      ·first|exact still_ints _|exact still_rows (fun _=>rfl) _|rfl
     ·exact rfl
     ·exact rfl
     apply HeadQ.consF (V:=.own 2 1 0 ((bkK m lv lens k).length+(ueL ((prsL lv).getD k default).1).length)) (.step 0 (XD (bkK m lv lens k++ueL ((prsL lv).getD k default).1))) rfl
     ·exact rfl
     ·intro Tv Ov hc hp hd hk
      refine WpL.appInts tabOk rfl rfl (fill_at (O:=[⟨[I m,IL lv],0,0,none⟩,XI []]) (hp 0 _ rfl)) (Nat.zero_le _) rfl (srcB_own (fill_at (O:=[⟨[I m,IL lv],0,0,none⟩,XI []]) (hd 6 _ 2 _ (by decide) rfl rfl)) rfl) (by first|rfl|omega) (by first|rfl|omega) (by omega) (by decide) ?_
      exact WpL.nil (Only.mk (congrArg (St.mk _) (step_eq (O:=[⟨[I m,IL lv],0,0,none⟩,XI []]) Ov (p:=0) _)))
     ·exact rfl
     ·exact rfl
     apply HeadQ.consF .none rfl
     ·exact rfl
     ·exact in1
     ·exact rfl
     ·exact rfl
     apply HeadQ.consF .none rfl
     ·exact rfl
     ·exact in1
     ·exact rfl
     ·exact rfl
     apply HeadQ.consF .none rfl
     ·exact rfl
     ·intro Tv Ov hc hp hd hk
      obtain ⟨A,Ov',rfl⟩:=split2 (hk 1 rfl)
      exact in1
     ·exact rfl
     ·exact rfl
     apply HeadQ.consF .none rfl
     ·exact rfl
     ·intro Tv Ov hc hp hd hk
      obtain ⟨A,Ov',rfl⟩:=split2 (hk 1 rfl)
      exact in1
     ·exact rfl
     ·exact rfl
     apply HeadQ.consF .none rfl
     ·exact rfl
     ·intro Tv Ov hc hp hd hk
      obtain ⟨A,Ov',rfl⟩:=split2 (hk 1 rfl)
      exact in1
     ·exact rfl
     ·exact rfl
     apply HeadQ.consF .none rfl
     ·exact rfl
     ·exact in0
     ·exact rfl
     ·exact rfl
     apply HeadQ.consF (V:=.own 5 1 0 (ueL (nolL ((prsL lv).getD k default).2)).length) (.put 3 (XD (ueL (nolL ((prsL lv).getD k default).2)))) rfl
     ·exact rfl
     ·intro Tv Ov hc hp hd hk
      refine K.call ?_
      refine K.con (fun hcon=>?_)
      refine WpL.callF (hcon _) snapA locA outA (cnt_some _ 0) rfl rfl (by decide) ?_
      rw [Nat.zero_add]
      apply WpL.putNil (p:=3)
      ·exact hp 3 _ rfl
      ·exact Nat.zero_le _
      ·exact rfl
      ·first|exact still_ints _|exact still_rows (fun _=>rfl) _|rfl
     ·exact rfl
     ·exact rfl
     exact HeadQ.nil
    ·exact rfl
    ·exact rfl
    ·exact rfl
    ·exact rfl
    ·exact rfl
    ·exact rfl
    ·exact rfl
    refine go (r:=?_);and_intros<;>intros<;>try exact True.intro
    all_goals first|(rw [hsc];done)
   all_goals have ek:k=(prsL lv).length:=by omega
   all_goals subst ek
   all_goals rw [e]
 ·have e:bkL m lv lens n=[]:=by rw [bkL,if_neg h]
  refine go (r:=?_);and_intros<;>intros<;>try exact True.intro
  all_goals first|(exact absurd (by assumption) h)|(rw [e];done)|(rw [e];rfl)⟩
abbrev BoxB (m:Int) (lv:List Int):AObj:=⟨[I m,IL lv],0,0,none⟩
instance BlockBits_c:Con 260 (∀ (m:Int) (lv lens:List Int) (n:Int),lv.length≤1099511627776∧lens.length≤1099511627776∧BlkOk m lv lens n→Fn 260 [.agg [I m,IL lv],IL lens,I n] [XI (bkL m lv lens n)] (.own 0 0 0 (bkL m lv lens n).length)):=⟨fun m lv lens n hl=>by
 have hs:=symL_len7 lens m
 have hu:=ueL_len ((prsL lv).length-1)
 have hp:=prs_len lv
 have h:=hl.2.2
 refine FnC.of_body tabOk Tryz.func260 Tryz.ntmps260 rfl (by decide +kernel) (by simp) fun G=>?_
 refine goR (r:=?_);and_intros<;>intros<;>try exact True.intro
 all_goals first|(exact absurd h (by assumption))|skip
 apply WpA.regionQF (O:=[BoxB m lv]) (Or:=[]) (O1:=[BoxB m lv,XD (symL lens m),XQ (prsL lv),deadO,deadO]) 7 2 [] rfl mixed (by decide +kernel)
 ·exact rfl
 ·apply HeadQ.consF .none rfl
  ·exact rfl
  ·exact in1
  ·exact rfl
  ·exact rfl
  apply HeadQ.consF .none rfl
  ·exact rfl
  ·exact in1
  ·exact rfl
  ·exact rfl
  apply HeadQ.consF .none rfl
  ·exact rfl
  ·exact in1
  ·exact rfl
  ·exact rfl
  apply HeadQ.consF (V:=.own 1 1 0 (symL lens m).length) (.put 0 (XD (symL lens m))) rfl
  ·exact rfl
  ·intro Tv Ov hc hp hd hk
   refine K.call ?_
   refine K.con (fun hcon=>?_)
   refine WpL.callF (hcon _ _ hl.2.1) snapA locA outA (cnt_some _ 0) rfl rfl (by decide) ?_
   rw [Nat.zero_add]
   apply WpL.putNil (p:=0)
   ·exact hp 0 _ rfl
   ·exact Nat.zero_le _
   ·exact rfl
   ·first|exact still_ints _|exact still_rows (fun _=>rfl) _|rfl
  ·exact rfl
  ·exact rfl
  apply HeadQ.consF .none rfl
  ·exact rfl
  ·exact in1
  ·exact rfl
  ·exact rfl
  apply HeadQ.consF .none rfl
  ·exact rfl
  ·exact in1
  ·exact rfl
  ·exact rfl
  apply HeadQ.consF (V:=.own 2 1 0 (prsL lv).length) (.put 1 (XQ (prsL lv))) rfl
  ·exact rfl
  ·intro Tv Ov hc hp hd hk
   refine K.call ?_
   refine K.con (fun hcon=>?_)
   refine WpL.callF (hcon _ h.2.2.2) snapA locA outA (cnt_some _ 0) rfl rfl (by decide) ?_
   rw [Nat.zero_add]
   apply WpL.putNil (p:=1)
   ·exact hp 1 _ rfl
   ·exact Nat.zero_le _
   ·exact rfl
   ·first|exact still_ints _|exact still_rows (fun _=>rfl) _|rfl
  ·exact rfl
  ·exact rfl
  exact HeadQ.nil
 ·exact rfl
 ·exact rfl
 ·exact rfl
 ·exact rfl
 ·exact rfl
 ·exact rfl
 ·exact rfl
 by_cases h0:(prsL lv).length=0
 ·have e:bkL m lv lens n=symL lens m++[0]:=by rw [bkL,if_pos h,if_pos h0]
  refine go (r:=?_);and_intros<;>intros<;>try exact True.intro
  all_goals first|(rw [e];done)|(rw [e];simp;done)
 ·have e:bkL m lv lens n=bkK m lv lens (prsL lv).length:=by rw [bkL,if_pos h,if_neg h0]
  have e0:=bkK_zero m lv lens
  have el0:(symL lens m).length+1+(ueL ((prsL lv).length-1)).length=(bkK m lv lens 0).length:=by rw [e0];simp;omega
  refine goR (r:=?_);and_intros<;>intros<;>try exact True.intro
  (apply WpL.nestLis (id:=7) (cs2:=[.fre 1 _ _,.fre 1 _ _,.fre 1 _ _]) [0,1,2]
   ·repeat' (first
     |exact NestC.nil
     |(apply NestC.consF
       ·exact rfl
       ·exact rfl
       ·exact rfl
       ·exact rfl
       ·first|exact Nat.zero_le _|exact Nat.le_of_ble_eq_true rfl
       ·exact still_ints _
       ·first|(simp;done)|rfl
       ·exact rfl
       ·exact rfl))
   ·exact rfl
   ·repeat' (first
     |exact ToLis.nil
     |(apply ToLis.cons
       ·exact rfl
       ·first|rfl|(simp;done)))
   ·exact rfl)
  refine go (r:=?_);and_intros<;>intros<;>try exact True.intro
  ·simp
  ·exact smL_cons (by omega) (smL_cons (by decide) (smL_cons (by omega) (smL_nil _)))
  have ef:[symL lens m,[1],ueL ((prsL lv).length-1)].flatten=bkK m lv lens 0:=by rw [e0];simp
  refine WpA.loop (fun k:Nat=>⟨[(7,.own 8 0 0 (bkK m lv lens k).length),(37,.own 2 1 0 (prsL lv).length),(38,I (prsL lv).length),(39,I k)],[BoxB m lv,⟨[],2,0,none⟩,XQ (prsL lv),deadO,deadO,deadO,deadO,⟨rows liF [symL lens m,[1],ueL ((prsL lv).length-1)],0,1,some 22⟩,XI (bkK m lv lens k)]⟩) (fun k=>k≤(prsL lv).length) (fun k=>(prsL lv).length-k) 0 (by omega) (go (r:=?_)) (fun k hk=>?_)
  ·trivial
  have hb:=bkK_len m lv lens k
  have hsc:=fun h=>bkK_succ m lv lens k h
  refine goR (r:=?_);and_intros<;>intros<;>try exact True.intro
  ·have hk2:k<(prsL lv).length:=by omega
   have hpi:=prs_in h.2.2.2 hk2
   have hni:=nolL_in (v:=((prsL lv).getD k default).2) (by omega)
   have hsc:=hsc hk2
   have ha:=ueL_len ((prsL lv).getD k default).1
   have hbb:=ueL_len (nolL ((prsL lv).getD k default).2)
   have hfl:[bkK m lv lens k,ueL ((prsL lv).getD k default).1,ueL (nolL ((prsL lv).getD k default).2)].flatten=bkK m lv lens (k+1):=by rw [hsc];simp
   have hsm:[bkK m lv lens k,ueL ((prsL lv).getD k default).1,ueL (nolL ((prsL lv).getD k default).2)].length≤1024∧SmL 1048576 [bkK m lv lens k,ueL ((prsL lv).getD k default).1,ueL (nolL ((prsL lv).getD k default).2)]:=⟨by simp,smL_cons (by omega) (smL_cons (by omega) (smL_cons (by omega) (smL_nil _)))⟩
   apply WpA.regionQ0 8 2 mixed (by decide +kernel)
   ·exact rfl
   ·apply HeadQ.consF .none rfl
    ·exact rfl
    ·exact in1
    ·exact rfl
    ·exact rfl
    apply HeadQ.consF .none rfl
    ·exact rfl
    ·exact in1
    ·exact rfl
    ·exact rfl
    apply HeadQ.consF .none rfl
    ·exact rfl
    ·exact in1
    ·exact rfl
    ·exact rfl
    apply HeadQ.consF (V:=.own 10 1 0 (ueL ((prsL lv).getD k default).1).length) (.put 0 (XD (ueL ((prsL lv).getD k default).1))) rfl
    ·exact rfl
    ·intro Tv Ov hc hp hd hk
     refine K.call ?_
     refine K.con (fun hcon=>?_)
     refine WpL.callF (hcon ((prsL lv).getD k default).1 (by omega)) snapA locA outA (cnt_some _ 0) rfl rfl (by decide) ?_
     rw [Nat.zero_add]
     apply WpL.putNil (p:=0)
     ·exact hp 0 _ rfl
     ·exact Nat.zero_le _
     ·exact rfl
     ·first|exact still_ints _|exact still_rows (fun _=>rfl) _|rfl
    ·exact rfl
    ·exact rfl
    apply HeadQ.consF .none rfl
    ·exact rfl
    ·exact in1
    ·exact rfl
    ·exact rfl
    apply HeadQ.consF .none rfl
    ·exact rfl
    ·exact in1
    ·exact rfl
    ·exact rfl
    apply HeadQ.consF .none rfl
    ·exact rfl
    ·exact in0
    ·exact rfl
    ·exact rfl
    apply HeadQ.consF (V:=.own 11 1 0 (ueL (nolL ((prsL lv).getD k default).2)).length) (.put 1 (XD (ueL (nolL ((prsL lv).getD k default).2)))) rfl
    ·exact rfl
    ·intro Tv Ov hc hp hd hk
     refine K.call ?_
     refine K.con (fun hcon=>?_)
     refine WpL.callF (hcon (nolL ((prsL lv).getD k default).2) hni) snapA locA outA (cnt_some _ 0) rfl rfl (by decide) ?_
     rw [Nat.zero_add]
     apply WpL.putNil (p:=1)
     ·exact hp 1 _ rfl
     ·exact Nat.zero_le _
     ·exact rfl
     ·first|exact still_ints _|exact still_rows (fun _=>rfl) _|rfl
    ·exact rfl
    ·exact rfl
    exact HeadQ.nil
   ·exact rfl
   ·exact rfl
   ·exact rfl
   ·exact rfl
   ·exact rfl
   ·exact rfl
   refine goR (r:=?_);and_intros<;>intros<;>try exact True.intro
   (apply WpL.nestLis (id:=14) (cs2:=[.fre 1 _ _,.fre 1 _ _,.fre 1 _ _]) [0,1,2]
    ·repeat' (first
      |exact NestC.nil
      |(apply NestC.consF
        ·exact rfl
        ·exact rfl
        ·exact rfl
        ·exact rfl
        ·first|exact Nat.zero_le _|exact Nat.le_of_ble_eq_true rfl
        ·exact still_ints _
        ·first|(simp;done)|rfl
        ·exact rfl
        ·exact rfl))
    ·exact rfl
    ·repeat' (first
      |exact ToLis.nil
      |(apply ToLis.cons
        ·exact rfl
        ·first|rfl|(simp;done)))
    ·exact rfl)
   refine K.call ?_
   refine K.con (fun hcon=>?_)
   refine WpL.callF (hcon [bkK m lv lens k,ueL ((prsL lv).getD k default).1,ueL (nolL ((prsL lv).getD k default).2)] hsm) snapA locA outA rfl rfl rfl (by decide) ?_
   clear hcon
   refine WpL.weak (Weak.fillF (j:=8) rfl rfl rfl (Nat.zero_le _) rfl (still_ints _) rfl rfl) ?_
   rw [hfl]
   refine go (r:=?_);and_intros<;>intros<;>try exact True.intro
   all_goals trace_state
  all_goals have ek:k=(prsL lv).length:=by omega
  all_goals subst ek
  all_goals rw [e]⟩
end Go.Proofs.YtndflfipaddfoaaGreat


namespace Go.Proofs.YtndflfipaddfoaaGreat
open Go Go.Abs
attribute [local irreducible] WpA WpL Rnd Blk Abs.Seq Abs.Fin Abs.FinG FnC FnG Only
def mbK (e:Bool) (bs:List Blok) (lens:List Int) (k:Nat):List Int:=[bif e then 1 else 0]++(bs.take k).flatMap fun b=>bkL b.1 b.2 lens (sz8 e)
def mbbL (e:Bool) (bs:List Blok) (lens:List Int):List Int:=if MbkOk e bs lens then mbK e bs lens bs.length else []
theorem mbK_len (e:Bool) (bs:List Blok) (lens:List Int) (k:Nat):(mbK e bs lens k).length≤1+8400*k:=by
 have h3:=fm_bd (fun b:Blok=>bkL b.1 b.2 lens (sz8 e)) 8400 (fun b=>bkL_len _ _ _ _) (bs.take k)
 have h4:(bs.take k).length≤k:=by simp;omega
 unfold mbK;simp only [List.length_append,List.length_cons,List.length_nil];omega
theorem mbK_succ (e:Bool) (bs:List Blok) (lens:List Int) (k:Nat) (h:k<bs.length):mbK e bs lens (k+1)=mbK e bs lens k++bkL (bs.getD k default).1 (bs.getD k default).2 lens (sz8 e):=by
 unfold mbK;rw [fm_snoc _ _ k h,←List.append_assoc]
theorem mbbL_len (e:Bool) (bs:List Blok) (lens:List Int):(mbbL e bs lens).length≤33601:=by
 unfold mbbL;split
 ·rename_i h
  have h1:=mbK_len e bs lens bs.length
  have h2:=sz8_cases e
  have h3:=h.1
  omega
 ·simp
abbrev BoxM (e:Bool) (bs:List Blok):AObj:=⟨[B e,BkL bs],0,0,none⟩
instance MbBits_s:Con 96 (∀ (e:Bool) (bs:List Blok) (lens:List Int),bs.length≤1099511627776∧SmB 1099511627776 bs∧lens.length≤1099511627776→Fn 96 [.agg [B e,BkL bs],IL lens] [XI (mbbL e bs lens)] (.own 0 0 0 (mbbL e bs lens).length)):=⟨fun e bs lens hl=>by
 have hc:=sz8_cases e
 refine FnC.of_body tabOk Tryz.func96 Tryz.ntmps96 rfl (by decide +kernel) (by simp) fun G=>?_
 by_cases h:MbkOk e bs lens
 ·have he:mbbL e bs lens=mbK e bs lens bs.length:=by rw [mbbL,if_pos h]
  have hz:[bif e then (1:Int) else 0]=mbK e bs lens 0:=by simp [mbK]
  have hn:=h.1
  refine go (r:=?_);and_intros<;>intros<;>try exact True.intro
  all_goals first|exact hl.2.1|(exact absurd h (by assumption))|skip
  refine WpA.loop (fun k:Nat=>⟨[(1,IL lens),(2,.ptr 0 0 0),(5,.own 1 0 0 (mbK e bs lens k).length),(6,I k)],[BoxM e bs,XI (mbK e bs lens k)]⟩) (fun k=>k≤bs.length) (fun k=>bs.length-k) 0 (by omega) (go (r:=?_)) (fun k hk=>?_)
  ·trivial
  have hb:=mbK_len e bs lens k
  have hsc:=fun h=>mbK_succ e bs lens k h
  have hbl:=bkL_len (bs.getD k default).1 (bs.getD k default).2 lens (sz8 e)
  have hsl:k<bs.length→(mbK e bs lens (k+1)).length=(mbK e bs lens k).length+(bkL (bs.getD k default).1 (bs.getD k default).2 lens (sz8 e)).length:=fun h=>by rw [hsc h];simp only [List.length_append]
  have hg:=fun h=>smB_get hl.2.1 (k:=k) h
  refine go (r:=?_);and_intros<;>intros<;>try exact True.intro
  all_goals first|(rw [hsc (by omega)];done)|skip
  all_goals have ek:k=bs.length:=by omega
  all_goals subst ek
  all_goals rw [he]
 ·have he:mbbL e bs lens=[]:=by rw [mbbL,if_neg h]
  refine go (r:=?_);and_intros<;>intros<;>try exact True.intro
  all_goals first|exact hl.2.1|(exact absurd (by assumption) h)|(rw [he];done)|(rw [he];rfl)⟩
instance MbBits_c:Con 170 (∀ (e:Bool) (bs:List Blok) (lens:List Int),SmB 1099511627776 bs∧lens.length≤1099511627776∧MbkOk e bs lens→Fn 170 [.agg [B e,BkL bs],IL lens] [XI (mbbL e bs lens)] (.own 0 0 0 (mbbL e bs lens).length)):=⟨fun e bs lens hl=>by
 have hc:=sz8_cases e
 have h:=hl.2.2
 have he:mbbL e bs lens=mbK e bs lens bs.length:=by rw [mbbL,if_pos h]
 have hz:[bif e then (1:Int) else 0]=mbK e bs lens 0:=by simp [mbK]
 have hn:=h.1
 refine FnC.of_body tabOk Tryz.func170 Tryz.ntmps170 rfl (by decide +kernel) (by simp) fun G=>?_
 refine go (r:=?_);and_intros<;>intros<;>try exact True.intro
 all_goals first|exact hl.1|(exact absurd h (by assumption))|skip
 refine WpA.loop (fun k:Nat=>⟨[(1,IL lens),(6,I (sz8 e)),(7,.own 1 0 0 (mbK e bs lens k).length),(25,BkL bs),(26,I bs.length),(27,I k)],[BoxM e bs,XI (mbK e bs lens k)]⟩) (fun k=>k≤bs.length) (fun k=>bs.length-k) 0 (by omega) (go (r:=?_)) (fun k hk=>?_)
 ·trivial
 have hb:=mbK_len e bs lens k
 have hsc:=fun h=>mbK_succ e bs lens k h
 have hbl:=bkL_len (bs.getD k default).1 (bs.getD k default).2 lens (sz8 e)
 have hsl:k<bs.length→(mbK e bs lens (k+1)).length=(mbK e bs lens k).length+(bkL (bs.getD k default).1 (bs.getD k default).2 lens (sz8 e)).length:=fun h=>by rw [hsc h];simp only [List.length_append]
 have hg:=fun h=>smB_get hl.1 (k:=k) h
 have hok:=fun hk=>ok_lv h (k:=k) hk
 refine go (r:=?_);and_intros<;>intros<;>try exact True.intro
 all_goals first|(rw [hsc (by omega)];done)|skip
 all_goals first|(have hk2:k<bs.length:=by omega
                  obtain ⟨a1,⟨⟨a2,a3,a4⟩,a5,a6⟩,a7,a8,a9⟩:=hok hk2
                  first|assumption|omega|exact a6 ‹_›)|skip
 all_goals have ek:k=bs.length:=by omega
 all_goals subst ek
 all_goals rw [he]⟩
def hdB (w h q:Int) (b d:Bool):List Int:=bitsL 183 8++ueL (w/8-1)++ueL (h/8-1)++bitsL q 6++[bif b then 1 else 0,bif d then 1 else 0]
def hdK (w h q:Int) (b d:Bool) (l:List Int) (k:Nat):List Int:=hdB w h q b d++(l.take k).flatMap fun n=>bitsL n 3
def hdL (w h q:Int) (b d:Bool) (l:List Int):List Int:=if HdOk w h q l then hdK w h q b d l l.length else []
theorem hdB_len (w h q:Int) (b d:Bool):(hdB w h q b d).length≤226:=by
 have h1:=bitsL_len 183 8
 have h2:=ueL_len (w/8-1)
 have h3:=ueL_len (h/8-1)
 have h4:=bitsL_len q 6
 unfold hdB;simp only [List.length_append,List.length_cons,List.length_nil];omega
theorem hdK_len (w h q:Int) (b d:Bool) (l:List Int) (k:Nat):(hdK w h q b d l k).length≤226+48*k:=by
 have h1:=hdB_len w h q b d
 have h3:=fm_bd (fun n:Int=>bitsL n 3) 48 (fun n=>bitsL_len _ _) (l.take k)
 have h4:(l.take k).length≤k:=by simp;omega
 unfold hdK;simp only [List.length_append];omega
theorem hdK_succ (w h q:Int) (b d:Bool) (l:List Int) (k:Nat) (hk:k<l.length):hdK w h q b d l (k+1)=hdK w h q b d l k++bitsL (l.getD k 0) 3:=by
 unfold hdK;rw [fm_snoc _ _ k hk,←List.append_assoc];rfl
theorem hdL_len (w h q:Int) (b d:Bool) (l:List Int):(hdL w h q b d l).length≤600:=by
 unfold hdL;split
 ·rename_i hh
  have h1:=hdK_len w h q b d l l.length
  have h6:=hh.2.2.2.1
  omega
 ·simp
theorem in_getH {l:List Int} {lo hi:Int} (h:In l lo hi) {k:Nat} (hk:k<l.length):lo≤l.getD k 0∧l.getD k 0≤hi:=by
 have e:l.getD k 0=l[k]:=by simp [hk]
 rw [e];exact in_mem h (List.getElem_mem _)
abbrev BoxH (w h q:Int) (b d:Bool) (l:List Int):AObj:=⟨[I w,I h,I q,B b,B d,IL l],0,0,none⟩
instance HeaderBits_s:Con 95 (∀ (w h q:Int) (b d:Bool) (l:List Int),l.length≤1099511627776→Fn 95 [HdA w h q b d l] [XI (hdL w h q b d l)] (.own 0 0 0 (hdL w h q b d l).length)):=⟨fun w h q b d l hl=>by
 have h1:=bitsL_len 183 8
 have h2:=ueL_len (w/8-1)
 have h3:=ueL_len (h/8-1)
 have h4:=bitsL_len q 6
 refine FnC.of_body tabOk Tryz.func95 Tryz.ntmps95 rfl (by decide +kernel) (by simp) fun G=>?_
 by_cases h0:HdOk w h q l
 ·have he:hdL w h q b d l=hdK w h q b d l l.length:=by rw [hdL,if_pos h0]
  have hz:bitsL 183 8++ueL (w/8-1)++ueL (h/8-1)++bitsL q 6++[bif b then 1 else 0,bif d then 1 else 0]=hdK w h q b d l 0:=by simp [hdK,hdB]
  have h6:=h0.2.2.2.1
  have hs:=h0.1
  have hq:=h0.2.1
  have hzl:(bitsL 183 8).length+(ueL (w/8-1)).length+(ueL (h/8-1)).length+(bitsL q 6).length+2=(hdK w h q b d l 0).length:=by rw [←hz];simp only [List.length_append,List.length_cons,List.length_nil]
  refine go (r:=?_);and_intros<;>intros<;>try exact True.intro
  all_goals first|(exact absurd h0 (by assumption))|skip
  refine WpA.loop (fun k:Nat=>⟨[(1,.ptr 0 0 0),(3,.own 1 0 0 (hdK w h q b d l k).length),(4,I k)],[BoxH w h q b d l,XI (hdK w h q b d l k)]⟩) (fun k=>k≤l.length) (fun k=>l.length-k) 0 (by omega) (go (r:=?_)) (fun k hk=>?_)
  ·trivial
  have hb:=hdK_len w h q b d l k
  have hsc:=fun hk=>hdK_succ w h q b d l k hk
  have hbl:=bitsL_len (l.getD k 0) 3
  have hin:=fun hk=>in_getH h0.2.2.1 (k:=k) hk
  have hsl:k<l.length→(hdK w h q b d l (k+1)).length=(hdK w h q b d l k).length+(bitsL (l.getD k 0) 3).length:=fun hk=>by rw [hsc hk];simp only [List.length_append]
  refine go (r:=?_);and_intros<;>intros<;>try exact True.intro
  all_goals first|(rw [hsc (by omega)];done)|skip
  all_goals have ek:k=l.length:=by omega
  all_goals subst ek
  all_goals rw [he]
 ·have he:hdL w h q b d l=[]:=by rw [hdL,if_neg h0]
  refine go (r:=?_);and_intros<;>intros<;>try exact True.intro
  all_goals first|(exact absurd (by assumption) h0)|(rw [he];done)|(rw [he];rfl)⟩
end Go.Proofs.YtndflfipaddfoaaGreat


namespace Go.Proofs.YtndflfipaddfoaaGreat
open Go Go.Abs
attribute [local irreducible] WpA WpL Rnd Blk Abs.Seq Abs.Fin Abs.FinG FnC FnG Only
attribute [local irreducible] bitsL ueL
theorem hd_ws {w h:Int} (hs:SidesOk w h):(0≤w/8-1∧w/8-1≤65534)∧(0≤h/8-1∧h/8-1≤65534):=by
 have:=hs;unfold SidesOk at this;omega
instance HeaderBits_c:Con 169 (∀ (w h q:Int) (b d:Bool) (l:List Int),l.length≤1099511627776∧HdOk w h q l→Fn 169 [HdA w h q b d l] [XI (hdL w h q b d l)] (.own 0 0 0 (hdL w h q b d l).length)):=⟨fun w h q b d l hl=>by
 have h1:=bitsL_len 183 8
 have h2:=ueL_len (w/8-1)
 have h3:=ueL_len (h/8-1)
 have h4:=bitsL_len q 6
 have h0:=hl.2
 have he:hdL w h q b d l=hdK w h q b d l l.length:=by rw [hdL,if_pos h0]
 have h6:=h0.2.2.2.1
 have hs:=h0.1
 have hq:=h0.2.1
 have hws:=hd_ws hs
 have hfl:[bitsL 183 8,ueL (w/8-1),ueL (h/8-1),bitsL q 6,[bif b then 1 else 0,bif d then 1 else 0]].flatten=hdK w h q b d l 0:=by simp [hdK,hdB]
 have hsm:[bitsL 183 8,ueL (w/8-1),ueL (h/8-1),bitsL q 6,[bif b then (1:Int) else 0,bif d then 1 else 0]].length≤1024∧SmL 1048576 [bitsL 183 8,ueL (w/8-1),ueL (h/8-1),bitsL q 6,[bif b then (1:Int) else 0,bif d then 1 else 0]]:=⟨by simp,smL_cons (by omega) (smL_cons (by omega) (smL_cons (by omega) (smL_cons (by omega) (smL_cons (by simp) (smL_nil _)))))⟩
 refine FnC.of_body tabOk Tryz.func169 Tryz.ntmps169 rfl (by decide +kernel) (by simp) fun G=>?_
 refine goR (r:=?_);and_intros<;>intros<;>try exact True.intro
 all_goals first|(exact absurd h0 (by assumption))|skip
 apply WpA.regionQ1 21 5 mixed (by decide +kernel)
 ·exact rfl
 ·apply HeadQ.consF (V:=.own 1 1 0 (bitsL 183 8).length) (.put 0 (XD (bitsL 183 8))) rfl
  ·exact rfl
  ·intro Tv Ov hc hp hd hk
   refine K.call ?_
   refine K.con (fun hcon=>?_)
   refine WpL.callF (hcon 183 8 (by decide)) snapA locA outA (cnt_some _ 0) rfl rfl (by decide) ?_
   rw [Nat.zero_add]
   apply WpL.putNil (p:=0)
   ·exact hp 0 _ rfl
   ·exact Nat.zero_le _
   ·exact rfl
   ·first|exact still_ints _|exact still_rows (fun _=>rfl) _|rfl
  ·exact rfl
  ·exact rfl
  apply HeadQ.consF .none rfl
  ·exact rfl
  ·exact in1
  ·exact rfl
  ·exact rfl
  apply HeadQ.consF .none rfl
  ·exact rfl
  ·exact in1
  ·exact rfl
  ·exact rfl
  apply HeadQ.consF .none rfl
  ·exact rfl
  ·exact in1
  ·exact rfl
  ·exact rfl
  apply HeadQ.consF .none rfl
  ·exact rfl
  ·exact in1
  ·exact rfl
  ·exact rfl
  apply HeadQ.consF (V:=.own 2 1 0 (ueL (w/8-1)).length) (.put 1 (XD (ueL (w/8-1)))) rfl
  ·exact rfl
  ·intro Tv Ov hc hp hd hk
   refine K.call ?_
   refine K.con (fun hcon=>?_)
   refine WpL.callF (hcon (w/8-1) hws.1) snapA locA outA (cnt_some _ 0) rfl rfl (by decide) ?_
   rw [Nat.zero_add]
   apply WpL.putNil (p:=1)
   ·exact hp 1 _ rfl
   ·exact Nat.zero_le _
   ·exact rfl
   ·first|exact still_ints _|exact still_rows (fun _=>rfl) _|rfl
  ·exact rfl
  ·exact rfl
  apply HeadQ.consF .none rfl
  ·exact rfl
  ·exact in1
  ·exact rfl
  ·exact rfl
  apply HeadQ.consF .none rfl
  ·exact rfl
  ·exact in1
  ·exact rfl
  ·exact rfl
  apply HeadQ.consF .none rfl
  ·exact rfl
  ·exact in1
  ·exact rfl
  ·exact rfl
  apply HeadQ.consF .none rfl
  ·exact rfl
  ·exact in1
  ·exact rfl
  ·exact rfl
  apply HeadQ.consF (V:=.own 3 1 0 (ueL (h/8-1)).length) (.put 2 (XD (ueL (h/8-1)))) rfl
  ·exact rfl
  ·intro Tv Ov hc hp hd hk
   refine K.call ?_
   refine K.con (fun hcon=>?_)
   refine WpL.callF (hcon (h/8-1) hws.2) snapA locA outA (cnt_some _ 0) rfl rfl (by decide) ?_
   rw [Nat.zero_add]
   apply WpL.putNil (p:=2)
   ·exact hp 2 _ rfl
   ·exact Nat.zero_le _
   ·exact rfl
   ·first|exact still_ints _|exact still_rows (fun _=>rfl) _|rfl
  ·exact rfl
  ·exact rfl
  apply HeadQ.consF .none rfl
  ·exact rfl
  ·exact in1
  ·exact rfl
  ·exact rfl
  apply HeadQ.consF .none rfl
  ·exact rfl
  ·exact in1
  ·exact rfl
  ·exact rfl
  apply HeadQ.consF (V:=.own 4 1 0 (bitsL q 6).length) (.put 3 (XD (bitsL q 6))) rfl
  ·exact rfl
  ·intro Tv Ov hc hp hd hk
   refine K.call ?_
   refine K.con (fun hcon=>?_)
   refine WpL.callF (hcon q 6 (by omega)) snapA locA outA (cnt_some _ 0) rfl rfl (by decide) ?_
   rw [Nat.zero_add]
   apply WpL.putNil (p:=3)
   ·exact hp 3 _ rfl
   ·exact Nat.zero_le _
   ·exact rfl
   ·first|exact still_ints _|exact still_rows (fun _=>rfl) _|rfl
  ·exact rfl
  ·exact rfl
  apply HeadQ.consF .none rfl
  ·exact rfl
  ·exact in1
  ·exact rfl
  ·exact rfl
  apply HeadQ.consF .none rfl
  ·exact rfl
  ·exact in1
  ·exact rfl
  ·exact rfl
  apply HeadQ.consF .none rfl
  ·exact rfl
  ·exact in0
  ·exact rfl
  ·exact rfl
  apply HeadQ.consF .none rfl
  ·exact rfl
  ·exact in1
  ·exact rfl
  ·exact rfl
  apply HeadQ.consF .none rfl
  ·exact rfl
  ·exact in1
  ·exact rfl
  ·exact rfl
  apply HeadQ.consF .none rfl
  ·exact rfl
  ·exact in0
  ·exact rfl
  ·exact rfl
  apply HeadQ.consF (V:=.own 5 1 0 2) (.put 4 (XD [bif b then 1 else 0,bif d then 1 else 0])) rfl
  ·exact rfl
  ·intro Tv Ov hc hp hd hk
   refine WpL.litInts tabOk rfl rfl rfl rfl rfl (by decide) (by rw [nid_len,Nat.zero_add]) (by decide) ?_
   apply WpL.putNil (p:=4)
   ·exact hp 4 _ rfl
   ·exact Nat.zero_le _
   ·exact rfl
   ·first|exact still_ints _|exact still_rows (fun _=>rfl) _|rfl
  ·exact rfl
  ·exact rfl
  exact HeadQ.nil
 ·exact rfl
 ·exact rfl
 ·exact rfl
 ·exact rfl
 ·exact rfl
 ·exact rfl
 ·exact rfl
 ·exact rfl
 generalize bitsL 183 8=L1 at*
 generalize ueL (w/8-1)=L2 at*
 generalize ueL (h/8-1)=L3 at*
 generalize bitsL q 6=L4 at*
 refine goR (r:=?_);and_intros<;>intros<;>try exact True.intro
 (apply WpL.nestLis (id:=11) (cs2:=[.fre 1 _ _,.fre 1 _ _,.fre 1 _ _,.fre 1 _ _,.fre 1 _ _]) (O3:=[BoxH w h q b d l,DD,DD,DD,DD,DD,deadO,deadO,deadO,deadO,deadO,⟨rows liF [L1,L2,L3,L4,[bif b then 1 else 0,bif d then 1 else 0]],0,1,some 22⟩]) [0,1,2,3,4]
  ·repeat' (first
    |exact NestC.nil
    |(apply NestC.consF
      ·exact rfl
      ·exact rfl
      ·exact rfl
      ·exact rfl
      ·first|exact Nat.zero_le _|exact Nat.le_of_ble_eq_true rfl
      ·exact still_ints _
      ·first|(simp;done)|rfl
      ·exact rfl
      ·exact rfl))
  ·exact rfl
  ·repeat' (first
    |exact ToLis.nil
    |(apply ToLis.cons
      ·exact rfl
      ·first|rfl|(simp;done)))
  ·exact rfl)
 refine K.call ?_
 refine K.con (fun hcon=>?_)
 refine WpL.callF (hcon [L1,L2,L3,L4,[bif b then 1 else 0,bif d then 1 else 0]] hsm) snapA locA outA rfl rfl rfl (by decide) ?_
 clear hcon
 refine WpL.weak (Weak.fillF (j:=1) (O3:=[BoxH w h q b d l,⟨ints [L1,L2,L3,L4,[bif b then 1 else 0,bif d then 1 else 0]].flatten,3,1,some 3⟩,DD,DD,DD,DD,deadO,deadO,deadO,deadO,deadO,⟨rows liF [L1,L2,L3,L4,[bif b then 1 else 0,bif d then 1 else 0]],0,1,some 22⟩,deadO]) rfl rfl rfl (Nat.zero_le _) rfl (still_ints _) rfl rfl) ?_
 rw [hfl]
 refine go (r:=?_);and_intros<;>intros<;>try exact True.intro
 refine WpA.loop (fun k:Nat=>⟨[(3,.own 1 0 0 (hdK w h q b d l k).length),(33,IL l),(34,I l.length),(35,I k)],[BoxH w h q b d l,XI (hdK w h q b d l k)]⟩) (fun k=>k≤l.length) (fun k=>l.length-k) 0 (by omega) (go (r:=?_)) (fun k hk=>?_)
 ·trivial
 have hb:=hdK_len w h q b d l k
 have hsc:=fun hk=>hdK_succ w h q b d l k hk
 have hbl:=bitsL_len (l.getD k 0) 3
 have hin:=fun hk=>in_getH h0.2.2.1 (k:=k) hk
 have hsl:k<l.length→(hdK w h q b d l (k+1)).length=(hdK w h q b d l k).length+(bitsL (l.getD k 0) 3).length:=fun hk=>by rw [hsc hk];simp only [List.length_append]
 refine go (r:=?_);and_intros<;>intros<;>try exact True.intro
 all_goals first|(rw [hsc (by omega)];done)|skip
 all_goals have ek:k=l.length:=by omega
 all_goals subst ek
 all_goals rw [he]⟩
end Go.Proofs.YtndflfipaddfoaaGreat


namespace Go.Proofs.YtndflfipaddfoaaGreat
open Go Go.Abs
attribute [local irreducible] WpA WpL Rnd Blk Abs.Seq Abs.Fin Abs.FinG FnC FnG Only
def marksI (k:Int) (n:Nat):List Int:=(List.range n).map fun i:Nat=>k+(i:Int)
@[simp] theorem marksI_len (k:Int) (n:Nat):(marksI k n).length=n:=by simp [marksI]
def marksB (k:Int) (n:Nat):List Bool:=(List.range n).map fun i:Nat=>decide ((k+(i:Int))%3=0)
@[simp] theorem marksB_len (k:Int) (n:Nat):(marksB k n).length=n:=by simp [marksB]
end Go.Proofs.YtndflfipaddfoaaGreat


namespace Go.Proofs.YtndflfipaddfoaaGreat
open Go Go.Abs
attribute [local irreducible] WpA WpL Rnd Blk Abs.Seq Abs.Fin Abs.FinG FnC FnG Only
attribute [local simp] Abs.setL
def endB (k:Int) (l:List Blok):Int:=k+bw l
def markB:Int→List Blok→List Blok
 |_,[]=>[]
 |k,b::l=>(k,marksI (k+1) b.2.length)::markB (k+1+b.2.length) l
theorem bw_nil:bw []=0:=rfl
theorem bw_cons (b:Blok) (l:List Blok):bw (b::l)=bw l+1+b.2.length:=by unfold bw;rw [List.map_cons,List.sum_cons,List.length_cons];unfold bn;omega
@[simp] theorem markB_len:∀(l:List Blok) (k:Int),(markB k l).length=l.length
 |[],k=>rfl
 |b::l,k=>by rw [markB,List.length_cons,List.length_cons,markB_len l]
def markM:Int→List Mbk→List Mbk
 |_,[]=>[]
 |k,m::l=>(decide (k%3=0),markB (k+1) m.2)::markM (k+1+bw m.2) l
theorem mw_nil:mw []=0:=rfl
theorem mw_cons (b:Mbk) (l:List Mbk):mw (b::l)=mw l+1+bw b.2:=by unfold mw;rw [List.map_cons,List.sum_cons,List.length_cons];unfold mn;omega
@[simp] theorem markM_len:∀(l:List Mbk) (k:Int),(markM k l).length=l.length
 |[],k=>rfl
 |b::l,k=>by rw [markM,List.length_cons,List.length_cons,markM_len l]
end Go.Proofs.YtndflfipaddfoaaGreat


namespace Go.Proofs.YtndflfipaddfoaaGreat
open Go Go.Abs
attribute [local irreducible] WpA WpL Rnd Blk Abs.Seq Abs.Fin Abs.FinG FnC FnG Only
def mbF (l:List Int) (m:Mbk):List Int:=mbbL m.1 m.2 l
def stK (w h q:Int) (b d:Bool) (l:List Int) (M:List Mbk) (k:Nat):List Int:=hdL w h q b d l++(M.take k).flatMap (mbF l)
theorem stK_len (w h q:Int) (b d:Bool) (l:List Int) (M:List Mbk) (k:Nat):(stK w h q b d l M k).length≤600+33601*k:=by
 have h1:=hdL_len w h q b d l
 have h3:=fm_bd (mbF l) 33601 (fun m=>mbbL_len _ _ _) (M.take k)
 have h4:(M.take k).length≤k:=by simp;omega
 unfold stK;simp only [List.length_append];omega
theorem stK_succ (w h q:Int) (b d:Bool) (l:List Int) (M:List Mbk) (k:Nat) (hk:k<M.length):stK w h q b d l M (k+1)=stK w h q b d l M k++mbF l (M.getD k default):=by
 unfold stK;rw [fm_snoc _ _ k hk,←List.append_assoc]
def sizeL (w h q:Int) (b d:Bool) (l:List Int) (M:List Mbk):Int:=if StOk w h q l M then ((stK w h q b d l M M.length).length:Int) else 0
instance stBits_c:Con 82 (∀ (w h q:Int) (b d:Bool) (l:List Int) (M:List Mbk),l.length≤1099511627776∧SmM 1099511627776 M∧StOk w h q l M→Fn 82 [StA w h q b d l M] [XI (stK w h q b d l M M.length)] (.own 0 0 0 (stK w h q b d l M M.length).length)):=⟨fun w h q b d l M hl=>by
 have h0:=hl.2.2
 have x1:=h0.1.1
 have x2:=h0.1.2.1
 have x3:=h0.1.2.2.1
 have x4:=h0.1.2.2.2.1
 have x5:=h0.1.2.2.2.2
 have hcm:=cntM_bd h0.1.1
 have hmn:=h0.2.1
 have hz:hdL w h q b d l=stK w h q b d l M 0:=by simp [stK]
 have hzl:=hdL_len w h q b d l
 have hz2:(hdL w h q b d l).length=(stK w h q b d l M 0).length:=by rw [hz]
 refine FnC.of_body tabOk Tryz.func82 Tryz.ntmps82 rfl (by decide +kernel) (by simp) fun G=>?_
 refine go (r:=?_);and_intros<;>intros<;>try exact True.intro
 refine WpA.loop (fun i:Nat=>⟨[(1,.ptr 0 0 0),(3,.own 1 0 0 (stK w h q b d l M i).length),(10,MbL M),(11,I M.length),(12,I i)],[⟨StC w h q b d l M,0,0,none⟩,XI (stK w h q b d l M i)]⟩) (fun i=>i≤M.length) (fun i=>M.length-i) 0 (by omega) (go (r:=?_)) (fun i hi=>?_)
 ·trivial
 have hb:=stK_len w h q b d l M i
 have hsc:=fun hk=>stK_succ w h q b d l M i hk
 have hbl:=mbbL_len (M.getD i default).1 (M.getD i default).2 l
 have hsl:i<M.length→(stK w h q b d l M (i+1)).length=(stK w h q b d l M i).length+(mbbL (M.getD i default).1 (M.getD i default).2 l).length:=fun hk=>by rw [hsc hk,List.length_append];rfl
 by_cases hi2:i<M.length
 ·obtain ⟨hg1,hg2⟩:=smM_get hl.2.1 hi2
  have hok:=(ok_blk h0 hi2).2
  have hok1:=(ok_blk h0 hi2).1
  have hsl:=hsl hi2
  refine go (r:=?_);and_intros<;>intros<;>try exact True.intro
  all_goals first|(rw [hsc hi2];rfl)
 ·have ek:i=M.length:=by omega
  subst ek
  refine go (r:=?_);and_intros<;>intros<;>try exact True.intro
  all_goals trace_state⟩
instance SizeOf_c:Con 45 (∀ (w h q:Int) (b d:Bool) (l:List Int) (M:List Mbk),l.length≤1099511627776∧mw M≤1048576→Fn 45 [StA w h q b d l M] [] (I (sizeL w h q b d l M))):=⟨fun w h q b d l M hM=>by
 have hmw:mw M=M.length+(M.map mn).sum:=rfl
 have hsm:SmM 1099511627776 M:=smM_of (by omega)
 refine FnC.of_body tabOk Tryz.func45 Tryz.ntmps45 rfl (by decide +kernel) (by simp) fun G=>?_
 by_cases h0:StOk w h q l M
 ·have hres:sizeL w h q b d l M=(stK w h q b d l M M.length).length:=by rw [sizeL,if_pos h0]
  refine go (r:=?_);and_intros<;>intros<;>try exact True.intro
  all_goals first|exact hsm|exact h0|exact h0.1.2.2.1|exact h0.1.2.2.2.1|exact h0.1.2.2.2.2|exact h0.2.2|(exact absurd h0 (by assumption))|(rw [hres];done)
 ·have hres:sizeL w h q b d l M=0:=by rw [sizeL,if_neg h0]
  refine go (r:=?_);and_intros<;>intros<;>try exact True.intro
  all_goals first|exact hsm|(exact absurd (by assumption) h0)|(rw [hres];done)⟩
end Go.Proofs.YtndflfipaddfoaaGreat
