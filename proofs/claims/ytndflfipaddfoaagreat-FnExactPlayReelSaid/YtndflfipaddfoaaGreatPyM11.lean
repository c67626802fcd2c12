/- Proved in this text: lemmas and contracts of functions that the claim uses (parts: Sid, ResL, EdgL, Nb, PredAt, PredL, RecL, Best, AbsXk, AbsEq, AbsFl). No condition. -/
import Derived.Test.YtndflfipaddfoaaGreatPyM10
import Derived.Test.YtndflfipaddfoaaGreatPyM7
import Derived.Laws.StructEq
set_option linter.unusedVariables false
set_option linter.unusedSimpArgs false
set_option maxRecDepth 100000
set_option maxHeartbeats 16000000


namespace Go.Proofs.YtndflfipaddfoaaGreat
open Go Go.Abs
attribute [local irreducible] WpA WpL Rnd Blk Abs.Seq Abs.Fin Abs.FinG FnC FnG Only
abbrev HdOk (w h q:Int) (l:List Int):Prop:=SidesOk w h∧(0≤q∧q≤51)∧CodeOk l
instance HeaderOk_s:Con 78 (∀ (w h q:Int) (b d:Bool) (l:List Int),l.length≤1099511627776→Fn 78 [HdA w h q b d l] [] (B (decide (HdOk w h q l)))):=⟨fun w h q b d l hl=>by
 have hs:=stepL_pos q
 refine FnC.of_body tabOk Tryz.func78 Tryz.ntmps78 rfl (by decide +kernel) (by simp) fun G=>?_
 refine go (r:=?_);and_intros<;>intros<;>try exact True.intro
 all_goals simp_all⟩
instance HeaderOk_c:Con 100 (∀ (w h q:Int) (b d:Bool) (l:List Int),l.length≤1099511627776→Fn 100 [HdA w h q b d l] [] (B (decide (HdOk w h q l)))):=⟨fun w h q b d l hl=>by
 refine FnC.of_body tabOk Tryz.func100 Tryz.ntmps100 rfl (by decide +kernel) (by simp) fun G=>?_
 refine go (r:=?_);and_intros<;>intros<;>try exact True.intro
 all_goals simp_all⟩
def cntM (w h:Int):Int:=w/8*(h/8)
theorem cntM_bd {w h:Int} (hs:SidesOk w h):(0≤w/8∧w/8≤4)∧(0≤h/8∧h/8≤4)∧0≤cntM w h∧cntM w h≤16:=by
 have h1:0≤w/8∧w/8≤4:=by omega
 have h2:0≤h/8∧h/8≤4:=by omega
 refine ⟨h1,h2,Int.mul_nonneg h1.1 h2.1,?_⟩
 have:=Int.mul_le_mul h1.2 h2.2 h2.1 (by decide)
 exact this
instance l24Count_s:Con 80 (∀ (w h q:Int) (b d:Bool) (l:List Int),SidesOk w h→Fn 80 [HdA w h q b d l] [] (I (cntM w h))):=⟨fun w h q b d l hs=>by
 have:=cntM_bd hs
 unfold cntM at*
 refine FnC.of_body tabOk Tryz.func80 Tryz.ntmps80 rfl (by decide +kernel) (by simp) fun G=>?_
 refine go (r:=?_);and_intros<;>intros<;>try exact True.intro⟩
instance many_c:Con 90 (∀ (w h q:Int) (b d:Bool) (l:List Int),SidesOk w h→Fn 90 [HdA w h q b d l] [] (I (cntM w h))):=⟨fun w h q b d l hs=>by
 have:=cntM_bd hs
 unfold cntM at*
 refine FnC.of_body tabOk Tryz.func90 Tryz.ntmps90 rfl (by decide +kernel) (by simp) fun G=>?_
 refine go (r:=?_);and_intros<;>intros<;>try exact True.intro⟩
abbrev LvOk (l:List Int):Prop:=In l (-16383) 16383∧(l.length=16∨l.length=64)
instance LevelsOk_s:Con 224 (∀ l:List Int,l.length≤1099511627776→Fn 224 [IL l] [] (B (decide (LvOk l)))):=⟨fun l hl=>by
 have hsp:=side_pos l.length
 refine FnC.of_body tabOk Tryz.func224 Tryz.ntmps224 rfl (by decide +kernel) (by simp) fun G=>?_
 refine go (r:=?_);and_intros<;>intros<;>try exact True.intro
 refine WpA.loop (fun k:Nat=>⟨[(0,IL l),(3,I k)],[]⟩) (fun k=>k≤l.length∧In (l.take k) (-16383) 16383) (fun k=>l.length-k) 0 (by simp [in_nil]) (go (r:=?_)) (fun k hk=>?_)
 ·trivial
 have hi:=fun h=>in_snoc (lo:=-16383) (hi:=16383) (l:=l) (k:=k) h
 refine go (r:=?_);and_intros<;>intros<;>try exact True.intro
 ·have:=notin (k:=k) (by omega) ‹¬ (-16383≤l.getD k 0∧_)›;rw [eq_comm,decide_eq_false_iff_not] at *;exact fun h=>this h.1
 ·rw [hi (by omega)];exact ⟨hk.2,‹_›⟩
 all_goals have e:k=l.length:=by omega
 all_goals subst e
 all_goals rw [List.take_length] at*
 simp [hk.2,hsp]⟩
instance LevelsOk_c:Con 243 (∀ l:List Int,l.length≤1099511627776→Fn 243 [IL l] [] (B (decide (LvOk l)))):=⟨fun l hl=>by
 have hsp:=side_pos l.length
 refine FnC.of_body tabOk Tryz.func243 Tryz.ntmps243 rfl (by decide +kernel) (by simp) fun G=>?_
 refine go (r:=?_);and_intros<;>intros<;>try exact True.intro
 refine WpA.loop (fun k:Nat=>⟨[(0,IL l),(5,IL l),(6,I l.length),(7,I k)],[]⟩) (fun k=>k≤l.length∧In (l.take k) (-16383) 16383) (fun k=>l.length-k) 0 (by simp [in_nil]) (go (r:=?_)) (fun k hk=>?_)
 ·trivial
 have hi:=fun h=>in_snoc (lo:=-16383) (hi:=16383) (l:=l) (k:=k) h
 refine go (r:=?_);and_intros<;>intros<;>try exact True.intro
 ·have:=notin (k:=k) (by omega) ‹¬ (-16383≤l.getD k 0∧_)›;rw [eq_comm,decide_eq_false_iff_not] at *;exact fun h=>this h.1
 ·rw [hi (by omega)];exact ⟨hk.2,‹_›⟩
 all_goals have e:k=l.length:=by omega
 all_goals subst e
 all_goals rw [List.take_length] at*
 simp [hk.2,hsp]⟩
abbrev BlkOk (m:Int) (lv:List Int) (lens:List Int) (n:Int):Prop:=(n=4∨n=8)∧HasC lens m∧(lv.length:Int)=n*n∧LvOk lv
instance BlockOk_s:Con 166 (∀ (m:Int) (lv lens:List Int) (n:Int),lv.length≤1099511627776∧lens.length≤1099511627776→Fn 166 [.agg [I m,IL lv],IL lens,I n] [] (B (decide (BlkOk m lv lens n)))):=⟨fun m lv lens n hl=>by
 have hp:=symL_pos lens m
 have hnn:n=4∨n=8→0≤n*n∧n*n≤64:=by rintro (rfl|rfl)<;>decide
 refine FnC.of_body tabOk Tryz.func166 Tryz.ntmps166 rfl (by decide +kernel) (by simp) fun G=>?_
 refine go (r:=?_);and_intros<;>intros<;>try exact True.intro
 all_goals simp_all⟩
instance BlockOk_c:Con 194 (∀ (m:Int) (lv lens:List Int) (n:Int),lv.length≤1099511627776∧lens.length≤1099511627776→Fn 194 [.agg [I m,IL lv],IL lens,I n] [] (B (decide (BlkOk m lv lens n)))):=⟨fun m lv lens n hl=>by
 have hp:=symL_pos lens m
 have hnn:n=4∨n=8→0≤n*n∧n*n≤64:=by rintro (rfl|rfl)<;>decide
 refine FnC.of_body tabOk Tryz.func194 Tryz.ntmps194 rfl (by decide +kernel) (by simp) fun G=>?_
 refine go (r:=?_);and_intros<;>intros<;>try exact True.intro
 all_goals simp_all⟩
def ixF {α:Type} (p:α→Bool) (l:List α):Int:=if l.any p=true then (l.findIdx p:Int) else -1
theorem ixF_at {α:Type} [Inhabited α] {p:α→Bool} {l:List α} {i:Nat} (hi:i<l.length) (h0:∀j<i,p (l.getD j default)=false) (h1:p (l.getD i default)=true):(i:Int)=ixF p l:=by
 have hg:∀j (hj:j<l.length),l.getD j default=l[j]:=fun j hj=>by simp [hj]
 unfold ixF
 rw [if_pos (List.any_eq_true.2 ⟨l[i],List.getElem_mem hi,by rw [←hg i hi];exact h1⟩)]
 congr 1
 rw [eq_comm,List.findIdx_eq hi]
 exact ⟨by rw [←hg i hi];exact h1,fun j hj=>by rw [←hg j (by omega)];exact h0 j hj⟩
theorem ixF_no {α:Type} [Inhabited α] {p:α→Bool} {l:List α} (h0:∀j<l.length,p (l.getD j default)=false):-1=ixF p l:=by
 have hg:∀j (hj:j<l.length),l.getD j default=l[j]:=fun j hj=>by simp [hj]
 unfold ixF
 rw [if_neg]
 intro h
 obtain ⟨x,hx,hp⟩:=List.any_eq_true.1 h
 obtain ⟨j,hj,rfl⟩:=List.getElem_of_mem hx
 have:=h0 j hj
 rw [hg j hj,hp] at this;cases this
theorem ixF_ge {α:Type} (p:α→Bool) (l:List α):ixF p l≥0↔l.any p=true:=by
 unfold ixF;split
 ·rename_i h;simp [h]
 ·rename_i h;simp [h]
def badB (lens:List Int) (n:Int) (b:Blok):Bool:=decide (¬ BlkOk b.1 b.2 lens n)
abbrev fB (lens:List Int) (n:Int):AV:=.fn 193 [.iptr [IL lens] 0,.iptr [I n] 0]
instance MbOk1_c:Con 193 (∀ (m:Int) (lv lens:List Int) (n:Int),lv.length≤1099511627776∧lens.length≤1099511627776→Fn 193 [.agg [I m,IL lv],.iptr [IL lens] 0,.iptr [I n] 0] [] (B (badB lens n (m,lv)))):=⟨fun m lv lens n hl=>by
 unfold badB
 refine FnC.of_body tabOk Tryz.func193 Tryz.ntmps193 rfl (by decide +kernel) (by simp) fun G=>?_
 refine go (r:=?_);and_intros<;>intros<;>try exact True.intro
 all_goals simp_all⟩
instance IndexFuncB_c:Con 263 (∀ (l:List Blok) (lens:List Int) (n:Int),l.length≤1099511627776∧SmB 1099511627776 l∧lens.length≤1099511627776→Fn 263 [BkL l,fB lens n] [] (I (ixF (badB lens n) l))):=⟨fun l lens n hl=>by
 refine FnC.of_body tabOk Tryz.func263 Tryz.ntmps263 rfl (by decide +kernel) (by simp) fun G=>?_
 refine go (r:=?_);and_intros<;>intros<;>try exact True.intro
 refine WpA.loop (fun k:Nat=>⟨[(0,BkL l),(1,fB lens n),(7,I l.length),(8,I k)],[]⟩) (fun k=>k≤l.length∧∀j<k,badB lens n (l.getD j default)=false) (fun k=>l.length-k) 0 (by simp) (go (r:=?_)) (fun k hk=>?_)
 ·trivial
 have hg:=fun h=>smB_get hl.2.1 (k:=k) h
 refine go (r:=?_);and_intros<;>intros<;>try exact True.intro
 ·exact ixF_at (by omega) hk.2 (by unfold badB;exact decide_eq_true ‹_›)
 ·rename_i j hj;by_cases h:j=k
  ·subst h;unfold badB;exact decide_eq_false ‹_›
  ·exact hk.2 j (by omega)
 all_goals (have e:k=l.length:=by omega);subst e;exact ixF_no hk.2⟩
end Go.Proofs.YtndflfipaddfoaaGreat


namespace Go.Proofs.YtndflfipaddfoaaGreat
open Go Go.Abs
def plcK (o l:List Int):Nat→List Int
 |0=>List.replicate o.length 0
 |k+1=>(plcK o l k).set (o.getD k 0).toNat (l.getD k 0)
def plcL (l:List Int):List Int:=plcK (scanL (side l.length)) l (scanL (side l.length)).length
theorem plcK_len (o l:List Int):∀k,(plcK o l k).length=o.length
 |0=>by simp [plcK]
 |k+1=>by rw [plcK,List.length_set];exact plcK_len o l k
theorem plcL_len (l:List Int):(plcL l).length=(scanL (side l.length)).length:=plcK_len _ _ _
theorem plcK_in {o l:List Int} {c:Int} (hc:0≤c) (h:In l (-c) c):∀k,In (plcK o l k) (-c) c
 |0=>in_all fun j hj=>by
  rw [plcK,List.getD_eq_getElem?_getD,List.getElem?_replicate]
  split<;>simp<;>omega
 |k+1=>in_all fun j hj=>by
  rw [plcK,List.getD_eq_getElem?_getD,List.getElem?_set]
  split
  ·split
   ·exact in_getZ h hc k
   ·simp;omega
  ·have:=in_getZ (plcK_in (o:=o) hc h k) hc j
   rw [List.getD_eq_getElem?_getD] at this;exact this
theorem plcL_ok {l:List Int} (h:LvOk l):LvOk (plcL l):=by
 refine ⟨plcK_in (by decide) h.1 _,?_⟩
 rw [plcL_len]
 rcases h.2 with e|e
 ·rw [e];exact .inl (by have:=(scan_rg 4 (by omega)).2;show (scanL 4).length=16;omega)
 ·rw [e];exact .inr (by have:=(scan_rg 8 (by omega)).2;show (scanL 8).length=64;omega)
theorem plcL_len2 {l:List Int} (h:l.length=16∨l.length=64):(plcL l).length=l.length:=by
 rw [plcL_len]
 rcases h with e|e
 ·rw [e];have:=(scan_rg 4 (by omega)).2;show (scanL 4).length=16;omega
 ·rw [e];have:=(scan_rg 8 (by omega)).2;show (scanL 8).length=64;omega
def normL (n i:Int):Int:=if (n=4∨n=8)∧0≤i∧i≤n*n-1 then (if n=8 then 1 else if i/4%2+i%4%2=0 then 100 else if i/4%2+i%4%2=2 then 16 else 40) else 0
theorem normL_bd (n i:Int):0≤normL n i∧normL n i≤100:=by unfold normL;split<;>(try split)<;>(try split)<;>(try split)<;>omega
def scaF (l:List Int) (q:Int) (i:Nat):Int:=l.getD i 0*stepL q*normL (side l.length) i
def scaL (l:List Int) (q:Int):List Int:=if LvOk l∧0<stepL q then tabL (scaF l q) l.length else []
theorem stepL_bd (q:Int):0≤stepL q∧stepL q≤500:=by
 by_cases h:0≤q∧q≤51
 ·have:=stepL_in q h;omega
 ·unfold stepL;rw [if_neg h];omega
theorem mul_bds {a b A B:Int} (ha:-A≤a∧a≤A) (hb:0≤b∧b≤B) (hA:0≤A):-(A*B)≤a*b∧a*b≤A*B:=by
 have h1:a*b≤A*b:=Int.mul_le_mul_of_nonneg_right ha.2 hb.1
 have h2:A*b≤A*B:=Int.mul_le_mul_of_nonneg_left hb.2 hA
 have h3:-A*b≤a*b:=Int.mul_le_mul_of_nonneg_right ha.1 hb.1
 rw [Int.neg_mul] at h3
 omega
theorem sca1_bd {l:List Int} (h:In l (-16383) 16383) (q:Int) (i:Nat):-8191500≤l.getD i 0*stepL q∧l.getD i 0*stepL q≤8191500:=by
 have:=mul_bds (in_getZ (c:=16383) h (by decide) i) (stepL_bd q) (by decide)
 omega
theorem scaF_bd {l:List Int} (h:In l (-16383) 16383) (q:Int) (i:Nat):-819150000≤scaF l q i∧scaF l q i≤819150000:=by
 have:=mul_bds (sca1_bd h q i) (normL_bd (side l.length) i) (by decide)
 unfold scaF;omega
theorem scaL_len (l:List Int) (q:Int):(scaL l q).length=if LvOk l∧0<stepL q then l.length else 0:=by
 unfold scaL;split<;>simp [tabL_len]
theorem scaL_fit (l:List Int) (q:Int):FitM (scaL l q):=by
 unfold FitM In
 intro x hx
 unfold scaL at hx
 split at hx
 ·rename_i h
  unfold tabL at hx
  obtain ⟨i,_,rfl⟩:=List.mem_map.1 hx
  have:=scaF_bd h.1.1 q i
  omega
 ·cases hx
def rnd1 (k:Nat) (v:Int):Int:=if k=16 then (max (-1000000000000) (min 1000000000000 v)+800)/1600 else (max (-1000000000000) (min 1000000000000 v)+32)/64
def rndL (l:List Int):List Int:=if 0<side l.length then l.map (rnd1 l.length) else []
theorem rndL_le (l:List Int):(rndL l).length≤64:=by
 unfold rndL;split
 ·rename_i h;rw [List.length_map];have:=(side_pos l.length).1 h;omega
 ·simp
theorem floor_neg {v d:Int} (hv:v<0) (hd:0<d):-((-v+d-1)/d)=v/d:=by
 have h1:=Int.mul_ediv_add_emod v d
 have h2:=Int.emod_nonneg v (by omega:d≠0)
 have h3:=Int.emod_lt_of_pos v hd
 have e:(-v+d-1)/d=-(v/d):=by
  have e2:-v+d-1=(d-1-v%d)+d*(-(v/d)):=by rw [Int.mul_neg];omega
  rw [e2,Int.add_mul_ediv_left _ _ (by omega),Int.ediv_eq_zero_of_lt (by omega) (by omega),Int.zero_add]
 omega
theorem floor_t {a b:Int} (hb:0<b):(if a.tmod b<0 then a.tdiv b-1 else a.tdiv b)=a/b:=by
 have h1:=Int.mul_ediv_add_emod a b
 have h2:=Int.emod_nonneg a (by omega:b≠0)
 have h3:=Int.emod_lt_of_pos a hb
 have h4:=Int.mul_tdiv_add_tmod a b
 rcases Int.lt_or_le a 0 with h|h
 ·have h0:(-a).tmod b=-(a.tmod b):=Int.neg_tmod ..
  have h5:=Int.tmod_nonneg b (show 0≤-a by omega)
  have h6:=Int.tmod_lt_of_pos (-a) hb
  rw [h0] at h5 h6
  split
  ·rename_i h7
   have:b*(a.tdiv b-1-a/b)=-(a.tmod b+b)+a%b:=by rw [Int.mul_sub,Int.mul_sub];omega
   have h8:a.tdiv b-1-a/b=0:=by
    rcases Int.lt_trichotomy (a.tdiv b-1-a/b) 0 with h9|h9|h9
    ·have:=Int.mul_le_mul_of_nonneg_left (show a.tdiv b-1-a/b≤-1 by omega) (Int.le_of_lt hb);omega
    ·exact h9
    ·have:=Int.mul_le_mul_of_nonneg_left (show 1≤a.tdiv b-1-a/b by omega) (Int.le_of_lt hb);omega
   omega
  ·have:b*(a.tdiv b-a/b)=a%b-a.tmod b:=by rw [Int.mul_sub];omega
   have h8:a.tdiv b-a/b=0:=by
    rcases Int.lt_trichotomy (a.tdiv b-a/b) 0 with h9|h9|h9
    ·have:=Int.mul_le_mul_of_nonneg_left (show a.tdiv b-a/b≤-1 by omega) (Int.le_of_lt hb);omega
    ·exact h9
    ·have:=Int.mul_le_mul_of_nonneg_left (show 1≤a.tdiv b-a/b by omega) (Int.le_of_lt hb);omega
   omega
 ·rw [Int.tdiv_eq_ediv_of_nonneg h,Int.tmod_eq_emod_of_nonneg h]
  rw [if_neg (by omega)]
def resL (b:Bool) (q:Int) (l:List Int):List Int:=if LvOk l∧0<stepL q then (if b=true then plcL l else rndL (trL (side l.length) true (scaL (plcL l) q))) else []
theorem resL_le (b:Bool) (q:Int) (l:List Int):(resL b q l).length≤64:=by
 unfold resL;split
 ·rename_i h
  split
  ·rw [plcL_len];exact (scan_fit l).2
  ·exact rndL_le _
 ·simp
theorem scan4_all (p:Nat) (hp:p<16):∃k,k<16∧(scanL 4).getD k 0=(p:Int):=by
 have key:∀p:Fin 16,∃k:Fin 16,(scanL 4).getD k.val 0=((p.val:Nat):Int):=by decide +kernel
 obtain ⟨k,hk⟩:=key ⟨p,hp⟩
 exact ⟨k.val,k.isLt,hk⟩
theorem scan8_all (p:Nat) (hp:p<64):∃k,k<64∧(scanL 8).getD k 0=(p:Int):=by
 have key:∀p:Fin 64,∃k:Fin 64,(scanL 8).getD k.val 0=((p.val:Nat):Int):=by decide +kernel
 obtain ⟨k,hk⟩:=key ⟨p,hp⟩
 exact ⟨k.val,k.isLt,hk⟩
theorem scan4_inj (i:Nat) (hi:i<16) (j:Nat) (hj:j<16) (h:(scanL 4).getD i 0=(scanL 4).getD j 0):i=j:=by
 have key:∀i j:Fin 16,(scanL 4).getD i.val 0=(scanL 4).getD j.val 0→i=j:=by decide +kernel
 exact congrArg Fin.val (key ⟨i,hi⟩ ⟨j,hj⟩ h)
theorem scan8_inj (i:Nat) (hi:i<64) (j:Nat) (hj:j<64) (h:(scanL 8).getD i 0=(scanL 8).getD j 0):i=j:=by
 have key:∀i j:Fin 64,(scanL 8).getD i.val 0=(scanL 8).getD j.val 0→i=j:=by decide +kernel
 exact congrArg Fin.val (key ⟨i,hi⟩ ⟨j,hj⟩ h)
theorem scan_facts {l:List Int} (h:l.length=16∨l.length=64):(scanL (side l.length)).length=l.length∧In (scanL (side l.length)) 0 (l.length-1)∧(∀ i,i<l.length→∀j,j<l.length→(scanL (side l.length)).getD i 0=(scanL (side l.length)).getD j 0→i=j)∧∀p,p<l.length→∃k,k<l.length∧(scanL (side l.length)).getD k 0=(p:Int):=by
 rcases h with e|e
 ·rw [e]
  have h1:=scan_rg 4 (by omega)
  exact ⟨by show (scanL 4).length=16;omega,h1.1,scan4_inj,scan4_all⟩
 ·rw [e]
  have h1:=scan_rg 8 (by omega)
  exact ⟨by show (scanL 8).length=64;omega,h1.1,scan8_inj,scan8_all⟩
end Go.Proofs.YtndflfipaddfoaaGreat


namespace Go.Proofs.YtndflfipaddfoaaGreat
open Go Go.Abs
def alphaL (q:Int):Int:=if 0≤q∧q≤51 then q+4 else 0
def betaL (q:Int):Int:=if 0≤q∧q≤51 then q/3+2 else 0
abbrev EdOk (a b c d q:Int):Prop:=In [a,b,c,d] 0 255∧max (b-c) (c-b)<alphaL q∧max (a-b) (b-a)<betaL q∧max (c-d) (d-c)<betaL q
def edD (a b c d q:Int):Int:=max (-(q/4+1)) (min (q/4+1) ((4*(c-b)+(a-d)+4)/8))
def edP (a b c d q:Int):Int×Int:=if EdOk a b c d q then (max 0 (min 255 (b+edD a b c d q)),max 0 (min 255 (c-edD a b c d q))) else (b,c)
def edg (q:Int) (e s:Nat) (f l:List Int):List Int:=(l.set (e-s) (edP (f.getD (e-2*s) 0) (f.getD (e-s) 0) (f.getD e 0) (f.getD (e+s) 0) q).1).set e (edP (f.getD (e-2*s) 0) (f.getD (e-s) 0) (f.getD e 0) (f.getD (e+s) 0) q).2
def run (q:Int):List (Nat×Nat)→List Int→List Int
 |[],l=>l
 |x::E,l=>run q E (edg q x.1 x.2 l l)
def runF (q:Int) (f:List Int):List (Nat×Nat)→List Int→List Int
 |[],l=>l
 |x::E,l=>runF q f E (edg q x.1 x.2 f l)
theorem edg_len (q:Int) (e s:Nat) (f l:List Int):(edg q e s f l).length=l.length:=by simp [edg]
theorem run_len (q:Int):∀(E:List (Nat×Nat)) (l:List Int),(run q E l).length=l.length
 |[],_=>rfl
 |x::E,l=>by rw [run,run_len q E,edg_len]
theorem runF_len (q:Int) (f:List Int):∀(E:List (Nat×Nat)) (l:List Int),(runF q f E l).length=l.length
 |[],_=>rfl
 |x::E,l=>by rw [runF,runF_len q f E,edg_len]
theorem run_app (q:Int):∀(E D:List (Nat×Nat)) (l:List Int),run q (E++D) l=run q D (run q E l)
 |[],_,_=>rfl
 |x::E,D,l=>by rw [List.cons_append,run,run,run_app q E D]
theorem runF_app (q:Int) (f:List Int):∀(E D:List (Nat×Nat)) (l:List Int),runF q f (E++D) l=runF q f D (runF q f E l)
 |[],_,_=>rfl
 |x::E,D,l=>by rw [List.cons_append,runF,runF,runF_app q f E D]
def Pos (x:Nat×Nat) (a:Nat):Prop:=a=x.1-2*x.2∨a=x.1-x.2∨a=x.1∨a=x.1+x.2
def Apart (x y:Nat×Nat):Prop:=∀a,Pos x a→¬Pos y a
theorem edg_other {q:Int} {e s a:Nat} {f l:List Int} (h:¬Pos (e,s) a):(edg q e s f l).getD a 0=l.getD a 0:=by
 have h1:e-s≠a:=fun h0=>h (.inr (.inl h0.symm))
 have h2:e≠a:=fun h0=>h (.inr (.inr (.inl h0.symm)))
 simp only [edg,List.getD_eq_getElem?_getD,List.getElem?_set,if_neg h1,if_neg h2]
theorem edg_congr {q:Int} {e s:Nat} {f g l:List Int} (h:∀a,Pos (e,s) a→f.getD a 0=g.getD a 0):edg q e s f l=edg q e s g l:=by
 have h1:=h (e-2*s) (.inl rfl)
 have h2:=h (e-s) (.inr (.inl rfl))
 have h3:=h e (.inr (.inr (.inl rfl)))
 have h4:=h (e+s) (.inr (.inr (.inr rfl)))
 simp only [edg,h1,h2,h3,h4]
theorem runF_run {q:Int} {f:List Int}:∀{E:List (Nat×Nat)} {l:List Int},(∀ x∈E,∀a,Pos x a→l.getD a 0=f.getD a 0)→E.Pairwise Apart→runF q f E l=run q E l
 |[],_,_,_=>rfl
 |x::E,l,h,hp=>by
  rw [List.pairwise_cons] at hp
  rw [runF,run,edg_congr (g:=l) (fun a ha=>(h x (by simp) a ha).symm)]
  exact runF_run (fun y hy a ha=>by
   rw [edg_other (fun hx=>hp.1 y hy a hx ha)]
   exact h y (by simp [hy]) a ha) hp.2
def vx (w y j:Nat):List (Nat×Nat):=(List.range j).map fun i=>(y*w+(8*i+8),1)
def vy (w a k:Nat):List (Nat×Nat):=(List.range k).flatMap fun i=>vx w (a+i) (w/8-1)
def hx (w y k:Nat):List (Nat×Nat):=(List.range k).map fun i=>(y*w+i,w)
def hy (w k:Nat):List (Nat×Nat):=(List.range k).flatMap fun i=>hx w (8*i+8) w
theorem vx_succ (w y j:Nat):vx w y (j+1)=vx w y j++[(y*w+(8*j+8),1)]:=by simp [vx,List.range_succ]
theorem vy_succ (w a k:Nat):vy w a (k+1)=vy w a k++vx w (a+k) (w/8-1):=by simp [vy,List.range_succ]
theorem hx_succ (w y k:Nat):hx w y (k+1)=hx w y k++[(y*w+k,w)]:=by simp [hx,List.range_succ]
theorem hy_succ (w k:Nat):hy w (k+1)=hy w k++hx w (8*k+8) w:=by simp [hy,List.range_succ]
theorem vx_mem {w y j:Nat} {x:Nat×Nat} (h:x∈vx w y j):∃i,i<j∧x=(y*w+(8*i+8),1):=by
 unfold vx at h
 obtain ⟨i,hi,rfl⟩:=List.mem_map.1 h
 exact ⟨i,by simpa using hi,rfl⟩
theorem vy_mem {w a k:Nat} {x:Nat×Nat} (h:x∈vy w a k):∃i j,i<k∧j<w/8-1∧x=((a+i)*w+(8*j+8),1):=by
 unfold vy at h
 obtain ⟨i,hi,hx⟩:=List.mem_flatMap.1 h
 obtain ⟨j,hj,rfl⟩:=vx_mem hx
 exact ⟨i,j,by simpa using hi,hj,rfl⟩
theorem hx_mem {w y k:Nat} {x:Nat×Nat} (h:x∈hx w y k):∃i,i<k∧x=(y*w+i,w):=by
 unfold hx at h
 obtain ⟨i,hi,rfl⟩:=List.mem_map.1 h
 exact ⟨i,by simpa using hi,rfl⟩
theorem hy_mem {w k:Nat} {x:Nat×Nat} (h:x∈hy w k):∃i j,i<k∧j<w∧x=((8*i+8)*w+j,w):=by
 unfold hy at h
 obtain ⟨i,hi,hx⟩:=List.mem_flatMap.1 h
 obtain ⟨j,hj,rfl⟩:=hx_mem hx
 exact ⟨i,j,by simpa using hi,hj,rfl⟩
abbrev Vd (x:Nat×Nat):Prop:=x.1%8=0∧8≤x.1∧x.2=1
theorem vd_apart {x y:Nat×Nat} (hx:Vd x) (hy:Vd y) (h:x.1≠y.1):Apart x y:=by
 obtain ⟨a1,a2,a3⟩:=hx
 obtain ⟨b1,b2,b3⟩:=hy
 intro a ha hb
 unfold Pos at ha hb
 rw [a3] at ha
 rw [b3] at hb
 omega
theorem vx_pair (w y j:Nat):(vx w y j).Pairwise fun x z=>x.1<z.1:=by
 unfold vx
 rw [List.pairwise_map]
 exact (List.pairwise_lt_range (n:=j)).imp fun h=>by simp only;omega
theorem vy_pair (w a:Nat):∀k,(vy w a k).Pairwise fun x z=>x.1<z.1
 |0=>by simp [vy]
 |k+1=>by
  rw [vy_succ,List.pairwise_append]
  refine ⟨vy_pair w a k,vx_pair _ _ _,fun x hx z hz=>?_⟩
  obtain ⟨i,j,hi,hj,rfl⟩:=vy_mem hx
  obtain ⟨i2,hi2,rfl⟩:=vx_mem hz
  have h1:=Nat.mul_le_mul_right w (show a+i+1≤a+k by omega)
  rw [Nat.add_mul,Nat.one_mul] at h1
  simp only
  omega
theorem vy_vd {w a k:Nat} (hw:w%8=0) {x:Nat×Nat} (h:x∈vy w a k):Vd x:=by
 obtain ⟨i,j,hi,hj,rfl⟩:=vy_mem h
 have:(a+i)*w%8=0:=by rw [Nat.mul_mod,hw];simp
 refine ⟨?_,?_,rfl⟩<;>simp only<;>omega
theorem across_eq {q:Int} {w:Nat} (hw:w%8=0) (a k:Nat) (f:List Int):runF q f (vy w a k) f=run q (vy w a k) f:=by
 refine runF_run (fun _ _ _ _=>rfl) ?_
 have h:=vy_pair w a k
 refine h.imp_of_mem fun {x y} hx hy hlt=>vd_apart (vy_vd hw hx) (vy_vd hw hy) (by omega)
theorem hx_apart {w y y' i i':Nat} (hi:i<w) (hi':i'<w) (h:(y=y'∧i≠i')∨y+8≤y') (hy:2≤y):Apart (y*w+i,w) (y'*w+i',w):=by
 intro a ha hb
 unfold Pos at ha hb
 simp only at ha hb
 have h2:2*w≤y*w:=Nat.mul_le_mul_right w hy
 rcases h with ⟨rfl,h⟩|h
 ·omega
 ·have h3:=Nat.mul_le_mul_right w h
  rw [Nat.add_mul] at h3
  omega
theorem hy_pair (w:Nat):∀k,(hy w k).Pairwise Apart
 |0=>by simp [hy]
 |k+1=>by
  rw [hy_succ,List.pairwise_append]
  refine ⟨hy_pair w k,?_,fun x hx z hz=>?_⟩
  ·unfold hx
   rw [List.pairwise_map]
   refine (List.pairwise_lt_range (n:=w)).imp_of_mem fun {a b} ha hb hlt=>?_
   exact hx_apart (by simpa using ha) (by simpa using hb) (.inl ⟨rfl,by omega⟩) (by omega)
  ·obtain ⟨i,j,hi,hj,rfl⟩:=hy_mem hx
   obtain ⟨i2,hi2,rfl⟩:=hx_mem hz
   exact hx_apart hj hi2 (.inr (by omega)) (by omega)
theorem down_eq {q:Int} (w k:Nat) (g:List Int):runF q g (hy w k) g=run q (hy w k) g:=runF_run (fun _ _ _ _=>rfl) (hy_pair w k)
def debL (q:Int) (w h:Nat) (p:List Int):List Int:=run q (hy w (h/8-1)) (run q (vy w 0 h) p)
theorem debL_len (q:Int) (w h:Nat) (p:List Int):(debL q w h p).length=p.length:=by rw [debL,run_len,run_len]
theorem edP_in {a b c d q:Int} (hb:0≤b∧b≤255) (hc:0≤c∧c≤255):(0≤(edP a b c d q).1∧(edP a b c d q).1≤255)∧0≤(edP a b c d q).2∧(edP a b c d q).2≤255:=by
 unfold edP;split<;>simp only<;>omega
theorem in_setV {l:List Int} {lo hi v:Int} (h:In l lo hi) (hv:lo≤v∧v≤hi) (i:Nat):In (l.set i v) lo hi:=by
 unfold In at*
 intro x hx
 rcases List.mem_or_eq_of_mem_set hx with h1|h1
 ·exact h x h1
 ·rw [h1];exact hv
theorem in_getZ255 {l:List Int} (h:In l 0 255) (k:Nat):0≤l.getD k 0∧l.getD k 0≤255:=by
 by_cases hk:k<l.length
 ·exact in_get h hk
 ·rw [List.getD_eq_getElem?_getD,List.getElem?_eq_none (by omega)];simp
theorem edg_in {q:Int} {e s:Nat} {f l:List Int} (hf:In f 0 255) (hl:In l 0 255):In (edg q e s f l) 0 255:=by
 have h:=edP_in (a:=f.getD (e-2*s) 0) (d:=f.getD (e+s) 0) (q:=q) (in_getZ255 hf (e-s)) (in_getZ255 hf e)
 exact in_setV (in_setV hl h.1 _) h.2 _
theorem run_rg {q:Int}:∀{E:List (Nat×Nat)} {l:List Int},In l 0 255→In (run q E l) 0 255
 |[],_,h=>h
 |x::E,l,h=>by rw [run];exact run_rg (E:=E) (edg_in h h)
end Go.Proofs.YtndflfipaddfoaaGreat


namespace Go.Proofs.YtndflfipaddfoaaGreat
open Go Go.Abs
attribute [local irreducible] WpA WpL Rnd Blk Abs.Seq Abs.Fin Abs.FinG FnC FnG Only
abbrev NbA (t l:List Int) (c:Int) (a b:Bool):AV:=.agg [IL t,IL l,I c,B a,B b]
abbrev NbO (t l:List Int) (c:Int) (a b:Bool):AObj:=⟨[IL t,IL l,I c,B a,B b],0,0,none⟩
abbrev NbOk (t l:List Int) (c n:Int):Prop:=(n=4∨n=8)∧(t.length:Int)=2*n∧(l.length:Int)=n∧In t 0 255∧In l 0 255∧0≤c∧c≤255
instance NbOk_s:Con 232 (∀ (t l:List Int) (c:Int) (a b:Bool) (n:Int),t.length≤1099511627776∧l.length≤1099511627776→Fn 232 [NbA t l c a b,I n] [] (B (decide (NbOk t l c n)))):=⟨fun t l c a b n hl=>by
 refine FnC.of_body tabOk Tryz.func232 Tryz.ntmps232 rfl (by decide +kernel) (by simp) fun G=>?_
 refine go (r:=?_);and_intros<;>intros<;>try exact True.intro
 all_goals simp_all⟩
instance NbOk_c:Con 250 (∀ (t l:List Int) (c:Int) (a b:Bool) (n:Int),t.length≤1099511627776∧l.length≤1099511627776→Fn 250 [NbA t l c a b,I n] [] (B (decide (NbOk t l c n)))):=⟨fun t l c a b n hl=>by
 refine FnC.of_body tabOk Tryz.func250 Tryz.ntmps250 rfl (by decide +kernel) (by simp) fun G=>?_
 refine go (r:=?_);and_intros<;>intros<;>try exact True.intro
 all_goals simp_all⟩
def bordL (t l:List Int) (c n:Int):List Int:=if NbOk t l c n then l.reverse++[c]++t.take n.toNat else []
theorem bord_len {t l:List Int} {c n:Int} (h:NbOk t l c n):((bordL t l c n).length:Int)=2*n+1:=by
 rw [bordL,if_pos h];obtain ⟨h1,h2,h3,_⟩:=h;simp;omega
instance Border_s:Con 234 (∀ (t l:List Int) (c:Int) (a b:Bool) (n:Int),t.length≤1099511627776∧l.length≤1099511627776→Fn 234 [NbA t l c a b,I n] [XI (bordL t l c n)] (.own 0 0 0 (bordL t l c n).length)):=⟨fun t l c a b n hl=>by
 refine FnC.of_body tabOk Tryz.func234 Tryz.ntmps234 rfl (by decide +kernel) (by simp) fun G=>?_
 refine go (r:=?_);and_intros<;>intros<;>try exact True.intro
 ·rw [bordL,if_neg (by assumption)];rfl
 ·rw [bordL,if_neg (by assumption)]
 have h:NbOk t l c n:=‹_›
 obtain ⟨h1,h2,h3,h4,h5,h6⟩:=id h
 have htk:(t.take n.toNat).length=n.toNat:=by simp;omega
 have hbl:=bord_len h
 refine WpA.loop (fun k:Nat=>⟨[(1,I n),(2,.ptr 0 0 0),(5,.own 1 0 0 k),(6,I (n-1-k))],[NbO t l c a b,XI (l.reverse.take k)]⟩) (fun k=>k≤l.length) (fun k=>l.length-k) 0 (by omega) (go (r:=?_)) (fun k hk=>?_)
 ·simp
 have hlk:(l.reverse.take k).length=k:=by simp;omega
 refine go (r:=?_);and_intros<;>intros<;>try exact True.intro
 ·rw [take_snoc _ k (by simp;omega)];congr 2;rw [show (default:Int)=0 from rfl,rev_get l k (by omega)];congr 1;omega
 all_goals have e:k=l.length:=by omega
 all_goals subst e
 rw [List.take_of_length_le (by simp),bordL,if_pos h]⟩
instance Border_c:Con 292 (∀ (t l:List Int) (c:Int) (a b:Bool) (n:Int),t.length≤1099511627776∧l.length≤1099511627776→Fn 292 [NbA t l c a b,I n] [XI (bordL t l c n)] (.own 0 0 0 (bordL t l c n).length)):=⟨fun t l c a b n hl=>by
 by_cases h:NbOk t l c n
 ·have hbl:=bord_len h
  obtain ⟨h1,h2,h3,h4,h5,h6⟩:=id h
  have htk:(t.take n.toNat).length=n.toNat:=by simp;omega
  have hlr:l.reverse.length=l.length:=List.length_reverse
  refine FnC.of_body tabOk Tryz.func292 Tryz.ntmps292 rfl (by decide +kernel) (by simp) fun G=>?_
  refine go (r:=?_);and_intros<;>intros<;>try exact True.intro
  all_goals first|(exact absurd h ‹¬ NbOk t l c n›)|skip
  rw [bordL,if_pos h]
 ·refine FnC.of_body tabOk Tryz.func292 Tryz.ntmps292 rfl (by decide +kernel) (by simp) fun G=>?_
  refine go (r:=?_);and_intros<;>intros<;>try exact True.intro
  all_goals first|(exact absurd ‹NbOk t l c n› h)|skip
  ·rw [bordL,if_neg h];rfl
  ·rw [bordL,if_neg h]⟩
def meanL (t l:List Int) (c:Int) (a b:Bool) (n:Int):Int:=if NbOk t l c n then (match a,b with
 |true,true=>((t.take n.toNat).sum+l.sum+n)/(2*n)
 |true,false=>((t.take n.toNat).sum+n/2)/n
 |false,true=>(l.sum+n/2)/n
 |false,false=>128) else 0
theorem sum_bd255 {l:List Int} (h:In l 0 255):0≤l.sum∧l.sum≤255*l.length:=by
 have:=psum_bd h l.length (Nat.le_refl _)
 rw [psum_all] at this;exact this
theorem mean_in {t l:List Int} {c n:Int} (a b:Bool) (h:NbOk t l c n):0≤meanL t l c a b n∧meanL t l c a b n≤255:=by
 unfold meanL
 rw [if_pos h]
 obtain ⟨h1,h2,h3,h4,h5,h6⟩:=h
 have htk:(t.take n.toNat).length=n.toNat:=by simp;omega
 have s1:=sum_bd255 (in_take h4 n.toNat)
 have s2:=sum_bd255 h5
 rw [htk] at s1
 rcases h1 with rfl|rfl<;>cases a<;>cases b<;>simp only<;>omega
instance Mean_s:Con 277 (∀ (t l:List Int) (c:Int) (a b:Bool) (n:Int),t.length≤1099511627776∧l.length≤1099511627776→Fn 277 [NbA t l c a b,I n] [] (I (meanL t l c a b n))):=⟨fun t l c a b n hl=>by
 by_cases h:NbOk t l c n
 ·obtain ⟨h1,h2,h3,h4,h5,h6⟩:=id h
  have htk:(t.take n.toNat).length=n.toNat:=by simp;omega
  have s0:=in_take h4 n.toNat
  have s1:=sum_bd255 s0
  have s2:=sum_bd255 h5
  rw [htk] at s1
  cases a<;>cases b
  all_goals refine FnC.of_body tabOk Tryz.func277 Tryz.ntmps277 rfl (by decide +kernel) (by simp) fun G=>?_
  ·refine go (r:=?_);and_intros<;>intros<;>try exact True.intro
   all_goals first|(exact absurd h ‹¬ NbOk t l c n›)|(unfold meanL;rw [if_pos h];done)|(unfold meanL;rw [if_pos h];rfl)
  ·refine go (r:=?_);and_intros<;>intros<;>try exact True.intro
   all_goals first|(exact absurd h ‹¬ NbOk t l c n›)|(unfold meanL;rw [if_pos h];done)|(unfold meanL;rw [if_pos h];rfl)
  ·refine go (r:=?_);and_intros<;>intros<;>try exact True.intro
   all_goals first|(exact absurd h ‹¬ NbOk t l c n›)|(unfold meanL;rw [if_pos h];done)|(unfold meanL;rw [if_pos h];rfl)
  ·refine go (r:=?_);and_intros<;>intros<;>try exact True.intro
   all_goals first|(exact absurd h ‹¬ NbOk t l c n›)|(unfold meanL;rw [if_pos h];done)|(unfold meanL;rw [if_pos h];rfl)
 ·refine FnC.of_body tabOk Tryz.func277 Tryz.ntmps277 rfl (by decide +kernel) (by simp) fun G=>?_
  refine go (r:=?_);and_intros<;>intros<;>try exact True.intro
  all_goals first|(exact absurd ‹NbOk t l c n› h)|skip
  all_goals (unfold meanL;rw [if_neg h])⟩
instance Mean_c:Con 290 (∀ (t l:List Int) (c:Int) (a b:Bool) (n:Int),t.length≤1099511627776∧l.length≤1099511627776→Fn 290 [NbA t l c a b,I n] [] (I (meanL t l c a b n))):=⟨fun t l c a b n hl=>by
 by_cases h:NbOk t l c n
 ·obtain ⟨h1,h2,h3,h4,h5,h6⟩:=id h
  have htk:(t.take n.toNat).length=n.toNat:=by simp;omega
  have s0:=in_take h4 n.toNat
  have s1:=sum_bd255 s0
  have s2:=sum_bd255 h5
  rw [htk] at s1
  cases a<;>cases b
  ·refine FnC.of_body tabOk Tryz.func290 Tryz.ntmps290 rfl (by decide +kernel) (by simp) fun G=>?_
   refine go (r:=?_);and_intros<;>intros<;>try exact True.intro
   all_goals first|(exact absurd h ‹¬ NbOk t l c n›)|skip
   unfold meanL;rw [if_pos h]
  ·refine FnC.of_body tabOk Tryz.func290 Tryz.ntmps290 rfl (by decide +kernel) (by simp) fun G=>?_
   refine go (r:=?_);and_intros<;>intros<;>try exact True.intro
   all_goals first|(exact absurd h ‹¬ NbOk t l c n›)|skip
   refine WpA.loop (fun k:Nat=>⟨[(1,I n),(5,I (psum l k)),(6,I 0),(36,IL l),(37,I l.length),(38,I k)],[NbO t l c false true]⟩) (fun k=>k≤l.length) (fun k=>l.length-k) 0 (by omega) (go (r:=?_)) (fun k hk=>?_)
   ·simp [psum_zero]
   have hb:=psum_bd h5 k hk
   have hg:=fun h=>in_get h5 (k:=k) h
   have hs:=fun h=>psum_succ l k h
   refine go (r:=?_);and_intros<;>intros<;>try exact True.intro
   all_goals have e:k=l.length:=by omega
   all_goals subst e
   all_goals rw [psum_all]
   unfold meanL;rw [if_pos h];rcases h1 with rfl|rfl<;>simp<;>omega
  ·refine FnC.of_body tabOk Tryz.func290 Tryz.ntmps290 rfl (by decide +kernel) (by simp) fun G=>?_
   refine go (r:=?_);and_intros<;>intros<;>try exact True.intro
   all_goals first|(exact absurd h ‹¬ NbOk t l c n›)|skip
   refine WpA.loop (fun k:Nat=>⟨[(1,I n),(2,.ptr 0 0 0),(5,I (psum (t.take n.toNat) k)),(6,I 0),(20,IL (t.take n.toNat)),(21,I (t.take n.toNat).length),(22,I k)],[NbO t l c true false]⟩) (fun k=>k≤(t.take n.toNat).length) (fun k=>(t.take n.toNat).length-k) 0 (by omega) (go (r:=?_)) (fun k hk=>?_)
   ·simp [psum_zero]
   have hb:=psum_bd s0 k hk
   have hg:=fun h=>in_get s0 (k:=k) h
   have hs:=fun h=>psum_succ (t.take n.toNat) k h
   refine go (r:=?_);and_intros<;>intros<;>try exact True.intro
   all_goals have e:k=(t.take n.toNat).length:=by omega
   all_goals subst e
   all_goals rw [psum_all]
   unfold meanL;rw [if_pos h];rcases h1 with rfl|rfl<;>simp<;>omega
  ·refine FnC.of_body tabOk Tryz.func290 Tryz.ntmps290 rfl (by decide +kernel) (by simp) fun G=>?_
   refine go (r:=?_);and_intros<;>intros<;>try exact True.intro
   all_goals first|(exact absurd h ‹¬ NbOk t l c n›)|skip
   refine WpA.loop (fun k:Nat=>⟨[(1,I n),(2,.ptr 0 0 0),(5,I (psum (t.take n.toNat) k)),(6,I 0),(20,IL (t.take n.toNat)),(21,I (t.take n.toNat).length),(22,I k)],[NbO t l c true true]⟩) (fun k=>k≤(t.take n.toNat).length) (fun k=>(t.take n.toNat).length-k) 0 (by omega) (go (r:=?_)) (fun k hk=>?_)
   ·simp [psum_zero]
   have hb:=psum_bd s0 k hk
   have hg:=fun h=>in_get s0 (k:=k) h
   have hs:=fun h=>psum_succ (t.take n.toNat) k h
   refine go (r:=?_);and_intros<;>intros<;>try exact True.intro
   have e:k=(t.take n.toNat).length:=by omega
   subst e
   refine WpA.loop (fun k:Nat=>⟨[(1,I n),(5,I ((t.take n.toNat).sum+psum l k)),(6,I n),(36,IL l),(37,I l.length),(38,I k)],[NbO t l c true true]⟩) (fun k=>k≤l.length) (fun k=>l.length-k) 0 (by omega) (go (r:=?_)) (fun k hk=>?_)
   ·refine ⟨?_,trivial⟩;rw [psum_all,psum_zero];omega
   have hb:=psum_bd h5 k hk
   have hg:=fun h=>in_get h5 (k:=k) h
   have hs:=fun h=>psum_succ l k h
   refine go (r:=?_);and_intros<;>intros<;>try exact True.intro
   all_goals have e:k=l.length:=by omega
   all_goals subst e
   all_goals rw [psum_all]
   unfold meanL;rw [if_pos h];rcases h1 with rfl|rfl<;>simp<;>omega
 ·refine FnC.of_body tabOk Tryz.func290 Tryz.ntmps290 rfl (by decide +kernel) (by simp) fun G=>?_
  refine go (r:=?_);and_intros<;>intros<;>try exact True.intro
  all_goals first|(exact absurd ‹NbOk t l c n› h)|skip
  all_goals (unfold meanL;rw [if_neg h])⟩
end Go.Proofs.YtndflfipaddfoaaGreat


namespace Go.Proofs.YtndflfipaddfoaaGreat
open Go Go.Abs
attribute [local irreducible] WpA WpL Rnd Blk Abs.Seq Abs.Fin Abs.FinG FnC FnG Only
theorem in_append {l m:List Int} {lo hi:Int} (h1:In l lo hi) (h2:In m lo hi):In (l++m) lo hi:=by
 unfold In at *;intro v hv
 rcases List.mem_append.1 hv with h|h
 ·exact h1 v h
 ·exact h2 v h
theorem in_one {v lo hi:Int} (h:lo≤v∧v≤hi):In [v] lo hi:=by unfold In;intro x hx;have:x=v:=by simpa using hx
                                                            subst this;exact h
theorem in_rev {l:List Int} {lo hi:Int} (h:In l lo hi):In l.reverse lo hi:=by unfold In at *;intro v hv;exact h v (by simpa using hv)
theorem bord_in {t l:List Int} {c n:Int} (h:NbOk t l c n):In (bordL t l c n) 0 255:=by
 rw [bordL,if_pos h]
 obtain ⟨h1,h2,h3,h4,h5,h6⟩:=h
 exact in_append (in_append (in_rev h5) (in_one h6)) (in_take h4 _)
instance l15Clip_s:Con 274 (∀ v:Int,Fn 274 [I v] [] (I (max 0 (min 255 v)))):=⟨fun v=>by
 refine FnC.of_body tabOk Tryz.func274 Tryz.ntmps274 rfl (by decide +kernel) (by simp) fun G=>?_
 exact go (r:=trivial)⟩
def soft (a b c:Int):Int:=(a+2*b+c+2)/4
instance l15Soft_s:Con 275 (∀ a b c:Int,(0≤a∧a≤255)∧(0≤b∧b≤255)∧0≤c∧c≤255→Fn 275 [I a,I b,I c] [] (I (soft a b c))):=⟨fun a b c h=>by
 refine FnC.of_body tabOk Tryz.func275 Tryz.ntmps275 rfl (by decide +kernel) (by simp) fun G=>?_
 refine go (r:=?_);and_intros<;>intros<;>try exact True.intro
 all_goals rfl⟩
instance smoothed_c:Con 291 (∀ a b c:Int,(0≤a∧a≤255)∧(0≤b∧b≤255)∧0≤c∧c≤255→Fn 291 [I a,I b,I c] [] (I (soft a b c))):=⟨fun a b c h=>by
 refine FnC.of_body tabOk Tryz.func291 Tryz.ntmps291 rfl (by decide +kernel) (by simp) fun G=>?_
 refine go (r:=?_);and_intros<;>intros<;>try exact True.intro
 all_goals rfl⟩
theorem soft_in {a b c:Int} (h:(0≤a∧a≤255)∧(0≤b∧b≤255)∧0≤c∧c≤255):0≤soft a b c∧soft a b c≤255:=by unfold soft;omega
def predL (m:Int) (t l:List Int) (c:Int) (a b:Bool) (n x y:Int):Int:=if NbOk t l c n∧(0≤x∧x≤n-1)∧0≤y∧y≤n-1 then
 (if m=0 then meanL t l c a b n else if m=1 then t.getD x.toNat 0 else if m=2 then l.getD y.toNat 0 else if m=3 then max 0 (min 255 (l.getD y.toNat 0+t.getD x.toNat 0-c))
  else if m=4 then soft (t.getD (x+y).toNat 0) (t.getD (min (2*n-1) (x+y+1)).toNat 0) (t.getD (min (2*n-1) (x+y+2)).toNat 0)
  else if m=5 then soft ((bordL t l c n).getD (x-y+n-1).toNat 0) ((bordL t l c n).getD (x-y+n).toNat 0) ((bordL t l c n).getD (x-y+n+1).toNat 0) else -1) else -1
theorem predL_no {m:Int} {t l:List Int} {c:Int} {a b:Bool} {n x y:Int} (h:¬(NbOk t l c n∧(0≤x∧x≤n-1)∧0≤y∧y≤n-1)):-1=predL m t l c a b n x y:=by unfold predL;rw [if_neg h]
instance PredAt_s:Con 307 (∀ (m:Int) (t l:List Int) (c:Int) (a b:Bool) (n x y:Int),t.length≤1099511627776∧l.length≤1099511627776∧-9223372036854775807≤n→Fn 307 [I m,NbA t l c a b,I n,I x,I y] [] (I (predL m t l c a b n x y))):=⟨fun m t l c a b n x y hl=>by
 by_cases h:NbOk t l c n∧(0≤x∧x≤n-1)∧0≤y∧y≤n-1
 ·obtain ⟨h0,hx,hy⟩:=id h
  obtain ⟨h1,h2,h3,h4,h5,h6⟩:=id h0
  have hbl:=bord_len h0
  have hbi:=bord_in h0
  have g1:=in_get h4 (k:=x.toNat) (by omega)
  have g2:=in_get h5 (k:=y.toNat) (by omega)
  have g3:=in_get h4 (k:=(x+y).toNat) (by omega)
  have g4:=in_get h4 (k:=(min (2*n-1) (x+y+1)).toNat) (by omega)
  have g5:=in_get h4 (k:=(min (2*n-1) (x+y+2)).toNat) (by omega)
  have g6:=in_get hbi (k:=(x-y+n-1).toNat) (by omega)
  have g7:=in_get hbi (k:=(x-y+n).toNat) (by omega)
  have g8:=in_get hbi (k:=(x-y+n+1).toNat) (by omega)
  refine FnC.of_body tabOk Tryz.func307 Tryz.ntmps307 rfl (by decide +kernel) (by simp) fun G=>?_
  refine go (r:=?_);and_intros<;>intros<;>try exact True.intro
  all_goals first|(exact absurd h0 ‹¬ NbOk t l c n›)|(exact absurd hx (by assumption))|(exact absurd hy (by assumption))|skip
  all_goals (unfold predL;rw [if_pos h];first|(subst_vars;rfl)|(simp_all;done))
 ·by_cases h0:NbOk t l c n
  ·by_cases hx:0≤x∧x≤n-1
   ·have hy:¬(0≤y∧y≤n-1):=fun hh=>h ⟨h0,hx,hh⟩
    refine FnC.of_body tabOk Tryz.func307 Tryz.ntmps307 rfl (by decide +kernel) (by simp) fun G=>?_
    refine go (r:=?_);and_intros<;>intros<;>try exact True.intro
    all_goals exact predL_no h
   ·refine FnC.of_body tabOk Tryz.func307 Tryz.ntmps307 rfl (by decide +kernel) (by simp) fun G=>?_
    refine go (r:=?_);and_intros<;>intros<;>try exact True.intro
    all_goals exact predL_no h
  ·refine FnC.of_body tabOk Tryz.func307 Tryz.ntmps307 rfl (by decide +kernel) (by simp) fun G=>?_
   refine go (r:=?_);and_intros<;>intros<;>try exact True.intro
   all_goals exact predL_no h⟩
instance PredAt_c:Con 251 (∀ (m:Int) (t l:List Int) (c:Int) (a b:Bool) (n x y:Int),t.length≤1099511627776∧l.length≤1099511627776∧-9223372036854775807≤n→Fn 251 [I m,NbA t l c a b,I n,I x,I y] [] (I (predL m t l c a b n x y))):=⟨fun m t l c a b n x y hl=>by
 by_cases h:NbOk t l c n∧(0≤x∧x≤n-1)∧0≤y∧y≤n-1
 ·obtain ⟨h0,hx,hy⟩:=id h
  obtain ⟨h1,h2,h3,h4,h5,h6⟩:=id h0
  have hbl:=bord_len h0
  have hbi:=bord_in h0
  have g1:=in_get h4 (k:=x.toNat) (by omega)
  have g2:=in_get h5 (k:=y.toNat) (by omega)
  have g3:=in_get h4 (k:=(x+y).toNat) (by omega)
  have g4:=in_get h4 (k:=(min (x+y+1) (2*n-1)).toNat) (by omega)
  have g5:=in_get h4 (k:=(min (x+y+2) (2*n-1)).toNat) (by omega)
  have g6:=in_get hbi (k:=(x-y+n-1).toNat) (by omega)
  have g7:=in_get hbi (k:=(x-y+n).toNat) (by omega)
  have g8:=in_get hbi (k:=(x-y+n+1).toNat) (by omega)
  refine FnC.of_body tabOk Tryz.func251 Tryz.ntmps251 rfl (by decide +kernel) (by simp) fun G=>?_
  refine go (r:=?_);and_intros<;>intros<;>try exact True.intro
  all_goals (unfold predL;rw [if_pos h];first|(subst_vars;rfl)|(simp_all [Int.min_comm];done))
 ·by_cases h0:NbOk t l c n
  ·by_cases hx:0≤x∧x≤n-1
   ·have hy:¬(0≤y∧y≤n-1):=fun hh=>h ⟨h0,hx,hh⟩
    refine FnC.of_body tabOk Tryz.func251 Tryz.ntmps251 rfl (by decide +kernel) (by simp) fun G=>?_
    refine go (r:=?_);and_intros<;>intros<;>try exact True.intro
    all_goals exact predL_no h
   ·refine FnC.of_body tabOk Tryz.func251 Tryz.ntmps251 rfl (by decide +kernel) (by simp) fun G=>?_
    refine go (r:=?_);and_intros<;>intros<;>try exact True.intro
    all_goals exact predL_no h
  ·refine FnC.of_body tabOk Tryz.func251 Tryz.ntmps251 rfl (by decide +kernel) (by simp) fun G=>?_
   refine go (r:=?_);and_intros<;>intros<;>try exact True.intro
   all_goals exact predL_no h⟩
end Go.Proofs.YtndflfipaddfoaaGreat


namespace Go.Proofs.YtndflfipaddfoaaGreat
open Go Go.Abs
abbrev PF (m:Int) (t l:List Int) (c:Int) (a b:Bool) (n:Nat) (i:Nat):Int:=predL m t l c a b n ((i%n:Nat):Int) ((i/n:Nat):Int)
def prK (m:Int) (t l:List Int) (c:Int) (a b:Bool) (n k:Nat):List Int:=(List.range k).map (PF m t l c a b n)
theorem prK_len (m:Int) (t l:List Int) (c:Int) (a b:Bool) (n k:Nat):(prK m t l c a b n k).length=k:=by simp [prK]
theorem prK_snoc (m:Int) (t l:List Int) (c:Int) (a b:Bool) (n k:Nat):prK m t l c a b n (k+1)=prK m t l c a b n k++[PF m t l c a b n k]:=by simp [prK,List.range_succ]
def predS (m:Int) (t l:List Int) (c:Int) (a b:Bool) (n:Int):List Int:=if NbOk t l c n∧0≤m∧m≤5 then prK m t l c a b n.toNat (n.toNat*n.toNat) else []
theorem mod_div_in {n i:Nat} (h:i<n*n):i%n<n∧i/n<n:=by
 have hn:0<n:=by rcases Nat.eq_zero_or_pos n with rfl|h0
                 ·simp at h
                 ·exact h0
 exact ⟨Nat.mod_lt _ hn,Nat.div_lt_of_lt_mul h⟩
theorem pred_in {m:Int} {t l:List Int} {c:Int} (a b:Bool) {n x y:Int} (h:NbOk t l c n) (hm:0≤m∧m≤5) (hx:0≤x∧x≤n-1) (hy:0≤y∧y≤n-1):0≤predL m t l c a b n x y∧predL m t l c a b n x y≤255:=by
 unfold predL
 rw [if_pos ⟨h,hx,hy⟩]
 have hme:=mean_in a b h
 have hbl:=bord_len h
 have hbi:=bord_in h
 obtain ⟨h1,h2,h3,h4,h5,h6⟩:=h
 have g1:=in_get h4 (k:=x.toNat) (by omega)
 have g2:=in_get h5 (k:=y.toNat) (by omega)
 have g3:=in_get h4 (k:=(x+y).toNat) (by omega)
 have g4:=in_get h4 (k:=(min (2*n-1) (x+y+1)).toNat) (by omega)
 have g5:=in_get h4 (k:=(min (2*n-1) (x+y+2)).toNat) (by omega)
 have g6:=in_get hbi (k:=(x-y+n-1).toNat) (by omega)
 have g7:=in_get hbi (k:=(x-y+n).toNat) (by omega)
 have g8:=in_get hbi (k:=(x-y+n+1).toNat) (by omega)
 have s1:=soft_in ⟨g3,g4,g5⟩
 have s2:=soft_in ⟨g6,g7,g8⟩
 repeat' split
 all_goals omega
theorem predS_len (m:Int) (t l:List Int) (c:Int) (a b:Bool) (n:Int):(predS m t l c a b n).length=if NbOk t l c n∧0≤m∧m≤5 then n.toNat*n.toNat else 0:=by
 unfold predS;split
 ·rw [prK_len]
 ·rfl
theorem predS_in (m:Int) (t l:List Int) (c:Int) (a b:Bool) (n:Int):In (predS m t l c a b n) 0 255:=by
 unfold predS;split
 ·rename_i h
  have h1:=h.1.1
  unfold In prK
  intro v hv
  obtain ⟨i,hi,rfl⟩:=List.mem_map.1 hv
  have hi:=List.mem_range.1 hi
  have hmd:=mod_div_in hi
  have e:((n.toNat:Nat):Int)=n:=by omega
  have hx1:((i%n.toNat:Nat):Int)≤n-1:=by have:=Int.ofNat_lt.2 hmd.1;rw [e] at this;exact Int.le_sub_one_of_lt this
  have hy1:((i/n.toNat:Nat):Int)≤n-1:=by have:=Int.ofNat_lt.2 hmd.2;rw [e] at this;exact Int.le_sub_one_of_lt this
  have:=pred_in a b (x:=((i%n.toNat:Nat):Int)) (y:=((i/n.toNat:Nat):Int)) h.1 h.2 ⟨Int.natCast_nonneg _,hx1⟩ ⟨Int.natCast_nonneg _,hy1⟩
  unfold PF;rw [e];exact this
 ·unfold In;intro v hv;cases hv
def ResOk (f p:List Int):Prop:=(f.length=16∨f.length=64)∧p.length=f.length∧In f 0 255∧In p 0 255
instance (f p:List Int):Decidable (ResOk f p):=by unfold ResOk;infer_instance
def BmOk (l t le:List Int) (c n:Int):Prop:=NbOk t le c n∧(l.length:Int)=n*n∧In l 0 255
instance (l t le:List Int) (c n:Int):Decidable (BmOk l t le c n):=by unfold BmOk;infer_instance
end Go.Proofs.YtndflfipaddfoaaGreat


namespace Go.Proofs.YtndflfipaddfoaaGreat
open Go Go.Abs
theorem tab_in {f:Nat→Int} {lo hi:Int} {N:Nat} (h:∀i,i<N→lo≤f i∧f i≤hi):In (tabL f N) lo hi:=by
 unfold In tabL
 intro v hv
 obtain ⟨i,hi,rfl⟩:=List.mem_map.1 hv
 exact h i (by simpa using hi)
abbrev Fits (W H:Int) (p:List Int) (x y n:Int):Prop:=FrameOk W H p∧(n=4∨n=8)∧(0≤x∧x≤W-n)∧(0≤y∧y≤H-n)∧x%n=0∧y%n=0
theorem ix_in {W H:Int} {p:List Int} (h:FrameOk W H p) {a b:Int} (ha:0≤a∧a≤H-1) (hb:0≤b∧b≤W-1):0≤a*W∧a*W+b<p.length∧a*W≤1024:=by
 obtain ⟨⟨h1,h2,h3,h4,_⟩,h5,_⟩:=h
 have e1:0≤a*W:=Int.mul_nonneg ha.1 (by omega)
 have e2:a*W≤(H-1)*W:=Int.mul_le_mul_of_nonneg_right ha.2 (by omega)
 have e3:(H-1)*W=W*H-W:=by rw [Int.sub_mul,Int.one_mul,Int.mul_comm]
 have e4:W*H≤32*32:=Int.mul_le_mul h2 h4 (by omega) (by omega)
 omega
abbrev pxI (W x y n:Int) (i:Nat):Int:=(y+(i:Int)/n)*W+x+(i:Int)%n
theorem px_in {W H:Int} {p:List Int} {x y n:Int} (h:Fits W H p x y n) {i:Nat} (hi:(i:Int)<n*n):(0≤(i:Int)/n∧(i:Int)/n≤n-1∧0≤(i:Int)%n∧(i:Int)%n≤n-1)∧0≤(y+(i:Int)/n)*W∧(y+(i:Int)/n)*W≤1024∧0≤pxI W x y n i∧pxI W x y n i<p.length:=by
 obtain ⟨h0,h1,hx,hy,_⟩:=h
 have e:0≤(i:Int)/n∧(i:Int)/n≤n-1∧0≤(i:Int)%n∧(i:Int)%n≤n-1:=by rcases h1 with rfl|rfl<;>omega
 have:=ix_in h0 (a:=y+(i:Int)/n) (b:=x+(i:Int)%n) (by omega) (by omega)
 unfold pxI
 omega
def setK (W x y n:Int) (l p:List Int):Nat→List Int
 |0=>p
 |k+1=>(setK W x y n l p k).set (pxI W x y n k).toNat (l.getD k 0)
theorem setK_len (W x y n:Int) (l p:List Int):∀k,(setK W x y n l p k).length=p.length
 |0=>rfl
 |k+1=>by rw [setK,List.length_set];exact setK_len W x y n l p k
theorem setK_in {W x y n:Int} {l p:List Int} (hl:In l 0 255) (hp:In p 0 255):∀k,In (setK W x y n l p k) 0 255
 |0=>hp
 |k+1=>in_setV (setK_in hl hp k) (in_getZ255 hl k) _
abbrev SetOk (W H:Int) (p:List Int) (x y:Int) (l:List Int):Prop:=Fits W H p x y (side l.length)∧In l 0 255
def setL (W H:Int) (p:List Int) (x y:Int) (l:List Int):List Int:=if SetOk W H p x y l then setK W x y (side l.length) l p l.length else p
theorem setL_len (W H:Int) (p:List Int) (x y:Int) (l:List Int):(setL W H p x y l).length=p.length:=by
 unfold setL;split
 ·exact setK_len ..
 ·rfl
theorem setL_ok {W H:Int} {p:List Int} {x y:Int} {l:List Int} (h:FrameOk W H p):FrameOk W H (setL W H p x y l):=by
 refine ⟨h.1,by rw [setL_len];exact h.2.1,?_⟩
 unfold setL;split
 ·rename_i hs;exact setK_in hs.2 h.2.2 _
 ·exact h.2.2
def topF (W:Int) (p:List Int) (x y n:Int):Nat→Int
 |0=>if y=0 then 128 else p.getD ((y-1)*W+x+(0:Nat)).toNat 0
 |i+1=>if y=0 then 128 else if ((i+1:Nat):Int)<n∨(y%8=0∧x+(i+1:Nat)<W) then p.getD ((y-1)*W+x+(i+1:Nat)).toNat 0 else topF W p x y n i
def lefF (W:Int) (p:List Int) (x y:Int) (i:Nat):Int:=if 0<x then p.getD ((y+(i:Int))*W+x-1).toNat 0 else 128
def topL (W H:Int) (p:List Int) (x y n:Int):List Int:=if Fits W H p x y n then tabL (topF W p x y n) (2*n).toNat else []
def lefL (W H:Int) (p:List Int) (x y n:Int):List Int:=if Fits W H p x y n then tabL (lefF W p x y) n.toNat else []
def corL (W H:Int) (p:List Int) (x y n:Int):Int:=if Fits W H p x y n then (if 0<x∧0<y then p.getD ((y-1)*W+x-1).toNat 0 else 128) else 0
def hasT (W H:Int) (p:List Int) (x y n:Int):Bool:=decide (Fits W H p x y n∧0<y)
def hasE (W H:Int) (p:List Int) (x y n:Int):Bool:=decide (Fits W H p x y n∧0<x)
theorem topF_in {W:Int} {p:List Int} (hp:In p 0 255) (x y n:Int):∀i,0≤topF W p x y n i∧topF W p x y n i≤255
 |0=>by
  rw [topF];split
  ·omega
  ·exact in_getZ255 hp _
 |i+1=>by
  rw [topF];split
  ·omega
  ·split
   ·exact in_getZ255 hp _
   ·exact topF_in hp x y n i
theorem lefF_in {W:Int} {p:List Int} (hp:In p 0 255) (x y:Int) (i:Nat):0≤lefF W p x y i∧lefF W p x y i≤255:=by
 unfold lefF;split
 ·exact in_getZ255 hp _
 ·omega
theorem nb_ok {W H:Int} {p:List Int} {x y n:Int} (h:Fits W H p x y n):NbOk (topL W H p x y n) (lefL W H p x y n) (corL W H p x y n) n:=by
 have hp:=h.1.2.2
 unfold topL lefL corL
 rw [if_pos h,if_pos h,if_pos h]
 refine ⟨h.2.1,by rw [tabL_len];rcases h.2.1 with rfl|rfl<;>decide,by rw [tabL_len];rcases h.2.1 with rfl|rfl<;>decide,tab_in fun i _=>topF_in hp x y n i,tab_in fun i _=>lefF_in hp x y i,?_⟩
 split
 ·exact in_getZ255 hp _
 ·omega
abbrev TwoOk (p r:List Int):Prop:=0<side p.length∧p.length=r.length∧In p 0 255
def recF (p r:List Int) (i:Nat):Int:=max 0 (min 255 (p.getD i 0+max (-1000000) (min 1000000 (r.getD i 0))))
def recL (p r:List Int):List Int:=if TwoOk p r then tabL (recF p r) p.length else []
theorem recL_in (p r:List Int):In (recL p r) 0 255:=by
 unfold recL;split
 ·exact tab_in fun i _=>by unfold recF;omega
 ·exact in_nil 0 255
theorem recL_len (p r:List Int):(recL p r).length=if TwoOk p r then p.length else 0:=by
 unfold recL;split
 ·exact tabL_len ..
 ·rfl
abbrev PutOk (W H:Int) (p:List Int) (q x y m:Int) (lv:List Int):Prop:=Fits W H p x y (side lv.length)∧(LvOk lv∧0<stepL q)∧0≤m∧m≤5
def nbP (W H:Int) (p:List Int) (x y n m:Int):List Int:=predS m (topL W H p x y n) (lefL W H p x y n) (corL W H p x y n) (hasT W H p x y n) (hasE W H p x y n) n
def putL (W H:Int) (p:List Int) (q:Int) (b:Bool) (x y m:Int) (lv:List Int):List Int:=if PutOk W H p q x y m lv then setL W H p x y (recL (nbP W H p x y (side lv.length) m) (resL b q lv)) else p
theorem putL_len (W H:Int) (p:List Int) (q:Int) (b:Bool) (x y m:Int) (lv:List Int):(putL W H p q b x y m lv).length=p.length:=by
 unfold putL;split
 ·exact setL_len ..
 ·rfl
theorem putL_ok {W H:Int} {p:List Int} {q:Int} {b:Bool} {x y m:Int} {lv:List Int} (h:FrameOk W H p):FrameOk W H (putL W H p q b x y m lv):=by
 unfold putL;split
 ·exact setL_ok h
 ·exact h
theorem resL_len {b:Bool} {q:Int} {l:List Int} (h:LvOk l∧0<stepL q):(resL b q l).length=l.length:=by
 have h1:=plcL_len2 h.1.2
 unfold resL
 rw [if_pos h]
 split
 ·exact h1
 ·have hs:scaL (plcL l) q=tabL (scaF (plcL l) q) (plcL l).length:=by unfold scaL;rw [if_pos ⟨plcL_ok h.1,h.2⟩]
  have hl:(scaL (plcL l) q).length=l.length:=by rw [hs,tabL_len,h1]
  have hsq:(side l.length).toNat*(side l.length).toNat=l.length:=by
   rcases h.1.2 with e|e
   ·have e4:side l.length=4:=by rw [e];rfl
    rw [e4,e];rfl
   ·have e8:side l.length=8:=by rw [e];rfl
    rw [e8,e];rfl
  have ht:(trL (side l.length) true (scaL (plcL l) q)).length=l.length:=by
   unfold trL
   rw [prodL_len,if_pos ⟨by rw [hl,hsq],scaL_fit _ _⟩,hsq]
  unfold rndL
  rw [if_pos (by rw [ht];exact (side_pos _).2 h.1.2),List.length_map,ht]
theorem put_two {W H:Int} {p:List Int} {q x y m:Int} {b:Bool} {lv:List Int} (h:PutOk W H p q x y m lv):TwoOk (nbP W H p x y (side lv.length) m) (resL b q lv)∧(nbP W H p x y (side lv.length) m).length=lv.length:=by
 obtain ⟨h1,h2,h3⟩:=h
 have hn:=nb_ok h1
 have hl:(nbP W H p x y (side lv.length) m).length=lv.length:=by
  unfold nbP
  rw [predS_len,if_pos ⟨hn,h3⟩]
  rcases h2.1.2 with e|e<;>rw [e]<;>rfl
 refine ⟨⟨?_,?_,?_⟩,hl⟩
 ·rw [hl];exact (side_pos _).2 h2.1.2
 ·rw [hl,resL_len h2]
 ·exact predS_in _ _ _ _ _ _ _
theorem put_set {W H:Int} {p:List Int} {q x y m:Int} {b:Bool} {lv:List Int} (h:PutOk W H p q x y m lv):SetOk W H p x y (recL (nbP W H p x y (side lv.length) m) (resL b q lv)):=by
 have ht:=put_two (b:=b) h
 refine ⟨?_,recL_in _ _⟩
 rw [recL_len,if_pos ht.1,ht.2];exact h.1
end Go.Proofs.YtndflfipaddfoaaGreat


namespace Go.Proofs.YtndflfipaddfoaaGreat
open Go Go.Abs
attribute [local irreducible] WpA WpL Rnd Blk Abs.Seq Abs.Fin Abs.FinG FnC FnG Only
instance Pred_s:Con 281 (∀ (m:Int) (t l:List Int) (c:Int) (a b:Bool) (n:Int),t.length≤1099511627776∧l.length≤1099511627776∧-9223372036854775807≤n→Fn 281 [I m,NbA t l c a b,I n] [XI (predS m t l c a b n)] (.own 0 0 0 (predS m t l c a b n).length)):=⟨fun m t l c a b n hl=>by
 have hnw:=modeW_nil m
 by_cases h:NbOk t l c n∧0≤m∧m≤5
 ·obtain ⟨h0,hm⟩:=id h
  have h1:=h0.1
  have hnw2:¬modeW m=[]:=fun hh=>(hnw.1 hh) hm
  rcases h1 with rfl|rfl
  ·have e:predS m t l c a b 4=prK m t l c a b 4 16:=by rw [predS,if_pos h];rfl
   refine FnC.of_body tabOk Tryz.func281 Tryz.ntmps281 rfl (by decide +kernel) (by simp) fun G=>?_
   refine go (r:=?_);and_intros<;>intros<;>try exact True.intro
   refine WpA.loop (fun y:Nat=>⟨[(0,I m),(2,I 4),(4,.ptr 0 0 0),(7,.own 1 0 0 (y*4)),(8,I y)],[NbO t l c a b,XI (prK m t l c a b 4 (y*4))]⟩) (fun y=>y≤4) (fun y=>4-y) 0 (by omega) (go (r:=?_)) (fun y hy=>?_)
   ·simp [prK]
   refine go (r:=?_);and_intros<;>intros<;>try exact True.intro
   ·refine WpA.loop (fun x:Nat=>⟨[(0,I m),(2,I 4),(4,.ptr 0 0 0),(7,.own 1 0 0 (y*4+x)),(8,I y),(9,I x)],[NbO t l c a b,XI (prK m t l c a b 4 (y*4+x))]⟩) (fun x=>x≤4) (fun x=>4-x) 0 (by omega) (go (r:=?_)) (fun x hx=>?_)
    ·trivial
    have hkl:=prK_len m t l c a b 4 (y*4+x)
    have hpf:x<4→predL m t l c a b 4 x y=PF m t l c a b 4 (y*4+x):=by intro hh;unfold PF;congr 1<;>omega
    refine go (r:=?_);and_intros<;>intros<;>try exact True.intro
    ·rw [show y*4+(x+1)=(y*4+x)+1 by omega,prK_snoc,hpf (by omega)]
    all_goals have ex:x=4:=by omega
    all_goals subst ex
    all_goals first|omega|(congr 1;omega)
   all_goals have ey:y=4:=by omega
   all_goals subst ey
   all_goals rw [e]
   rw [prK_len]
  ·have e:predS m t l c a b 8=prK m t l c a b 8 64:=by rw [predS,if_pos h];rfl
   refine FnC.of_body tabOk Tryz.func281 Tryz.ntmps281 rfl (by decide +kernel) (by simp) fun G=>?_
   refine go (r:=?_);and_intros<;>intros<;>try exact True.intro
   refine WpA.loop (fun y:Nat=>⟨[(0,I m),(2,I 8),(4,.ptr 0 0 0),(7,.own 1 0 0 (y*8)),(8,I y)],[NbO t l c a b,XI (prK m t l c a b 8 (y*8))]⟩) (fun y=>y≤8) (fun y=>8-y) 0 (by omega) (go (r:=?_)) (fun y hy=>?_)
   ·simp [prK]
   refine go (r:=?_);and_intros<;>intros<;>try exact True.intro
   ·refine WpA.loop (fun x:Nat=>⟨[(0,I m),(2,I 8),(4,.ptr 0 0 0),(7,.own 1 0 0 (y*8+x)),(8,I y),(9,I x)],[NbO t l c a b,XI (prK m t l c a b 8 (y*8+x))]⟩) (fun x=>x≤8) (fun x=>8-x) 0 (by omega) (go (r:=?_)) (fun x hx=>?_)
    ·trivial
    have hkl:=prK_len m t l c a b 8 (y*8+x)
    have hpf:x<8→predL m t l c a b 8 x y=PF m t l c a b 8 (y*8+x):=by intro hh;unfold PF;congr 1<;>omega
    refine go (r:=?_);and_intros<;>intros<;>try exact True.intro
    ·rw [show y*8+(x+1)=(y*8+x)+1 by omega,prK_snoc,hpf (by omega)]
    all_goals have ex:x=8:=by omega
    all_goals subst ex
    all_goals first|omega|(congr 1;omega)
   all_goals have ey:y=8:=by omega
   all_goals subst ey
   all_goals rw [e]
   rw [prK_len]
 ·have e:predS m t l c a b n=[]:=by rw [predS,if_neg h]
  refine FnC.of_body tabOk Tryz.func281 Tryz.ntmps281 rfl (by decide +kernel) (by simp) fun G=>?_
  refine go (r:=?_);and_intros<;>intros<;>try exact True.intro
  refine WpA.loop (fun y:Nat=>⟨[(0,I m),(2,I n),(4,.ptr 0 0 0),(7,.own 1 0 0 0),(8,I 0)],[NbO t l c a b,XI []]⟩) (fun y=>y≤0) (fun y=>0) 0 (by omega) (go (r:=trivial)) (fun y hy=>?_)
  by_cases h0:NbOk t l c n
  ·have h3:modeW m=[]:=hnw.2 fun hm=>h ⟨h0,hm⟩
   refine go (r:=?_);and_intros<;>intros<;>try exact True.intro
   all_goals first|(rw [e];done)|(rw [e];rfl)
  ·refine go (r:=?_);and_intros<;>intros<;>try exact True.intro
   all_goals first|(rw [e];done)|(rw [e];rfl)⟩
instance Pred_c:Con 162 (∀ (m:Int) (t l:List Int) (c:Int) (a b:Bool) (n:Int),t.length≤1099511627776∧l.length≤1099511627776∧-9223372036854775807≤n→Fn 162 [I m,NbA t l c a b,I n] [XI (predS m t l c a b n)] (.own 0 0 0 (predS m t l c a b n).length)):=⟨fun m t l c a b n hl=>by
 by_cases h:NbOk t l c n∧0≤m∧m≤5
 ·obtain ⟨h0,hm⟩:=id h
  have h1:=h0.1
  rcases h1 with rfl|rfl
  ·have e:predS m t l c a b 4=prK m t l c a b 4 16:=by rw [predS,if_pos h];rfl
   refine FnC.of_body tabOk Tryz.func162 Tryz.ntmps162 rfl (by decide +kernel) (by simp) fun G=>?_
   refine go (r:=?_);and_intros<;>intros<;>try exact True.intro
   refine WpA.loop (fun k:Nat=>⟨[(0,I m),(2,I 4),(4,.ptr 0 0 0),(7,.own 1 0 0 k),(21,I 16),(22,I k)],[NbO t l c a b,XI (prK m t l c a b 4 k)]⟩) (fun k=>k≤16) (fun k=>16-k) 0 (by omega) (go (r:=?_)) (fun k hk=>?_)
   ·simp [prK]
   have hkl:=prK_len m t l c a b 4 k
   refine go (r:=?_);and_intros<;>intros<;>try exact True.intro
   ·rw [prK_snoc];rfl
   all_goals have ey:k=16:=by omega
   all_goals subst ey
   all_goals rw [e]
   rw [prK_len]
  ·have e:predS m t l c a b 8=prK m t l c a b 8 64:=by rw [predS,if_pos h];rfl
   refine FnC.of_body tabOk Tryz.func162 Tryz.ntmps162 rfl (by decide +kernel) (by simp) fun G=>?_
   refine go (r:=?_);and_intros<;>intros<;>try exact True.intro
   refine WpA.loop (fun k:Nat=>⟨[(0,I m),(2,I 8),(4,.ptr 0 0 0),(7,.own 1 0 0 k),(21,I 64),(22,I k)],[NbO t l c a b,XI (prK m t l c a b 8 k)]⟩) (fun k=>k≤64) (fun k=>64-k) 0 (by omega) (go (r:=?_)) (fun k hk=>?_)
   ·simp [prK]
   have hkl:=prK_len m t l c a b 8 k
   refine go (r:=?_);and_intros<;>intros<;>try exact True.intro
   ·rw [prK_snoc];rfl
   all_goals have ey:k=64:=by omega
   all_goals subst ey
   all_goals rw [e]
   rw [prK_len]
 ·have e:predS m t l c a b n=[]:=by rw [predS,if_neg h]
  refine FnC.of_body tabOk Tryz.func162 Tryz.ntmps162 rfl (by decide +kernel) (by simp) fun G=>?_
  refine go (r:=?_);and_intros<;>intros<;>try exact True.intro
  all_goals first|(exact absurd ⟨‹_›,‹_›⟩ h)|(rw [e];done)|(rw [e];rfl)⟩
instance l19Two_s:Con 230 (∀ p f:List Int,p.length≤1099511627776∧f.length≤1099511627776→Fn 230 [IL p,IL f] [] (B (decide (0<side p.length∧p.length=f.length∧In p 0 255)))):=⟨fun p f hl=>by
 refine FnC.of_body tabOk Tryz.func230 Tryz.ntmps230 rfl (by decide +kernel) (by simp) fun G=>?_
 refine go (r:=?_);and_intros<;>intros<;>try exact True.intro
 all_goals first|(rw [Bool.eq_iff_iff];simp_all;omega)|(simp_all;omega)|simp_all⟩
end Go.Proofs.YtndflfipaddfoaaGreat


namespace Go.Abs
open Go
section
variable {P:Program} {n m:Nat} {G:Ctx} {T:List (Nat×AV)} {O:List AObj} {Q:Exit→St→Prop} {ops:Array Oper} {l:List Oper} {d:Nat} {tt:TypeId} {pos:String} {after:Array Edge}
inductive KeepL:List AV→List AV→Prop
 |nil:KeepL [] []
 |any {V vs us}:KeepL vs us→KeepL (V::vs) (.any::us)
 |keep {V vs us}:V.still=true→V.nofre=true→KeepL vs us→KeepL (V::vs) (V::us)
 |agg {ds es vs us}:KeepL ds es→KeepL vs us→KeepL (.agg ds::vs) (.agg es::us)
theorem KeepL.rel {S:Nat→Prop} {w:World} {ι ι':Nat→Spot} {vs us:List AV} (h:KeepL vs us):∀{xs f},LRel S w ι O vs xs f→LRel S w ι' [] us xs []:=by
 induction h with
 |nil=>intro xs f hl;cases hl;exact .nil
 |any _ ih=>
  intro xs f hl
  obtain ⟨v,vs',f1,f2,rfl,hv,hr,rfl⟩:=hl.uncons
  exact .any (ih hr)
 |keep hs hn _ ih=>
  intro xs f hl
  obtain ⟨v,vs',f1,f2,rfl,hv,hr,rfl⟩:=hl.uncons
  have:=nofre_nil hv hn
  subst this
  have:=LRel.cons (still_any hv hs [] (fun _ h=>h) (fun _ _=>rfl) (by simp)) (ih hr)
  simpa using this
 |agg _ _ ih1 ih2=>
  intro xs f hl
  obtain ⟨v,vs',f1,f2,rfl,hv,hr,rfl⟩:=hl.uncons
  obtain ⟨us',rfl,ha⟩:=LRel.agg_inv hv
  have:=LRel.agg (ih1 ha) (ih2 hr)
  simpa using this
theorem WpL.callK {f:FuncId} {xs:List Operand} {ats:Array TypeId} {As:List AV} {r:AV} (hc:FnC P f As [] r) (hs:KeepL (xs.map (av T)) As) (hn:d<n) (h:WpL P n m G false ops l ⟨(d,r)::T,O⟩ Q):
 WpL P n m G false ops ({dst:=some d,op:=.call {callee:=.value (.func f),args:=xs.toArray,argTypes:=ats},type:=tt,pos:=pos,after:=after,guard:=none}::l) ⟨T,O⟩ Q:=
 WpL.op rfl (fun a w hr=>by
  obtain ⟨S,ι,F,hr⟩:=hr
  obtain ⟨⟨fn,hf,hb,hnm⟩,hcall⟩:=hc
  have hl:LRel S w (fun _=>none) [] As (xs.map a.eval) []:=hs.rel (hr.evals xs)
  have hex:(execOp a.eval {dst:=some d,op:=.call {callee:=.value (.func f),args:=xs.toArray,argTypes:=ats},type:=tt,pos:=pos,after:=after,guard:=none}).run P w=.ok (.enter f (xs.map a.eval).toArray) w:=by
   simp only [execOp,resolve,Act.eval,Deferred.ofValue,invoke,callFunc,Sem.run_bind,Sem.run_pure,Result.andThen_ok,program,Sem.run,hf,hnm,hb,Bool.false_eq_true,if_false]
   simp
  unfold Oper.wp
  rw [hex]
  refine (hcall w S (xs.map a.eval) hr.stable hl).mono fun e w' he=>?_
  obtain ⟨v,S',ι',F',rfl,hS1,hS2,hS3,hO',hF',hv,hk⟩:=he
  show Rel n m G ⟨(d,r)::T,O⟩ (a.put (some d) v) w'
  have hold:∀b,b<w.heap.size→w'.heap[b]?=w.heap[b]?:=fun b hb=>hk.block b hb (fun h=>h)
  have hlat:Later S w ι O S' w' ι O:=⟨hS1,fun b hb=>hold b (hr.stable b hb),fun id ob h=>⟨ob,h,.inr ⟨rfl,rfl,rfl⟩⟩⟩
  have hrel:RelAt n m G S' ι F ⟨T,O⟩ a w':=by
   refine ⟨hr.defers,hr.size,fun t=>(hr.tmps t).mono hlat (by simp),⟨fun id ob h=>?_,hr.objs.nodup,hr.objs.apart⟩,fun id h b hb=>?_,⟨fun b hb=>hS1 b (hr.base.1 b hb),fun b hb=>?_⟩,hS3,?_,hr.spots,hr.mle⟩
   ·have h:O[id]?=some ob:=h
    have hlt:id<O.length:=(List.getElem?_eq_some_iff.1 h).1
    have ho:=hr.objs.obj id ob h
    unfold ObjAt at ho ⊢
    cases hs:ι id with
    |none=>rw [hs] at ho;exact ho
    |some p=>
     obtain ⟨b,k⟩:=p
     rw [hs] at ho
     obtain ⟨cur',t',fz',f2,h1,h2,h3,h4,h5,h6,h7⟩:=ho
     have key:∀b',b'∈F id→w'.heap[b']?=w.heap[b']?:=fun b' hb'=>hold b' (hr.foot id hlt b' hb').2.2
     exact ⟨cur',t',fz',f2,h1,by rw [key b (by rw [h1];simp)];exact h2,h3,h4,h5,h6,h7.mono hlat fun b' hb'=>key b' (by rw [h1];simp [hb'])⟩
   ·obtain ⟨q1,q2,q3⟩:=hr.foot id h b hb
    refine ⟨q1,fun h'=>?_,by have:=hk.size;omega⟩
    rcases hS2 b h' with h2|h2
    ·exact q2 h2
    ·omega
   ·rcases hS2 b hb with h2|h2
    ·exact hr.base.2 b h2
    ·exact .inr (by have:=hr.keeps.size;omega)
   ·exact ⟨hk.os.trans hr.keeps.os,hk.tape.trans hr.keeps.tape,hk.output.trans hr.keeps.output,by have:=hr.keeps.size;have:=hk.size;omega,fun b hb hM=>by
     rw [hold b (by have:=hr.keeps.size;omega)];exact hr.keeps.block b hb hM⟩
  exact ⟨S',ι,F,hrel.put hn (hv.mono (Later.none O (fun _ h=>h) (fun _ _=>rfl)) (by simp))⟩) h
end
theorem Snap.relG {O:List AObj} {S S2:Nat→Prop} {w:World} {ι ι':Nat→Spot} {vs us:List AV} (h:Snap O vs us):∀{F xs f},ORel S w ι O F→(∀ b,S b→S2 b)→(∀ id,id<O.length→∀b∈F id,S2 b)→(∀ b∈f,S2 b)→LRel S w ι O vs xs f→LRel S2 w ι' [] us xs []:=by
 induction h with
 |nil=>intro F xs f _ _ _ _ hl;cases hl;exact .nil
 |any _ ih=>
  intro F xs f ho hS hF hf hl
  obtain ⟨v,vs',f1,f2,rfl,hv,hr,rfl⟩:=hl.uncons
  exact .any (ih ho hS hF (fun b hb=>hf b (List.mem_append_right _ hb)) hr)
 |keep hs hn _ ih=>
  intro F xs f ho hS hF hf hl
  obtain ⟨v,vs',f1,f2,rfl,hv,hr,rfl⟩:=hl.uncons
  have:=nofre_nil hv hn
  subst this
  have:=LRel.cons (still_any hv hs [] hS (fun _ _=>rfl) (by simp)) (ih ho hS hF (fun b hb=>hf b (List.mem_append_right _ hb)) hr)
  simpa using this
 |fn _ _ ih1 ih2=>
  intro F xs f ho hS hF hf hl
  obtain ⟨v,vs',f1,f2,rfl,hv,hr,rfl⟩:=hl.uncons
  cases hv with|fn a r=>cases r;exact .fn (ih1 ho hS hF (by simp) a) (ih2 ho hS hF (fun b hb=>hf b (List.mem_append_right _ hb)) hr)
 |nilI _ ih=>
  intro F xs f ho hS hF hf hl
  obtain ⟨v,vs',f1,f2,rfl,hv,hr,rfl⟩:=hl.uncons
  have:=(LRel.slice_len hv).2.2 rfl
  subst this
  exact .imm0 (by simp) (ih ho hS hF (fun b hb=>hf b (List.mem_append_right _ hb)) hr)
 |@own id ep len len' sz ob es vs us hob hep hsz hlen hll _ _ ih1 ih2=>
  intro F xs f ho hS hF hf hl
  subst hll hsz
  obtain ⟨v,vs',f1,f2,rfl,hv,hr,rfl⟩:=hl.uncons
  have hr2:=ih2 ho hS hF (fun b hb=>hf b (List.mem_append_right _ hb)) hr
  have hidl:=(List.getElem?_eq_some_iff.1 hob).1
  have hoa:=ho.obj id ob hob
  unfold ObjAt at hoa
  cases hv with
  |own q1 q2 q3 r=>
   rw [hob] at q1;cases q1
   have hc:=q3 hep.symm
   cases hs:ι id with
   |none=>
    rw [hs] at hc hoa
    obtain ⟨h1,_,h3⟩:=hc
    subst h1;subst h3
    have:es=[]:=by
     have:=ih1 (xs:=[]) (f:=[]) ho hS hF (by simp) (by rw [hoa.1];exact .nil)
     cases this;rfl
    subst this
    exact .imm0 (by simp) hr2
   |some p=>
    obtain ⟨b,k⟩:=p
    rw [hs] at hc hoa
    obtain ⟨cap,h1,_,h3,h4⟩:=hc
    obtain ⟨cur,t,fz,f',hFe,hh,_,_,_,_,hl'⟩:=hoa
    subst h1
    have hi:=ih1 ho hS hF (fun b' hb'=>hF id hidl b' (by rw [hFe];simp [hb'])) hl'
    refine .imm (us:=cur.toList.take ob.cells.length) (hF id hidl b (by rw [hFe];simp)) (fun i hi=>cell_of_heap hh _ i hi) hi ?_ h3 h4 hr2
    rw [hlen,hl'.len,hi.len]
 |@ownO id ep off len len' sz ob ds es vs us hob hep hsz hds hlen hll _ _ ih1 ih2=>
  intro F xs f ho hS hF hf hl
  subst hll hsz hds
  obtain ⟨v,vs',f1,f2,rfl,hv,hr,rfl⟩:=hl.uncons
  have hr2:=ih2 ho hS hF (fun b hb=>hf b (List.mem_append_right _ hb)) hr
  have hidl:=(List.getElem?_eq_some_iff.1 hob).1
  have hoa:=ho.obj id ob hob
  unfold ObjAt at hoa
  cases hv with
  |own q1 q2 q3 r=>
   rw [hob] at q1;cases q1
   have hc:=q3 hep.symm
   cases hs:ι id with
   |none=>
    rw [hs] at hc hoa
    obtain ⟨h1,h2,h3⟩:=hc
    subst h1;subst h3
    have:es=[]:=by
     have:=ih1 (xs:=[]) (f:=[]) ho hS hF (by simp) (by rw [hoa.1];simpa using .nil)
     cases this;rfl
    subst this
    exact .imm0 (by simp) hr2
   |some p=>
    obtain ⟨b,k⟩:=p
    rw [hs] at hc hoa
    obtain ⟨cap,h1,_,h3,h4⟩:=hc
    obtain ⟨cur,t,fz,f',hFe,hh,_,_,_,_,hl'⟩:=hoa
    subst h1
    obtain ⟨g,hld,hgm,_⟩:=hl'.drop off
    have hi:=ih1 ho hS hF (fun b' hb'=>hF id hidl b' (by rw [hFe];simp [hgm b' hb'])) hld
    refine .imm (us:=(cur.toList.take ob.cells.length).drop off) (hF id hidl b (by rw [hFe];simp)) (fun i hi=>?_) hi ?_ h3 h4 hr2
    ·have:=cell_of_heap hh ob.cells.length (off+i) (by simp only [List.length_drop] at hi;omega)
     rw [Nat.zero_add] at this
     rw [this,List.getElem?_drop]
    ·rw [hlen,hld.len,hi.len]
 |@fre s l ds es vs us _ _ ih1 ih2=>
  intro F xs f ho hS hF hf hl
  obtain ⟨v,vs',f1,f2,rfl,hv,hr,rfl⟩:=hl.uncons
  have hr2:=ih2 ho hS hF (fun b hb=>hf b (List.mem_append_right _ hb)) hr
  cases hv with
  |fre0 r=>
   have:=ih1 (xs:=[]) (f:=[]) ho hS hF (by simp) .nil
   cases this
   exact .imm0 (by simp) hr2
  |@fre _ _ b _ cap cur t fz _ us' f' _ _ _ hh0 hsz hu hl' h1 h2 h3 r=>
   have hh:=hh0.1
   cases r
   have hi:=ih1 ho hS hF (fun b' hb'=>hf b' (by simp [hb'])) hl'.lift
   subst hu
   refine .imm (us:=cur.toList.take ds.length) (hf b (by simp)) (fun i hi=>cell_of_heap hh _ i hi) hi ?_ h2 h3 hr2
   rw [h1,hl'.len,hi.len]
 |@ptr id ep off ob es vs us hob hep _ _ ih1 ih2=>
  intro F xs f ho hS hF hf hl
  obtain ⟨v,vs',f1,f2,rfl,hv,hr,rfl⟩:=hl.uncons
  have hr2:=ih2 ho hS hF (fun b hb=>hf b (List.mem_append_right _ hb)) hr
  have hidl:=(List.getElem?_eq_some_iff.1 hob).1
  have hoa:=ho.obj id ob hob
  unfold ObjAt at hoa
  cases hv with
  |ptr q1 q2 q3 r=>
   rw [hob] at q1;cases q1
   have hc:=q3 hep.symm
   cases hs:ι id with
   |none=>rw [hs] at hc;exact hc.elim
   |some p=>
    obtain ⟨b,k⟩:=p
    rw [hs] at hc hoa
    obtain ⟨cur,t,fz,f',hFe,hh,_,_,_,_,hl'⟩:=hoa
    have h1:_=Value.pointer (some ⟨b,off,none⟩):=hc
    subst h1
    have:=LRel.iptr (O:=[]) (ι:=ι') (off:=off) (S:=S2) (us:=cur.toList.take ob.cells.length) (hF id hidl b (by rw [hFe];simp)) (fun i hi=>cell_of_heap hh _ i hi) (ih1 ho hS hF (fun b' hb'=>hF id hidl b' (by rw [hFe];simp [hb'])) hl') hr2
    rwa [Nat.zero_add] at this
 |agg _ _ ih1 ih2=>
  intro F xs f ho hS hF hf hl
  obtain ⟨v,vs',f1,f2,rfl,hv,hr,rfl⟩:=hl.uncons
  obtain ⟨us',rfl,ha⟩:=LRel.agg_inv hv
  have:=LRel.agg (ih1 ho hS hF (fun b hb=>hf b (List.mem_append_left _ hb)) ha) (ih2 ho hS hF (fun b hb=>hf b (List.mem_append_right _ hb)) hr)
  simpa using this
theorem FnC.still {P:Program} {f:FuncId} {args:List AV} {N:List AObj} {r r':AV} (hc:FnC P f args N r) (hs:Snap N [r] [r']):FnC P f args [] r':=by
 refine ⟨hc.1,fun w S vs hS hl=>(hc.2 w S vs hS hl).mono fun e w' he=>?_⟩
 obtain ⟨v,S',ι,F,rfl,h1,h2,h3,ho,hF,hv,hk⟩:=he
 refine ⟨v,fun b=>S' b∨∃id,id<N.length∧b∈F id,fun _=>none,fun _=>[],rfl,fun b hb=>.inl (h1 b hb),?_,?_,⟨by simp,by simp,by simp⟩,by simp,?_,hk⟩
 ·rintro b (hb|⟨id,hid,hb⟩)
  ·exact h2 b hb
  ·exact .inr (hF id hid b hb).1
 ·rintro b (hb|⟨id,hid,hb⟩)
  ·exact h3 b hb
  ·exact (hF id hid b hb).2.2
 ·exact hs.relG ho (fun b hb=>.inl hb) (fun id hid b hb=>.inr ⟨id,hid,hb⟩) (by simp) hv
theorem FnC.stillT {P:Program} {f:FuncId} {args:List AV} {N:List AObj} {rs rs':List AV} (hc:FnC P f args N (.tup rs)) (hs:Snap N rs rs'):FnC P f args [] (.tup rs'):=by
 refine ⟨hc.1,fun w S vs hS hl=>(hc.2 w S vs hS hl).mono fun e w' he=>?_⟩
 obtain ⟨v,S',ι,F,rfl,h1,h2,h3,ho,hF,hv,hk⟩:=he
 refine ⟨v,fun b=>S' b∨∃id,id<N.length∧b∈F id,fun _=>none,fun _=>[],rfl,fun b hb=>.inl (h1 b hb),?_,?_,⟨by simp,by simp,by simp⟩,by simp,?_,hk⟩
 ·rintro b (hb|⟨id,hid,hb⟩)
  ·exact h2 b hb
  ·exact .inr (hF id hid b hb).1
 ·rintro b (hb|⟨id,hid,hb⟩)
  ·exact h3 b hb
  ·exact (hF id hid b hb).2.2
 ·obtain ⟨us,rfl,hl'⟩:=LRel.tup_inv hv
  have h9:LRel (fun b=>S' b∨∃id,id<N.length∧b∈F id) w' (fun _=>none) [] rs' us []:=hs.relG ho (fun b hb=>.inl hb) (fun id hid b hb=>.inr ⟨id,hid,hb⟩) (by simp) hl'
  have:=LRel.tup h9 .nil
  simpa using this
theorem ORel.bare {S':Nat→Prop} {w':World} {ι':Nat→Spot} {N:List AObj} {F':Nat→List Nat} (hO:ORel S' w' ι' N F') (hN:Out N):ORel (fun _=>False) w' ι' N F':=by
 refine ⟨fun id ob h=>?_,hO.nodup,hO.apart⟩
 have ho:=hO.obj id ob h
 unfold ObjAt at ho ⊢
 cases hs:ι' id with
 |none=>rw [hs] at ho;exact ho
 |some p=>
  obtain ⟨b,k⟩:=p
  rw [hs] at ho
  obtain ⟨cur',t',fz',f2,h1,h2,h3,h4,h5,h6,h7⟩:=ho
  exact ⟨cur',t',fz',f2,h1,h2,h3,h4,h5,h6,Loc.rel (hN.at h).2 h7⟩
inductive FrzR (N:List AObj):AV→AV→Prop
 |tup {rs rs':List AV}:Snap N rs rs'→FrzR N (.tup rs) (.tup rs')
 |one {r r':AV}:Snap N [r] [r']→FrzR N r r'
theorem FrzR.rel {O:List AObj} {S S2:Nat→Prop} {w:World} {ι ι':Nat→Spot} {F:Nat→List Nat} {r r':AV} {v:Value} (h:FrzR O r r') (ho:ORel S w ι O F) (hS:∀b,S b→S2 b) (hF:∀id,id<O.length→∀b∈F id,S2 b) (hl:VRel S w ι O r v []):VRel S2 w ι' [] r' v []:=by
 cases h with
 |tup hs=>
  obtain ⟨us,rfl,hl'⟩:=LRel.tup_inv hl
  have h9:LRel S2 w ι' [] _ us []:=hs.relG ho hS hF (by simp) hl'
  have:=LRel.tup h9 .nil
  simpa using this
 |one hs=>exact hs.relG ho hS hF (by simp) hl
section
variable {P:Program} {n m:Nat} {G:Ctx} {T:List (Nat×AV)} {O:List AObj} {Q:Exit→St→Prop} {ops:Array Oper} {l:List Oper} {d:Nat} {tt:TypeId} {pos:String} {after:Array Edge}
theorem WpL.callI {f:FuncId} {xs:List Operand} {ats:Array TypeId} {As:List AV} {N:List AObj} {r r':AV} (hc:FnC P f As N r) (hs:Snap O (xs.map (av T)) As) (hloc:Loc [r]) (hN:Out N) (hfz:FrzR N r r') (hn:d<n) (h:WpL P n m G false ops l ⟨(d,r')::T,O⟩ Q):
 WpL P n m G false ops ({dst:=some d,op:=.call {callee:=.value (.func f),args:=xs.toArray,argTypes:=ats},type:=tt,pos:=pos,after:=after,guard:=none}::l) ⟨T,O⟩ Q:=
 WpL.op rfl (fun a w hr=>by
  obtain ⟨S,ι,F,hr⟩:=hr
  obtain ⟨⟨fn,hf,hb,hnm⟩,hcall⟩:=hc
  have hsn:=hs.rel (ι':=fun _=>none) hr.objs hr.stable (hr.evals xs)
  have hex:(execOp a.eval {dst:=some d,op:=.call {callee:=.value (.func f),args:=xs.toArray,argTypes:=ats},type:=tt,pos:=pos,after:=after,guard:=none}).run P w=.ok (.enter f (xs.map a.eval).toArray) w:=by
   simp only [execOp,resolve,Act.eval,Deferred.ofValue,invoke,callFunc,Sem.run_bind,Sem.run_pure,Result.andThen_ok,program,Sem.run,hf,hnm,hb,Bool.false_eq_true,if_false]
   simp
  unfold Oper.wp
  rw [hex]
  refine (hcall w (fun b=>b<w.heap.size) (xs.map a.eval) (fun _ h=>h) hsn).mono fun e w' he=>?_
  obtain ⟨v,S',ι',F',rfl,hS1,hS2,hS3,hO',hF',hv,hk⟩:=he
  show Rel n m G ⟨(d,r')::T,O⟩ (a.put (some d) v) w'
  have hold:∀b,b<w.heap.size→w'.heap[b]?=w.heap[b]?:=fun b hb=>hk.block b hb (fun h=>h)
  let S2:Nat→Prop:=fun b=>S b∨∃id,id<N.length∧b∈F' id
  have hvr:VRel S2 w' (fun _=>none) [] r' v []:=
   hfz.rel (hO'.bare hN) (fun _ h=>h.elim) (fun id hid b hb=>.inr ⟨id,hid,hb⟩) (Loc.rel hloc hv)
  have hlat:Later S w ι O S2 w' ι O:=⟨fun b h=>.inl h,fun b hb=>hold b (hr.stable b hb),fun id ob h=>⟨ob,h,.inr ⟨rfl,rfl,rfl⟩⟩⟩
  have hrel:RelAt n m G S2 ι F ⟨T,O⟩ a w':=by
   refine ⟨hr.defers,hr.size,fun t=>(hr.tmps t).mono hlat (by simp),⟨fun id ob h=>?_,hr.objs.nodup,hr.objs.apart⟩,fun id h b hb=>?_,⟨fun b hb=>.inl (hr.base.1 b hb),fun b hb=>?_⟩,fun b hb=>?_,?_,hr.spots,hr.mle⟩
   ·have h:O[id]?=some ob:=h
    have hlt:id<O.length:=(List.getElem?_eq_some_iff.1 h).1
    have ho:=hr.objs.obj id ob h
    unfold ObjAt at ho ⊢
    cases hs:ι id with
    |none=>rw [hs] at ho;exact ho
    |some p=>
     obtain ⟨b,k⟩:=p
     rw [hs] at ho
     obtain ⟨cur',t',fz',f2,h1,h2,h3,h4,h5,h6,h7⟩:=ho
     have key:∀b',b'∈F id→w'.heap[b']?=w.heap[b']?:=fun b' hb'=>hold b' (hr.foot id hlt b' hb').2.2
     exact ⟨cur',t',fz',f2,h1,by rw [key b (by rw [h1];simp)];exact h2,h3,h4,h5,h6,h7.mono hlat fun b' hb'=>key b' (by rw [h1];simp [hb'])⟩
   ·obtain ⟨q1,q2,q3⟩:=hr.foot id h b hb
    refine ⟨q1,?_,by have:=hk.size;omega⟩
    rintro (h2|⟨i2,hi2,h2⟩)
    ·exact q2 h2
    ·have:=(hF' i2 hi2 b h2).1;omega
   ·rcases hb with h2|⟨i2,hi2,h2⟩
    ·exact hr.base.2 b h2
    ·have:=(hF' i2 hi2 b h2).1
     exact .inr (by have:=hr.keeps.size;omega)
   ·rcases hb with h2|⟨i2,hi2,h2⟩
    ·have:=hr.stable b h2;have:=hk.size;omega
    ·exact (hF' i2 hi2 b h2).2.2
   ·exact ⟨hk.os.trans hr.keeps.os,hk.tape.trans hr.keeps.tape,hk.output.trans hr.keeps.output,by have:=hr.keeps.size;have:=hk.size;omega,fun b hb hM=>by
     rw [hold b (by have:=hr.keeps.size;omega)];exact hr.keeps.block b hb hM⟩
  exact ⟨S2,ι,F,hrel.put hn (hvr.mono (Later.none O (fun _ h=>h) (fun _ _=>rfl)) (by simp))⟩) h
end
end Go.Abs


namespace Go.Abs
open Go
section
variable {P:Program} {n m:Nat} {G:Ctx} {T:List (Nat×AV)} {O:List AObj} {Q:Exit→St→Prop} {md:Bool} {ops:Array Oper} {l:List Oper} {d:Nat} {tt:TypeId} {pos:String} {after:Array Edge}
end
end Go.Abs


namespace Go.Abs
open Go
inductive Rf (k j e:Nat):List AV→List AV→Prop
 |nil:Rf k j e [] []
 |keep {V vs us}:V.still=true→V.nofre=true→Rf k j e vs us→Rf k j e (V::vs) (V::us)
 |own {k' off len vs us}:k'=k→Rf k j e vs us→Rf k j e (.own k' 0 off len::vs) (.own j e off len::us)
 |ptr {k' off vs us}:k'=k→Rf k j e vs us→Rf k j e (.ptr k' 0 off::vs) (.ptr j e off::us)
 |agg {ds es vs us}:Rf k j e ds es→Rf k j e vs us→Rf k j e (.agg ds::vs) (.agg es::us)
 |tup {ds es vs us}:Rf k j e ds es→Rf k j e vs us→Rf k j e (.tup ds::vs) (.tup es::us)
theorem Rf.rel {k j e:Nat} {S w} {ι ι':Nat→Spot} {O O':List AObj} {ob ob':AObj} (ho:O[k]?=some ob) (ho':O'[j]?=some ob') (he:ob.ep=0) (he':ob'.ep=e) (hsz:ob'.size=ob.size) (hι:ι' j=ι k) {vs us:List AV} (h:Rf k j e vs us):∀{xs},LRel S w ι O vs xs []→LRel S w ι' O' us xs []:=by
 induction h with
 |nil=>intro xs hl;cases hl;exact .nil
 |keep hs hn _ ih=>
  intro xs hl
  obtain ⟨v,vs',f1,f2,rfl,hv,hr,hf⟩:=hl.uncons
  obtain ⟨rfl,rfl⟩:f1=[]∧f2=[]:=by simpa using hf
  exact LRel.cons (still_any hv hs O' (fun _ h=>h) (fun _ _=>rfl) (fun _ _=>rfl)) (ih hr)
 |own hk _ ih=>
  intro xs hl
  subst hk
  cases hl with
  |own q1 q2 q3 r=>
   rw [ho] at q1;cases q1
   exact .own ho' (by omega) (fun _=>by rw [hsz,hι];exact q3 he.symm) (ih r)
 |ptr hk _ ih=>
  intro xs hl
  subst hk
  cases hl with
  |ptr q1 q2 q3 r=>
   rw [ho] at q1;cases q1
   exact .ptr ho' (by omega) (fun _=>by rw [hι];exact q3 he.symm) (ih r)
 |agg _ _ ih1 ih2=>
  intro xs hl
  obtain ⟨v,vs',f1,f2,rfl,hv,hr,hf⟩:=hl.uncons
  obtain ⟨rfl,rfl⟩:f1=[]∧f2=[]:=by simpa using hf
  obtain ⟨us',rfl,ha⟩:=LRel.agg_inv hv
  simpa using LRel.agg (ih1 ha) (ih2 hr)
 |tup _ _ ih1 ih2=>
  intro xs hl
  obtain ⟨v,vs',f1,f2,rfl,hv,hr,hf⟩:=hl.uncons
  obtain ⟨rfl,rfl⟩:f1=[]∧f2=[]:=by simpa using hf
  obtain ⟨us',rfl,ha⟩:=LRel.tup_inv hv
  simpa using LRel.tup (ih1 ha) (ih2 hr)
theorem RelAt.fillV {n m G S ι F T O a w} {d j:Nat} {V V':AV} {ob oj:AObj} (hV:Rf O.length j (oj.ep+1) [V] [V']) (hr:RelAt n m G S ι F ⟨(d,V)::T,O++[ob]⟩ a w) (hj:O[j]?=some oj) (hm:m≤j) (hob:ob.ep=0):
 ∃ι' F',RelAt n m G S ι' F' ⟨(d,V')::T,O.set j (ob.putE (oj.ep+1))++[deadO]⟩ a w:=by
 have hjl:j<O.length:=(List.getElem?_eq_some_iff.1 hj).1
 have hlast:(O++[ob])[O.length]?=some ob:=List.getElem?_concat_length
 have hO2:∀i:Nat,(O.set j (ob.putE (oj.ep+1))++[deadO])[i]?=if i=j then some (ob.putE (oj.ep+1)) else if i=O.length then some deadO else O[i]?:=by
  intro i
  by_cases h1:i=j
  ·subst h1;rw [if_pos rfl,List.getElem?_append_left (by simpa using hjl)];simp [hjl]
  ·rw [if_neg h1]
   have h1':¬j=i:=fun e=>h1 e.symm
   by_cases h2:i=O.length
   ·subst h2;rw [if_pos rfl,List.getElem?_append_right (by simp)];simp
   ·rw [if_neg h2]
    rcases Nat.lt_or_ge i O.length with h|h
    ·rw [List.getElem?_append_left (by simpa using h)];simp [List.getElem?_set,h1']
    ·rw [List.getElem?_eq_none (by simp;omega),List.getElem?_eq_none h]
 have hO1:∀i:Nat,i≠O.length→(O++[ob])[i]?=O[i]?:=by
  intro i hi
  rcases Nat.lt_or_ge i O.length with h|h
  ·rw [List.getElem?_append_left h]
  ·rw [List.getElem?_eq_none (by simp;omega),List.getElem?_eq_none h]
 have hjn:j≠O.length:=by omega
 have hlat:Later S w ι (O++[ob]) S w (upd (upd ι j (ι O.length)) O.length none) (O.set j (ob.putE (oj.ep+1))++[deadO]):=by
  refine ⟨fun _ h=>h,fun _ _=>rfl,fun i obi hi=>?_⟩
  by_cases h1:i=j
  ·subst h1;rw [hO1 _ hjn,hj] at hi;cases hi
   exact ⟨(ob.putE (oj.ep+1)),by rw [hO2,if_pos rfl],.inl (Nat.lt_succ_self _)⟩
  ·by_cases h2:i=O.length
   ·subst h2;rw [hlast] at hi;cases hi
    exact ⟨deadO,by rw [hO2,if_neg h1,if_pos rfl],.inl (by rw [hob];exact Nat.lt_succ_self _)⟩
   ·rw [hO1 _ h2] at hi
    exact ⟨obi,by rw [hO2,if_neg h1,if_neg h2];exact hi,.inr ⟨rfl,rfl,by rw [upd_other _ _ h2,upd_other _ _ h1]⟩⟩
 have hn:=hr.objs.obj O.length ob hlast
 refine ⟨upd (upd ι j (ι O.length)) O.length none,upd (upd F j (F O.length)) O.length [],hr.defers,hr.size,fun t'=>?_,⟨fun i obi hi=>?_,fun i hi=>?_,fun i i' hi hi' hii c hcm=>?_⟩,fun i hi c hcm=>?_,hr.base,hr.stable,hr.keeps,fun i hi=>?_,?_⟩
 ·have ht:=hr.tmps t'
  by_cases e:d=t'
  ·subst e
   have ht:VRel S w ι (O++[ob]) (look ((d,V)::T) d) (a.tmps.getD d undef) []:=ht
   show VRel _ _ _ _ (look ((d,V')::T) d) _ _
   rw [look_cons_same] at ht ⊢
   exact hV.rel (ob':=ob.putE (oj.ep+1)) hlast (by rw [hO2,if_pos rfl]) hob rfl rfl (by rw [upd_other _ _ hjn,upd_same]) ht
  ·have ht:VRel S w ι (O++[ob]) (look ((d,V)::T) t') (a.tmps.getD t' undef) []:=ht
   show VRel _ _ _ _ (look ((d,V')::T) t') _ _
   rw [look_cons_other _ _ _ _ e] at ht ⊢
   exact ht.mono hlat (fun _ _=>rfl)
 ·have hi:(O.set j (ob.putE (oj.ep+1))++[deadO])[i]?=some obi:=hi
  rw [hO2] at hi
  by_cases e1:i=j
  ·subst e1
   rw [if_pos rfl] at hi;cases hi
   rw [upd_other _ _ hjn,upd_other _ _ hjn,upd_same,upd_same]
   unfold ObjAt at hn ⊢
   cases hs:ι O.length with
   |none=>rw [hs] at hn;exact hn
   |some p=>
    obtain ⟨b,k⟩:=p
    rw [hs] at hn
    obtain ⟨cur,t,fz,f',h1,h2,h3,h4,h5,h6,h7⟩:=hn
    have h8:=h7.mono hlat (fun _ _=>rfl)
    rw [hs] at h8
    exact ⟨cur,t,fz,f',h1,h2,h3,h4,h5,h6,h8⟩
  ·rw [if_neg e1] at hi
   by_cases e2:i=O.length
   ·subst e2
    rw [if_pos rfl] at hi;cases hi
    rw [upd_same,upd_same];exact ⟨rfl,rfl⟩
   ·rw [if_neg e2] at hi
    rw [upd_other _ _ e2,upd_other _ _ e2,upd_other _ _ e1,upd_other _ _ e1]
    have ho:=hr.objs.obj i obi (by show (O++[ob])[i]?=_;rw [hO1 _ e2];exact hi)
    unfold ObjAt at ho ⊢
    cases hs:ι i with
    |none=>rw [hs] at ho;exact ho
    |some p=>
     obtain ⟨b,k⟩:=p
     rw [hs] at ho
     obtain ⟨cur,t,fz,f',h1,h2,h3,h4,h5,h6,h7⟩:=ho
     exact ⟨cur,t,fz,f',h1,h2,h3,h4,h5,h6,h7.mono hlat (fun _ _=>rfl)⟩
 ·have hi:i<(O.set j (ob.putE (oj.ep+1))++[deadO]).length:=hi
  simp only [List.length_append,List.length_set,List.length_singleton] at hi
  by_cases e2:i=O.length
  ·subst e2;rw [upd_same];exact List.nodup_nil
  ·rw [upd_other _ _ e2]
   by_cases e1:i=j
   ·subst e1;rw [upd_same];exact hr.objs.nodup O.length (by show O.length<(O++[ob]).length;simp)
   ·rw [upd_other _ _ e1];exact hr.objs.nodup i (by show i<(O++[ob]).length;simp;omega)
 ·have hi:i<(O.set j (ob.putE (oj.ep+1))++[deadO]).length:=hi
  have hi':i'<(O.set j (ob.putE (oj.ep+1))++[deadO]).length:=hi'
  simp only [List.length_append,List.length_set,List.length_singleton] at hi hi'
  by_cases e2:i=O.length
  ·subst e2;rw [upd_same] at hcm;cases hcm
  ·rw [upd_other _ _ e2] at hcm
   by_cases e3:i'=O.length
   ·subst e3;rw [upd_same];intro h;cases h
   ·rw [upd_other _ _ e3]
    have hL:(O++[ob]).length=O.length+1:=by simp
    by_cases e1:i=j
    ·subst e1
     rw [upd_same] at hcm
     rw [upd_other _ _ (fun e=>hii e.symm)]
     exact hr.objs.apart O.length i' (by show O.length<(O++[ob]).length;omega) (by show i'<(O++[ob]).length;omega) (fun e=>e3 e.symm) c hcm
    ·rw [upd_other _ _ e1] at hcm
     by_cases e4:i'=j
     ·subst e4;rw [upd_same]
      exact hr.objs.apart i O.length (by show i<(O++[ob]).length;omega) (by show O.length<(O++[ob]).length;omega) e2 c hcm
     ·rw [upd_other _ _ e4]
      exact hr.objs.apart i i' (by show i<(O++[ob]).length;omega) (by show i'<(O++[ob]).length;omega) hii c hcm
 ·have hi:i<(O.set j (ob.putE (oj.ep+1))++[deadO]).length:=hi
  simp only [List.length_append,List.length_set,List.length_singleton] at hi
  have hL:(O++[ob]).length=O.length+1:=by simp
  by_cases e2:i=O.length
  ·subst e2;rw [upd_same] at hcm;cases hcm
  ·rw [upd_other _ _ e2] at hcm
   by_cases e1:i=j
   ·subst e1;rw [upd_same] at hcm;exact hr.foot O.length (by show O.length<(O++[ob]).length;omega) c hcm
   ·rw [upd_other _ _ e1] at hcm;exact hr.foot i (by show i<(O++[ob]).length;omega) c hcm
 ·rw [upd_other _ _ (by omega),upd_other _ _ (by omega)];exact hr.spots i hi
 ·show m≤(O.set j (ob.putE (oj.ep+1))++[deadO]).length
  simp only [List.length_append,List.length_set,List.length_singleton];omega
section
variable {P:Program} {n m:Nat} {G:Ctx} {O:List AObj} {Q:Exit→St→Prop} {ops:Array Oper}
theorem WpL.putV {T:List (Nat×AV)} {Ov:List AObj} {p d:Nat} {V V':AV} {ob:AObj} (hV:Rf (O++Ov).length (O.length+p) 1 [V] [V']) (hp:Ov[p]?=some roomO) (hm:m≤O.length+p) (hob:ob.ep=0) (hst:ob.cells.all AV.still=true):
 WpL P n m G false ops [] ⟨(d,V)::T,O++Ov++[ob]⟩ (Only ⟨(d,V')::T,O++(Fil.put p ob.put1).run Ov⟩):=by
 refine WpL.weak (σ':=⟨(d,V')::T,(O++Ov).set (O.length+p) (ob.putE 1)++[deadO]⟩) ?_ ?_
 ·rintro n' G' a w ⟨S,ι,F,hr⟩
  obtain ⟨ι',F',h⟩:=hr.fillV (V:=V) (V':=V') (j:=O.length+p) (oj:=roomO) hV (fill_at hp) hm hob
  exact ⟨S,ι',F',h⟩
 ·refine WpL.nil (Only.mk ?_)
  rw [fill_eq];rfl
end
end Go.Abs
