/- Proved in this text: lemmas and contracts of functions that the claim uses (parts: Base, Frame, Defs, Code, Cat, Ue, GoR, DefsQ, Kraft, Sym, Stat). No condition. -/
import Derived.Test.YtndflfipaddfoaaGreatCtM8
import Derived.Test.YtndflfipaddfoaaGreatCtM6
set_option linter.unusedVariables false
set_option linter.unusedSimpArgs false
set_option maxRecDepth 100000
set_option maxHeartbeats 16000000


namespace Go.Proofs.YtndflfipaddfoaaGreat
open Go Go.Abs
attribute [local irreducible] WpA WpL Rnd Blk Abs.Seq Abs.Fin FnC Only
instance within_c:Con 88 (∀ n lo hi:Int,Fn 88 [I n,I lo,I hi] [] (B (decide (lo≤n∧n≤hi)))):=⟨fun n lo hi=>by
 refine FnC.of_body tabOk Tryz.func88 Tryz.ntmps88 rfl (by decide +kernel) (by simp) fun G=>?_
 refine go (r:=?_);and_intros<;>intros
 all_goals first|exact True.intro|(simp_all;done)|(simp;omega)⟩
instance l1In_c:Con 117 (∀ n lo hi:Int,Fn 117 [I n,I lo,I hi] [] (B (decide (lo≤n∧n≤hi)))):=⟨fun n lo hi=>by
 refine FnC.of_body tabOk Tryz.func117 Tryz.ntmps117 rfl (by decide +kernel) (by simp) fun G=>?_
 refine go (r:=?_);and_intros<;>intros
 all_goals first|exact True.intro|(simp_all;done)|(simp;omega)⟩
instance limited_c:Con 249 (∀ n lo hi:Int,Fn 249 [I n,I lo,I hi] [] (I (max lo (min n hi)))):=⟨fun n lo hi=>by
 refine FnC.of_body tabOk Tryz.func249 Tryz.ntmps249 rfl (by decide +kernel) (by simp) fun G=>?_
 exact go (r:=trivial)⟩
end Go.Proofs.YtndflfipaddfoaaGreat


namespace Go.Proofs.YtndflfipaddfoaaGreat
open Go Go.Abs
attribute [local irreducible] WpA WpL Rnd Blk Abs.Seq Abs.Fin FnC Only
abbrev FrA (W H:Int) (p:List Int):AV:=.agg [I W,I H,IL p]
@[irreducible] def In (l:List Int) (lo hi:Int):Prop:=∀v∈l,lo≤v∧v≤hi
instance (l:List Int) (lo hi:Int):Decidable (In l lo hi):=by unfold In;exact List.decidableBAll _ l
theorem in_get {l:List Int} {lo hi:Int} (h:In l lo hi) {k:Nat} (hk:k<l.length):lo≤l.getD k 0∧l.getD k 0≤hi:=by
 unfold In at h
 have:=h (l.getD k 0) (by simp [List.getElem?_eq_getElem hk])
 exact this
theorem in_all {l:List Int} {lo hi:Int} (h:∀j<l.length,lo≤l.getD j 0∧l.getD j 0≤hi):In l lo hi:=by
 unfold In
 intro v hv
 obtain ⟨i,hi,rfl⟩:=List.getElem_of_mem hv
 simpa [List.getElem?_eq_getElem hi] using h i hi
theorem notin {l:List Int} {lo hi:Int} {k:Nat} (hk:k<l.length) (h:¬(lo≤l.getD k 0∧l.getD k 0≤hi)):false=decide (In l lo hi):=by
 symm;rw [decide_eq_false_iff_not];exact fun hh=>h (in_get hh hk)
theorem in_snoc {l:List Int} {lo hi:Int} {k:Nat} (hk:k<l.length):In (l.take (k+1)) lo hi↔In (l.take k) lo hi∧lo≤l.getD k 0∧l.getD k 0≤hi:=by
 unfold In;rw [List.take_succ_eq_append_getElem hk,List.forall_mem_append];simp [List.getElem?_eq_getElem hk]
theorem in_nil (lo hi:Int):In [] lo hi:=by unfold In;intro v hv;cases hv
instance allWithin_c:Con 86 (∀ (l:List Int) (lo hi:Int),l.length≤1099511627776→Fn 86 [IL l,I lo,I hi] [] (B (decide (In l lo hi)))):=⟨fun l lo hi hl=>by
 refine FnC.of_body tabOk Tryz.func86 Tryz.ntmps86 rfl (by decide +kernel) (by simp) fun G=>?_
 refine go (r:=?_);and_intros<;>intros<;>try exact True.intro
 refine WpA.loop (fun k:Nat=>⟨[(1,I lo),(2,I hi),(9,IL l),(10,I l.length),(11,I k)],[]⟩) (fun k=>k≤l.length∧In (l.take k) lo hi) (fun k=>l.length-k) 0 (by simp [in_nil]) (go (r:=trivial)) (fun k hk=>?_)
 refine go (r:=?_);and_intros<;>intros<;>try exact True.intro
 ·exact notin (k:=k) (by omega) ‹_›
 ·rw [in_snoc (by omega)];simp_all
 ·have e:k=l.length:=by omega
  subst e;simp_all⟩
abbrev SidesOk (w h:Int):Prop:=8≤w∧w≤32∧8≤h∧h≤32∧w%8=0∧h%8=0
instance SidesOk_c:Con 85 (∀ w h:Int,Fn 85 [I w,I h] [] (B (decide (SidesOk w h)))):=⟨fun w h=>by
 refine FnC.of_body tabOk Tryz.func85 Tryz.ntmps85 rfl (by decide +kernel) (by simp) fun G=>?_
 refine go (r:=?_);and_intros<;>intros<;>try exact True.intro
 all_goals first|(simp_all;done)|(rw [Bool.eq_iff_iff];simp only [decide_eq_true_eq,Bool.not_eq_true',decide_eq_false_iff_not,Bool.false_eq_true,true_iff,false_iff,iff_true,iff_false,Bool.not_eq_eq_eq_not,Bool.not_true];omega)⟩
instance SidesOk_s:Con 83 (∀ w h:Int,Fn 83 [I w,I h] [] (B (decide (SidesOk w h)))):=⟨fun w h=>by
 refine FnC.of_body tabOk Tryz.func83 Tryz.ntmps83 rfl (by decide +kernel) (by simp) fun G=>?_
 refine go (r:=?_);and_intros<;>intros<;>try exact True.intro
 all_goals first|(simp_all;done)|(rw [Bool.eq_iff_iff];simp only [decide_eq_true_eq,Bool.not_eq_true',decide_eq_false_iff_not,Bool.false_eq_true,true_iff,false_iff,iff_true,iff_false,Bool.not_eq_eq_eq_not,Bool.not_true];omega)⟩
abbrev FrameOk (W H:Int) (p:List Int):Prop:=SidesOk W H∧(p.length:Int)=W*H∧In p 0 255
instance FrameOk_c:Con 32 (∀ (W H:Int) (p:List Int),p.length≤1099511627776→Fn 32 [FrA W H p] [] (B (decide (FrameOk W H p)))):=⟨fun W H p hl=>by
 refine FnC.of_body tabOk Tryz.func32 Tryz.ntmps32 rfl (by decide +kernel) (by simp) fun G=>?_
 refine go (r:=?_);and_intros<;>intros<;>try exact True.intro
 all_goals simp_all⟩
end Go.Proofs.YtndflfipaddfoaaGreat


namespace Go.Proofs.YtndflfipaddfoaaGreat
open Go Go.Abs
theorem eq_all {α:Type} (z:α) {xs ys:List α} (hl:xs.length=ys.length) (h:∀j<xs.length,xs.getD j z=ys.getD j z):xs=ys:=by
 apply List.ext_getElem hl
 intro i h1 h2
 have:=h i h1
 simpa [h1,h2] using this
abbrev IN (l:List Int):AObj:=⟨ints l,0,1,none⟩
abbrev HdA (w h q:Int) (b d:Bool) (l:List Int):AV:=.agg [I w,I h,I q,B b,B d,IL l]
abbrev StA (w h q:Int) (b d:Bool) (l:List Int) (M:List Mbk):AV:=.agg [I w,I h,I q,B b,B d,IL l,.imm 2 M.length (rows mbI M)]
abbrev BkL (l:List Blok):AV:=.imm 2 l.length (rows blkI l)
abbrev MbL (l:List Mbk):AV:=.imm 2 l.length (rows mbI l)
abbrev BkO (l:List Blok):AObj:=⟨rows blkF l,0,2,some 92⟩
abbrev MbO (l:List Mbk):AObj:=⟨rows mbF l,0,2,some 67⟩
def bn (b:Blok):Nat:=b.2.length
def bw (l:List Blok):Nat:=l.length+(l.map bn).sum
def mn (m:Mbk):Nat:=bw m.2
def mw (l:List Mbk):Nat:=l.length+(l.map mn).sum
@[irreducible] def SmB (c:Nat) (l:List Blok):Prop:=∀b∈l,b.2.length≤c
@[irreducible] def SmM (c:Nat) (l:List Mbk):Prop:=∀m∈l,m.2.length≤c∧SmB c m.2
theorem smB_get {c:Nat} {l:List Blok} (h:SmB c l) {k:Nat} (hk:k<l.length):(l.getD k default).2.length≤c:=by
 unfold SmB at h;exact h _ (by simp [hk])
theorem smM_get {c:Nat} {l:List Mbk} (h:SmM c l) {k:Nat} (hk:k<l.length):(l.getD k default).2.length≤c∧SmB c (l.getD k default).2:=by
 unfold SmM at h;exact h _ (by simp [hk])
theorem sum_mem {α:Type} (f:α→Nat) {l:List α} {a:α} (h:a∈l):f a≤(l.map f).sum:=by
 induction l with
 |nil=>cases h
 |cons b l ih=>
  rw [List.map_cons,List.sum_cons]
  rcases List.mem_cons.1 h with rfl|h
  ·omega
  ·have:=ih h;omega
theorem smB_of {c:Nat} {l:List Blok} (h:bw l≤c):SmB c l:=by
 unfold SmB bw at*
 intro b hb
 have:bn b≤_:=sum_mem bn hb
 unfold bn at this;unfold bn at h;omega
theorem smM_of {c:Nat} {l:List Mbk} (h:mw l≤c):SmM c l:=by
 unfold SmM mw at*
 intro m hm
 have h1:mn m≤_:=sum_mem mn hm
 have h2:bw m.2≤c:=by unfold mn at *;omega
 exact ⟨by unfold bw at h2;omega,smB_of h2⟩
theorem take_snoc {α:Type} [Inhabited α] (l:List α) (i:Nat) (h:i<l.length):l.take (i+1)=l.take i++[l.getD i default]:=by
 rw [List.take_succ_eq_append_getElem h];simp [h]
abbrev XI (l:List Int):AObj:=⟨ints l,0,1,some 3⟩
end Go.Proofs.YtndflfipaddfoaaGreat


namespace Go.Proofs.YtndflfipaddfoaaGreat
open Go Go.Abs
attribute [local irreducible] WpA WpL Rnd Blk Abs.Seq Abs.Fin Abs.FinG FnC FnG Only
theorem wrap64 (p:Int) (h:-9223372036854775808≤p∧p≤9223372036854775807):IntKind.i64.wrap p=p:=IntWalk.i64_in p h
def stepX (q:Int):Int:=IntKind.i64.wrap (([8,9,10,11,13,14]:List Int).getD (q%6).toNat 0*2 ^ (q/6).toNat)
theorem stepX_bd (q:Int) (h:0≤q∧q≤51):8≤stepX q∧stepX q≤4000:=by
 have key:∀k:Fin 52,8≤stepX k.val∧stepX k.val≤4000:=by decide
 obtain ⟨k,rfl⟩:∃k:Nat,q=k:=⟨q.toNat,by omega⟩
 exact key ⟨k,by omega⟩
def stepL (q:Int):Int:=if 0≤q∧q≤51 then stepX q/8 else 0
theorem stepL_in (q:Int) (h:0≤q∧q≤51):1≤stepL q∧stepL q≤500:=by
 have:=stepX_bd q h
 rw [stepL,if_pos h];omega
theorem stepL_pos (q:Int):0<stepL q↔0≤q∧q≤51:=by
 by_cases h:0≤q∧q≤51
 ·have:=stepL_in q h;constructor<;>intro _<;>omega
 ·rw [stepL,if_neg h];constructor<;>intro _<;>omega
instance StepOf_s:Con 165 (∀ q:Int,Fn 165 [I q] [] (I (stepL q))):=⟨fun q=>by
 refine FnC.of_body tabOk Tryz.func165 Tryz.ntmps165 rfl (by decide +kernel) (by simp) fun G=>?_
 have hx:=stepX_bd q
 unfold stepX at hx
 refine go (r:=?_);and_intros<;>intros<;>try exact True.intro
 all_goals first|(rw [stepL,if_neg (by assumption)];done)|(rw [stepL,if_pos (by assumption)];rfl)⟩
instance StepOf_c:Con 283 (∀ q:Int,Fn 283 [I q] [] (I (stepL q))):=⟨fun q=>by
 refine FnC.of_body tabOk Tryz.func283 Tryz.ntmps283 rfl (by decide +kernel) (by simp) fun G=>?_
 have hx:=stepX_bd q
 unfold stepX at hx
 refine go (r:=?_);and_intros<;>intros<;>try exact True.intro
 all_goals first|(rw [stepL,if_neg (by assumption)];done)|(rw [stepL,if_pos (by assumption)];rfl)⟩
def cw (n:Int):Int:=if 0<n then 2 ^ (7-n).toNat else 0
theorem cw_wrap (n:Int) (h:0≤n∧n≤7) (h0:n>0):IntKind.i64.wrap (1*2 ^ (7-n).toNat)=cw n∧1≤cw n∧cw n≤64:=by
 have key:∀k:Fin 8,0<k.val→IntKind.i64.wrap (1*2 ^ (7-(k.val:Int)).toNat)=cw k.val∧1≤cw k.val∧cw k.val≤64:=by decide
 obtain ⟨k,rfl⟩:∃k:Nat,n=k:=⟨n.toNat,by omega⟩
 exact key ⟨k,by omega⟩ (show 0<k by omega)
def csum (l:List Int):Int:=(l.map cw).sum
theorem csum_snoc (l:List Int) (k:Nat) (h:k<l.length):csum (l.take (k+1))=csum (l.take k)+cw (l.getD k 0):=by
 unfold csum;rw [List.take_succ_eq_append_getElem h,List.map_append,List.sum_append];simp [h]
def CodeOk (l:List Int):Prop:=In l 0 7∧l.length=6∧csum l=128
instance (l:List Int):Decidable (CodeOk l):=by unfold CodeOk;infer_instance
instance CodeOk_s:Con 53 (∀ l:List Int,l.length≤1099511627776→Fn 53 [IL l] [] (B (decide (CodeOk l)))):=⟨fun l hl=>by
 refine FnC.of_body tabOk Tryz.func53 Tryz.ntmps53 rfl (by decide +kernel) (by simp) fun G=>?_
 refine go (r:=?_);and_intros<;>intros<;>try exact True.intro
 refine WpA.loop (fun k:Nat=>⟨[(0,IL l),(3,I (csum (l.take k))),(4,I k)],[]⟩) (fun k=>k≤l.length∧In (l.take k) 0 7∧0≤csum (l.take k)∧csum (l.take k)≤64*k) (fun k=>l.length-k) 0 (by simp [in_nil,csum]) (go (r:=?_)) (fun k hk=>?_)
 ·simp [csum]
 have hs:=fun h=>csum_snoc l k h
 have hi:=fun h=>in_snoc (lo:=0) (hi:=7) (l:=l) (k:=k) h
 have hw:=cw_wrap (l.getD k 0)
 have hw0:¬l.getD k 0>0→cw (l.getD k 0)=0:=fun h=>by unfold cw;rw [if_neg (by omega)]
 refine go (r:=?_);and_intros<;>intros<;>try exact True.intro
 ·have:=notin (k:=k) (by omega) ‹¬ (0≤l.getD k 0∧_)›;rw [eq_comm,decide_eq_false_iff_not] at *;exact fun h=>this h.1
 ·rw [hi (by omega)];exact ⟨hk.2.1,‹_›⟩
 ·rw [hi (by omega)];exact ⟨hk.2.1,‹_›⟩
 all_goals have e:k=l.length:=by omega
 all_goals subst e
 all_goals rw [List.take_length] at*
 ·have h6:l.length=6:=by omega
  simp [CodeOk,hk.2.1,h6]
 ·have h6:¬l.length=6:=by omega
  simp [CodeOk,h6]⟩
instance CodeOk_c:Con 182 (∀ l:List Int,l.length≤1099511627776→Fn 182 [IL l] [] (B (decide (CodeOk l)))):=⟨fun l hl=>by
 refine FnC.of_body tabOk Tryz.func182 Tryz.ntmps182 rfl (by decide +kernel) (by simp) fun G=>?_
 refine go (r:=?_);and_intros<;>intros<;>try exact True.intro
 refine WpA.loop (fun k:Nat=>⟨[(0,IL l),(3,I (csum (l.take k))),(6,IL l),(7,I l.length),(8,I k)],[]⟩) (fun k=>k≤l.length∧In (l.take k) 0 7∧0≤csum (l.take k)∧csum (l.take k)≤64*k) (fun k=>l.length-k) 0 (by simp [in_nil,csum]) (go (r:=?_)) (fun k hk=>?_)
 ·simp [csum]
 have hs:=fun h=>csum_snoc l k h
 have hi:=fun h=>in_snoc (lo:=0) (hi:=7) (l:=l) (k:=k) h
 have hw:=cw_wrap (l.getD k 0)
 have hw0:¬l.getD k 0>0→cw (l.getD k 0)=0:=fun h=>by unfold cw;rw [if_neg (by omega)]
 refine go (r:=?_);and_intros<;>intros<;>try exact True.intro
 ·have:=notin (k:=k) (by omega) ‹¬ (0≤l.getD k 0∧_)›;rw [eq_comm,decide_eq_false_iff_not] at *;exact fun h=>this h.1
 ·rw [hi (by omega)];exact ⟨hk.2.1,‹_›⟩
 ·rw [hi (by omega)];exact ⟨hk.2.1,‹_›⟩
 all_goals have e:k=l.length:=by omega
 all_goals subst e
 all_goals rw [List.take_length] at*
 ·have h6:l.length=6:=by omega
  simp [CodeOk,hk.2.1,h6]
 ·have h6:¬l.length=6:=by omega
  simp [CodeOk,h6]⟩
def cIn (w:Int) (l:List Int):Nat→List Int×Int→List Int×Int
 |0,s=>s
 |i+1,s=>if l.getD i 0=w then ((cIn w l i s).1.set i (cIn w l i s).2,(cIn w l i s).2+1) else cIn w l i s
def cOut (l:List Int):Nat→List Int×Int
 |0=>(List.replicate l.length (-1),0)
 |w+1=>cIn ((w:Int)+1) l l.length ((cOut l w).1,(cOut l w).2*2)
def codes (l:List Int):List Int:=(cOut l 7).1
theorem cIn_len (w:Int) (l:List Int):∀(i:Nat) (s:List Int×Int),(cIn w l i s).1.length=s.1.length
 |0,s=>rfl
 |i+1,s=>by
  rw [cIn];split
  ·rw [List.length_set];exact cIn_len w l i s
  ·exact cIn_len w l i s
theorem cOut_len (l:List Int):∀w,(cOut l w).1.length=l.length
 |0=>by simp [cOut]
 |w+1=>by rw [cOut,cIn_len,cOut_len l w]
theorem codes_len (l:List Int):(codes l).length=l.length:=cOut_len l 7
theorem cIn_bd (w:Int) (l:List Int):∀(i:Nat) (s:List Int×Int),s.2≤(cIn w l i s).2∧(cIn w l i s).2≤s.2+i
 |0,s=>by simp [cIn]
 |i+1,s=>by rw [cIn];have:=cIn_bd w l i s;split<;>first|(simp only;omega)|omega
theorem cOut_bd (l:List Int) (h:l.length=6):∀w,0≤(cOut l w).2∧(cOut l w).2≤6*(2 ^ w-1)
 |0=>by simp [cOut]
 |w+1=>by
  rw [cOut]
  have h1:=cIn_bd ((w:Int)+1) l l.length ((cOut l w).1,(cOut l w).2*2)
  have h2:=cOut_bd l h w
  simp only at h1
  rw [Int.pow_succ];omega
theorem cOut_bd7 (l:List Int) (h:l.length=6) (w:Nat) (hw:w≤7):0≤(cOut l w).2∧(cOut l w).2≤768:=by
 have h1:=cOut_bd l h w
 have:(2:Int) ^ w≤2 ^ 7:=by
  have:=Nat.pow_le_pow_right (n:=2) (by decide) hw
  exact_mod_cast this
 omega
def codesR (l:List Int):List Int:=if CodeOk l then codes l else []
theorem codesR_len (l:List Int) (h:CodeOk l):(codesR l).length=6:=by rw [codesR,if_pos h,codes_len,h.2.1]
theorem codesR_ok (l:List Int) (h:CodeOk l):codesR l=codes l:=by rw [codesR,if_pos h]
theorem codesR_no (l:List Int) (h:¬CodeOk l):codesR l=[]:=by rw [codesR,if_neg h]
theorem cIn_yes {w:Int} {l:List Int} {i:Nat} {s:List Int×Int} (h:l.getD i 0=w):cIn w l (i+1) s=((cIn w l i s).1.set i (cIn w l i s).2,(cIn w l i s).2+1):=by rw [cIn,if_pos h]
theorem cIn_no {w:Int} {l:List Int} {i:Nat} {s:List Int×Int} (h:¬l.getD i 0=w):cIn w l (i+1) s=cIn w l i s:=by rw [cIn,if_neg h]
instance CodesOf_s:Con 122 (∀ l:List Int,l.length≤1099511627776→Fn 122 [IL l] [XI (codesR l)] (.own 0 0 0 (codesR l).length)):=⟨fun l hl=>by
 refine FnC.of_body tabOk Tryz.func122 Tryz.ntmps122 rfl (by decide +kernel) (by simp) fun G=>?_
 refine go (r:=?_);and_intros<;>intros<;>try exact True.intro
 ·rw [codesR_no l ‹_›];rfl
 ·rw [codesR_no l ‹_›]
 have hok:CodeOk l:=‹_›
 have h6:=hok.2.1
 refine WpA.loop (fun k:Nat=>⟨[(0,IL l),(3,.own 0 0 0 k),(4,I k)],[XI (List.replicate k (-1))]⟩) (fun k=>k≤l.length) (fun k=>l.length-k) 0 (by simp) (go (r:=trivial)) (fun k hk=>?_)
 refine go (r:=?_);and_intros<;>intros<;>try exact True.intro
 ·rw [List.replicate_succ']
 have e:k=l.length:=by omega
 subst e
 refine WpA.loop (fun w:Nat=>⟨[(0,IL l),(3,.own 0 0 0 l.length),(5,I (cOut l w).2),(6,I ((w:Int)+1))],[XI (cOut l w).1]⟩) (fun w=>w≤7) (fun w=>7-w) 0 (by simp) (go (r:=?_)) (fun w hw=>?_)
 ·simp [cOut]
 have hb:=cOut_bd7 l h6 w hw
 refine go (r:=?_);and_intros<;>intros<;>try exact True.intro
 ·refine WpA.loop (fun i:Nat=>⟨[(0,IL l),(3,.own 0 0 0 l.length),(5,I (cIn ((w:Int)+1) l i ((cOut l w).1,(cOut l w).2*2)).2),(6,I ((w:Int)+1)),(7,I i)],[XI (cIn ((w:Int)+1) l i ((cOut l w).1,(cOut l w).2*2)).1]⟩) (fun i=>i≤l.length) (fun i=>l.length-i) 0 (by simp) (go (r:=?_)) (fun i hi=>?_)
  ·simp [cIn]
  have hb2:=cIn_bd ((w:Int)+1) l i ((cOut l w).1,(cOut l w).2*2)
  have hl2:=cIn_len ((w:Int)+1) l i ((cOut l w).1,(cOut l w).2*2)
  have hl3:=cOut_len l w
  simp only at hb2 hl2
  refine go (r:=?_);and_intros<;>intros<;>try exact True.intro
  ·rw [cIn_yes (by assumption)]
  ·rw [cIn_yes (by assumption)];rfl
  ·rw [cIn_no (by assumption)]
  ·rw [cIn_no (by assumption)]
  all_goals have e:i=l.length:=by omega
  all_goals subst e;rfl
 all_goals have e:w=7:=by omega
 all_goals subst e
 ·rw [codesR_len l hok,h6]
 ·rw [codesR_ok l hok];rfl⟩
instance CodesOf_c:ConB 265 (∀ l:List Int,l.length≤1099511627776→Bn 265 [IL l] (CodeOk l) [XI (codes l)] (.own 0 0 0 6) [] .nilS):=⟨fun l hl=>by
 refine ⟨fun hok=>?_,fun hno=>?_⟩
 ·have h6:=hok.2.1
  refine FnC.of_body tabOk Tryz.func265 Tryz.ntmps265 rfl (by decide +kernel) (by simp) fun G=>?_
  refine go (r:=?_);and_intros<;>intros<;>try exact True.intro
  all_goals first|(exact absurd hok ‹¬ CodeOk l›)|skip
  refine WpA.loop (fun w:Nat=>⟨[(0,IL l),(3,.own 0 0 0 l.length),(4,I (cOut l w).2),(5,I ((w:Int)+1))],[XI (cOut l w).1]⟩) (fun w=>w≤7) (fun w=>7-w) 0 (by simp) (go (r:=?_)) (fun w hw=>?_)
  ·simp [cOut,h6]
  have hb:=cOut_bd7 l h6 w hw
  have hsh:IntKind.i64.wrap ((cOut l w).2*2)=(cOut l w).2*2:=wrap64 _ (by omega)
  refine go (r:=?_);and_intros<;>intros<;>try exact True.intro
  ·refine WpA.loop (fun i:Nat=>⟨[(0,IL l),(3,.own 0 0 0 l.length),(4,I (cIn ((w:Int)+1) l i ((cOut l w).1,(cOut l w).2*2)).2),(5,I ((w:Int)+1)),(18,IL l),(19,I l.length),(20,I i)],[XI (cIn ((w:Int)+1) l i ((cOut l w).1,(cOut l w).2*2)).1]⟩) (fun i=>i≤l.length) (fun i=>l.length-i) 0 (by simp) (go (r:=?_)) (fun i hi=>?_)
   ·simp [cIn,hsh]
   have hb2:=cIn_bd ((w:Int)+1) l i ((cOut l w).1,(cOut l w).2*2)
   have hl2:=cIn_len ((w:Int)+1) l i ((cOut l w).1,(cOut l w).2*2)
   have hl3:=cOut_len l w
   simp only at hb2 hl2
   refine go (r:=?_);and_intros<;>intros<;>try exact True.intro
   ·rw [cIn_yes (by assumption)]
   ·rw [cIn_yes (by assumption)];rfl
   ·rw [cIn_no (by assumption)]
   ·rw [cIn_no (by assumption)]
   all_goals have e:i=l.length:=by omega
   all_goals subst e;rfl
  all_goals have e:w=7:=by omega
  all_goals subst e;rfl
 ·refine FnC.of_body tabOk Tryz.func265 Tryz.ntmps265 rfl (by decide +kernel) (by simp) fun G=>?_
  refine go (r:=?_);and_intros<;>intros<;>try exact True.intro
  all_goals exact absurd ‹CodeOk l› hno⟩
def bitOk (n w:Int):Prop:=(0≤w∧w≤48)∧0≤n∧n/2 ^ w.toNat=0
instance (n w:Int):Decidable (bitOk n w):=by unfold bitOk;infer_instance
def bitsR (n:Int) (w:Nat) (k:Nat):List Int:=(List.range k).map fun j:Nat=>n/2 ^ (w-1-j)%2
def bitsL (n w:Int):List Int:=if bitOk n w then bitsR n w.toNat w.toNat else []
theorem bitsR_len (n:Int) (w k:Nat):(bitsR n w k).length=k:=by simp [bitsR]
theorem bitsR_snoc (n:Int) (w k:Nat):bitsR n w (k+1)=bitsR n w k++[n/2 ^ (w-1-k)%2]:=by simp [bitsR,List.range_succ]
theorem bitsL_len (n w:Int):(bitsL n w).length≤48:=by
 unfold bitsL;split
 ·rename_i h;rw [bitsR_len];have:=h.1;omega
 ·simp
theorem low1 (k:Int) (h:0≤k∧k≤9223372036854775807):IntKind.i64.wrap ((BitVec.ofInt IntKind.i64.bits k &&& BitVec.ofInt IntKind.i64.bits 1).toNat:Nat)=k%2:=by
 obtain ⟨m,rfl⟩:∃m:Nat,k=m:=⟨k.toNat,by omega⟩
 have e1:(BitVec.ofInt IntKind.i64.bits (m:Int)).toNat=m:=by simp only [IntKind.bits,BitVec.toNat_ofInt];omega
 have e:(BitVec.ofInt IntKind.i64.bits (m:Int) &&& BitVec.ofInt IntKind.i64.bits 1).toNat=m%2:=by
  rw [BitVec.toNat_and,e1,show (BitVec.ofInt IntKind.i64.bits (1:Int)).toNat=2 ^ 1-1 from by decide,Nat.and_two_pow_sub_one_eq_mod]
 rw [e,wrap64 _ (by omega)];omega
theorem shr_bd (n:Int) (k:Nat) (h:0≤n):0≤n/2 ^ k∧n/2 ^ k≤n:=by
 constructor
 ·exact Int.ediv_nonneg h (Int.le_of_lt (Int.pow_pos (by decide)))
 ·exact Int.ediv_le_self _ h
instance BitsIn_s:Con 187 (∀ n w:Int,n≤9223372036854775807→Fn 187 [I n,I w] [XI (bitsL n w)] (.own 0 0 0 (bitsL n w).length)):=⟨fun n w hn=>by
 refine FnC.of_body tabOk Tryz.func187 Tryz.ntmps187 rfl (by decide +kernel) (by simp) fun G=>?_
 refine go (r:=?_);and_intros<;>intros<;>try exact True.intro
 all_goals first|(rw [bitsL,if_neg (by unfold bitOk;omega)];done)|(rw [bitsL,if_neg (by unfold bitOk;omega)];rfl)|skip
 have hok:bitOk n w:=⟨‹_›,by omega,‹_›⟩
 obtain ⟨⟨h0,h48⟩,hn0,_⟩:=id hok
 obtain ⟨W,rfl⟩:∃W:Nat,w=W:=⟨w.toNat,by omega⟩
 refine WpA.loop (fun k:Nat=>⟨[(0,I n),(5,.own 0 0 0 k),(6,I ((W:Int)-1-k))],[XI (bitsR n W k)]⟩) (fun k=>k≤W) (fun k=>W-k) 0 (by simp) (go (r:=?_)) (fun k hk=>?_)
 ·simp [bitsR]
 have hl:=bitsR_len n W k
 have hb:=shr_bd n ((W:Int)-1-k).toNat hn0
 refine go (r:=?_);and_intros<;>intros<;>try exact True.intro
 ·rw [bitsR_snoc,low1 _ (by omega)];congr 6;omega
 all_goals have e:k=W:=by omega
 all_goals subst e
 ·rw [bitsL,if_pos hok,bitsR_len];rfl
 ·rw [bitsL,if_pos hok];rfl⟩
instance BitsIn_c:Con 257 (∀ n w:Int,n≤9223372036854775807→Fn 257 [I n,I w] [XI (bitsL n w)] (.own 0 0 0 (bitsL n w).length)):=⟨fun n w hn=>by
 refine FnC.of_body tabOk Tryz.func257 Tryz.ntmps257 rfl (by decide +kernel) (by simp) fun G=>?_
 refine go (r:=?_);and_intros<;>intros<;>try exact True.intro
 all_goals first|(rw [bitsL,if_neg (by unfold bitOk;omega)];done)|(rw [bitsL,if_neg (by unfold bitOk;omega)];rfl)|skip
 have hok:bitOk n w:=⟨‹_›,by omega,‹_›⟩
 obtain ⟨⟨h0,h48⟩,hn0,_⟩:=id hok
 obtain ⟨W,rfl⟩:∃W:Nat,w=W:=⟨w.toNat,by omega⟩
 refine WpA.loop (fun k:Nat=>⟨[(0,I n),(5,.own 0 0 0 k),(6,I ((W:Int)-1-k))],[XI (bitsR n W k)]⟩) (fun k=>k≤W) (fun k=>W-k) 0 (by simp) (go (r:=?_)) (fun k hk=>?_)
 ·simp [bitsR]
 have hl:=bitsR_len n W k
 have hb:=shr_bd n ((W:Int)-1-k).toNat hn0
 refine go (r:=?_);and_intros<;>intros<;>try exact True.intro
 ·rw [bitsR_snoc,low1 _ (by omega)];congr 6;omega
 all_goals have e:k=W:=by omega
 all_goals subst e
 ·rw [bitsL,if_pos hok,bitsR_len];rfl
 ·rw [bitsL,if_pos hok];rfl⟩
def OptOk (q:Int) (l:List Int):Prop:=(0≤q∧q≤51)∧CodeOk l
instance (q:Int) (l:List Int):Decidable (OptOk q l):=by unfold OptOk;infer_instance
end Go.Proofs.YtndflfipaddfoaaGreat


namespace Go.Proofs.YtndflfipaddfoaaGreat
open Go Go.Abs
attribute [local irreducible] WpA WpL Rnd Blk Abs.Seq Abs.Fin Abs.FinG FnC FnG Only
end Go.Proofs.YtndflfipaddfoaaGreat


namespace Go.Proofs.YtndflfipaddfoaaGreat
open Go Go.Abs
attribute [local irreducible] WpA WpL Rnd Blk Abs.Seq Abs.Fin Abs.FinG FnC FnG Only
instance l22Flag_s:Con 189 (∀ b:Bool,Fn 189 [B b] [] (I (bif b then 1 else 0))):=⟨fun b=>by
 cases b
 ·refine FnC.of_body tabOk Tryz.func189 Tryz.ntmps189 rfl (by decide +kernel) (by simp) fun G=>?_
  refine go (r:=?_);and_intros<;>intros<;>try exact True.intro
  all_goals rfl
 ·refine FnC.of_body tabOk Tryz.func189 Tryz.ntmps189 rfl (by decide +kernel) (by simp) fun G=>?_
  refine go (r:=?_);and_intros<;>intros<;>try exact True.intro
  all_goals rfl⟩
def nolL (v:Int):Int:=if v>0 then 2*v-2 else if v<0 then -2*v-1 else -1
instance NumOfLevel_s:Con 209 (∀ v:Int,-1000000≤v∧v≤1000000→Fn 209 [I v] [] (I (nolL v))):=⟨fun v hv=>by
 unfold nolL
 refine FnC.of_body tabOk Tryz.func209 Tryz.ntmps209 rfl (by decide +kernel) (by simp) fun G=>?_
 refine go (r:=?_);and_intros<;>intros<;>try exact True.intro
 all_goals (repeat' split)<;>omega⟩
theorem lg_lo (x:Nat) (h:0<x):2 ^ Nat.log2 x≤x:=Nat.log2_self_le (by omega)
theorem lg_hi (x:Nat):x<2 ^ (Nat.log2 x+1):=Nat.lt_log2_self
theorem lg_lt {x z:Nat} (hz:z<Nat.log2 x) (h:0<x):x/2 ^ (z+1)≠0:=by
 have h1:=lg_lo x h
 have h2:2 ^ (z+1)≤2 ^ Nat.log2 x:=Nat.pow_le_pow_right (by decide) hz
 have:=Nat.div_pos (Nat.le_trans h2 h1) (Nat.pow_pos (by decide))
 omega
theorem lg_end (x:Nat):x/2 ^ (Nat.log2 x+1)=0:=Nat.div_eq_of_lt (lg_hi x)
theorem lg_16 {x:Nat} (h0:0<x) (h:x≤65535):Nat.log2 x≤15:=by
 rcases Nat.lt_or_ge (Nat.log2 x) 16 with h1|h1
 ·omega
 ·have:=lg_lo x h0
  have:2 ^ 16≤2 ^ Nat.log2 x:=Nat.pow_le_pow_right (by decide) h1
  omega
instance l6Zeros_s:Con 206 (∀ n:Nat,n≤65534→Fn 206 [I n] [] (I (Nat.log2 (n+1)))):=⟨fun n hn=>by
 have h16:=lg_16 (x:=n+1) (by omega) (by omega)
 have hend:=lg_end (n+1)
 refine FnC.of_body tabOk Tryz.func206 Tryz.ntmps206 rfl (by decide +kernel) (by simp) fun G=>?_
 refine go (r:=?_);and_intros<;>intros<;>try exact True.intro
 refine WpA.loop (fun z:Nat=>⟨[(0,I n),(3,I z)],[]⟩) (fun z=>z≤Nat.log2 (n+1)) (fun z=>16-z) 0 (by omega) (go (r:=?_)) (fun z hz=>?_)
 ·trivial
 have hlt:=fun h=>lg_lt (x:=n+1) (z:=z) h (by omega)
 have hc:((n:Int)+1)/2 ^ ((z:Int)+1).toNat=(((n+1)/2 ^ (z+1):Nat):Int):=by
  rw [show ((z:Int)+1).toNat=z+1 by omega];push_cast;rfl
 rcases Nat.lt_or_ge z (Nat.log2 (n+1)) with hz2|hz2
 ·have hlt:=hlt hz2
  refine go (r:=?_);and_intros<;>intros<;>try exact True.intro
 ·have e:z=Nat.log2 (n+1):=by omega
  refine go (r:=?_);and_intros<;>intros<;>try exact True.intro
  rename_i hg;rw [hc,e,hend] at hg;exact absurd rfl hg⟩
def ueL (n:Int):List Int:=if 0≤n∧n≤65534 then List.replicate (Nat.log2 (n.toNat+1)) 0++bitsL (n+1) (Nat.log2 (n.toNat+1)+1) else []
theorem ueL_len (n:Int):(ueL n).length≤64:=by
 unfold ueL;split
 ·rename_i h
  have h1:=lg_16 (x:=n.toNat+1) (by omega) (by omega)
  have h2:=bitsL_len (n+1) ((Nat.log2 (n.toNat+1):Nat)+1)
  simp only [List.length_append,List.length_replicate];omega
 ·simp
theorem bitOk_ue {n:Nat} (w:Nat) (h:n≤65534) (hw:Nat.log2 (n+1)+1≤w) (hw2:w≤48):bitOk ((n:Int)+1) w:=by
 refine ⟨by omega,by omega,?_⟩
 have h1:=lg_hi (n+1)
 have h2:2 ^ (Nat.log2 (n+1)+1)≤2 ^ w:=Nat.pow_le_pow_right (by decide) hw
 have h3:(n+1)/2 ^ w=0:=Nat.div_eq_of_lt (by omega)
 have h4:(((n+1)/2 ^ w:Nat):Int)=0:=by rw [h3];rfl
 rw [Int.toNat_natCast];push_cast at h4;exact h4
theorem bits_wide {n:Nat} {z:Nat} (h:n≤65534) (hz:z=Nat.log2 (n+1)):bitsL ((n:Int)+1) ((2*z+1:Nat):Int)=List.replicate z 0++bitsL ((n:Int)+1) ((z+1:Nat):Int):=by
 have h16:=lg_16 (x:=n+1) (by omega) (by omega)
 have o1:=bitOk_ue (n:=n) (2*z+1) h (by omega) (by omega)
 have o2:=bitOk_ue (n:=n) (z+1) h (by omega) (by omega)
 rw [bitsL,if_pos o1,bitsL,if_pos o2,Int.toNat_natCast,Int.toNat_natCast]
 apply List.ext_getElem?
 intro q
 rcases Nat.lt_or_ge q z with hq|hq
 ·rw [List.getElem?_append_left (by simpa using hq),List.getElem?_replicate,if_pos hq]
  unfold bitsR
  rw [List.getElem?_map,List.getElem?_range (by omega)]
  simp only [Option.map_some]
  congr 1
  have h5:(n+1)/2 ^ (2*z+1-1-q)=0:=Nat.div_eq_of_lt (by
   have h1:=lg_hi (n+1)
   have h2:2 ^ (Nat.log2 (n+1)+1)≤2 ^ (2*z+1-1-q):=Nat.pow_le_pow_right (by decide) (by omega)
   omega)
  have h6:(((n+1)/2 ^ (2*z+1-1-q):Nat):Int)=0:=by rw [h5];rfl
  have h7:((n:Int)+1)/2 ^ (2*z+1-1-q)=0:=by
   have e:(((n+1)/2 ^ (2*z+1-1-q):Nat):Int)=((n:Int)+1)/2 ^ (2*z+1-1-q):=by rw [Int.natCast_ediv,Int.natCast_add,Int.natCast_pow];rfl
   rw [←e];exact h6
  rw [h7];rfl
 ·rw [List.getElem?_append_right (by simpa using hq),List.length_replicate]
  unfold bitsR
  rcases Nat.lt_or_ge q (2*z+1) with hq2|hq2
  ·rw [List.getElem?_map,List.getElem?_range (by omega),List.getElem?_map,List.getElem?_range (by omega)]
   simp only [Option.map_some]
   congr 4;omega
  ·rw [List.getElem?_eq_none (by simpa using hq2),List.getElem?_eq_none (by simp;omega)]
theorem ueL_wide {n:Nat} (h:n≤65534):bitsL ((n:Int)+1) ((2*Nat.log2 (n+1)+1:Nat):Int)=ueL n:=by
 rw [bits_wide h rfl,ueL,if_pos ⟨by omega,by omega⟩]
 simp
instance UeBits_s:Con 188 (∀ n:Int,Fn 188 [I n] [XI (ueL n)] (.own 0 0 0 (ueL n).length)):=⟨fun n=>by
 refine FnC.of_body tabOk Tryz.func188 Tryz.ntmps188 rfl (by decide +kernel) (by simp) fun G=>?_
 by_cases h:0≤n∧n≤65534
 ·obtain ⟨N,rfl⟩:∃N:Nat,n=N:=⟨n.toNat,by omega⟩
  have h16:=lg_16 (x:=N+1) (by omega) (by omega)
  have hu:ueL N=List.replicate (Nat.log2 (N+1)) 0++bitsL ((N:Int)+1) ((Nat.log2 (N+1):Nat)+1):=by rw [ueL,if_pos h,Int.toNat_natCast]
  have hbl:=bitsL_len ((N:Int)+1) ((Nat.log2 (N+1):Nat)+1)
  generalize hz:Nat.log2 (N+1)=z at hu h16 hbl
  repeat (refine K.A ?_;refine WpA.seq ?_)
  refine K.A ?_
  refine WpA.regionF rfl ?_
  refine WpL.assign rfl (by decide) ?_
  refine WpL.nil ?_
  refine Abs.Seq.n ?_
  repeat (refine K.A ?_;refine WpA.seq ?_)
  refine K.A ?_
  refine WpA.regionF rfl ?_
  refine WpL.move rfl (by decide) ?_
  refine K.call ?_
  refine K.con (fun hcon=>?_)
  refine WpL.call0 (hcon _ _ _) snapA locA rfl rfl (by decide) ?_
  clear hcon
  refine WpL.not rfl (by decide) ?_
  refine WpL.nil ?_
  refine Abs.Seq.n ?_
  repeat (refine K.A ?_;refine WpA.seq ?_)
  refine K.A ?_
  refine WpA.condN rfl (fun hin=>absurd h hin) (fun hin=>?_)
  refine K.A ?_
  refine WpA.skip ?_
  refine Abs.Seq.n ?_
  repeat (refine K.A ?_;refine WpA.seq ?_)
  refine K.A ?_
  refine WpA.regionF rfl ?_
  refine WpL.move rfl (by decide) ?_
  refine K.call ?_
  refine K.con (fun hcon=>?_)
  refine WpL.call0 (hcon N (by omega)) snapA locA rfl rfl (by decide) ?_
  clear hcon
  rw [hz]
  refine WpL.assign rfl (by decide) ?_
  refine WpL.nil ?_
  refine Abs.Seq.n ?_
  repeat (refine K.A ?_;refine WpA.seq ?_)
  refine K.A ?_
  apply WpA.regionQF (O:=[]) (Or:=[]) (O1:=[⟨ints (List.replicate z 0),1,1,some 3⟩,⟨ints (bitsL ((N:Int)+1) ((z:Int)+1)),1,1,some 3⟩,deadO,deadO]) 7 2 [] rfl mixed (by decide +kernel)
  ·exact rfl
  ·apply HeadQ.consF .none rfl
   ·exact rfl
   ·exact in1
   ·exact rfl
   ·exact rfl
   apply HeadQ.consF (V:=.own 0 1 0 z) (.put 0 (⟨ints (List.replicate z 0),1,1,some 3⟩)) rfl
   ·exact rfl
   ·intro Tv Ov hc hp hd hk
    refine WpL.makeInts tabOk rfl rfl rfl (by omega) (by omega) (id:=([]++Ov).length) (by rw [nid_len,Nat.zero_add]) (by decide) ?_;rw [Int.toNat_natCast]
    apply WpL.putNil (p:=0)
    ·exact hp 0 _ rfl
    ·exact Nat.zero_le _
    ·exact rfl
    ·first|exact still_ints _|exact still_rows (fun _=>rfl) _|rfl
   ·exact rfl
   ·exact rfl
   apply HeadQ.consF .none rfl
   ·exact rfl
   ·exact in1
   ·exact rfl
   ·exact rfl
   apply HeadQ.consF .none rfl
   ·exact rfl
   ·exact in1
   ·exact rfl
   ·exact rfl
   apply HeadQ.consF .none rfl
   ·exact rfl
   ·exact in1
   ·exact rfl
   ·exact rfl
   apply HeadQ.consF .none rfl
   ·exact rfl
   ·exact in1
   ·exact rfl
   ·exact rfl
   apply HeadQ.consF (V:=.own 1 1 0 (bitsL ((N:Int)+1) ((z:Int)+1)).length) (.put 1 (⟨ints (bitsL ((N:Int)+1) ((z:Int)+1)),1,1,some 3⟩)) rfl
   ·exact rfl
   ·intro Tv Ov hc hp hd hk
    refine K.call ?_
    refine K.con (fun hcon=>?_)
    refine WpL.callF (hcon ((N:Int)+1) ((z:Int)+1) (by omega)) snapA locA outA (cnt_some _ 0) rfl rfl (by decide) ?_
    rw [Nat.zero_add]
    apply WpL.putNil (p:=1)
    ·exact hp 1 _ rfl
    ·exact Nat.zero_le _
    ·exact rfl
    ·first|exact still_ints _|exact still_rows (fun _=>rfl) _|rfl
   ·exact rfl
   ·exact rfl
   exact HeadQ.nil
  ·exact rfl
  ·exact rfl
  ·exact rfl
  ·exact rfl
  ·exact rfl
  ·exact rfl
  ·exact rfl
  have hul:z+(bitsL ((N:Int)+1) ((z:Int)+1)).length=(ueL N).length:=by rw [hu,List.length_append,List.length_replicate]
  refine go (r:=?_);and_intros<;>intros<;>try exact True.intro
  all_goals first|(rw [hu];done)
 ·have e:ueL n=[]:=by rw [ueL,if_neg h]
  refine go (r:=?_);and_intros<;>intros<;>try exact True.intro
  all_goals first|(rw [e];done)|(rw [e];rfl)|(exact absurd (by assumption) h)⟩
theorem u8_in {x:Int} (h:0≤x∧x≤255):IntKind.u8.wrap x=x:=by
 have key:IntKind.u8.wrap x=x%256:=rfl
 rw [key];omega
end Go.Proofs.YtndflfipaddfoaaGreat


namespace Go.Proofs.YtndflfipaddfoaaGreat
open Go Go.Abs
theorem goR {P R:Prop} (h:(Hold R→P)∧IsT R:=by
 refine And.intro ?_ ?_
 ·intro hold
  repeat' (first
  |(refine K.L ?_;first
   |(refine K.mv ?_;refine WpL.move rfl (by decide) ?_)
   |(refine K.asg ?_;refine WpL.assign rfl (by decide) ?_)
   |(refine K.bin ?_;first
    |refine WpL.add rfl rfl (by omega) (by decide) ?_
    |refine WpL.sub rfl rfl (by omega) (by decide) ?_
    |refine WpL.mul rfl rfl (by first|omega|exact mul_in (by omega) (by omega)|assumption) (by decide) ?_
    |refine WpL.quo rfl rfl (by omega) (by decide) ?_
    |refine WpL.rem rfl rfl (by omega) (by decide) ?_
    |refine WpL.bin rfl rfl rfl (by decide) ?_
    |refine WpL.strEq rfl rfl (by decide) ?_
    |refine WpL.nilEq (TabOk.slice tabOk rfl).1 rfl rfl (by decide) ?_
    |refine WpL.immEq (TabOk.slice tabOk rfl).1 rfl rfl (by decide) (fun hgo=>?_) ?_
    |refine WpL.ownEq (TabOk.slice tabOk rfl).1 rfl rfl rfl (by first|rfl|omega|(simp;done)|(simp;omega)) rfl (by decide) ?_
    |refine WpL.shl rfl rfl (by first|decide|(simp only [IntKind.bits];omega)) (by decide) ?_
    |refine WpL.shr rfl rfl (by first|decide|(simp only [IntKind.bits];omega)) (by decide) ?_)
   |(refine K.ld ?_;first
    |refine WpL.loadInts tabOk rfl rfl rfl (by first|omega|(simp;omega)) (by decide) ?_
    |refine WpL.loadU8s tabOk rfl rfl rfl (by first|omega|(simp;omega)) (by decide) ?_
    |refine WpL.loadRow tabOk rfl rfl (fun _=>rfl) (fun _=>rfl) (by first|rfl|omega|(simp;done)|(simp;omega)) (by decide) rfl ?_
    |refine WpL.loadField tabOk rfl rfl rfl (fun _=>rfl) rfl rfl (by first|rfl|omega|(simp;done)|(simp;omega)) (by decide) ?_
    |refine WpL.loadOwn tabOk rfl rfl rfl rfl (fun _=>rfl) rfl (by first|rfl|omega|(simp;done)|(simp;omega)) (by decide) rfl ?_
    |refine WpL.load1 tabOk rfl rfl rfl rfl rfl (by decide) ?_
    |refine WpL.loadAgg (ds:=[_]) tabOk rfl rfl rfl rfl rfl (by decide) ?_
    |refine WpL.loadAgg (ds:=[_,_]) tabOk rfl rfl rfl rfl rfl (by decide) ?_
    |refine WpL.loadAgg (ds:=[_,_,_]) tabOk rfl rfl rfl rfl rfl (by decide) ?_
    |refine WpL.loadAgg (ds:=[_,_,_,_]) tabOk rfl rfl rfl rfl rfl (by decide) ?_
    |refine WpL.loadAgg (ds:=[_,_,_,_,_]) tabOk rfl rfl rfl rfl rfl (by decide) ?_
    |refine WpL.loadAgg (ds:=[_,_,_,_,_,_]) tabOk rfl rfl rfl rfl rfl (by decide) ?_
    |refine WpL.loadAgg (ds:=[_,_,_,_,_,_,_]) tabOk rfl rfl rfl rfl rfl (by decide) ?_
    |refine WpL.loadAgg (ds:=[_,_,_,_,_,_,_,_]) tabOk rfl rfl rfl rfl rfl (by decide) ?_
    |refine WpL.loadLi tabOk rfl rfl rfl (by first|rfl|omega|(simp;done)|(simp;omega)) (by decide) ?_
    |refine WpL.loadSlot tabOk rfl rfl rfl rfl (by first|rfl|omega|(simp;done)|(simp;omega)) (by first|omega|(simp;omega)|(simp;done)) rfl (by decide) ?_)
   |(refine K.fld ?_;first
    |refine WpL.fieldI tabOk rfl rfl rfl (by decide) ?_
    |refine WpL.fieldP tabOk rfl rfl rfl rfl rfl (by decide) ?_)
   |(refine K.ixa ?_;first
    |refine WpL.idxI1 tabOk rfl rfl rfl (by omega) (by decide) ?_
    |refine WpL.idxIJ tabOk rfl rfl rfl (by omega) (by decide) ?_
    |refine WpL.idxOJ tabOk rfl rfl rfl rfl rfl (by omega) (by decide) ?_
    |refine WpL.idxIN tabOk rfl rfl rfl (by omega) (by decide) ?_
    |refine WpL.idxON tabOk rfl rfl rfl rfl rfl (by omega) (by decide) ?_
    |refine WpL.idxI tabOk rfl rfl rfl (by omega) (by decide) ?_
    |refine WpL.idxO tabOk rfl rfl rfl rfl rfl (by omega) (by decide) ?_)
   |(refine K.call ?_;refine K.con (fun hcon=>?_);first
    |(refine WpL.callF (hcon ?_) snapA locA outA rfl rfl rfl (by decide) ?_<;>clear hcon)
    |(refine WpL.callF (hcon) snapA locA outA rfl rfl rfl (by decide) ?_<;>clear hcon)
    |(refine WpL.callF (hcon _ ?_) snapA locA outA rfl rfl rfl (by decide) ?_<;>clear hcon)
    |(refine WpL.callF (hcon _) snapA locA outA rfl rfl rfl (by decide) ?_<;>clear hcon)
    |(refine WpL.callF (hcon _ _ ?_) snapA locA outA rfl rfl rfl (by decide) ?_<;>clear hcon)
    |(refine WpL.callF (hcon _ _) snapA locA outA rfl rfl rfl (by decide) ?_<;>clear hcon)
    |(refine WpL.callF (hcon _ _ _ ?_) snapA locA outA rfl rfl rfl (by decide) ?_<;>clear hcon)
    |(refine WpL.callF (hcon _ _ _) snapA locA outA rfl rfl rfl (by decide) ?_<;>clear hcon)
    |(refine WpL.callF (hcon _ _ _ _ ?_) snapA locA outA rfl rfl rfl (by decide) ?_<;>clear hcon)
    |(refine WpL.callF (hcon _ _ _ _) snapA locA outA rfl rfl rfl (by decide) ?_<;>clear hcon)
    |(refine WpL.callF (hcon _ _ _ _ _ ?_) snapA locA outA rfl rfl rfl (by decide) ?_<;>clear hcon)
    |(refine WpL.callF (hcon _ _ _ _ _) snapA locA outA rfl rfl rfl (by decide) ?_<;>clear hcon)
    |(refine WpL.callF (hcon _ _ _ _ _ _ ?_) snapA locA outA rfl rfl rfl (by decide) ?_<;>clear hcon)
    |(refine WpL.callF (hcon _ _ _ _ _ _) snapA locA outA rfl rfl rfl (by decide) ?_<;>clear hcon)
    |(refine WpL.callF (hcon _ _ _ _ _ _ _ ?_) snapA locA outA rfl rfl rfl (by decide) ?_<;>clear hcon)
    |(refine WpL.callF (hcon _ _ _ _ _ _ _) snapA locA outA rfl rfl rfl (by decide) ?_<;>clear hcon)
    |(refine WpL.callF (hcon _ _ _ _ _ _ _ _ ?_) snapA locA outA rfl rfl rfl (by decide) ?_<;>clear hcon)
    |(refine WpL.callF (hcon _ _ _ _ _ _ _ _) snapA locA outA rfl rfl rfl (by decide) ?_<;>clear hcon)
    |(refine WpL.callF (hcon _ _ _ _ _ _ _ _ _ ?_) snapA locA outA rfl rfl rfl (by decide) ?_<;>clear hcon)
    |(refine WpL.callF (hcon _ _ _ _ _ _ _ _ _) snapA locA outA rfl rfl rfl (by decide) ?_<;>clear hcon)
    |(refine WpL.callF (hcon _ _ _ _ _ _ _ _ _ _ ?_) snapA locA outA rfl rfl rfl (by decide) ?_<;>clear hcon)
    |(refine WpL.callF (hcon _ _ _ _ _ _ _ _ _ _) snapA locA outA rfl rfl rfl (by decide) ?_<;>clear hcon)
    |(refine WpL.callF (hcon _ _ _ _ _ _ _ _ _ _ _ ?_) snapA locA outA rfl rfl rfl (by decide) ?_<;>clear hcon)
    |(refine WpL.callF (hcon _ _ _ _ _ _ _ _ _ _ _) snapA locA outA rfl rfl rfl (by decide) ?_<;>clear hcon)
    |(refine WpL.callF (hcon _ _ _ _ _ _ _ _ _ _ _ _ ?_) snapA locA outA rfl rfl rfl (by decide) ?_<;>clear hcon)
    |(refine WpL.callF (hcon _ _ _ _ _ _ _ _ _ _ _ _) snapA locA outA rfl rfl rfl (by decide) ?_<;>clear hcon)
    |(refine WpL.callF (hcon _ _ _ _ _ _ _ _ _ _ _ _ _ ?_) snapA locA outA rfl rfl rfl (by decide) ?_<;>clear hcon)
    |(refine WpL.callF (hcon _ _ _ _ _ _ _ _ _ _ _ _ _) snapA locA outA rfl rfl rfl (by decide) ?_<;>clear hcon)
    |(refine WpL.callF (hcon _ _ _ _ _ _ _ _ _ _ _ _ _ _ ?_) snapA locA outA rfl rfl rfl (by decide) ?_<;>clear hcon)
    |(refine WpL.callF (hcon _ _ _ _ _ _ _ _ _ _ _ _ _ _) snapA locA outA rfl rfl rfl (by decide) ?_<;>clear hcon)
    |(refine WpL.callF (hcon _ _ _ _ _ _ _ _ _ _ _ _ _ _ _ ?_) snapA locA outA rfl rfl rfl (by decide) ?_<;>clear hcon)
    |(refine WpL.callF (hcon _ _ _ _ _ _ _ _ _ _ _ _ _ _ _) snapA locA outA rfl rfl rfl (by decide) ?_<;>clear hcon)
    |(refine WpL.callF (hcon _ _ _ _ _ _ _ _ _ _ _ _ _ _ _ _ ?_) snapA locA outA rfl rfl rfl (by decide) ?_<;>clear hcon)
    |(refine WpL.callF (hcon _ _ _ _ _ _ _ _ _ _ _ _ _ _ _ _) snapA locA outA rfl rfl rfl (by decide) ?_<;>clear hcon)
    |(refine WpL.callF (hcon _ _ _ _ _ _ _ _ _ _ _ _ _ _ _ _ _ ?_) snapA locA outA rfl rfl rfl (by decide) ?_<;>clear hcon)
    |(refine WpL.callF (hcon _ _ _ _ _ _ _ _ _ _ _ _ _ _ _ _ _) snapA locA outA rfl rfl rfl (by decide) ?_<;>clear hcon)
    |(refine WpL.callF (hcon _ _ _ _ _ _ _ _ _ _ _ _ _ _ _ _ _ _ ?_) snapA locA outA rfl rfl rfl (by decide) ?_<;>clear hcon)
    |(refine WpL.callF (hcon _ _ _ _ _ _ _ _ _ _ _ _ _ _ _ _ _ _) snapA locA outA rfl rfl rfl (by decide) ?_<;>clear hcon))
   |(refine K.call ?_;refine K.conG (fun hcon=>?_);first
    |(refine WpL.callM (hs:=[_]) (hcon ?_) handA handOA rfl rfl outA outA rfl rfl rfl rfl (by decide) ?_<;>clear hcon)
    |(refine WpL.callM (hs:=[_]) (hcon) handA handOA rfl rfl outA outA rfl rfl rfl rfl (by decide) ?_<;>clear hcon)
    |(refine WpL.callM (hs:=[_]) (hcon _ ?_) handA handOA rfl rfl outA outA rfl rfl rfl rfl (by decide) ?_<;>clear hcon)
    |(refine WpL.callM (hs:=[_]) (hcon _) handA handOA rfl rfl outA outA rfl rfl rfl rfl (by decide) ?_<;>clear hcon)
    |(refine WpL.callM (hs:=[_]) (hcon _ _ ?_) handA handOA rfl rfl outA outA rfl rfl rfl rfl (by decide) ?_<;>clear hcon)
    |(refine WpL.callM (hs:=[_]) (hcon _ _) handA handOA rfl rfl outA outA rfl rfl rfl rfl (by decide) ?_<;>clear hcon)
    |(refine WpL.callM (hs:=[_]) (hcon _ _ _ ?_) handA handOA rfl rfl outA outA rfl rfl rfl rfl (by decide) ?_<;>clear hcon)
    |(refine WpL.callM (hs:=[_]) (hcon _ _ _) handA handOA rfl rfl outA outA rfl rfl rfl rfl (by decide) ?_<;>clear hcon)
    |(refine WpL.callM (hs:=[_]) (hcon _ _ _ _ ?_) handA handOA rfl rfl outA outA rfl rfl rfl rfl (by decide) ?_<;>clear hcon)
    |(refine WpL.callM (hs:=[_]) (hcon _ _ _ _) handA handOA rfl rfl outA outA rfl rfl rfl rfl (by decide) ?_<;>clear hcon)
    |(refine WpL.callM (hs:=[_]) (hcon _ _ _ _ _ ?_) handA handOA rfl rfl outA outA rfl rfl rfl rfl (by decide) ?_<;>clear hcon)
    |(refine WpL.callM (hs:=[_]) (hcon _ _ _ _ _) handA handOA rfl rfl outA outA rfl rfl rfl rfl (by decide) ?_<;>clear hcon)
    |(refine WpL.callM (hs:=[_]) (hcon _ _ _ _ _ _ ?_) handA handOA rfl rfl outA outA rfl rfl rfl rfl (by decide) ?_<;>clear hcon)
    |(refine WpL.callM (hs:=[_]) (hcon _ _ _ _ _ _) handA handOA rfl rfl outA outA rfl rfl rfl rfl (by decide) ?_<;>clear hcon)
    |(refine WpL.callM (hs:=[_]) (hcon _ _ _ _ _ _ _ ?_) handA handOA rfl rfl outA outA rfl rfl rfl rfl (by decide) ?_<;>clear hcon)
    |(refine WpL.callM (hs:=[_]) (hcon _ _ _ _ _ _ _) handA handOA rfl rfl outA outA rfl rfl rfl rfl (by decide) ?_<;>clear hcon)
    |(refine WpL.callM (hs:=[_]) (hcon _ _ _ _ _ _ _ _ ?_) handA handOA rfl rfl outA outA rfl rfl rfl rfl (by decide) ?_<;>clear hcon)
    |(refine WpL.callM (hs:=[_]) (hcon _ _ _ _ _ _ _ _) handA handOA rfl rfl outA outA rfl rfl rfl rfl (by decide) ?_<;>clear hcon)
    |(refine WpL.callM (hs:=[_,_]) (hcon ?_) handA handOA rfl rfl outA outA rfl rfl rfl rfl (by decide) ?_<;>clear hcon)
    |(refine WpL.callM (hs:=[_,_]) (hcon) handA handOA rfl rfl outA outA rfl rfl rfl rfl (by decide) ?_<;>clear hcon)
    |(refine WpL.callM (hs:=[_,_]) (hcon _ ?_) handA handOA rfl rfl outA outA rfl rfl rfl rfl (by decide) ?_<;>clear hcon)
    |(refine WpL.callM (hs:=[_,_]) (hcon _) handA handOA rfl rfl outA outA rfl rfl rfl rfl (by decide) ?_<;>clear hcon)
    |(refine WpL.callM (hs:=[_,_]) (hcon _ _ ?_) handA handOA rfl rfl outA outA rfl rfl rfl rfl (by decide) ?_<;>clear hcon)
    |(refine WpL.callM (hs:=[_,_]) (hcon _ _) handA handOA rfl rfl outA outA rfl rfl rfl rfl (by decide) ?_<;>clear hcon)
    |(refine WpL.callM (hs:=[_,_]) (hcon _ _ _ ?_) handA handOA rfl rfl outA outA rfl rfl rfl rfl (by decide) ?_<;>clear hcon)
    |(refine WpL.callM (hs:=[_,_]) (hcon _ _ _) handA handOA rfl rfl outA outA rfl rfl rfl rfl (by decide) ?_<;>clear hcon)
    |(refine WpL.callM (hs:=[_,_]) (hcon _ _ _ _ ?_) handA handOA rfl rfl outA outA rfl rfl rfl rfl (by decide) ?_<;>clear hcon)
    |(refine WpL.callM (hs:=[_,_]) (hcon _ _ _ _) handA handOA rfl rfl outA outA rfl rfl rfl rfl (by decide) ?_<;>clear hcon)
    |(refine WpL.callM (hs:=[_,_]) (hcon _ _ _ _ _ ?_) handA handOA rfl rfl outA outA rfl rfl rfl rfl (by decide) ?_<;>clear hcon)
    |(refine WpL.callM (hs:=[_,_]) (hcon _ _ _ _ _) handA handOA rfl rfl outA outA rfl rfl rfl rfl (by decide) ?_<;>clear hcon)
    |(refine WpL.callM (hs:=[_,_]) (hcon _ _ _ _ _ _ ?_) handA handOA rfl rfl outA outA rfl rfl rfl rfl (by decide) ?_<;>clear hcon)
    |(refine WpL.callM (hs:=[_,_]) (hcon _ _ _ _ _ _) handA handOA rfl rfl outA outA rfl rfl rfl rfl (by decide) ?_<;>clear hcon)
    |(refine WpL.callM (hs:=[_,_]) (hcon _ _ _ _ _ _ _ ?_) handA handOA rfl rfl outA outA rfl rfl rfl rfl (by decide) ?_<;>clear hcon)
    |(refine WpL.callM (hs:=[_,_]) (hcon _ _ _ _ _ _ _) handA handOA rfl rfl outA outA rfl rfl rfl rfl (by decide) ?_<;>clear hcon)
    |(refine WpL.callM (hs:=[_,_]) (hcon _ _ _ _ _ _ _ _ ?_) handA handOA rfl rfl outA outA rfl rfl rfl rfl (by decide) ?_<;>clear hcon)
    |(refine WpL.callM (hs:=[_,_]) (hcon _ _ _ _ _ _ _ _) handA handOA rfl rfl outA outA rfl rfl rfl rfl (by decide) ?_<;>clear hcon)
    |(refine WpL.callM (hs:=[_,_,_]) (hcon ?_) handA handOA rfl rfl outA outA rfl rfl rfl rfl (by decide) ?_<;>clear hcon)
    |(refine WpL.callM (hs:=[_,_,_]) (hcon) handA handOA rfl rfl outA outA rfl rfl rfl rfl (by decide) ?_<;>clear hcon)
    |(refine WpL.callM (hs:=[_,_,_]) (hcon _ ?_) handA handOA rfl rfl outA outA rfl rfl rfl rfl (by decide) ?_<;>clear hcon)
    |(refine WpL.callM (hs:=[_,_,_]) (hcon _) handA handOA rfl rfl outA outA rfl rfl rfl rfl (by decide) ?_<;>clear hcon)
    |(refine WpL.callM (hs:=[_,_,_]) (hcon _ _ ?_) handA handOA rfl rfl outA outA rfl rfl rfl rfl (by decide) ?_<;>clear hcon)
    |(refine WpL.callM (hs:=[_,_,_]) (hcon _ _) handA handOA rfl rfl outA outA rfl rfl rfl rfl (by decide) ?_<;>clear hcon)
    |(refine WpL.callM (hs:=[_,_,_]) (hcon _ _ _ ?_) handA handOA rfl rfl outA outA rfl rfl rfl rfl (by decide) ?_<;>clear hcon)
    |(refine WpL.callM (hs:=[_,_,_]) (hcon _ _ _) handA handOA rfl rfl outA outA rfl rfl rfl rfl (by decide) ?_<;>clear hcon)
    |(refine WpL.callM (hs:=[_,_,_]) (hcon _ _ _ _ ?_) handA handOA rfl rfl outA outA rfl rfl rfl rfl (by decide) ?_<;>clear hcon)
    |(refine WpL.callM (hs:=[_,_,_]) (hcon _ _ _ _) handA handOA rfl rfl outA outA rfl rfl rfl rfl (by decide) ?_<;>clear hcon)
    |(refine WpL.callM (hs:=[_,_,_]) (hcon _ _ _ _ _ ?_) handA handOA rfl rfl outA outA rfl rfl rfl rfl (by decide) ?_<;>clear hcon)
    |(refine WpL.callM (hs:=[_,_,_]) (hcon _ _ _ _ _) handA handOA rfl rfl outA outA rfl rfl rfl rfl (by decide) ?_<;>clear hcon)
    |(refine WpL.callM (hs:=[_,_,_]) (hcon _ _ _ _ _ _ ?_) handA handOA rfl rfl outA outA rfl rfl rfl rfl (by decide) ?_<;>clear hcon)
    |(refine WpL.callM (hs:=[_,_,_]) (hcon _ _ _ _ _ _) handA handOA rfl rfl outA outA rfl rfl rfl rfl (by decide) ?_<;>clear hcon)
    |(refine WpL.callM (hs:=[_,_,_]) (hcon _ _ _ _ _ _ _ ?_) handA handOA rfl rfl outA outA rfl rfl rfl rfl (by decide) ?_<;>clear hcon)
    |(refine WpL.callM (hs:=[_,_,_]) (hcon _ _ _ _ _ _ _) handA handOA rfl rfl outA outA rfl rfl rfl rfl (by decide) ?_<;>clear hcon)
    |(refine WpL.callM (hs:=[_,_,_]) (hcon _ _ _ _ _ _ _ _ ?_) handA handOA rfl rfl outA outA rfl rfl rfl rfl (by decide) ?_<;>clear hcon)
    |(refine WpL.callM (hs:=[_,_,_]) (hcon _ _ _ _ _ _ _ _) handA handOA rfl rfl outA outA rfl rfl rfl rfl (by decide) ?_<;>clear hcon)
    |(refine WpL.callM (hs:=[_,_,_,_]) (hcon ?_) handA handOA rfl rfl outA outA rfl rfl rfl rfl (by decide) ?_<;>clear hcon)
    |(refine WpL.callM (hs:=[_,_,_,_]) (hcon) handA handOA rfl rfl outA outA rfl rfl rfl rfl (by decide) ?_<;>clear hcon)
    |(refine WpL.callM (hs:=[_,_,_,_]) (hcon _ ?_) handA handOA rfl rfl outA outA rfl rfl rfl rfl (by decide) ?_<;>clear hcon)
    |(refine WpL.callM (hs:=[_,_,_,_]) (hcon _) handA handOA rfl rfl outA outA rfl rfl rfl rfl (by decide) ?_<;>clear hcon)
    |(refine WpL.callM (hs:=[_,_,_,_]) (hcon _ _ ?_) handA handOA rfl rfl outA outA rfl rfl rfl rfl (by decide) ?_<;>clear hcon)
    |(refine WpL.callM (hs:=[_,_,_,_]) (hcon _ _) handA handOA rfl rfl outA outA rfl rfl rfl rfl (by decide) ?_<;>clear hcon)
    |(refine WpL.callM (hs:=[_,_,_,_]) (hcon _ _ _ ?_) handA handOA rfl rfl outA outA rfl rfl rfl rfl (by decide) ?_<;>clear hcon)
    |(refine WpL.callM (hs:=[_,_,_,_]) (hcon _ _ _) handA handOA rfl rfl outA outA rfl rfl rfl rfl (by decide) ?_<;>clear hcon)
    |(refine WpL.callM (hs:=[_,_,_,_]) (hcon _ _ _ _ ?_) handA handOA rfl rfl outA outA rfl rfl rfl rfl (by decide) ?_<;>clear hcon)
    |(refine WpL.callM (hs:=[_,_,_,_]) (hcon _ _ _ _) handA handOA rfl rfl outA outA rfl rfl rfl rfl (by decide) ?_<;>clear hcon)
    |(refine WpL.callM (hs:=[_,_,_,_]) (hcon _ _ _ _ _ ?_) handA handOA rfl rfl outA outA rfl rfl rfl rfl (by decide) ?_<;>clear hcon)
    |(refine WpL.callM (hs:=[_,_,_,_]) (hcon _ _ _ _ _) handA handOA rfl rfl outA outA rfl rfl rfl rfl (by decide) ?_<;>clear hcon)
    |(refine WpL.callM (hs:=[_,_,_,_]) (hcon _ _ _ _ _ _ ?_) handA handOA rfl rfl outA outA rfl rfl rfl rfl (by decide) ?_<;>clear hcon)
    |(refine WpL.callM (hs:=[_,_,_,_]) (hcon _ _ _ _ _ _) handA handOA rfl rfl outA outA rfl rfl rfl rfl (by decide) ?_<;>clear hcon)
    |(refine WpL.callM (hs:=[_,_,_,_]) (hcon _ _ _ _ _ _ _ ?_) handA handOA rfl rfl outA outA rfl rfl rfl rfl (by decide) ?_<;>clear hcon)
    |(refine WpL.callM (hs:=[_,_,_,_]) (hcon _ _ _ _ _ _ _) handA handOA rfl rfl outA outA rfl rfl rfl rfl (by decide) ?_<;>clear hcon)
    |(refine WpL.callM (hs:=[_,_,_,_]) (hcon _ _ _ _ _ _ _ _ ?_) handA handOA rfl rfl outA outA rfl rfl rfl rfl (by decide) ?_<;>clear hcon)
    |(refine WpL.callM (hs:=[_,_,_,_]) (hcon _ _ _ _ _ _ _ _) handA handOA rfl rfl outA outA rfl rfl rfl rfl (by decide) ?_<;>clear hcon))
   |(refine K.call ?_;refine K.conB (fun hcon=>?_);first
    |(refine WpL.callB (hcon ?_) snapA locA outA locA outA rfl rfl rfl rfl rfl (by decide) ?_ ?_<;>clear hcon)
    |(refine WpL.callB (hcon) snapA locA outA locA outA rfl rfl rfl rfl rfl (by decide) ?_ ?_<;>clear hcon)
    |(refine WpL.callB (hcon _ ?_) snapA locA outA locA outA rfl rfl rfl rfl rfl (by decide) ?_ ?_<;>clear hcon)
    |(refine WpL.callB (hcon _) snapA locA outA locA outA rfl rfl rfl rfl rfl (by decide) ?_ ?_<;>clear hcon)
    |(refine WpL.callB (hcon _ _ ?_) snapA locA outA locA outA rfl rfl rfl rfl rfl (by decide) ?_ ?_<;>clear hcon)
    |(refine WpL.callB (hcon _ _) snapA locA outA locA outA rfl rfl rfl rfl rfl (by decide) ?_ ?_<;>clear hcon)
    |(refine WpL.callB (hcon _ _ _ ?_) snapA locA outA locA outA rfl rfl rfl rfl rfl (by decide) ?_ ?_<;>clear hcon)
    |(refine WpL.callB (hcon _ _ _) snapA locA outA locA outA rfl rfl rfl rfl rfl (by decide) ?_ ?_<;>clear hcon)
    |(refine WpL.callB (hcon _ _ _ _ ?_) snapA locA outA locA outA rfl rfl rfl rfl rfl (by decide) ?_ ?_<;>clear hcon)
    |(refine WpL.callB (hcon _ _ _ _) snapA locA outA locA outA rfl rfl rfl rfl rfl (by decide) ?_ ?_<;>clear hcon)
    |(refine WpL.callB (hcon _ _ _ _ _ ?_) snapA locA outA locA outA rfl rfl rfl rfl rfl (by decide) ?_ ?_<;>clear hcon)
    |(refine WpL.callB (hcon _ _ _ _ _) snapA locA outA locA outA rfl rfl rfl rfl rfl (by decide) ?_ ?_<;>clear hcon)
    |(refine WpL.callB (hcon _ _ _ _ _ _ ?_) snapA locA outA locA outA rfl rfl rfl rfl rfl (by decide) ?_ ?_<;>clear hcon)
    |(refine WpL.callB (hcon _ _ _ _ _ _) snapA locA outA locA outA rfl rfl rfl rfl rfl (by decide) ?_ ?_<;>clear hcon)
    |(refine WpL.callB (hcon _ _ _ _ _ _ _ ?_) snapA locA outA locA outA rfl rfl rfl rfl rfl (by decide) ?_ ?_<;>clear hcon)
    |(refine WpL.callB (hcon _ _ _ _ _ _ _) snapA locA outA locA outA rfl rfl rfl rfl rfl (by decide) ?_ ?_<;>clear hcon)
    |(refine WpL.callB (hcon _ _ _ _ _ _ _ _ ?_) snapA locA outA locA outA rfl rfl rfl rfl rfl (by decide) ?_ ?_<;>clear hcon)
    |(refine WpL.callB (hcon _ _ _ _ _ _ _ _) snapA locA outA locA outA rfl rfl rfl rfl rfl (by decide) ?_ ?_<;>clear hcon))
   |(refine K.call ?_;refine K.conP (fun hcon=>?_);first
    |(refine WpL.callP (hs:=[_]) (hcon ?_) (by assumption) handA handOA rfl rfl (.cons rfl (.sc (.sc (.sc .nil))) .nil) outA rfl rfl rfl rfl (by decide) ?_<;>clear hcon)
    |(refine WpL.callP (hs:=[_]) (hcon) (by assumption) handA handOA rfl rfl (.cons rfl (.sc (.sc (.sc .nil))) .nil) outA rfl rfl rfl rfl (by decide) ?_<;>clear hcon)
    |(refine WpL.callP (hs:=[_]) (hcon _ ?_) (by assumption) handA handOA rfl rfl (.cons rfl (.sc (.sc (.sc .nil))) .nil) outA rfl rfl rfl rfl (by decide) ?_<;>clear hcon)
    |(refine WpL.callP (hs:=[_]) (hcon _) (by assumption) handA handOA rfl rfl (.cons rfl (.sc (.sc (.sc .nil))) .nil) outA rfl rfl rfl rfl (by decide) ?_<;>clear hcon)
    |(refine WpL.callP (hs:=[_]) (hcon _ _ ?_) (by assumption) handA handOA rfl rfl (.cons rfl (.sc (.sc (.sc .nil))) .nil) outA rfl rfl rfl rfl (by decide) ?_<;>clear hcon)
    |(refine WpL.callP (hs:=[_]) (hcon _ _) (by assumption) handA handOA rfl rfl (.cons rfl (.sc (.sc (.sc .nil))) .nil) outA rfl rfl rfl rfl (by decide) ?_<;>clear hcon)
    |(refine WpL.callP (hs:=[_]) (hcon _ _ _ ?_) (by assumption) handA handOA rfl rfl (.cons rfl (.sc (.sc (.sc .nil))) .nil) outA rfl rfl rfl rfl (by decide) ?_<;>clear hcon)
    |(refine WpL.callP (hs:=[_]) (hcon _ _ _) (by assumption) handA handOA rfl rfl (.cons rfl (.sc (.sc (.sc .nil))) .nil) outA rfl rfl rfl rfl (by decide) ?_<;>clear hcon)
    |(refine WpL.callP (hs:=[_]) (hcon _ _ _ _ ?_) (by assumption) handA handOA rfl rfl (.cons rfl (.sc (.sc (.sc .nil))) .nil) outA rfl rfl rfl rfl (by decide) ?_<;>clear hcon)
    |(refine WpL.callP (hs:=[_]) (hcon _ _ _ _) (by assumption) handA handOA rfl rfl (.cons rfl (.sc (.sc (.sc .nil))) .nil) outA rfl rfl rfl rfl (by decide) ?_<;>clear hcon)
    |(refine WpL.callP (hs:=[_]) (hcon _ _ _ _ _ ?_) (by assumption) handA handOA rfl rfl (.cons rfl (.sc (.sc (.sc .nil))) .nil) outA rfl rfl rfl rfl (by decide) ?_<;>clear hcon)
    |(refine WpL.callP (hs:=[_]) (hcon _ _ _ _ _) (by assumption) handA handOA rfl rfl (.cons rfl (.sc (.sc (.sc .nil))) .nil) outA rfl rfl rfl rfl (by decide) ?_<;>clear hcon)
    |(refine WpL.callP (hs:=[_]) (hcon _ _ _ _ _ _ ?_) (by assumption) handA handOA rfl rfl (.cons rfl (.sc (.sc (.sc .nil))) .nil) outA rfl rfl rfl rfl (by decide) ?_<;>clear hcon)
    |(refine WpL.callP (hs:=[_]) (hcon _ _ _ _ _ _) (by assumption) handA handOA rfl rfl (.cons rfl (.sc (.sc (.sc .nil))) .nil) outA rfl rfl rfl rfl (by decide) ?_<;>clear hcon)
    |(refine WpL.callP (hs:=[_]) (hcon _ _ _ _ _ _ _ ?_) (by assumption) handA handOA rfl rfl (.cons rfl (.sc (.sc (.sc .nil))) .nil) outA rfl rfl rfl rfl (by decide) ?_<;>clear hcon)
    |(refine WpL.callP (hs:=[_]) (hcon _ _ _ _ _ _ _) (by assumption) handA handOA rfl rfl (.cons rfl (.sc (.sc (.sc .nil))) .nil) outA rfl rfl rfl rfl (by decide) ?_<;>clear hcon)
    |(refine WpL.callP (hs:=[_]) (hcon _ _ _ _ _ _ _ _ ?_) (by assumption) handA handOA rfl rfl (.cons rfl (.sc (.sc (.sc .nil))) .nil) outA rfl rfl rfl rfl (by decide) ?_<;>clear hcon)
    |(refine WpL.callP (hs:=[_]) (hcon _ _ _ _ _ _ _ _) (by assumption) handA handOA rfl rfl (.cons rfl (.sc (.sc (.sc .nil))) .nil) outA rfl rfl rfl rfl (by decide) ?_<;>clear hcon)
    |(refine WpL.callP (hs:=[_]) (hcon _ _ _ _ _ _ _ _ _ ?_) (by assumption) handA handOA rfl rfl (.cons rfl (.sc (.sc (.sc .nil))) .nil) outA rfl rfl rfl rfl (by decide) ?_<;>clear hcon)
    |(refine WpL.callP (hs:=[_]) (hcon _ _ _ _ _ _ _ _ _) (by assumption) handA handOA rfl rfl (.cons rfl (.sc (.sc (.sc .nil))) .nil) outA rfl rfl rfl rfl (by decide) ?_<;>clear hcon)
    |(refine WpL.callP (hs:=[_]) (hcon _ _ _ _ _ _ _ _ _ _ ?_) (by assumption) handA handOA rfl rfl (.cons rfl (.sc (.sc (.sc .nil))) .nil) outA rfl rfl rfl rfl (by decide) ?_<;>clear hcon)
    |(refine WpL.callP (hs:=[_]) (hcon _ _ _ _ _ _ _ _ _ _) (by assumption) handA handOA rfl rfl (.cons rfl (.sc (.sc (.sc .nil))) .nil) outA rfl rfl rfl rfl (by decide) ?_<;>clear hcon))
   |(refine K.callT ?_;refine K.conV rfl (fun hcon=>?_);first
    |(refine WpL.callVF rfl (hcon ?_) rfl snapA locA outA rfl rfl rfl (by decide) ?_<;>clear hcon)
    |(refine WpL.callVF rfl (hcon) rfl snapA locA outA rfl rfl rfl (by decide) ?_<;>clear hcon)
    |(refine WpL.callVF rfl (hcon _ ?_) rfl snapA locA outA rfl rfl rfl (by decide) ?_<;>clear hcon)
    |(refine WpL.callVF rfl (hcon _) rfl snapA locA outA rfl rfl rfl (by decide) ?_<;>clear hcon)
    |(refine WpL.callVF rfl (hcon _ _ ?_) rfl snapA locA outA rfl rfl rfl (by decide) ?_<;>clear hcon)
    |(refine WpL.callVF rfl (hcon _ _) rfl snapA locA outA rfl rfl rfl (by decide) ?_<;>clear hcon)
    |(refine WpL.callVF rfl (hcon _ _ _ ?_) rfl snapA locA outA rfl rfl rfl (by decide) ?_<;>clear hcon)
    |(refine WpL.callVF rfl (hcon _ _ _) rfl snapA locA outA rfl rfl rfl (by decide) ?_<;>clear hcon)
    |(refine WpL.callVF rfl (hcon _ _ _ _ ?_) rfl snapA locA outA rfl rfl rfl (by decide) ?_<;>clear hcon)
    |(refine WpL.callVF rfl (hcon _ _ _ _) rfl snapA locA outA rfl rfl rfl (by decide) ?_<;>clear hcon)
    |(refine WpL.callVF rfl (hcon _ _ _ _ _ ?_) rfl snapA locA outA rfl rfl rfl (by decide) ?_<;>clear hcon)
    |(refine WpL.callVF rfl (hcon _ _ _ _ _) rfl snapA locA outA rfl rfl rfl (by decide) ?_<;>clear hcon)
    |(refine WpL.callVF rfl (hcon _ _ _ _ _ _ ?_) rfl snapA locA outA rfl rfl rfl (by decide) ?_<;>clear hcon)
    |(refine WpL.callVF rfl (hcon _ _ _ _ _ _) rfl snapA locA outA rfl rfl rfl (by decide) ?_<;>clear hcon)
    |(refine WpL.callVF rfl (hcon _ _ _ _ _ _ _ ?_) rfl snapA locA outA rfl rfl rfl (by decide) ?_<;>clear hcon)
    |(refine WpL.callVF rfl (hcon _ _ _ _ _ _ _) rfl snapA locA outA rfl rfl rfl (by decide) ?_<;>clear hcon)
    |(refine WpL.callVF rfl (hcon _ _ _ _ _ _ _ _ ?_) rfl snapA locA outA rfl rfl rfl (by decide) ?_<;>clear hcon)
    |(refine WpL.callVF rfl (hcon _ _ _ _ _ _ _ _) rfl snapA locA outA rfl rfl rfl (by decide) ?_<;>clear hcon)
    |(refine WpL.callVF rfl (hcon _ _ _ _ _ _ _ _ _ ?_) rfl snapA locA outA rfl rfl rfl (by decide) ?_<;>clear hcon)
    |(refine WpL.callVF rfl (hcon _ _ _ _ _ _ _ _ _) rfl snapA locA outA rfl rfl rfl (by decide) ?_<;>clear hcon)
    |(refine WpL.callVF rfl (hcon _ _ _ _ _ _ _ _ _ _ ?_) rfl snapA locA outA rfl rfl rfl (by decide) ?_<;>clear hcon)
    |(refine WpL.callVF rfl (hcon _ _ _ _ _ _ _ _ _ _) rfl snapA locA outA rfl rfl rfl (by decide) ?_<;>clear hcon)
    |(refine WpL.callVF rfl (hcon _ _ _ _ _ _ _ _ _ _ _ ?_) rfl snapA locA outA rfl rfl rfl (by decide) ?_<;>clear hcon)
    |(refine WpL.callVF rfl (hcon _ _ _ _ _ _ _ _ _ _ _) rfl snapA locA outA rfl rfl rfl (by decide) ?_<;>clear hcon)
    |(refine WpL.callVF rfl (hcon _ _ _ _ _ _ _ _ _ _ _ _ ?_) rfl snapA locA outA rfl rfl rfl (by decide) ?_<;>clear hcon)
    |(refine WpL.callVF rfl (hcon _ _ _ _ _ _ _ _ _ _ _ _) rfl snapA locA outA rfl rfl rfl (by decide) ?_<;>clear hcon))
   |(refine K.mkF ?_;refine WpL.makeFunc rfl (by decide) ?_)
   |(refine K.ix ?_;first
    |refine WpL.idxStrB tabOk rfl rfl rfl (by omega) (by decide) (fun hgo=>?_))
   |(refine K.bi ?_;first
    |(refine K.blen ?_;first
     |refine WpL.lenImm (TabOk.slice tabOk rfl).1 rfl (by decide) ?_
     |refine WpL.lenOwn (TabOk.slice tabOk rfl).1 rfl rfl rfl (by decide) ?_
     |refine WpL.lenStr (K.tyStr tabOk rfl) rfl (by decide) ?_)
    |(refine K.bapp ?_;first
     |refine WpL.app1Ints tabOk rfl rfl rfl (by first|exact Nat.zero_le _|exact Nat.le_of_ble_eq_true rfl) rfl rfl (by first|rfl|omega|(simp;done)|(simp;omega)) (by omega) (by decide) ?_
     |refine WpL.appInts tabOk rfl rfl rfl (by first|exact Nat.zero_le _|exact Nat.le_of_ble_eq_true rfl) rfl rfl (by first|rfl|omega|(simp;done)|(simp;omega)) (by first|rfl|omega|(simp;done)|(simp;omega)) (by omega) (by decide) ?_
     |refine WpL.nil1Ints tabOk rfl rfl rfl rfl (by omega) rfl (by decide) ?_
     |refine WpL.app1U8s tabOk rfl rfl rfl (by first|exact Nat.zero_le _|exact Nat.le_of_ble_eq_true rfl) rfl rfl (by first|rfl|omega|(simp;done)|(simp;omega)) (by omega) (by decide) ?_
     |refine WpL.appRow (f:=prF) (v:=(_,_)) tabOk rfl rfl rfl (by first|exact Nat.zero_le _|exact Nat.le_of_ble_eq_true rfl) rfl rfl (fun _=>rfl) rfl rfl (by first|rfl|omega|(simp;done)|(simp;omega)) (by omega) (by decide) ?_
     |refine WpL.appRow (f:=plF) (v:=(_,_,_)) tabOk rfl rfl rfl (by first|exact Nat.zero_le _|exact Nat.le_of_ble_eq_true rfl) rfl rfl (fun _=>rfl) rfl rfl (by first|rfl|omega|(simp;done)|(simp;omega)) (by omega) (by decide) ?_
     |refine WpL.appBlk tabOk rfl rfl rfl (by first|exact Nat.zero_le _|exact Nat.le_of_ble_eq_true rfl) rfl rfl rfl rfl rfl (by first|exact Nat.zero_le _|exact Nat.le_of_ble_eq_true rfl) (by first|rfl|omega|(simp;done)|(simp;omega)) (by first|rfl|omega|(simp;done)|(simp;omega)) (by omega) (by decide) ?_
     |refine WpL.appMb tabOk rfl rfl rfl (by first|exact Nat.zero_le _|exact Nat.le_of_ble_eq_true rfl) rfl rfl rfl rfl rfl (by first|exact Nat.zero_le _|exact Nat.le_of_ble_eq_true rfl) (by first|rfl|omega|(simp;done)|(simp;omega)) (by first|rfl|omega|(simp;done)|(simp;omega)) (by omega) (by decide) ?_
     |refine WpL.appOwn tabOk rfl rfl rfl rfl rfl rfl (by simp) (by first|exact Nat.zero_le _|exact Nat.le_of_ble_eq_true rfl) rfl rfl (by simp) (by simp [all_ints,all_u8s,all_strs,oneB,Value.oneCell']) (by omega) (by decide) ?_
     |refine WpL.appNil tabOk rfl rfl rfl rfl (by simp) (by simp [all_ints,all_u8s,all_strs,oneB,Value.oneCell']) (by omega) rfl (by decide) ?_)
    |refine WpL.min2 rfl rfl (by decide) ?_
    |refine WpL.max2 rfl rfl (by decide) ?_)
   |(refine K.un ?_;first
    |refine WpL.not rfl (by decide) ?_
    |refine WpL.neg rfl (by omega) (by decide) ?_)
   |(refine K.pick ?_;first
    |refine WpL.pickT rfl rfl (by decide) ?_
    |refine WpL.pickF rfl rfl (by decide) ?_)
   |(refine K.bld ?_;refine WpL.build tabOk rfl rfl (by kernel_rfl) (by decide) ?_)
   |(refine K.ext ?_;refine WpL.extract rfl rfl (by first|decide|simp [AV.shL]) (by decide) ?_)
   |(refine K.cv ?_;first
    |refine WpL.convI (P:=Tryz.prog) (by rfl) (K.tyInt tabOk rfl) rfl (by omega) (by decide) ?_
    |refine WpL.conv (P:=Tryz.prog) (by rfl) (K.tyInt tabOk rfl) rfl (by decide) ?_
    |refine WpL.ofBytes tabOk rfl rfl rfl rfl rfl (by simp) (by decide) ?_)
   |(refine K.lit ?_;first
    |refine WpL.lit0U8s tabOk rfl rfl rfl (by decide) ?_
    |refine WpL.lit0Ints tabOk rfl rfl rfl (by decide) ?_
    |refine WpL.litInts tabOk rfl rfl rfl rfl rfl (by decide) rfl (by decide) ?_
    |refine WpL.litU8s tabOk rfl rfl rfl rfl rfl (by decide) rfl (by decide) ?_
    |(apply WpL.litLis tabOk
      ·exact rfl
      ·exact rfl
      ·exact rfl
      ·exact rfl
      ·decide
      ·exact rfl
      ·exact rfl
      ·exact rfl
      ·decide
      ·repeat' (first
        |exact NestC.nil
        |(apply NestC.cons
          ·exact rfl
          ·exact rfl
          ·exact rfl
          ·exact rfl
          ·first|exact Nat.zero_le _|exact Nat.le_of_ble_eq_true rfl
          ·exact rfl
          ·first|rfl|exact still_ints _
          ·first|rfl|simp
          ·exact rfl))
      ·exact rfl
      ·exact rfl)
    |refine WpL.litF tabOk rfl rfl rfl rfl (by decide) rfl (by decide) ?_)
   |(refine K.ms ?_;first
    |refine WpL.makeInts tabOk rfl rfl rfl (by omega) (by omega) rfl (by decide) ?_)
   |(refine K.st ?_;first
    |refine WpL.storeInts tabOk rfl rfl rfl rfl rfl (by first|omega|(simp;omega)) ?_
    |refine WpL.storeMb tabOk rfl rfl rfl rfl rfl rfl rfl (by first|exact Nat.zero_le _|exact Nat.le_of_ble_eq_true rfl) (by first|rfl|omega|(simp;done)|(simp;omega)) (by first|rfl|omega|(simp;done)|(simp;omega)) ?_
    |refine WpL.storeSlot tabOk rfl rfl rfl rfl rfl rfl (by first|rfl|omega|(simp;done)|(simp;omega)) (by first|omega|(simp;omega)|(simp;done)) ?_
    |refine WpL.storeS tabOk rfl rfl rfl rfl rfl rfl rfl rfl (by first|decide|omega|(simp;omega)|(simp;done)) (by first|(simp only [Go.Abs.setL,List.set_cons_zero,List.set_cons_succ,Nat.zero_add,Nat.reduceAdd];exact rfl)|exact rfl) ?_)
   |(refine K.all ?_;first
    |refine WpL.allocStruct tabOk rfl rfl (by decide) ?_
    |refine WpL.allocPlain tabOk rfl rfl rfl (by decide) ?_)
   |(refine K.box ?_;refine WpL.box rfl rfl rfl (by decide) ?_)
   |(refine K.nc ?_;first
    |refine WpL.nilCheckP rfl rfl rfl (by decide) ?_)
   |(refine K.sl ?_;first
    |refine WpL.subStr tabOk rfl rfl (by first|exact .inl ⟨rfl,rfl⟩|exact .inr ⟨_,_,rfl,rfl⟩) (by first|exact .inl ⟨rfl,rfl⟩|exact .inr ⟨_,_,rfl,rfl⟩) (by omega) (by decide) ?_
    |refine WpL.subIntsHi tabOk rfl rfl rfl (by first|rfl|omega|(simp;done)|(simp;omega)) (by omega) (by decide) ?_
    |refine WpL.subInts tabOk rfl rfl rfl rfl (by first|rfl|omega|(simp;done)|(simp;omega)) (by omega) (by decide) ?_
    |refine WpL.subImm tabOk rfl rfl (by first|exact .inl ⟨rfl,rfl⟩|exact .inr ⟨_,_,rfl,rfl⟩) (by first|exact .inl ⟨rfl,rfl⟩|exact .inr ⟨_,_,rfl,rfl⟩) (by omega) (by decide) ?_)
   |(refine K.gd ?_;first
    |refine K.gT rfl (by decide) rfl ?_
    |refine K.gF rfl (by decide) rfl ?_
    |(refine K.gD rfl rfl (fun hgo=>?_) (fun hgo=>?_)<;>(try (first|contradiction|(exfalso;omega))))
    |(refine K.gN rfl rfl (fun hgo=>?_) (fun hgo=>?_)<;>(try (first|contradiction|(exfalso;omega)))))
   |((repeat (revert hgo));(repeat ((fail_if_success with_reducible apply Hold.h hold);replace hold:=Hold.t hold));with_reducible apply Hold.h hold))
  |refine WpL.nil ?_
  |refine Abs.Seq.n ?_
  |(refine K.A ?_;first
   |refine WpA.seq ?_
   |refine WpA.regionF rfl ?_
   |(refine K.cond ?_;first
    |refine WpA.condT rfl ?_
    |refine WpA.condF rfl ?_
    |(refine WpA.condD rfl (fun hgo=>?_) (fun hgo=>?_)<;>(try (first|contradiction|(exfalso;omega))))
    |(refine WpA.condN rfl (fun hgo=>?_) (fun hgo=>?_)<;>(try (first|contradiction|(exfalso;omega))))
    |(refine WpA.condS rfl (fun hgo=>?_) (fun hgo=>?_)<;>(try (first|contradiction|(exfalso;omega)))))
   |refine WpA.block ?_
   |refine WpA.ret ?_
   |refine WpA.exit ?_
   |refine WpA.skip ?_
   |(refine K.loop ?_;((repeat (revert hgo));(repeat ((fail_if_success with_reducible apply Hold.h hold);replace hold:=Hold.t hold));with_reducible apply Hold.h hold))
   |((repeat (revert hgo));(repeat ((fail_if_success with_reducible apply Hold.h hold);replace hold:=Hold.t hold));with_reducible apply Hold.h hold))
  |(refine K.RT ?_;first
   |exact ReT.nil
   |refine ReT.same rfl rfl ?_
   |refine ReT.own rfl rfl rfl rfl rfl rfl (by first|rfl|omega|(simp;done)|(simp;omega)) ?_
   |refine ReT.i rfl ?_ ?_
   |refine ReT.ptr rfl rfl rfl rfl rfl ?_
   |refine ReT.gen ?_ ?_)
  |(refine TrueB.mk ?_;kernel_rfl)
  |(apply K.eq;first|exact rfl|omega|assumption|(simp;done)|(simp;omega)|(exact absurd (by simp;done) ‹¬ _›)|((repeat (revert hgo));(repeat ((fail_if_success with_reducible apply Hold.h hold);replace hold:=Hold.t hold));with_reducible apply Hold.h hold))
  |(refine K.le ?_;first|omega|(simp;omega)|assumption|((repeat (revert hgo));(repeat ((fail_if_success with_reducible apply Hold.h hold);replace hold:=Hold.t hold));with_reducible apply Hold.h hold))
  |(refine K.lt ?_;first|omega|(simp;omega)|assumption|((repeat (revert hgo));(repeat ((fail_if_success with_reducible apply Hold.h hold);replace hold:=Hold.t hold));with_reducible apply Hold.h hold))
  |refine And.intro ?_ ?_
  |(refine K.RO ?_;first
   |exact ReO.nil
   |refine ReO.ints ?_ (by first|exact .inl rfl|exact .inr rfl) ?_
   |refine ReO.u8s ?_ (by first|exact .inl rfl|exact .inr rfl) ?_
   |refine ReO.rows (fun _=>rfl) ?_ (by first|exact .inl rfl|exact .inr rfl) ?_
   |refine ReO.cons (Re.same rfl rfl) (by first|exact .inl rfl|exact .inr rfl) ?_
   |refine ReO.cons ?_ (by first|exact .inl rfl|exact .inr rfl) ?_)
  |(refine K.W ?_;first
   |refine Weak.nestBlk (id:=0) rfl rfl rfl (by first|exact Nat.zero_le _|exact Nat.le_of_ble_eq_true rfl) (by first|rfl|omega|(simp;done)|(simp;omega)) (by first|rfl|omega|(simp;done)|(simp;omega)) ?_
   |refine Weak.nestBlk (id:=1) rfl rfl rfl (by first|exact Nat.zero_le _|exact Nat.le_of_ble_eq_true rfl) (by first|rfl|omega|(simp;done)|(simp;omega)) (by first|rfl|omega|(simp;done)|(simp;omega)) ?_
   |refine Weak.mk ?_ ?_ (by first|exact Nat.zero_le _|exact Nat.le_of_ble_eq_true rfl))
  |refine Abs.Seq.ret ?_
  |refine Abs.Seq.exit ?_
  |refine Blk.n ?_
  |refine Blk.ret ?_
  |refine Blk.exitHere ?_
  |(refine K.R ?_;first
   |refine Rnd.ret ?_
   |refine Rnd.exit ?_
   |refine Rnd.succ ?_ ?_ ?_
   |((repeat (revert hgo));(repeat ((fail_if_success with_reducible apply Hold.h hold);replace hold:=Hold.t hold));with_reducible apply Hold.h hold))
  |(refine K.F ?_;first
   |apply Fin.one0
   |apply Fin.one1
   |apply Fin.one2
   |apply Fin.one3
   |apply Fin.two0
   |apply Fin.two1
   |apply Fin.two2
   |apply Fin.two3
   |apply Fin.three0
   |apply Fin.three1
   |apply Fin.three2
   |apply Fin.three3
   |((repeat (revert hgo));(repeat ((fail_if_success with_reducible apply Hold.h hold);replace hold:=Hold.t hold));with_reducible apply Hold.h hold))
  |(refine K.FG ?_;first
   |apply FinG.o10
   |apply FinG.o11
   |apply FinG.o20
   |apply FinG.o21
   |apply FinG.o30
   |apply FinG.o31
   |apply FinG.o40
   |apply FinG.o41
   |apply FinG.z10
   |apply FinG.z11
   |apply FinG.z20
   |apply FinG.z21
   |apply FinG.z30
   |apply FinG.z31
   |apply FinG.z40
   |apply FinG.z41
   |apply FinG.t10
   |apply FinG.t11
   |apply FinG.t20
   |apply FinG.t21
   |apply FinG.t30
   |apply FinG.t31
   |apply FinG.t40
   |apply FinG.t41
   |((repeat (revert hgo));(repeat ((fail_if_success with_reducible apply Hold.h hold);replace hold:=Hold.t hold));with_reducible apply Hold.h hold))
  |exact ResV.tmp rfl
  |exact ResV.cellP rfl rfl rfl rfl rfl
  |exact ResV.cell (ds:=[_]) rfl rfl rfl rfl rfl
  |exact ResV.cell (ds:=[_,_]) rfl rfl rfl rfl rfl
  |exact ResV.cell (ds:=[_,_,_]) rfl rfl rfl rfl rfl
  |exact ResV.cell (ds:=[_,_,_,_]) rfl rfl rfl rfl rfl
  |exact ResV.cell (ds:=[_,_,_,_,_]) rfl rfl rfl rfl rfl
  |exact ResV.cell (ds:=[_,_,_,_,_,_]) rfl rfl rfl rfl rfl
  |exact ResV.cell (ds:=[_,_,_,_,_,_,_]) rfl rfl rfl rfl rfl
  |exact ResV.cell (ds:=[_,_,_,_,_,_,_,_]) rfl rfl rfl rfl rfl
  |(refine K.E ?_;first
   |exact Ex.nil
   |refine Ex.keep rfl rfl rfl ?_
   |refine Ex.own rfl rfl rfl rfl ?_
   |refine Ex.own rfl rfl rfl ?_ ?_
   |refine Ex.nilO rfl ?_
   |refine Ex.nilO' rfl ?_ ?_
   |refine Ex.agg ?_ ?_
   |refine Ex.tup ?_ ?_
   |refine Ex.i ?_ ?_
   |refine Ex.b ?_ ?_
   |refine Ex.z ?_ ?_)
  |(refine K.NE ?_;first
   |exact NEx.nil
   |refine NEx.ints rfl ?_ ?_
   |refine NEx.noInts ?_ ?_
   |refine NEx.intsN rfl ?_ ?_
   |refine NEx.rows (fun _=>rfl) rfl ?_ ?_
   |refine NEx.noRows ?_ ?_
   |refine NEx.gone ?_ rfl ?_
   |refine NEx.obj rfl ?_ rfl rfl rfl (.inr rfl) ?_)
  |exact Re.nil
  |refine Re.keep rfl rfl ?_
  |refine Re.fn rfl ?_
  |refine Re.own rfl rfl rfl rfl rfl (by first|rfl|omega|(simp;done)|(simp;omega)) ?_
  |refine Re.ptr rfl rfl rfl rfl ?_
  |refine Re.agg ?_ ?_
  |refine Re.tup ?_ ?_
  |refine Re.i ?_ ?_
  |exact rfl
  |omega
  |(refine fun hgo=>?_)
  |(simp;done)
  |(simp;omega)
  |((repeat (revert hgo));(repeat ((fail_if_success with_reducible apply Hold.h hold);replace hold:=Hold.t hold));with_reducible apply Hold.h hold))
  all_goals (try ((repeat (revert hgo));(repeat ((fail_if_success with_reducible apply Hold.h hold);replace hold:=Hold.t hold));with_reducible apply Hold.h hold))
  all_goals exact True
 ·first|exact IsT.t|exact IsT.any
 ) (r:R):P:=h.1 ⟨r⟩
end Go.Proofs.YtndflfipaddfoaaGreat


namespace Go.Proofs.YtndflfipaddfoaaGreat
open Go Go.Abs
abbrev XD (l:List Int):AObj:=⟨ints l,1,1,some 3⟩
end Go.Proofs.YtndflfipaddfoaaGreat


namespace Go.Proofs.YtndflfipaddfoaaGreat
open Go Go.Abs
def Dn (l:List Int) (w:Int) (i m:Nat):Prop:=(1≤l.getD m 0∧l.getD m 0<w)∨(l.getD m 0=w∧m<i)
def hit (c l:List Int) (m:Nat) (v:Int):Prop:=c.getD m 0*cw (l.getD m 0)≤v∧v<(c.getD m 0+1)*cw (l.getD m 0)
structure J (l:List Int) (w p:Int) (i:Nat) (s:List Int×Int):Prop where
 len:s.1.length=l.length
 lo:0≤s.2
 cod:∀m,m<l.length→Dn l w i m→0≤s.1.getD m 0∧(s.1.getD m 0+1)*cw (l.getD m 0)≤s.2*p
 cov:∀v,0≤v→v<s.2*p→∃m,m<l.length∧Dn l w i m∧hit s.1 l m v
 uni:∀m m' v,m<l.length→m'<l.length→Dn l w i m→Dn l w i m'→hit s.1 l m v→hit s.1 l m' v→m=m'
theorem getD_set (c:List Int) (i m:Nat) (v:Int) (h:i<c.length):(c.set i v).getD m 0=if m=i then v else c.getD m 0:=by
 rw [List.getD_eq_getElem?_getD,List.getElem?_set]
 by_cases e:i=m
 ·subst e;simp [h]
 ·have:¬m=i:=fun h=>e h.symm
  simp [e,this]
theorem J.step {l:List Int} {w p:Int} {i:Nat} {s:List Int×Int} (h:J l w p i s) (hi:i<l.length) (hp:cw w=p) (hp0:0<p) (hw:1≤w):
 J l w p (i+1) (if l.getD i 0=w then (s.1.set i s.2,s.2+1) else s):=by
 by_cases e:l.getD i 0=w
 ·rw [if_pos e]
  have hl:=h.len
  have hmul:(s.2+1)*p=s.2*p+p:=by rw [Int.add_mul,Int.one_mul]
  have hD:∀m,Dn l w (i+1) m↔Dn l w i m∨m=i:=by
   intro m;unfold Dn;constructor
   ·rintro (h|⟨h1,h2⟩)
    ·exact .inl (.inl h)
    ·by_cases hm:m=i
     ·exact .inr hm
     ·exact .inl (.inr ⟨h1,by omega⟩)
   ·rintro ((h|⟨h1,h2⟩)|rfl)
    ·exact .inl h
    ·exact .inr ⟨h1,by omega⟩
    ·exact .inr ⟨e,by omega⟩
  have hne:∀m,Dn l w i m→m≠i:=by
   rintro m (h|⟨_,h⟩) rfl
   ·omega
   ·omega
  have hg:∀m,(s.1.set i s.2).getD m 0=if m=i then s.2 else s.1.getD m 0:=fun m=>getD_set s.1 i m s.2 (by omega)
  have hhit:∀m v,m≠i→(hit (s.1.set i s.2) l m v↔hit s.1 l m v):=by intro m v hm;unfold hit;rw [hg,if_neg hm]
  have hhi:∀v,hit (s.1.set i s.2) l i v↔s.2*p≤v∧v<s.2*p+p:=by intro v;unfold hit;rw [hg,if_pos rfl,e,hp,hmul]
  refine ⟨by simp [hl],by have:=h.lo;simp only;omega,fun m hm hd=>?_,fun v h0 hv=>?_,fun m m' v hm hm' hd hd' h1 h2=>?_⟩
  ·show 0≤(s.1.set i s.2).getD m 0∧((s.1.set i s.2).getD m 0+1)*_≤(s.2+1)*p
   rw [hg,hmul]
   rcases (hD m).1 hd with hd|rfl
   ·rw [if_neg (hne m hd)];have:=h.cod m hm hd;omega
   ·rw [if_pos rfl,e,hp,hmul];have:=h.lo;omega
  ·have hv:v<(s.2+1)*p:=hv
   rw [hmul] at hv
   by_cases hlt:v<s.2*p
   ·obtain ⟨m,h1,h2,h3⟩:=h.cov v h0 hlt
    exact ⟨m,h1,(hD m).2 (.inl h2),(hhit m v (hne m h2)).2 h3⟩
   ·exact ⟨i,hi,(hD i).2 (.inr rfl),(hhi v).2 ⟨by omega,hv⟩⟩
  ·rcases (hD m).1 hd with d1|rfl<;>rcases (hD m').1 hd' with d2|e2
   ·exact h.uni m m' v hm hm' d1 d2 ((hhit m v (hne m d1)).1 h1) ((hhit m' v (hne m' d2)).1 h2)
   ·subst e2
    have a:=(hhit m v (hne m d1)).1 h1
    have b:=(hhi v).1 h2
    have c:=h.cod m hm d1
    unfold hit at a;omega
   ·have a:=(hhit m' v (hne m' d2)).1 h2
    have b:=(hhi v).1 h1
    have c:=h.cod m' hm' d2
    unfold hit at a;omega
   ·exact e2.symm
 ·rw [if_neg e]
  have hD:∀m,Dn l w (i+1) m↔Dn l w i m:=by
   intro m;unfold Dn;constructor
   ·rintro (h|⟨h1,h2⟩)
    ·exact .inl h
    ·refine .inr ⟨h1,?_⟩
     have:m≠i:=by rintro rfl;exact e h1
     omega
   ·rintro (h|⟨h1,h2⟩)
    ·exact .inl h
    ·exact .inr ⟨h1,by omega⟩
  exact ⟨h.len,h.lo,fun m hm hd=>h.cod m hm ((hD m).1 hd),fun v h0 hv=>by
   obtain ⟨m,h1,h2,h3⟩:=h.cov v h0 hv
   exact ⟨m,h1,(hD m).2 h2,h3⟩,fun m m' v hm hm' hd hd'=>h.uni m m' v hm hm' ((hD m).1 hd) ((hD m').1 hd')⟩
theorem J.level {l:List Int} {w p q:Int} {s:List Int×Int} (h:J l w p l.length s) (hpq:p=2*q) (hw:1≤w):J l (w+1) q 0 (s.1,s.2*2):=by
 have e:s.2*2*q=s.2*p:=by rw [hpq,Int.mul_assoc]
 have hD:∀m,m<l.length→(Dn l (w+1) 0 m↔Dn l w l.length m):=by
  intro m hm;unfold Dn;constructor
  ·rintro (h|⟨h1,h2⟩)
   ·by_cases hw:l.getD m 0=w
    ·exact .inr ⟨hw,hm⟩
    ·exact .inl (by omega)
   ·omega
  ·rintro (h|⟨h1,h2⟩)
   ·exact .inl (by omega)
   ·exact .inl (by omega)
 refine ⟨h.len,?_,fun m hm hd=>?_,fun v h0 hv=>?_,fun m m' v hm hm' hd hd'=>h.uni m m' v hm hm' ((hD m hm).1 hd) ((hD m' hm').1 hd')⟩
 ·show 0≤s.2*2
  have:=h.lo;omega
 ·show 0≤s.1.getD m 0∧_≤s.2*2*q
  rw [e];exact h.cod m hm ((hD m hm).1 hd)
 ·have hv:v<s.2*2*q:=hv
  rw [e] at hv
  obtain ⟨m,h1,h2,h3⟩:=h.cov v h0 hv
  exact ⟨m,h1,(hD m h1).2 h2,h3⟩
theorem J.inn {l:List Int} {w p:Int} {s:List Int×Int} (h:J l w p 0 s) (hp:cw w=p) (hp0:0<p) (hw:1≤w):∀i,i≤l.length→J l w p i (cIn w l i s)
 |0,_=>h
 |i+1,hi=>by rw [cIn];exact J.step (J.inn h hp hp0 hw i (by omega)) (by omega) hp hp0 hw
theorem J7 (l:List Int):J l 7 1 l.length (cOut l 7):=by
 have j0:J l 1 64 0 ((cOut l 0).1,(cOut l 0).2*2):=by
  refine ⟨by simp [cOut],by simp [cOut],fun m hm hd=>?_,fun v h0 hv=>?_,fun m m' v hm hm' hd=>?_⟩
  ·unfold Dn at hd;omega
  ·have:v<0:=by simpa [cOut] using hv
   omega
  ·unfold Dn at hd;omega
 have j1:=(J.inn j0 (by decide) (by decide) (by decide) l.length (Nat.le_refl _)).level (q:=32) (by decide) (by decide)
 have j2:=(J.inn j1 (by decide) (by decide) (by decide) l.length (Nat.le_refl _)).level (q:=16) (by decide) (by decide)
 have j3:=(J.inn j2 (by decide) (by decide) (by decide) l.length (Nat.le_refl _)).level (q:=8) (by decide) (by decide)
 have j4:=(J.inn j3 (by decide) (by decide) (by decide) l.length (Nat.le_refl _)).level (q:=4) (by decide) (by decide)
 have j5:=(J.inn j4 (by decide) (by decide) (by decide) l.length (Nat.le_refl _)).level (q:=2) (by decide) (by decide)
 have j6:=(J.inn j5 (by decide) (by decide) (by decide) l.length (Nat.le_refl _)).level (q:=1) (by decide) (by decide)
 exact J.inn j6 (by decide) (by decide) (by decide) l.length (Nat.le_refl _)
theorem cIn_cnt (w:Int) (l:List Int) (s:List Int×Int):∀i,i≤l.length→(cIn w l i s).2=s.2+((l.take i).count w:Nat)
 |0,_=>by simp [cIn]
 |i+1,hi=>by
  have ih:=cIn_cnt w l s i (by omega)
  rw [cIn,List.take_succ_eq_append_getElem (by omega),List.count_append]
  have e:l.getD i 0=l[i]:=by simp [show i<l.length by omega]
  rw [e]
  by_cases h:l[i]=w
  ·rw [if_pos h];simp only [h,List.count_singleton_self];omega
  ·rw [if_neg h];simp only [List.count_singleton,beq_iff_eq,h,if_false];omega
theorem csum_cnt (l:List Int) (h:In l 0 7):csum l=64*(l.count 1:Nat)+32*(l.count 2:Nat)+16*(l.count 3:Nat)+8*(l.count 4:Nat)+4*(l.count 5:Nat)+2*(l.count 6:Nat)+(l.count 7:Nat):=by
 induction l with
 |nil=>simp [csum]
 |cons x l ih=>
  have hx:0≤x∧x≤7:=by unfold In at h;exact h x (by simp)
  have ih:=ih (by unfold In at *;exact fun v hv=>h v (List.mem_cons_of_mem _ hv))
  have hc:csum (x::l)=cw x+csum l:=by unfold csum;simp
  have key:∀k:Fin 8,cw (k.val:Int)+csum l=64*((((k.val:Int)::l).count 1:Nat):Int)+32*(((k.val:Int)::l).count 2:Nat)+16*(((k.val:Int)::l).count 3:Nat)+8*(((k.val:Int)::l).count 4:Nat)+4*(((k.val:Int)::l).count 5:Nat)+2*(((k.val:Int)::l).count 6:Nat)+(((k.val:Int)::l).count 7:Nat):=by
   have c0:cw 0=0:=by decide
   have c1:cw 1=64:=by decide
   have c2:cw 2=32:=by decide
   have c3:cw 3=16:=by decide
   have c4:cw 4=8:=by decide
   have c5:cw 5=4:=by decide
   have c6:cw 6=2:=by decide
   have c7:cw 7=1:=by decide
   rintro ⟨k,hk⟩
   rcases (by omega:k=0∨k=1∨k=2∨k=3∨k=4∨k=5∨k=6∨k=7) with rfl|rfl|rfl|rfl|rfl|rfl|rfl|rfl<;>simp [List.count_cons,c0,c1,c2,c3,c4,c5,c6,c7]<;>omega
  obtain ⟨k,rfl⟩:∃k:Nat,x=k:=⟨x.toNat,by omega⟩
  rw [hc];exact key ⟨k,by omega⟩
theorem next7 (l:List Int) (h:In l 0 7):(cOut l 7).2=csum l:=by
 have e:∀w,(cOut l (w+1)).2=(cOut l w).2*2+(l.count ((w:Int)+1):Nat):=by
  intro w;rw [cOut,cIn_cnt _ _ _ _ (Nat.le_refl _),List.take_length]
 have e1:=e 0;have e2:=e 1;have e3:=e 2;have e4:=e 3;have e5:=e 4;have e6:=e 5;have e7:=e 6
 have e0:(cOut l 0).2=0:=rfl
 rw [csum_cnt l h]
 simp only [Nat.reduceAdd,Int.natCast_zero,Int.reduceAdd,Int.zero_add] at e1 e2 e3 e4 e5 e6 e7
 simp only [show ((1:Nat):Int)+1=2 from rfl,show ((2:Nat):Int)+1=3 from rfl,show ((3:Nat):Int)+1=4 from rfl,show ((4:Nat):Int)+1=5 from rfl,show ((5:Nat):Int)+1=6 from rfl,show ((6:Nat):Int)+1=7 from rfl] at e1 e2 e3 e4 e5 e6 e7
 omega
theorem code_in {l:List Int} (h:CodeOk l) {m:Nat} (hm:m<6):0≤l.getD m 0∧l.getD m 0≤7:=by
 have h6:=h.2.1
 exact in_get h.1 (by omega)
theorem code_fit {l:List Int} (h:CodeOk l) {m:Nat} (hm:m<6) (h1:l.getD m 0≠0):0≤(codes l).getD m 0∧((codes l).getD m 0+1)*cw (l.getD m 0)≤128:=by
 have h6:=h.2.1
 have hb:=code_in h hm
 have:=(J7 l).cod m (by omega) (by unfold Dn;omega)
 rw [next7 l h.1,h.2.2] at this
 simpa [codes] using this
theorem code_lt {l:List Int} (h:CodeOk l) {m:Nat} (hm:m<6) (h1:l.getD m 0≠0):(codes l).getD m 0<2 ^ (l.getD m 0).toNat:=by
 have hb:=code_in h hm
 have hf:=(code_fit h hm h1).2
 generalize (codes l).getD m 0=c at*
 generalize l.getD m 0=n at*
 have key:∀k:Fin 8,k.val≠0→(c+1)*cw (k.val:Int)≤128→c<2 ^ ((k.val:Int)).toNat:=by
  rintro ⟨k,hk⟩ h0 hc
  rcases (by omega:k=0∨k=1∨k=2∨k=3∨k=4∨k=5∨k=6∨k=7) with rfl|rfl|rfl|rfl|rfl|rfl|rfl|rfl
  ·exact absurd rfl h0
  all_goals simp [cw] at hc ⊢
  all_goals omega
 obtain ⟨k,rfl⟩:∃k:Nat,n=k:=⟨n.toNat,by omega⟩
 exact key ⟨k,by omega⟩ (fun e=>h1 (by simp at e;simp [e])) hf
theorem code_uni {l:List Int} (h:CodeOk l) {m m':Nat} {v:Int} (hm:m<6) (hm':m'<6) (h0:l.getD m 0≠0) (h0':l.getD m' 0≠0) (h1:hit (codes l) l m v) (h2:hit (codes l) l m' v):m=m':=by
 have h6:=h.2.1
 have b1:=code_in h hm
 have b2:=code_in h hm'
 exact (J7 l).uni m m' v (by omega) (by omega) (by unfold Dn;omega) (by unfold Dn;omega) h1 h2
end Go.Proofs.YtndflfipaddfoaaGreat


namespace Go.Proofs.YtndflfipaddfoaaGreat
open Go Go.Abs
attribute [local irreducible] WpA WpL Rnd Blk Abs.Seq Abs.Fin Abs.FinG FnC FnG Only
def HasC (l:List Int) (m:Int):Prop:=CodeOk l∧(0≤m∧m≤5)∧l.getD m.toNat 0≠0
instance (l:List Int) (m:Int):Decidable (HasC l m):=by unfold HasC;infer_instance
def symL (l:List Int) (m:Int):List Int:=if HasC l m then bitsL ((codes l).getD m.toNat 0) (l.getD m.toNat 0) else []
theorem sym_fit {l:List Int} {m:Int} (h:HasC l m):(1≤l.getD m.toNat 0∧l.getD m.toNat 0≤7)∧0≤(codes l).getD m.toNat 0∧(codes l).getD m.toNat 0≤127∧bitOk ((codes l).getD m.toNat 0) (l.getD m.toNat 0):=by
 obtain ⟨h1,h2,h3⟩:=h
 have a:=code_in h1 (m:=m.toNat) (by omega)
 have b:=code_fit h1 (m:=m.toNat) (by omega) h3
 have c:=code_lt h1 (m:=m.toNat) (by omega) h3
 have d:(codes l).getD m.toNat 0≤127:=by
  have:(2:Int) ^ (l.getD m.toNat 0).toNat≤2 ^ 7:=by
   have:=Nat.pow_le_pow_right (n:=2) (by decide) (show (l.getD m.toNat 0).toNat≤7 by omega)
   exact_mod_cast this
  omega
 exact ⟨by omega,b.1,d,by omega,b.1,Int.ediv_eq_zero_of_lt b.1 c⟩
theorem symL_len (l:List Int) (m:Int):((symL l m).length:Int)=if HasC l m then l.getD m.toNat 0 else 0:=by
 unfold symL
 split
 ·rename_i h
  obtain ⟨h1,h2,h3,h4⟩:=sym_fit h
  rw [bitsL,if_pos h4,bitsR_len];omega
 ·rfl
theorem symL_pos (l:List Int) (m:Int):0<(symL l m).length↔HasC l m:=by
 have:=symL_len l m
 split at this
 ·rename_i h;have:=(sym_fit h).1;constructor<;>intro _<;>first|assumption|omega
 ·rename_i h;constructor
  ·intro h';omega
  ·intro h';exact absurd h' h
instance SymBits_s:Con 207 (∀ (l:List Int) (m:Int),l.length≤1099511627776→Fn 207 [IL l,I m] [XI (symL l m)] (.own 0 0 0 (symL l m).length)):=⟨fun l m hl=>by
 by_cases h:HasC l m
 ·obtain ⟨h1,h2,h3⟩:=id h
  obtain ⟨f1,f2,f3,f4⟩:=sym_fit h
  have h6:=h1.2.1
  have e:=codesR_ok l h1
  have h7:(codesR l).length=6:=codesR_len l h1
  rw [←e] at f2 f3
  refine FnC.of_body tabOk Tryz.func207 Tryz.ntmps207 rfl (by decide +kernel) (by simp) fun G=>?_
  refine go (r:=?_);and_intros<;>intros<;>try exact True.intro
  all_goals first|(exact absurd ‹CodeOk l› ‹¬ CodeOk l›)|(exact absurd h1 (by assumption))|(exact absurd h2 (by assumption))|(exact absurd (by assumption) h3)|skip
  ·rw [symL,if_pos h,e]
  ·rw [symL,if_pos h,e]
 ·have e:symL l m=[]:=by rw [symL,if_neg h]
  by_cases hc:CodeOk l
  ·have h6:=hc.2.1
   have h7:(codes l).length=6:=by rw [codes_len,h6]
   by_cases hm:0≤m∧m≤5
   ·have h0:l.getD m.toNat 0=0:=Decidable.not_not.1 fun hh=>h ⟨hc,hm,hh⟩
    refine FnC.of_body tabOk Tryz.func207 Tryz.ntmps207 rfl (by decide +kernel) (by simp) fun G=>?_
    refine go (r:=?_);and_intros<;>intros<;>try exact True.intro
    all_goals first|(rw [e];done)|(rw [e];rfl)|skip
   ·refine FnC.of_body tabOk Tryz.func207 Tryz.ntmps207 rfl (by decide +kernel) (by simp) fun G=>?_
    refine go (r:=?_);and_intros<;>intros<;>try exact True.intro
    all_goals first|(rw [e];done)|(rw [e];rfl)|skip
  ·refine FnC.of_body tabOk Tryz.func207 Tryz.ntmps207 rfl (by decide +kernel) (by simp) fun G=>?_
   refine go (r:=?_);and_intros<;>intros<;>try exact True.intro
   all_goals first|(rw [e];done)|(rw [e];rfl)|skip⟩
instance SymBits_c:Con 264 (∀ (l:List Int) (m:Int),l.length≤1099511627776→Fn 264 [IL l,I m] [XI (symL l m)] (.own 0 0 0 (symL l m).length)):=⟨fun l m hl=>by
 by_cases h:HasC l m
 ·obtain ⟨h1,h2,h3⟩:=id h
  obtain ⟨f1,f2,f3,f4⟩:=sym_fit h
  have h6:=h1.2.1
  have h7:(codes l).length=6:=by rw [codes_len,h6]
  refine FnC.of_body tabOk Tryz.func264 Tryz.ntmps264 rfl (by decide +kernel) (by simp) fun G=>?_
  refine go (r:=?_);and_intros<;>intros<;>try exact True.intro
  all_goals first|(exact absurd ‹CodeOk l› ‹¬ CodeOk l›)|(exact absurd h1 (by assumption))|(exact absurd h2 (by assumption))|(exact absurd (by assumption) h3)|skip
  ·rw [symL,if_pos h]
  ·rw [symL,if_pos h]
 ·have e:symL l m=[]:=by rw [symL,if_neg h]
  by_cases hc:CodeOk l
  ·have h6:=hc.2.1
   have h7:(codes l).length=6:=by rw [codes_len,h6]
   by_cases hm:0≤m∧m≤5
   ·have h0:l.getD m.toNat 0=0:=Decidable.not_not.1 fun hh=>h ⟨hc,hm,hh⟩
    refine FnC.of_body tabOk Tryz.func264 Tryz.ntmps264 rfl (by decide +kernel) (by simp) fun G=>?_
    refine go (r:=?_);and_intros<;>intros<;>try exact True.intro
    all_goals first|(rw [e];done)|(rw [e];rfl)|skip
   ·refine FnC.of_body tabOk Tryz.func264 Tryz.ntmps264 rfl (by decide +kernel) (by simp) fun G=>?_
    refine go (r:=?_);and_intros<;>intros<;>try exact True.intro
    all_goals first|(rw [e];done)|(rw [e];rfl)|skip
  ·refine FnC.of_body tabOk Tryz.func264 Tryz.ntmps264 rfl (by decide +kernel) (by simp) fun G=>?_
   refine go (r:=?_);and_intros<;>intros<;>try exact True.intro
   all_goals first|(rw [e];done)|(rw [e];rfl)|skip⟩
end Go.Proofs.YtndflfipaddfoaaGreat


namespace Go.Proofs.YtndflfipaddfoaaGreat
open Go Go.Abs
attribute [local irreducible] WpA WpL Rnd Blk Abs.Seq Abs.Fin Abs.FinG FnC FnG Only
def modeNames:List (List UInt8):=[[109,101,97,110],[100,111,119,110],[97,99,114,111,115,115],[115,108,111,112,101],[108,101,102,116],[114,105,103,104,116]]
def modeW (m:Int):List UInt8:=if 0≤m∧m≤5 then modeNames.getD m.toNat [] else []
theorem modeW_nil (m:Int):modeW m=[]↔¬(0≤m∧m≤5):=by
 have key:∀k:Fin 6,modeNames.getD k.val []≠[]:=by decide
 unfold modeW
 constructor
 ·intro h hm
  rw [if_pos hm] at h
  exact key ⟨m.toNat,by omega⟩ h
 ·intro h;rw [if_neg h]
end Go.Proofs.YtndflfipaddfoaaGreat
