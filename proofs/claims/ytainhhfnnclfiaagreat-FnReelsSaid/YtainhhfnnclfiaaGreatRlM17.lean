/- Proved in this text: lemmas and contracts of functions that the claim uses (parts: DebI, Rec5, Rec4, Nba, Res2, Res3, Putc, BldI, BldR, Dec, PlR, SmF, AbsPc, AbsYb). No condition. -/
import Derived.Test.YtainhhfnnclfiaaGreatRlM16
import Derived.Test.YtainhhfnnclfiaaGreatRlM12
import Derived.Test.YtainhhfnnclfiaaGreatRlM11
import Derived.Test.YtainhhfnnclfiaaGreatRlM15
import Derived.Test.YtainhhfnnclfiaaGreatRlM9
import Derived.Test.YtainhhfnnclfiaaGreatRlM10
import Derived.Test.YtainhhfnnclfiaaGreatRlM5
set_option linter.unusedVariables false
set_option linter.unusedSimpArgs false
set_option maxRecDepth 100000
set_option maxHeartbeats 16000000


namespace Go.Proofs.YtainhhfnnclfiaaGreat
open Go Go.Abs
attribute [local irreducible] WpA WpL Rnd Blk Abs.Seq Abs.Fin Abs.FinG FnC FnG Only
theorem run_snoc (q:Int) (E:List (Nat×Nat)) (e s:Nat) (l:List Int):run q (E++[(e,s)]) l=edg q e s (run q E l) (run q E l):=by rw [run_app];rfl
theorem run_nil (q:Int) (l:List Int):run q [] l=l:=rfl
theorem vx_nil (w y:Nat):vx w y 0=[]:=rfl
theorem vy_nil (w a:Nat):vy w a 0=[]:=rfl
theorem hx_nil (w y:Nat):hx w y 0=[]:=rfl
theorem hy_nil (w:Nat):hy w 0=[]:=rfl
theorem rowLe {w h y:Nat} (hy:y<h):y*w+w≤w*h:=by
 have:=Nat.mul_le_mul_right w (show y+1≤h by omega)
 rw [Nat.add_mul,Nat.one_mul,Nat.mul_comm h w] at this;exact this
theorem in4of {f:List Int} (hf:In f 0 255) (a b c d:Nat):In [f.getD a 0,f.getD b 0,f.getD c 0,f.getD d 0] 0 255:=by
 have h1:=in_getZ255 hf a
 have h2:=in_getZ255 hf b
 have h3:=in_getZ255 hf c
 have h4:=in_getZ255 hf d
 unfold In
 intro v hv
 simp only [List.mem_cons,List.not_mem_nil,or_false] at hv
 rcases hv with rfl|rfl|rfl|rfl<;>assumption
abbrev FrNk (w h:Nat) (f:List Int):Prop:=(w%8=0∧8≤w∧w≤64)∧(h%8=0∧8≤h∧h≤64)∧f.length=w*h∧In f 0 255
abbrev FrHand (W H:Int) (len:Nat):AV:=.agg [I W,I H,.own 0 0 0 len]
instance smoothEdge_c:ConG 289 (∀ (W H:Int) (l:List Int) (e s:Nat) (q:Int),In l 0 255∧2*s≤e∧e+s<l.length∧l.length≤4096∧1≤s→
 Gn 289 [FrHand W H l.length,I e,I s,I q] [IN l] [IN (edg q e s l l)] [] (.tup [])):=⟨fun W H l e s q hh=>by
 obtain ⟨hin,h2,h3,h4,h5⟩:=hh
 have e1:((e:Int)-(s:Int)).toNat=e-s:=by omega
 have e2:((e:Int)-2*(s:Int)).toNat=e-2*s:=by omega
 have e3:((e:Int)+(s:Int)).toNat=e+s:=by omega
 have e0:((e:Int)).toNat=e:=by omega
 have hi4:=in4of hin ((e:Int)-2*(s:Int)).toNat ((e:Int)-(s:Int)).toNat ((e:Int)).toNat ((e:Int)+(s:Int)).toNat
 refine FnG.of_bodyF tabOk Tryz.func289 Tryz.ntmps289 rfl (by decide +kernel) (by simp) rfl rfl fun G=>?_
 refine goR (r:=?_);and_intros<;>intros<;>try exact True.intro
 all_goals first|contradiction|omega|skip
 apply WpA.regionGB 44 mixed (by decide +kernel)
 ·exact rfl
 ·exact headA
 ·exact trueA
 ·exact trueA
 ·exact trueA
 ·exact demA
 ·exact rfl
 ·exact rfl
 refine go (r:=?_);and_intros<;>intros<;>try exact True.intro
 all_goals first|contradiction|omega|(rw [e0,e1,e2,e3];rfl)⟩
section
attribute [local irreducible] run vx vy hx hy edg
instance vertical_c:ConG 262 (∀ (w h:Nat) (l:List Int) (a b:Nat) (q:Int),FrNk w h l∧a≤b∧b≤h→
 Gn 262 [FrHand w h l.length,I a,I b,I q] [IN l] [IN (run q (vy w a (b-a)) l)] [] (.tup [])):=⟨fun w h l a b q hh=>by
 obtain ⟨⟨⟨hw,hw8,hw64⟩,⟨hh8,hh0,hh64⟩,hfl,hin⟩,hab,hbh⟩:=hh
 have hwh:w*h≤64*64:=Nat.mul_le_mul hw64 hh64
 refine FnG.of_bodyF tabOk Tryz.func262 Tryz.ntmps262 rfl (by decide +kernel) (by simp) rfl rfl fun G=>?_
 refine go (r:=?_);and_intros<;>intros<;>try exact True.intro
 all_goals first|contradiction|omega|skip
 refine WpA.loop (fun k:Nat=>⟨[(2,I b),(3,I q),(4,.ptr 1 0 0),(8,I ((a+k:Nat):Int))],[IN (run q (vy w a k) l),⟨[I w,I h,.own 0 0 0 l.length],0,0,none⟩]⟩) (fun k=>k≤b-a) (fun k=>b-a-k) 0 (by omega) (go (r:=?_)) (fun k hk=>?_)
 ·and_intros<;>first|exact True.intro|rfl|(rw [vy_nil,run_nil];done)
 obtain ⟨y,hy⟩:∃y,a+k=y:=⟨_,rfl⟩
 have hkl:=run_len q (vy w a k) l
 by_cases hlt:k<b-a
 ·have hyh:y<h:=by omega
  have hrow:=rowLe (w:=w) hyh
  have hyn:a+(k+1)=y+1:=by omega
  have hvs:=vy_succ w a k
  rw [hy] at hvs
  rw [hy]
  obtain ⟨m,hm⟩:∃m,y*w=m:=⟨_,rfl⟩
  have hpm:(y:Int)*(w:Int)=(m:Int):=by rw [←hm,Int.natCast_mul]
  rw [hm] at hrow
  refine go (r:=?_);and_intros<;>intros<;>try exact True.intro
  all_goals first|contradiction|omega|skip
  refine WpA.loop (fun j:Nat=>⟨[(2,I b),(3,I q),(4,.ptr 1 0 0),(8,I (y:Int)),(9,I (8*(j:Int)+8))],[IN (run q (vy w a k++vx w y j) l),⟨[I w,I h,.own 0 0 0 l.length],0,0,none⟩]⟩) (fun j=>j≤w/8-1) (fun j=>w/8-1-j) 0 (by omega) (go (r:=?_)) (fun j hj=>?_)
  ·and_intros<;>first|exact True.intro|rfl|(rw [vx_nil,List.append_nil];done)
  have hjl:=run_len q (vy w a k++vx w y j) l
  have hji:=run_rg (q:=q) (E:=vy w a k++vx w y j) hin
  by_cases hlt2:j<w/8-1
  ·have hst:=run_snoc q (vy w a k++vx w y j) (m+(8*j+8)) 1 l
   have hvx:=vx_succ w y j
   rw [hm] at hvx
   rw [List.append_assoc,←hvx] at hst
   have e0:(y:Int)*(w:Int)+(8*(j:Int)+8)=((m+(8*j+8):Nat):Int):=by rw [hpm];omega
   refine goR (r:=?_);and_intros<;>intros<;>try exact True.intro
   all_goals first|contradiction|omega|exact Nat.le_refl _|(rw [hm];exact hst.symm)
  ·obtain rfl:j=w/8-1:=by omega
   refine go (r:=?_);and_intros<;>intros<;>try exact True.intro
   all_goals first|contradiction|omega|(rw [hvs];done)
 ·obtain rfl:k=b-a:=by omega
  have hyb:y=b:=by omega
  rw [hy,hyb]
  refine go (r:=?_);and_intros<;>intros<;>try exact True.intro
  all_goals first|contradiction|omega⟩
theorem rowUp {w h y:Nat} (h1:2≤y) (hy:y<h):2*w≤y*w∧y*w+w≤w*h:=⟨Nat.mul_le_mul_right w h1,rowLe hy⟩
instance horizontal_c:ConG 263 (∀ (w h:Nat) (l:List Int) (y:Nat) (q:Int),FrNk w h l∧2≤y∧y+1<h→
 Gn 263 [FrHand w h l.length,I y,I q] [IN l] [IN (run q (hx w y w) l)] [] (.tup [])):=⟨fun w h l y q hh=>by
 obtain ⟨⟨⟨hw,hw8,hw64⟩,⟨hh8,hh0,hh64⟩,hfl,hin⟩,hy2,hyh⟩:=hh
 have hwh:w*h≤64*64:=Nat.mul_le_mul hw64 hh64
 obtain ⟨hr1,hr2⟩:=rowUp (w:=w) hy2 (show y<h by omega)
 have hr3:=rowLe (w:=w) hyh
 rw [Nat.add_mul,Nat.one_mul] at hr3
 obtain ⟨m,hm⟩:∃m,y*w=m:=⟨_,rfl⟩
 have hpm:(y:Int)*(w:Int)=(m:Int):=by rw [←hm,Int.natCast_mul]
 rw [hm] at hr1 hr2 hr3
 refine FnG.of_bodyF tabOk Tryz.func263 Tryz.ntmps263 rfl (by decide +kernel) (by simp) rfl rfl fun G=>?_
 refine go (r:=?_);and_intros<;>intros<;>try exact True.intro
 all_goals first|contradiction|omega|skip
 refine WpA.loop (fun k:Nat=>⟨[(1,I y),(2,I q),(3,.ptr 1 0 0),(8,I w),(9,I k)],[IN (run q (hx w y k) l),⟨[I w,I h,.own 0 0 0 l.length],0,0,none⟩]⟩) (fun k=>k≤w) (fun k=>w-k) 0 (by omega) (go (r:=?_)) (fun k hk=>?_)
 ·and_intros<;>first|exact True.intro|rfl|(rw [hx_nil,run_nil];done)
 have hkl:=run_len q (hx w y k) l
 have hki:=run_rg (q:=q) (E:=hx w y k) hin
 by_cases hlt:k<w
 ·have hst:=run_snoc q (hx w y k) (m+k) w l
  have hvx:=hx_succ w y k
  rw [hm] at hvx
  rw [←hvx] at hst
  refine goR (r:=?_);and_intros<;>intros<;>try exact True.intro
  all_goals first|contradiction|omega|exact Nat.le_refl _|(rw [hm];exact hst.symm)
 ·obtain rfl:k=w:=by omega
  refine go (r:=?_);and_intros<;>intros<;>try exact True.intro
  all_goals first|contradiction|omega⟩
end
instance isFiltered_c:Con 261 (∀ (W H:Int) (p:List Int) (q:Int),p.length≤1099511627776→Fn 261 [FrA W H p,I q] [] (B (decide (FrameOk W H p∧0≤q∧q≤51)))):=⟨fun W H p q hl=>by
 refine FnC.of_body tabOk Tryz.func261 Tryz.ntmps261 rfl (by decide +kernel) (by simp) fun G=>?_
 refine go (r:=?_);and_intros<;>intros<;>try exact True.intro
 all_goals first|(simp_all;done)⟩
def dbL (W H q:Int) (p:List Int):List Int:=if FrameOk W H p∧0≤q∧q≤51 then debL q W.toNat H.toNat p else p
theorem dbL_len (W H q:Int) (p:List Int):(dbL W H q p).length=p.length:=by
 unfold dbL;split
 ·exact debL_len ..
 ·rfl
theorem dbL_yes {w h:Nat} {q:Int} {p:List Int} (hh:FrameOk (w:Int) (h:Int) p∧0≤q∧q≤51):dbL w h q p=run q (hy w (h/8-1)) (run q (vy w 0 h) p):=by
 unfold dbL;rw [if_pos hh];rfl
theorem dbL_no {W H:Int} {q:Int} {p:List Int} (hh:¬(FrameOk W H p∧0≤q∧q≤51)):dbL W H q p=p:=by
 unfold dbL;rw [if_neg hh]
section
attribute [local irreducible] run vx vy hx hy edg
instance DeblockRef_c:Con 202 (∀ (W H:Int) (p:List Int) (q:Int),p.length≤1099511627776→Fn 202 [FrA W H p,I q] [IN (dbL W H q p)] (FrOwn 0 W H p.length)):=⟨fun W H p q hl=>by
 by_cases hok:FrameOk W H p∧0≤q∧q≤51
 ·have hd:=decide_eq_true hok
  obtain ⟨hf,hq0,hq51⟩:=id hok
  obtain ⟨⟨h1,h2,h3,h4,h5,h6⟩,hpl,hin⟩:=hf
  obtain ⟨w,rfl⟩:∃w:Nat,W=w:=⟨W.toNat,by omega⟩
  obtain ⟨h,rfl⟩:∃h:Nat,H=h:=⟨H.toNat,by omega⟩
  have hpl2:p.length=w*h:=by have:((w*h:Nat):Int)=(w:Int)*(h:Int):=Int.natCast_mul w h;omega
  rw [dbL_yes hok]
  have hwh:w*h≤64*64:=Nat.mul_le_mul (by omega) (by omega)
  have hv1:=run_len q (vy w 0 h) p
  have hv2:=run_rg (q:=q) (E:=vy w 0 h) hin
  generalize hP:run q (vy w 0 h) p=P at*
  refine FnC.of_body tabOk Tryz.func202 Tryz.ntmps202 rfl (by decide +kernel) (by simp) fun G=>?_
  refine go (r:=?_);and_intros<;>intros<;>try exact True.intro
  all_goals first|contradiction|exact Nat.zero_le _|omega|skip
  rw [Nat.sub_zero,hP]
  refine WpA.loop (fun k:Nat=>⟨[(1,I q),(2,.ptr 0 0 0),(4,.ptr 1 0 0),(5,.ptr 3 0 0),(6,I (8*(k:Int)+8))],[FrO w h p,⟨[I 0,I 0,.nilS],0,0,none⟩,IN (run q (hy w k) P),⟨[I w,I h,.own 2 0 0 p.length],0,0,none⟩]⟩) (fun k=>k≤h/8-1) (fun k=>h/8-1-k) 0 (by omega) (go (r:=?_)) (fun k hk=>?_)
  ·and_intros<;>first|exact True.intro|rfl|(rw [hy_nil,run_nil];done)
  have hkl:=run_len q (hy w k) P
  have hki:=run_rg (q:=q) (E:=hy w k) hv2
  by_cases hlt:k<h/8-1
  ·have hst:run q (hy w (k+1)) P=run q (hx w (8*k+8) w) (run q (hy w k) P):=by rw [hy_succ,run_app]
   refine goR (r:=?_);and_intros<;>intros<;>try exact True.intro
   all_goals first|contradiction|omega|exact hst.symm|(show 2≤8*k+8;omega)|(show 8*k+8+1<h;omega)
  ·obtain rfl:k=h/8-1:=by omega
   refine go (r:=?_);and_intros<;>intros<;>try exact True.intro
   all_goals first|contradiction|omega
 ·have hd:=decide_eq_false hok
  rw [dbL_no hok]
  refine FnC.of_body tabOk Tryz.func202 Tryz.ntmps202 rfl (by decide +kernel) (by simp) fun G=>?_
  refine go (r:=?_);and_intros<;>intros<;>try exact True.intro
  all_goals first|contradiction|omega⟩
end
end Go.Proofs.YtainhhfnnclfiaaGreat


namespace Go.Proofs.YtainhhfnnclfiaaGreat
open Go Go.Abs
attribute [local irreducible] WpA WpL Rnd Blk Abs.Seq Abs.Fin Abs.FinG FnC FnG Only
theorem recL_yes {p r:List Int} (h:TwoOk p r):recL p r=tabL (recF p r) p.length:=by unfold recL;rw [if_pos h]
theorem recL_no {p r:List Int} (h:¬TwoOk p r):recL p r=[]:=by unfold recL;rw [if_neg h]
theorem rec_snoc (p r:List Int) (k:Nat) {v:Int} (h:v=recF p r k):tabL (recF p r) k++[v]=tabL (recF p r) (k+1):=by rw [tabL_snoc,h]
instance Recon_c:Con 201 (∀ p r:List Int,p.length≤1099511627776∧r.length≤1099511627776→Fn 201 [IL p,IL r] [XI (recL p r)] (.own 0 0 0 (recL p r).length)):=⟨fun p r hl=>by
 have hsp:=side_pos p.length
 by_cases h:TwoOk p r
 ·obtain ⟨h1,h2,h3⟩:=id h
  have e:=recL_yes h
  refine FnC.of_body tabOk Tryz.func201 Tryz.ntmps201 rfl (by decide +kernel) (by simp) fun G=>?_
  refine go (r:=?_);and_intros<;>intros<;>try exact True.intro
  all_goals first|contradiction|omega|skip
  refine WpA.loop (fun k:Nat=>⟨[(1,IL r),(5,.own 0 0 0 k),(25,IL p),(26,I p.length),(27,I k)],[XI (tabL (recF p r) k)]⟩) (fun k=>k≤p.length) (fun k=>p.length-k) 0 (by omega) (go (r:=?_)) (fun k hk=>?_)
  ·simp [tabL]
  have hkl:=tabL_len (recF p r) k
  have g1:=fun hh=>in_get h3 (k:=k) hh
  by_cases hlt:k<p.length
  ·have g2:=g1 hlt
   refine go (r:=?_);and_intros<;>intros<;>try exact True.intro
   all_goals first|contradiction|omega|(exact rec_snoc p r k (by unfold recF;omega))
  ·obtain rfl:k=p.length:=by omega
   refine go (r:=?_);and_intros<;>intros<;>try exact True.intro
   all_goals first|contradiction|omega|(rw [e,tabL_len];done)|(rw [e];done)
 ·have e:=recL_no h
  have hno:0<side p.length→p.length=r.length→¬In p 0 255:=fun a b c=>h ⟨a,b,c⟩
  refine FnC.of_body tabOk Tryz.func201 Tryz.ntmps201 rfl (by decide +kernel) (by simp) fun G=>?_
  by_cases ha:0<side p.length
  ·by_cases hb:p.length=r.length
   ·have hc:=hno ha hb
    refine go (r:=?_);and_intros<;>intros<;>try exact True.intro
    all_goals first|contradiction|omega|(rw [e];done)|(rw [e];rfl)
   ·refine go (r:=?_);and_intros<;>intros<;>try exact True.intro
    all_goals first|contradiction|omega|(rw [e];done)|(rw [e];rfl)
  ·have hs0:side p.length=0:=by have:=side_cases p.length;omega
   refine go (r:=?_);and_intros<;>intros<;>try exact True.intro
   all_goals first|contradiction|omega|(rw [e];done)|(rw [e];rfl)⟩
end Go.Proofs.YtainhhfnnclfiaaGreat


namespace Go.Proofs.YtainhhfnnclfiaaGreat
open Go Go.Abs
attribute [local irreducible] WpA WpL Rnd Blk Abs.Seq Abs.Fin Abs.FinG FnC FnG Only
attribute [local irreducible] setK
end Go.Proofs.YtainhhfnnclfiaaGreat


namespace Go.Proofs.YtainhhfnnclfiaaGreat
open Go Go.Abs
attribute [local irreducible] WpA WpL Rnd Blk Abs.Seq Abs.Fin Abs.FinG FnC FnG Only
theorem topF_eq (W:Int) (p:List Int) (x y n:Int) (hn:0<n) (k:Nat):topF W p x y n k=if y=0 then 128 else if (k:Int)<n∨(y%8=0∧x+k<W) then p.getD ((y-1)*W+x+k).toNat 0 else topF W p x y n (k-1):=by
 cases k with
 |zero=>
  rw [topF]
  split
  ·rfl
  ·rw [if_pos (.inl (by simpa using hn))]
 |succ k=>rw [topF];rfl
theorem nb_ix {W H:Int} {p:List Int} {x y n:Int} (h:Fits W H p x y n) {k:Nat} (hk:(k:Int)<2*n) (hy:y≠0) (hc:(k:Int)<n∨(y%8=0∧x+k<W)):0≤(y-1)*W∧(y-1)*W≤1024∧(y-1)*W+x+k<p.length:=by
 obtain ⟨h0,h1,hx,hy2,_⟩:=h
 have:=ix_in h0 (a:=y-1) (b:=x+k) (by omega) (by omega)
 omega
theorem nb_lx {W H:Int} {p:List Int} {x y n:Int} (h:Fits W H p x y n) {k:Nat} (hk:(k:Int)<n) (hx0:0<x):0≤(y+k)*W∧(y+k)*W≤1024∧(y+k)*W+x-1<p.length:=by
 obtain ⟨h0,h1,hx,hy2,_⟩:=h
 have:=ix_in h0 (a:=y+k) (b:=x-1) (by omega) (by omega)
 omega
theorem nb_cx {W H:Int} {p:List Int} {x y n:Int} (h:Fits W H p x y n) (hx0:0<x) (hy0:0<y):0≤(y-1)*W∧(y-1)*W≤1024∧(y-1)*W+x-1<p.length:=by
 obtain ⟨h0,h1,hx,hy2,_⟩:=h
 have:=ix_in h0 (a:=y-1) (b:=x-1) (by omega) (by omega)
 omega
abbrev NbOwn (W H:Int) (p:List Int) (x y n:Int):AV:=.agg [.own 0 0 0 (topL W H p x y n).length,.own 1 0 0 (lefL W H p x y n).length,I (corL W H p x y n),B (hasT W H p x y n),B (hasE W H p x y n)]
abbrev Nb0:AObj:=⟨[.nilS,.nilS,I 0,B false,B false],0,0,none⟩
attribute [local irreducible] topF lefF
instance NbAt_c:Con 136 (∀ (W H:Int) (p:List Int) (x y n:Int),p.length≤1099511627776→Fn 136 [FrA W H p,I x,I y,I n] [XI (topL W H p x y n),XI (lefL W H p x y n)] (NbOwn W H p x y n)):=⟨fun W H p x y n hl=>by
 by_cases h:Fits W H p x y n
 ·have ht:topL W H p x y n=tabL (topF W p x y n) (2*n).toNat:=by unfold topL;rw [if_pos h]
  have hle:lefL W H p x y n=tabL (lefF W p x y) n.toNat:=by unfold lefL;rw [if_pos h]
  have hco:corL W H p x y n=if 0<x∧0<y then p.getD ((y-1)*W+x-1).toNat 0 else 128:=by unfold corL;rw [if_pos h]
  have hhT:hasT W H p x y n=decide (0<y):=by unfold hasT;rw [Bool.eq_iff_iff];simp only [decide_eq_true_eq];exact ⟨fun hh=>hh.2,fun hh=>⟨h,hh⟩⟩
  have hhE:hasE W H p x y n=decide (0<x):=by unfold hasE;rw [Bool.eq_iff_iff];simp only [decide_eq_true_eq];exact ⟨fun hh=>hh.2,fun hh=>⟨h,hh⟩⟩
  unfold NbOwn
  rw [ht,hle,hco,hhT,hhE,tabL_len,tabL_len]
  have hd:=decide_eq_true h
  obtain ⟨h0,h1,hx,hy,_⟩:=id h
  refine FnC.of_body tabOk Tryz.func136 Tryz.ntmps136 rfl (by decide +kernel) (by simp) fun G=>?_
  refine go (r:=?_);and_intros<;>intros<;>try exact True.intro
  all_goals first|contradiction|(exact absurd h (by assumption))|skip
  refine WpA.loop (fun k:Nat=>⟨[(1,I x),(2,I y),(3,I n),(4,.ptr 0 0 0),(8,.ptr 1 0 0),(9,.ptr 2 0 0),(27,I (2*n)),(28,I k)],[FrO W H p,Nb0,⟨[.own 3 0 0 k,.nilS,I 128,B (decide (0<y)),B (decide (0<x))],0,0,none⟩,XI (tabL (topF W p x y n) k)]⟩) (fun k=>(k:Int)≤2*n) (fun k=>(2*n).toNat-k) 0 (by omega) ?_ ?_
  ·exact Weak.nil1 (by first|(show 0≤_;exact Nat.zero_le _)|(repeat' (first|exact RzT.nil|refine RzT.cons ?_ ?_|exact Rz.nil|refine Rz.keep rfl rfl ?_|refine Rz.own rfl rfl rfl rfl rfl (by first|rfl|omega|(simp;done)) ?_|refine Rz.ptr rfl rfl rfl rfl ?_|refine Rz.nilO rfl rfl rfl (by first|rfl|omega|(simp;done)) ?_|refine Rz.agg ?_ ?_|exact RzO.last rfl|(refine RzO.cons ?_ (.inr rfl) ?_)|exact Rz.same rfl (still_ints _)|exact Rz.same rfl (still_rows (fun _=>rfl) _)))) (by first|(show 0≤_;exact Nat.zero_le _)|(repeat' (first|exact RzT.nil|refine RzT.cons ?_ ?_|exact Rz.nil|refine Rz.keep rfl rfl ?_|refine Rz.own rfl rfl rfl rfl rfl (by first|rfl|omega|(simp;done)) ?_|refine Rz.ptr rfl rfl rfl rfl ?_|refine Rz.nilO rfl rfl rfl (by first|rfl|omega|(simp;done)) ?_|refine Rz.agg ?_ ?_|exact RzO.last rfl|(refine RzO.cons ?_ (.inr rfl) ?_)|exact Rz.same rfl (still_ints _)|exact Rz.same rfl (still_rows (fun _=>rfl) _)))) (Nat.le_of_ble_eq_true rfl)
  intro k hk
  try simp only at hk ⊢
  have hkl:=tabL_len (topF W p x y n) k
  by_cases hlt:(k:Int)<2*n
  ·have hq:=topF_eq W p x y n (by omega) k
   have hsn:=tabL_snoc (topF W p x y n) k
   by_cases hy0:y=0
   ·rw [if_pos hy0] at hq
    rw [hq] at hsn
    refine go (r:=?_);and_intros<;>intros<;>try exact True.intro
    all_goals first|contradiction|omega|exact hsn.symm
   ·rw [if_neg hy0] at hq
    by_cases hc:(k:Int)<n∨(y%8=0∧x+k<W)
    ·rw [if_pos hc] at hq
     rw [hq] at hsn
     obtain ⟨b1,b2,b3⟩:=nb_ix h hlt hy0 hc
     by_cases hc0:(k:Int)<n
     ·refine go (r:=?_);and_intros<;>intros<;>try exact True.intro
      refine WpL.openAny (t:=48) rfl (fun v0=>?_)
      by_cases hv:v0=.bool true
      ·subst hv
       refine go (r:=?_);and_intros<;>intros<;>try exact True.intro
       all_goals first|contradiction|omega|exact hsn.symm
      ·repeat (refine WpL.guardV (σ:=⟨_,_⟩) rfl rfl (by decide) rfl hv rfl ?_)
       refine go (r:=?_);and_intros<;>intros<;>try exact True.intro
       all_goals first|contradiction|omega|exact hsn.symm
     ·obtain ⟨hc1,hc2⟩:y%8=0∧x+k<W:=hc.resolve_left hc0
      refine go (r:=?_);and_intros<;>intros<;>try exact True.intro
      all_goals first|contradiction|omega|exact hsn.symm
    ·rw [if_neg hc] at hq
     rw [hq] at hsn
     have hk0:0<k:=by omega
     have ek:((k:Int)-1).toNat=k-1:=by omega
     have hge:(tabL (topF W p x y n) k).getD (k-1) 0=topF W p x y n (k-1):=tabL_get (by omega)
     by_cases hc0:(k:Int)<n
     ·exact absurd (.inl hc0) hc
     by_cases hc1:y%8=0
     ·have hc2:¬x+k<W:=fun hh=>hc (.inr ⟨hc1,hh⟩)
      refine go (r:=?_);and_intros<;>intros<;>try exact True.intro
      all_goals first|contradiction|omega|(rw [ek,hge];exact hsn.symm)
     ·refine go (r:=?_);and_intros<;>intros<;>try exact True.intro
      all_goals first|contradiction|omega|(rw [ek,hge];exact hsn.symm)
  ·have hke:k=(2*n).toNat:=by omega
   subst hke
   refine go (r:=?_);and_intros<;>intros<;>try exact True.intro
   all_goals first|contradiction|omega|skip
   refine WpA.loop (fun k:Nat=>⟨[(1,I x),(2,I y),(4,.ptr 0 0 0),(8,.ptr 1 0 0),(9,.ptr 2 0 0),(77,I n),(78,I k)],[FrO W H p,Nb0,⟨[.own 3 0 0 (2*n).toNat,.own 4 0 0 k,I 128,B (decide (0<y)),B (decide (0<x))],0,0,none⟩,XI (tabL (topF W p x y n) (2*n).toNat),XI (tabL (lefF W p x y) k)]⟩) (fun k=>(k:Int)≤n) (fun k=>n.toNat-k) 0 (by omega) ?_ ?_
   ·exact Weak.nil1 (by first|(show 0≤_;exact Nat.zero_le _)|(repeat' (first|exact RzT.nil|refine RzT.cons ?_ ?_|exact Rz.nil|refine Rz.keep rfl rfl ?_|refine Rz.own rfl rfl rfl rfl rfl (by first|rfl|omega|(simp;done)) ?_|refine Rz.ptr rfl rfl rfl rfl ?_|refine Rz.nilO rfl rfl rfl (by first|rfl|omega|(simp;done)) ?_|refine Rz.agg ?_ ?_|exact RzO.last rfl|(refine RzO.cons ?_ (.inr rfl) ?_)|exact Rz.same rfl (still_ints _)|exact Rz.same rfl (still_rows (fun _=>rfl) _)))) (by first|(show 0≤_;exact Nat.zero_le _)|(repeat' (first|exact RzT.nil|refine RzT.cons ?_ ?_|exact Rz.nil|refine Rz.keep rfl rfl ?_|refine Rz.own rfl rfl rfl rfl rfl (by first|rfl|omega|(simp;done)) ?_|refine Rz.ptr rfl rfl rfl rfl ?_|refine Rz.nilO rfl rfl rfl (by first|rfl|omega|(simp;done)) ?_|refine Rz.agg ?_ ?_|exact RzO.last rfl|(refine RzO.cons ?_ (.inr rfl) ?_)|exact Rz.same rfl (still_ints _)|exact Rz.same rfl (still_rows (fun _=>rfl) _)))) (Nat.le_of_ble_eq_true rfl)
   intro k hk
   try simp only at hk ⊢
   have hkl2:=tabL_len (lefF W p x y) k
   by_cases hlt2:(k:Int)<n
   ·have hsn:=tabL_snoc (lefF W p x y) k
    by_cases hx0:0<x
    ·obtain ⟨b1,b2,b3⟩:=nb_lx h hlt2 hx0
     have hq:lefF W p x y k=p.getD ((y+k)*W+x-1).toNat 0:=by unfold lefF;rw [if_pos hx0]
     rw [hq] at hsn
     refine go (r:=?_);and_intros<;>intros<;>try exact True.intro
     all_goals first|contradiction|omega|exact hsn.symm
    ·have hq:lefF W p x y k=128:=by unfold lefF;rw [if_neg hx0]
     rw [hq] at hsn
     refine go (r:=?_);and_intros<;>intros<;>try exact True.intro
     all_goals first|contradiction|omega|exact hsn.symm
   ·have hke:k=n.toNat:=by omega
    subst hke
    by_cases hx0:0<x
    ·by_cases hy0:0<y
     ·obtain ⟨b1,b2,b3⟩:=nb_cx h hx0 hy0
      rw [if_pos ⟨hx0,hy0⟩]
      refine go (r:=?_);and_intros<;>intros<;>try exact True.intro
      all_goals first|contradiction|omega
     ·rw [if_neg (fun hh=>hy0 hh.2)]
      refine go (r:=?_);and_intros<;>intros<;>try exact True.intro
      all_goals first|contradiction|omega
    ·rw [if_neg (fun hh=>hx0 hh.1)]
     refine go (r:=?_);and_intros<;>intros<;>try exact True.intro
     all_goals first|contradiction|omega
 ·have ht:topL W H p x y n=[]:=by unfold topL;rw [if_neg h]
  have hle:lefL W H p x y n=[]:=by unfold lefL;rw [if_neg h]
  have hco:corL W H p x y n=0:=by unfold corL;rw [if_neg h]
  have hhT:hasT W H p x y n=false:=by unfold hasT;rw [decide_eq_false_iff_not];exact fun hh=>h hh.1
  have hhE:hasE W H p x y n=false:=by unfold hasE;rw [decide_eq_false_iff_not];exact fun hh=>h hh.1
  unfold NbOwn
  rw [ht,hle,hco,hhT,hhE]
  have hd:=decide_eq_false h
  refine FnC.of_body tabOk Tryz.func136 Tryz.ntmps136 rfl (by decide +kernel) (by simp) fun G=>?_
  refine go (r:=?_);and_intros<;>intros<;>try exact True.intro
  all_goals first|contradiction|omega⟩
end Go.Proofs.YtainhhfnnclfiaaGreat


namespace Go.Proofs.YtainhhfnnclfiaaGreat
open Go Go.Abs
attribute [local irreducible] WpA WpL Rnd Blk Abs.Seq Abs.Fin Abs.FinG FnC FnG Only
theorem rnd_snoc (f:Int→Int) (l:List Int) (k:Nat) (h:k<l.length):(l.take k).map f++[f (l.getD k 0)]=(l.take (k+1)).map f:=qz_snoc f l k h
instance Rounded_c:Con 258 (∀ (l:List Int),l.length≤1099511627776→Fn 258 [IL l] [XI (rndL l)] (.own 0 0 0 (rndL l).length)):=⟨fun l hl=>by
 have hsd:=side_cases l.length
 refine FnC.of_body tabOk Tryz.func258 Tryz.ntmps258 rfl (by decide +kernel) (by simp) fun G=>?_
 by_cases h:0<side l.length
 ·have he:rndL l=l.map (rnd1 l.length):=by unfold rndL;rw [if_pos h]
  by_cases h16:l.length=16
  ·have e4:side l.length=4:=by omega
   refine go (r:=?_);and_intros<;>intros<;>try exact True.intro
   refine WpA.loop (fun k:Nat=>⟨[(3,I 1600),(4,.own 0 0 0 k),(15,IL l),(16,I l.length),(17,I k)],[XI ((l.take k).map (rnd1 l.length))]⟩) (fun k=>k≤l.length) (fun k=>l.length-k) 0 (by omega) (go (r:=?_)) (fun k hk=>?_)
   ·simp
   have hlk:((l.take k).map (rnd1 l.length)).length=k:=by simp;omega
   have hsn:=rnd_snoc (rnd1 l.length) l k
   have e1:rnd1 l.length (l.getD k 0)=(max (-1000000000000) (min (l.getD k 0) 1000000000000)+800)/1600:=by unfold rnd1;rw [if_pos h16,Int.min_comm]
   refine go (r:=?_);and_intros<;>intros<;>try exact True.intro
   all_goals first|(rw [←hsn (by omega),e1];done)|(rw [←hsn (by omega),e1];rfl)|skip
   all_goals have e:k=l.length:=by omega
   all_goals subst e
   ·rw [he,List.length_map]
   ·rw [he,List.take_length]
  ·have e8:side l.length=8:=by omega
   refine go (r:=?_);and_intros<;>intros<;>try exact True.intro
   refine WpA.loop (fun k:Nat=>⟨[(3,I 64),(4,.own 0 0 0 k),(15,IL l),(16,I l.length),(17,I k)],[XI ((l.take k).map (rnd1 l.length))]⟩) (fun k=>k≤l.length) (fun k=>l.length-k) 0 (by omega) (go (r:=?_)) (fun k hk=>?_)
   ·simp
   have hlk:((l.take k).map (rnd1 l.length)).length=k:=by simp;omega
   have hsn:=rnd_snoc (rnd1 l.length) l k
   have e1:rnd1 l.length (l.getD k 0)=(max (-1000000000000) (min (l.getD k 0) 1000000000000)+32)/64:=by unfold rnd1;rw [if_neg h16,Int.min_comm]
   refine go (r:=?_);and_intros<;>intros<;>try exact True.intro
   all_goals first|(rw [←hsn (by omega),e1];done)|(rw [←hsn (by omega),e1];rfl)|skip
   all_goals have e:k=l.length:=by omega
   all_goals subst e
   ·rw [he,List.length_map]
   ·rw [he,List.take_length]
 ·have e:rndL l=[]:=by unfold rndL;rw [if_neg h]
  have e0:side l.length=0:=by omega
  refine go (r:=?_);and_intros<;>intros<;>try exact True.intro
  all_goals first|(rw [e];done)|(rw [e];rfl)⟩
def tA (r k:Nat):Int:=mx 4 k r
def T4:List (List Int):=(List.range 4).map fun r=>tabL (tA r) 4
def cellsT (r:Nat):List AV:=(List.range 4).map fun q=>if q<r then .fre 1 4 (ints (tabL (tA q) 4)) else .nilS
def invT (r:Nat):Nat→List AObj
 |0=>[⟨(cellsT r).set r .nilS,0,1,some 32⟩]
 |k+1=>[⟨(cellsT r).set r (.own 2 0 0 (k+1)),0,1,some 32⟩,⟨[.any],0,1,none⟩,XI (tabL (tA r) (k+1))]
theorem cellsT_nil {r:Nat} (h:r<4):cellsT r=(cellsT r).set r .nilS:=by
 rcases (by omega:r=0∨r=1∨r=2∨r=3) with rfl|rfl|rfl|rfl<;>rfl
theorem cellsT_succ {r:Nat} (h:r<4) (X:AV):((cellsT r).set r X).set r (.fre 1 4 (ints (tabL (tA r) 4)))=cellsT (r+1):=by
 rcases (by omega:r=0∨r=1∨r=2∨r=3) with rfl|rfl|rfl|rfl<;>rfl
theorem tnest {r:Nat} (h:r<4):flatO [⟨((cellsT r).set r (.own 2 0 0 4)).set r (.fre 1 4 (ints (tabL (tA r) 4))),0,1,some 32⟩,⟨[.any],0,1,none⟩,⟨[],1,0,none⟩]=some [⟨cellsT (r+1),0,1,some 32⟩,⟨[.any],0,1,none⟩,⟨[],1,0,none⟩]:=by
 rw [cellsT_succ h];rfl
theorem cellsT_still (r:Nat):(cellsT r).all AV.still=true:=by
 rw [List.all_eq_true];intro V hV;simp only [cellsT,List.mem_map] at hV;obtain ⟨q,_,rfl⟩:=hV
 split<;>rfl
theorem cellsT_len (r:Nat):(cellsT r).length=4:=by simp [cellsT]
theorem cellsT_4:cellsT 4=rows liF T4:=rfl
theorem cellsT_0:cellsT 0=[.nilS,.nilS,.nilS,.nilS]:=rfl
section
attribute [local irreducible] cellsT
instance turned_c:Con 288 (Fn 288 [LLn 4 A4] [⟨rows liF T4,0,1,some 32⟩] (.own 0 0 0 4)):=⟨by
 refine FnC.of_body tabOk Tryz.func288 Tryz.ntmps288 rfl (by decide +kernel) (by simp) fun G=>?_
 refine K.A ?_
 refine WpA.seq ?_
 refine WpA.regionF rfl ?_
 refine WpL.assign rfl (by decide) ?_
 refine WpL.nil ?_
 refine Abs.Seq.n ?_
 refine WpA.seq ?_
 refine WpA.regionF rfl ?_
 refine WpL.move rfl (by decide) ?_
 refine WpL.lenImm (TabOk.slice tabOk rfl).1 rfl (by decide) ?_
 refine WpL.make tabOk rfl rfl rfl (by decide) (by decide) rfl (by decide) ?_
 refine go (r:=?_);and_intros<;>intros<;>try exact True.intro
 refine WpA.loop (fun r:Nat=>⟨[(0,LLn 4 A4),(3,.own 0 0 0 4),(10,I 4),(11,I r)],[⟨cellsT r,0,1,some 32⟩]⟩) (fun r=>r≤4) (fun r=>4-r) 0 (by omega) (go (r:=?_)) (fun r hr=>?_)
 ·and_intros<;>first|trivial|rfl|exact .nil|exact .inr rfl|exact Re.same cellsT_0.symm (cellsT_still 0)
 by_cases h8:r=4
 ·subst h8
  refine go (r:=?_);and_intros<;>intros<;>try exact True.intro
  all_goals first|exact cellsT_4
 have hr8:r<4:=by omega
 have hcl:=cellsT_len r
 have hst:=cellsT_still r
 have hc0:=cellsT_nil hr8
 refine go (r:=?_);and_intros<;>intros<;>try exact True.intro
 refine WpA.loop (fun k:Nat=>⟨[(0,LLn 4 A4),(3,.own 0 0 0 4),(4,I r),(10,I 4),(11,I r),(15,I 4),(16,I k)],invT r k⟩) (fun k=>k≤4) (fun k=>4-k) 0 (by omega) (go (r:=?_)) (fun k hk=>?_)
 ·and_intros<;>first|trivial|rfl|exact .nil|exact .inr rfl|(exact hc0)|exact Re.same hc0 (by rw [←hc0];exact hst)
 by_cases hk8:k=4
 ·subst hk8
  refine WpA.weak (NestC.weak (id:=0) (offs:=[r]) (O2:=[⟨cellsT (r+1),0,1,some 32⟩,⟨[.any],0,1,none⟩,⟨[],1,0,none⟩]) ?_) ?_
  ·apply NestC.cons (off:=r) (j:=2) (O1:=[⟨cellsT (r+1),0,1,some 32⟩,⟨[.any],0,1,none⟩,⟨[],1,0,none⟩])
   ·exact rfl
   ·exact List.getElem?_set_self (by omega)
   ·exact rfl
   ·exact rfl
   ·decide
   ·exact rfl
   ·exact still_ints _
   ·exact rfl
   ·exact tnest hr8
   ·exact .nil
  have hst1:=cellsT_still (r+1)
  refine go (r:=?_);and_intros<;>intros<;>try exact True.intro
  all_goals first|exact Re.same rfl hst1
 have hA:=A4_ok.2.1 k (by omega)
 have hkl:=tabL_len (tA r) k
 have hval:(A4.getD k default).getD r 0=tA r k:=rfl
 have hA2:(A4.getD ((k:Nat):Int).toNat default).length=4:=hA
 have hAl:A4.length=4:=rfl
 have hval2:(A4.getD ((k:Nat):Int).toNat default).getD ((r:Nat):Int).toNat 0=tA r k:=rfl
 rcases k with _|k
 ·refine go (r:=?_);and_intros<;>intros<;>try exact True.intro
  all_goals first|exact Re.any Re.nil|exact .inl rfl|(rw [hval];rfl)|(rw [hval2];rfl)|(apply Re.setA (c:=cellsT r) (V:=.own 2 _ 0 _) (V':=.own 2 _ 0 _);(· apply Re.own (id:=2)<;>first|exact rfl|exact .nil);exact hst)|exact Re.same rfl hst
 ·refine go (r:=?_);and_intros<;>intros<;>try exact True.intro
  all_goals first|(rw [tabL_snoc _ (k+1),hval];done)|(rw [tabL_snoc _ (k+1),hval2];done)|(rw [tabL_snoc _ (k+1),←hval2];rfl)|exact Re.any Re.nil|(apply Re.setA (c:=cellsT r) (V:=.own 2 _ 0 _) (V':=.own 2 _ 0 _);(· apply Re.own (id:=2)<;>first|exact rfl|exact .nil);exact hst)⟩
end
end Go.Proofs.YtainhhfnnclfiaaGreat


namespace Go.Proofs.YtainhhfnnclfiaaGreat
open Go Go.Abs
attribute [local irreducible] WpA WpL Rnd Blk Abs.Seq Abs.Fin Abs.FinG FnC FnG Only
theorem T4_row {r:Nat} (h:r<4):T4.getD r default=tabL (tA r) 4:=by simp [T4,h]
theorem gOf_T4 {r i:Nat} (h:r<4) (h2:i<4):gOf T4 r i=mx 4 i r:=by rw [gOf,T4_row h,tabL_get h2];rfl
theorem T4_ok:MatOk 4 T4:=by
 refine ⟨by simp [T4],fun r hr=>by rw [T4_row hr,tabL_len],fun r i=>?_⟩
 by_cases h:r<4
 ·by_cases h2:i<4
  ·rw [gOf_T4 h h2];exact mx_val 4 i r
  ·right;right;left
   rw [gOf,T4_row h,List.getD_eq_getElem?_getD,List.getElem?_eq_none (by rw [tabL_len];omega)];rfl
 ·right;right;left
  have:T4.getD r default=[]:=by rw [List.getD_eq_getElem?_getD,List.getElem?_eq_none (by simp [T4];omega)];rfl
  rw [gOf,this];rfl
theorem trT4 (l:List Int):prodL 4 (gOf T4) l=trL 4 true l:=prodL_congr (by decide) fun r i hr hi=>gOf_T4 hr hi
theorem trH8b (l:List Int):prodL 8 (gOf H8) l=trL 8 true l:=prodL_congr (by decide) fun r i hr hi=>by
 rw [gOf_H8 hr hi]
 show par (r &&& i)=par (i &&& r)
 rw [Nat.and_comm]
instance Inverse4_c:Con 259 (∀ l:List Int,l.length≤1099511627776→Fn 259 [IL l] [XI (trL 4 true l)] (.own 0 0 0 (trL 4 true l).length)):=⟨fun l h=>by
 have hA:=T4_ok
 rw [←trT4]
 refine FnC.of_body tabOk Tryz.func259 Tryz.ntmps259 rfl (by decide +kernel) (by simp) fun G=>?_
 refine go (r:=?_);and_intros<;>intros<;>try exact True.intro
 refine K.call ?_
 refine K.con (fun hcon=>?_)
 refine WpL.callF (hcon 4 T4 l ⟨by decide,hA,h⟩) snapA locA outA rfl rfl rfl (by decide) ?_
 refine go (r:=?_);and_intros<;>intros<;>try exact True.intro⟩
instance Inverse8_c:Con 260 (∀ l:List Int,l.length≤1099511627776→Fn 260 [IL l] [XI (trL 8 true l)] (.own 0 0 0 (trL 8 true l).length)):=⟨fun l h=>by
 have hA:=H8_ok
 rw [←trH8b]
 refine FnC.of_body tabOk Tryz.func260 Tryz.ntmps260 rfl (by decide +kernel) (by simp) fun G=>?_
 refine go (r:=?_);and_intros<;>intros<;>try exact True.intro
 refine K.call ?_
 refine K.con (fun hcon=>?_)
 refine WpL.callF (hcon 8 H8 l ⟨by decide,hA,h⟩) snapA locA outA rfl rfl rfl (by decide) ?_
 refine go (r:=?_);and_intros<;>intros<;>try exact True.intro⟩
theorem resL_b {q:Int} {l:List Int} (h:LvOk l∧0<stepL q):resL true q l=plcL l:=by unfold resL;rw [if_pos h,if_pos rfl]
theorem resL_t {q:Int} {l:List Int} (h:LvOk l∧0<stepL q):resL false q l=rndL (trL (side l.length) true (scaL (plcL l) q)):=by unfold resL;rw [if_pos h,if_neg (by decide)]
theorem resL_n {b:Bool} {q:Int} {l:List Int} (h:¬(LvOk l∧0<stepL q)):resL b q l=[]:=by unfold resL;rw [if_neg h]
theorem trLe4 (b:Bool) (l:List Int):(trL 4 b l).length≤64:=trL_le (by decide)
theorem trLe8 (b:Bool) (l:List Int):(trL 8 b l).length≤64:=trL_le (by decide)
instance ResidualOf_c:Con 198 (∀ (w h q:Int) (b d:Bool) (lens l:List Int),l.length≤1099511627776→Fn 198 [HdA w h q b d lens,IL l] [XI (resL b q l)] (.own 0 0 0 (resL b q l).length)):=⟨fun w h q b d lens l hl=>by
 have hsl:=stepL_pos q
 by_cases hok:LvOk l∧0<stepL q
 ·have h1:=hok.1
  have h2:=hok.2
  have h3:=hsl.1 h2
  have hlen:=hok.1.2
  have hp:=plcL_len2 hlen
  have hsc:=scaL_len (plcL l) q
  rw [if_pos ⟨plcL_ok h1,h2⟩,hp] at hsc
  have t4:=trLe4 true (scaL (plcL l) q)
  have t8:=trLe8 true (scaL (plcL l) q)
  cases b with
  |true=>
   rw [resL_b hok]
   refine FnC.of_body tabOk Tryz.func198 Tryz.ntmps198 rfl (by decide +kernel) (by simp) fun G=>?_
   refine go (r:=?_);and_intros<;>intros<;>try exact True.intro
   all_goals trace_state
  |false=>
   rw [resL_t hok]
   rcases hlen with e|e
   ·have e4:side l.length=4:=by rw [e];rfl
    have e5:side (scaL (plcL l) q).length=4:=by rw [hsc];exact e4
    rw [e4]
    refine FnC.of_body tabOk Tryz.func198 Tryz.ntmps198 rfl (by decide +kernel) (by simp) fun G=>?_
    refine go (r:=?_);and_intros<;>intros<;>try exact True.intro
    all_goals trace_state
   ·have e8:side l.length=8:=by rw [e];rfl
    have e5:side (scaL (plcL l) q).length=8:=by rw [hsc];exact e8
    rw [e8]
    refine FnC.of_body tabOk Tryz.func198 Tryz.ntmps198 rfl (by decide +kernel) (by simp) fun G=>?_
    refine go (r:=?_);and_intros<;>intros<;>try exact True.intro
    all_goals trace_state
 ·rw [resL_n hok]
  refine FnC.of_body tabOk Tryz.func198 Tryz.ntmps198 rfl (by decide +kernel) (by simp) fun G=>?_
  have hx:LvOk l→¬(0≤q∧q≤51):=fun a b=>hok ⟨a,hsl.2 b⟩
  by_cases h1:LvOk l
  ·have h2:=hx h1
   refine go (r:=?_);and_intros<;>intros<;>try exact True.intro
   all_goals trace_state
  ·refine go (r:=?_);and_intros<;>intros<;>try exact True.intro
   all_goals trace_state⟩
end Go.Proofs.YtainhhfnnclfiaaGreat


namespace Go.Proofs.YtainhhfnnclfiaaGreat
open Go Go.Abs
attribute [local irreducible] WpA WpL Rnd Blk Abs.Seq Abs.Fin Abs.FinG FnC FnG Only
theorem nb_lens {W H:Int} {p:List Int} {x y n:Int} (h:Fits W H p x y n):(topL W H p x y n).length≤1099511627776∧(lefL W H p x y n).length≤1099511627776:=by
 obtain ⟨h1,h2,h3,_⟩:=nb_ok h
 omega
theorem put_eq {W H:Int} {p:List Int} {q x y m:Int} {b:Bool} {lv:List Int} (h:PutOk W H p q x y m lv):putL W H p q b x y m lv=setL W H p x y (recL (predS m (topL W H p x y (side lv.length)) (lefL W H p x y (side lv.length)) (corL W H p x y (side lv.length)) (hasT W H p x y (side lv.length)) (hasE W H p x y (side lv.length)) (side lv.length)) (resL b q lv)):=if_pos h
theorem put_no {W H:Int} {p:List Int} {q x y m:Int} {b:Bool} {lv:List Int} (h:¬PutOk W H p q x y m lv):putL W H p q b x y m lv=p:=if_neg h
theorem fit0 {W H:Int} {p:List Int} {x y:Int}:¬Fits W H p x y (side 0):=fun h=>by
 have h1:side 0=0:=rfl
 have:=h.2.1
 omega
section
attribute [-instance] ResidualOf_c
instance PutRef_c:Con 138 (∀ (W H:Int) (p:List Int) (w h q:Int) (b d:Bool) (lens:List Int) (x y m:Int) (lv:List Int),p.length≤1099511627776∧lv.length≤1099511627776→Fn 138 [FrA W H p,HdA w h q b d lens,I x,I y,.agg [I m,IL lv]] [XI (putL W H p q b x y m lv)] (.tup [FrOwn 0 W H p.length,B (decide (PutOk W H p q x y m lv))])):=⟨fun W H p w h q b d lens x y m lv hl=>by
 obtain ⟨hpl,hll⟩:=hl
 have hrl:=resL_le b q lv
 have hmw:=modeW_nil m
 by_cases hok:LvOk lv∧0<stepL q
 ·have hrn:=resL_len (b:=b) hok
  have hr0:¬(resL b q lv).length=0:=by have:=hok.1.2;omega
  by_cases hf:Fits W H p x y (side lv.length)
  ·by_cases hm:0≤m∧m≤5
   ·have hp:PutOk W H p q x y m lv:=⟨hf,hok,hm⟩
    have hd:=decide_eq_true hp
    have hds:=decide_eq_true (put_set (b:=b) hp)
    unfold nbP at hds
    have hmw2:¬modeW m=[]:=fun hh=>(hmw.1 hh) hm
    have htw:=put_two (b:=b) hp
    unfold nbP at htw
    obtain ⟨hn1,hn2⟩:=nb_lens hf
    have hn3:=hf.2.1
    have hn4:=nb_ok hf
    have hpr:(predS m (topL W H p x y (side lv.length)) (lefL W H p x y (side lv.length)) (corL W H p x y (side lv.length)) (hasT W H p x y (side lv.length)) (hasE W H p x y (side lv.length)) (side lv.length)).length≤64:=by have:=htw.2;have:=hok.1.2;omega
    have hre:=recL_len (predS m (topL W H p x y (side lv.length)) (lefL W H p x y (side lv.length)) (corL W H p x y (side lv.length)) (hasT W H p x y (side lv.length)) (hasE W H p x y (side lv.length)) (side lv.length)) (resL b q lv)
    have hsl:=setL_len W H p x y (recL (predS m (topL W H p x y (side lv.length)) (lefL W H p x y (side lv.length)) (corL W H p x y (side lv.length)) (hasT W H p x y (side lv.length)) (hasE W H p x y (side lv.length)) (side lv.length)) (resL b q lv))
    rw [if_pos htw.1] at hre
    rw [put_eq hp,hd]
    rw [←hrn] at hf hds hn1 hn2 hn3 hn4 hpr hre hsl htw ⊢
    refine FnC.of_body tabOk Tryz.func138 Tryz.ntmps138 rfl (by decide +kernel) (by simp) fun G=>?_
    refine goR (r:=?_);and_intros<;>intros<;>try exact True.intro
    all_goals first|contradiction|omega|skip
    refine K.call ?_
    apply WpL.callI (ResidualOf_c.ok w h q b d lens lv hll)
    ·exact snapA
    ·exact locA
    ·exact outA
    ·exact frzA
    ·decide
    refine goR (r:=?_);and_intros<;>intros<;>try exact True.intro
    all_goals first|contradiction|omega|skip
    try dsimp only [List.append]
    apply WpA.regionNO 17 mixed (by decide +kernel)
    ·exact rfl
    ·exact rfl
    ·exact headNI
    ·exact trueA
    ·exact trueA
    ·exact rfl
    ·exact rfl
    ·exact rfl
    refine go (r:=?_);and_intros<;>intros<;>try exact True.intro
    all_goals first|contradiction|omega|exact hds
   ·have hd:=decide_eq_false (fun hh:PutOk W H p q x y m lv=>hm hh.2.2)
    have hmw2:modeW m=[]:=hmw.2 hm
    rw [put_no (of_decide_eq_false hd),hd]
    refine FnC.of_body tabOk Tryz.func138 Tryz.ntmps138 rfl (by decide +kernel) (by simp) fun G=>?_
    refine goR (r:=?_);and_intros<;>intros<;>try exact True.intro
    all_goals first|contradiction|omega|skip
    refine K.call ?_
    apply WpL.callI (ResidualOf_c.ok w h q b d lens lv hll)
    ·exact snapA
    ·exact locA
    ·exact outA
    ·exact frzA
    ·decide
    refine goR (r:=?_);and_intros<;>intros<;>try exact True.intro
    all_goals first|contradiction|omega
  ·have hd:=decide_eq_false (fun hh:PutOk W H p q x y m lv=>hf hh.1)
   rw [put_no (of_decide_eq_false hd),hd]
   rw [←hrn] at hf
   refine FnC.of_body tabOk Tryz.func138 Tryz.ntmps138 rfl (by decide +kernel) (by simp) fun G=>?_
   refine goR (r:=?_);and_intros<;>intros<;>try exact True.intro
   all_goals first|contradiction|omega|skip
   refine K.call ?_
   apply WpL.callI (ResidualOf_c.ok w h q b d lens lv hll)
   ·exact snapA
   ·exact locA
   ·exact outA
   ·exact frzA
   ·decide
   refine goR (r:=?_);and_intros<;>intros<;>try exact True.intro
   all_goals first|contradiction|omega
 ·have hd:=decide_eq_false (fun hh:PutOk W H p q x y m lv=>hok hh.2.1)
  have hrn:=resL_n (b:=b) hok
  have hr0:(resL b q lv).length=0:=by rw [hrn];rfl
  have hf0:¬Fits W H p x y (side 0):=fit0
  rw [put_no (of_decide_eq_false hd),hd]
  refine FnC.of_body tabOk Tryz.func138 Tryz.ntmps138 rfl (by decide +kernel) (by simp) fun G=>?_
  refine goR (r:=?_);and_intros<;>intros<;>try exact True.intro
  all_goals first|contradiction|omega|skip
  refine K.call ?_
  apply WpL.callI (ResidualOf_c.ok w h q b d lens lv hll)
  ·exact snapA
  ·exact locA
  ·exact outA
  ·exact frzA
  ·decide
  rw [hrn]
  refine goR (r:=?_);and_intros<;>intros<;>try exact True.intro
  all_goals first|contradiction|omega
 ⟩
end
end Go.Proofs.YtainhhfnnclfiaaGreat


namespace Go.Proofs.YtainhhfnnclfiaaGreat
open Go Go.Abs
attribute [local irreducible] WpA WpL Rnd Blk Abs.Seq Abs.Fin Abs.FinG FnC FnG Only
instance FrameNew_c:Con 132 (∀ W H:Int,SidesOk W H→Fn 132 [I W,I H] [XI (List.replicate (W*H).toNat 0)] (FrOwn 0 W H (W*H).toNat)):=⟨fun W H h=>by
 have h1:8*8≤W*H:=Int.mul_le_mul h.1 h.2.2.1 (by omega) (by have:=h.1;omega)
 have h2:W*H≤32*32:=Int.mul_le_mul h.2.1 h.2.2.2.1 (by have:=h.2.2.1;omega) (by omega)
 refine FnC.of_body tabOk Tryz.func132 Tryz.ntmps132 rfl (by decide +kernel) (by simp) fun G=>?_
 refine go (r:=?_);and_intros<;>intros<;>try exact True.intro
 all_goals first|contradiction⟩
def plc1 (w n:Int) (k i:Nat):Int×Int×Int:=((k:Int)%(w/8)*8+(i:Int)%2*4,(k:Int)/(w/8)*8+(i:Int)/2*4,n)
def plsL (w n:Int) (k:Nat) (many:Nat):List (Int×Int×Int):=(List.range many).map (plc1 w n k)
theorem plsL_len (w n:Int) (k many:Nat):(plsL w n k many).length=many:=by simp [plsL]
theorem plsL_snoc (w n:Int) (k many:Nat):plsL w n k (many+1)=plsL w n k many++[plc1 w n k many]:=by simp [plsL,List.range_succ]
abbrev manyE (e:Bool):Nat:=cond e 1 4
instance placesOf_c:Con 134 (∀ (w h q:Int) (b d:Bool) (lens:List Int) (k:Nat) (e:Bool),8≤w∧w≤1024∧k≤1048576→Fn 134 [HdA w h q b d lens,I k,B e] [⟨rows plF (plsL w (sz8 e) k (manyE e)),0,3,some 149⟩] (.own 0 0 0 (manyE e))):=⟨fun w h q b d lens k e hh=>by
 have hw8:1≤w/8∧w/8≤128:=by omega
 have hr0:0≤(k:Int)%(w/8)∧(k:Int)%(w/8)≤1048576:=⟨Int.emod_nonneg _ (by omega),by have:=Int.emod_lt_of_pos (k:Int) (show 0<w/8 by omega);omega⟩
 have hq0:0≤(k:Int)/(w/8)∧(k:Int)/(w/8)≤1048576:=⟨Int.ediv_nonneg (by omega) (by omega),by have:=Int.ediv_le_self (w/8) (show 0≤(k:Int) by omega);omega⟩
 refine FnC.of_body tabOk Tryz.func134 Tryz.ntmps134 rfl (by decide +kernel) (by simp) fun G=>?_
 refine go (r:=?_);and_intros<;>intros<;>try exact True.intro
 all_goals first|contradiction|omega|skip
 refine WpA.loop (fun i:Nat=>⟨[(1,I k),(3,.ptr 0 0 0),(8,I (sz8 e)),(9,.own 1 0 0 i),(17,I (nm8 e)),(18,I i)],[⟨[I w,I h,I q,B b,B d,IL lens],0,0,none⟩,⟨rows plF (plsL w (sz8 e) k i),0,3,some 149⟩]⟩) (fun i=>i≤manyE e) (fun i=>manyE e-i) 0 (Nat.zero_le _) (go (r:=?_)) (fun i hi=>?_)
 ·and_intros<;>first|exact True.intro|rfl
 have hlen:=plsL_len w (sz8 e) k i
 have hsn:=plsL_snoc w (sz8 e) k i
 have hmn:nm8 e=(manyE e:Nat):=by cases e<;>rfl
 have hm4:manyE e≤4:=by cases e<;>decide
 by_cases hlt:i<manyE e
 ·refine go (r:=?_);and_intros<;>intros<;>try exact True.intro
  all_goals first|contradiction|omega|(rw [hsn];cases e<;>rfl)
 ·obtain rfl:i=manyE e:=by omega
  refine go (r:=?_);and_intros<;>intros<;>try exact True.intro
  all_goals first|contradiction|omega⟩
end Go.Proofs.YtainhhfnnclfiaaGreat


namespace Go.Proofs.YtainhhfnnclfiaaGreat
open Go Go.Abs
attribute [local irreducible] WpA WpL Rnd Blk Abs.Seq Abs.Fin Abs.FinG FnC FnG Only
def endL (W H q:Int) (d:Bool) (p:List Int):List Int:=cond d (dbL W H q p) p
theorem endL_len (W H q:Int) (d:Bool) (p:List Int):(endL W H q d p).length=p.length:=by
 cases d
 ·rfl
 ·exact dbL_len ..
theorem ended1 (W H w h q:Int) (b:Bool) (lens p:List Int) (hl:p.length≤1099511627776):Fn 139 [HdA w h q b true lens,FrA W H p] [IN (dbL W H q p)] (FrOwn 0 W H p.length):=by
 have hdl:=dbL_len W H q p
 refine FnC.of_body tabOk Tryz.func139 Tryz.ntmps139 rfl (by decide +kernel) (by simp) fun G=>?_
 refine go (r:=?_);and_intros<;>intros<;>try exact True.intro
 all_goals first|contradiction|omega
theorem ended0 (W H w h q:Int) (b:Bool) (lens p:List Int):Fn 139 [HdA w h q b false lens,FrA W H p] [] (FrA W H p):=by
 refine FnC.of_body tabOk Tryz.func139 Tryz.ntmps139 rfl (by decide +kernel) (by simp) fun G=>?_
 refine go (r:=?_);and_intros<;>intros<;>try exact True.intro
 all_goals first|contradiction|omega
theorem ended_c (W H w h q:Int) (b d:Bool) (lens p:List Int) (hl:p.length≤1099511627776):Fn 139 [HdA w h q b d lens,FrA W H p] [] (FrA W H (endL W H q d p)):=by
 cases d with
 |false=>exact ended0 W H w h q b lens p
 |true=>exact FnC.still (ended1 W H w h q b lens p hl) (.agg (.keep rfl rfl (.keep rfl rfl (.own rfl rfl rfl (by simp [dbL_len]) (dbL_len W H q p).symm (Snap.same rfl (still_ints _) (nofre_ints _)) .nil))) .nil)
def bldB (W H q:Int) (b:Bool) (n:Int) (k:Nat) (bs:List Blok) (p:List Int):Nat→List Int
 |0=>p
 |i+1=>putL W H (bldB W H q b n k bs p i) q b (plc1 W n k i).1 (plc1 W n k i).2.1 (bs.getD i default).1 (bs.getD i default).2
def bldM (W H q:Int) (b:Bool) (M:List Mbk) (p:List Int):Nat→List Int
 |0=>p
 |k+1=>bldB W H q b (sz8 (M.getD k default).1) k (M.getD k default).2 (bldM W H q b M p k) (manyE (M.getD k default).1)
theorem bldB_len (W H q:Int) (b:Bool) (n:Int) (k:Nat) (bs:List Blok) (p:List Int):∀i,(bldB W H q b n k bs p i).length=p.length
 |0=>rfl
 |i+1=>by rw [bldB,putL_len,bldB_len W H q b n k bs p i]
theorem bldM_len (W H q:Int) (b:Bool) (M:List Mbk) (p:List Int):∀k,(bldM W H q b M p k).length=p.length
 |0=>rfl
 |k+1=>by rw [bldM,bldB_len,bldM_len W H q b M p k]
theorem bldB_zero (W H q:Int) (b:Bool) (n:Int) (k:Nat) (bs:List Blok) (p:List Int):bldB W H q b n k bs p 0=p:=rfl
theorem bldM_zero (W H q:Int) (b:Bool) (M:List Mbk) (p:List Int):bldM W H q b M p 0=p:=rfl
theorem bldB_succ (W H q:Int) (b:Bool) (n:Int) (k:Nat) (bs:List Blok) (p:List Int) (i:Nat):bldB W H q b n k bs p (i+1)=putL W H (bldB W H q b n k bs p i) q b (plc1 W n k i).1 (plc1 W n k i).2.1 (bs.getD i default).1 (bs.getD i default).2:=rfl
theorem bldM_succ (W H q:Int) (b:Bool) (M:List Mbk) (p:List Int) (k:Nat):bldM W H q b M p (k+1)=bldB W H q b (sz8 (M.getD k default).1) k (M.getD k default).2 (bldM W H q b M p k) (manyE (M.getD k default).1):=rfl
def zerP (W H:Int):List Int:=List.replicate (W*H).toNat 0
def refL (W H q:Int) (b d:Bool) (M:List Mbk):List Int:=endL W H q d (bldM W H q b M (zerP W H) M.length)
section
attribute [local irreducible] bldB bldM putL endL
attribute [-instance] FrameNew_c placesOf_c
theorem BuildRef_ok (w h q:Int) (b d:Bool) (L:List Int) (M:List Mbk) (hl:L.length≤1099511627776∧M.length≤1099511627776∧SmM 1099511627776 M) (hok:StOk w h q L M):Fn 76 [StA w h q b d L M] [] (FrA w h (refL w h q b d M)):=by
 have hd:=decide_eq_true hok
 have hsd:=hok.1.1
 have hcm:=cntM_bd hsd
 have hM16:M.length≤16:=by have:=hok.2.1;omega
 have hz:(zerP w h).length≤1024:=by
  unfold zerP
  rw [List.length_replicate]
  have h2:w*h≤32*32:=Int.mul_le_mul hsd.2.1 hsd.2.2.2.1 (by have:=hsd.2.2.1;omega) (by omega)
  omega
 unfold refL
 refine FnC.of_body tabOk Tryz.func76 Tryz.ntmps76 rfl (by decide +kernel) (by simp) fun G=>?_
 refine goR (r:=?_);and_intros<;>intros<;>try exact True.intro
 all_goals first|contradiction|omega|exact hl.2.2|skip
 refine K.call ?_
 apply WpL.callI (FrameNew_c.ok w h hsd)
 ·exact snapA
 ·exact locA
 ·exact outA
 ·exact frzA
 ·decide
 refine goR (r:=?_);and_intros<;>intros<;>try exact True.intro
 all_goals first|contradiction|omega|skip
 have hzl:(w*h).toNat=(zerP w h).length:=by simp [zerP]
 rw [show (List.replicate (w*h).toNat (0:Int))=zerP w h from rfl,hzl]
 generalize zerP w h=P0 at*
 refine WpA.loop (fun k:Nat=>⟨[(1,.ptr 0 0 0),(2,.ptr 1 0 0),(3,.ptr 2 0 0),(20,MbL M),(21,I M.length),(22,I k)],[⟨[I w,I h,I q,B b,B d,IL L,MbL M],0,0,none⟩,⟨[I 0,I 0,.nilS],0,0,none⟩,FrO w h (bldM w h q b M P0 k)]⟩) (fun k=>k≤M.length) (fun k=>M.length-k) 0 (Nat.zero_le _) (go (r:=?_)) (fun k hk=>?_)
 ·and_intros<;>first|exact True.intro|rfl|(rw [bldM_zero];exact .keep rfl rfl .nil)
 have hbl:=bldM_len w h q b M P0 k
 by_cases hlt:k<M.length
 ·have hmb:=ok_blk hok hlt
  have hsc:=bldM_succ w h q b M P0 k
  generalize hm:M.getD k default=mm at*
  obtain ⟨e,bs⟩:=mm
  simp only at hmb hsc
  have hbl4:bs.length=manyE e:=by have:=hmb.1;cases e<;>simp [nm8] at this<;>simp [manyE]<;>omega
  have hm4:manyE e≤4:=by cases e<;>decide
  refine goR (r:=?_);and_intros<;>intros<;>try exact True.intro
  all_goals first|contradiction|omega|skip
  rw [hm]
  refine K.call ?_
  apply WpL.callI (placesOf_c.ok w h q b d L k e ⟨by omega,by omega,by omega⟩)
  ·exact snapA
  ·exact locA
  ·exact outA
  ·exact FrzR.one (.own rfl rfl rfl (by rw [rows_len (k:=3) (fun _=>rfl),plsL_len]) rfl (Snap.same rfl (still_rows (fun _=>rfl) _) (nofre_rows (fun _=>rfl) _)) .nil)
  ·decide
  refine goR (r:=?_);and_intros<;>intros<;>try exact True.intro
  all_goals first|contradiction|omega|skip
  refine WpA.loop (fun i:Nat=>⟨[(1,.ptr 0 0 0),(2,.ptr 1 0 0),(3,.ptr 2 0 0),(5,.ptr 3 0 0),(20,MbL M),(21,I M.length),(22,I k),(32,.imm 3 (manyE e) (rows plF (plsL w (sz8 e) k (manyE e)))),(33,I (manyE e)),(34,I i)],[⟨[I w,I h,I q,B b,B d,IL L,MbL M],0,0,none⟩,⟨[I 0,I 0,.nilS],0,0,none⟩,FrO w h (bldB w h q b (sz8 e) k bs (bldM w h q b M P0 k) i),⟨[B e,.imm 2 bs.length (rows blkI bs)],0,0,none⟩]⟩) (fun i=>i≤manyE e) (fun i=>manyE e-i) 0 (Nat.zero_le _) (go (r:=?_)) (fun i hi=>?_)
  ·and_intros<;>first|exact True.intro|rfl|(rw [bldB_zero];exact .keep rfl rfl .nil)
  have hil:=bldB_len w h q b (sz8 e) k bs (bldM w h q b M P0 k) i
  by_cases hlt2:i<manyE e
  ·have hpl:=plsL_len w (sz8 e) k (manyE e)
   have hpg:(plsL w (sz8 e) k (manyE e)).getD i default=plc1 w (sz8 e) k i:=by
    unfold plsL
    simp [hlt2]
   have hbo:=ok_lv hmb (k:=i) (by omega)
   have hbn:=hbo.2.2.1
   have hsu:=bldB_succ w h q b (sz8 e) k bs (bldM w h q b M P0 k) i
   have hlv:(bs.getD i default).2.length≤64:=by cases e<;>simp [sz8] at hbn<;>omega
   generalize hPk:bldM w h q b M P0 k=Pk at*
   generalize hPi:bldB w h q b (sz8 e) k bs Pk i=Pi at*
   have hpu:=putL_len w h Pi q b (plc1 w (sz8 e) k i).1 (plc1 w (sz8 e) k i).2.1 (bs.getD i default).1 (bs.getD i default).2
   refine goR (r:=?_);and_intros<;>intros<;>try exact True.intro
   all_goals first|contradiction|omega|skip
   rw [hpg]
   try dsimp only [List.append,List.cons_append,List.nil_append]
   apply WpA.regionGB 17 mixed (by decide +kernel)
   ·exact rfl
   ·first|(apply HeadG.preF 0 rfl rfl rfl;exact rfl;exact in0;exact rfl)|(apply HeadG.hole0 rfl rfl rfl;exact rfl;exact in0;exact rfl)|(apply HeadG.hole2 rfl rfl rfl;exact rfl;exact in0;exact rfl)|(apply HeadG.hole3 rfl rfl rfl;exact rfl;exact in0;exact rfl)|(apply HeadG.hole4 rfl rfl rfl;exact rfl;exact in0;exact rfl)|(apply HeadG.stepNF rfl;exact rfl;exact in1;exact rfl)
    first|(apply HeadG.preF 0 rfl rfl rfl;exact rfl;exact in0;exact rfl)|(apply HeadG.hole0 rfl rfl rfl;exact rfl;exact in0;exact rfl)|(apply HeadG.hole2 rfl rfl rfl;exact rfl;exact in0;exact rfl)|(apply HeadG.hole3 rfl rfl rfl;exact rfl;exact in0;exact rfl)|(apply HeadG.hole4 rfl rfl rfl;exact rfl;exact in0;exact rfl)|(apply HeadG.stepNF rfl;exact rfl;exact in1;exact rfl)
    first|(apply HeadG.preF 0 rfl rfl rfl;exact rfl;exact in0;exact rfl)|(apply HeadG.hole0 rfl rfl rfl;exact rfl;exact in0;exact rfl)|(apply HeadG.hole2 rfl rfl rfl;exact rfl;exact in0;exact rfl)|(apply HeadG.hole3 rfl rfl rfl;exact rfl;exact in0;exact rfl)|(apply HeadG.hole4 rfl rfl rfl;exact rfl;exact in0;exact rfl)|(apply HeadG.stepNF rfl;exact rfl;exact in1;exact rfl)
    first|(apply HeadG.preF 0 rfl rfl rfl;exact rfl;exact in0;exact rfl)|(apply HeadG.hole0 rfl rfl rfl;exact rfl;exact in0;exact rfl)|(apply HeadG.hole2 rfl rfl rfl;exact rfl;exact in0;exact rfl)|(apply HeadG.hole3 rfl rfl rfl;exact rfl;exact in0;exact rfl)|(apply HeadG.hole4 rfl rfl rfl;exact rfl;exact in0;exact rfl)|(apply HeadG.stepNF rfl;exact rfl;exact in1;exact rfl)
    first|(apply HeadG.preF 0 rfl rfl rfl;exact rfl;exact in0;exact rfl)|(apply HeadG.hole0 rfl rfl rfl;exact rfl;exact in0;exact rfl)|(apply HeadG.hole2 rfl rfl rfl;exact rfl;exact in0;exact rfl)|(apply HeadG.hole3 rfl rfl rfl;exact rfl;exact in0;exact rfl)|(apply HeadG.hole4 rfl rfl rfl;exact rfl;exact in0;exact rfl)|(apply HeadG.stepNF rfl;exact rfl;exact in1;exact rfl)
    first|(apply HeadG.preF 0 rfl rfl rfl;exact rfl;exact in0;exact rfl)|(apply HeadG.hole0 rfl rfl rfl;exact rfl;exact in0;exact rfl)|(apply HeadG.hole2 rfl rfl rfl;exact rfl;exact in0;exact rfl)|(apply HeadG.hole3 rfl rfl rfl;exact rfl;exact in0;exact rfl)|(apply HeadG.hole4 rfl rfl rfl;exact rfl;exact in0;exact rfl)|(apply HeadG.stepNF rfl;exact rfl;exact in1;exact rfl)
    first|(apply HeadG.preF 0 rfl rfl rfl;exact rfl;exact in0;exact rfl)|(apply HeadG.hole0 rfl rfl rfl;exact rfl;exact in0;exact rfl)|(apply HeadG.hole2 rfl rfl rfl;exact rfl;exact in0;exact rfl)|(apply HeadG.hole3 rfl rfl rfl;exact rfl;exact in0;exact rfl)|(apply HeadG.hole4 rfl rfl rfl;exact rfl;exact in0;exact rfl)|(apply HeadG.stepNF rfl;exact rfl;exact in1;exact rfl)
    first|(apply HeadG.preF 0 rfl rfl rfl;exact rfl;exact in0;exact rfl)|(apply HeadG.hole0 rfl rfl rfl;exact rfl;exact in0;exact rfl)|(apply HeadG.hole2 rfl rfl rfl;exact rfl;exact in0;exact rfl)|(apply HeadG.hole3 rfl rfl rfl;exact rfl;exact in0;exact rfl)|(apply HeadG.hole4 rfl rfl rfl;exact rfl;exact in0;exact rfl)|(apply HeadG.stepNF rfl;exact rfl;exact in1;exact rfl)
    first|(apply HeadG.preF 0 rfl rfl rfl;exact rfl;exact in0;exact rfl)|(apply HeadG.hole0 rfl rfl rfl;exact rfl;exact in0;exact rfl)|(apply HeadG.hole2 rfl rfl rfl;exact rfl;exact in0;exact rfl)|(apply HeadG.hole3 rfl rfl rfl;exact rfl;exact in0;exact rfl)|(apply HeadG.hole4 rfl rfl rfl;exact rfl;exact in0;exact rfl)|(apply HeadG.stepNF rfl;exact rfl;exact in1;exact rfl)
    first|(apply HeadG.preF 0 rfl rfl rfl;exact rfl;exact in0;exact rfl)|(apply HeadG.hole0 rfl rfl rfl;exact rfl;exact in0;exact rfl)|(apply HeadG.hole2 rfl rfl rfl;exact rfl;exact in0;exact rfl)|(apply HeadG.hole3 rfl rfl rfl;exact rfl;exact in0;exact rfl)|(apply HeadG.hole4 rfl rfl rfl;exact rfl;exact in0;exact rfl)|(apply HeadG.stepNF rfl;exact rfl;exact in1;exact rfl)
    first|(apply HeadG.preF 0 rfl rfl rfl;exact rfl;exact in0;exact rfl)|(apply HeadG.hole0 rfl rfl rfl;exact rfl;exact in0;exact rfl)|(apply HeadG.hole2 rfl rfl rfl;exact rfl;exact in0;exact rfl)|(apply HeadG.hole3 rfl rfl rfl;exact rfl;exact in0;exact rfl)|(apply HeadG.hole4 rfl rfl rfl;exact rfl;exact in0;exact rfl)|(apply HeadG.stepNF rfl;exact rfl;exact in1;exact rfl)
    first|(apply HeadG.preF 0 rfl rfl rfl;exact rfl;exact in0;exact rfl)|(apply HeadG.hole0 rfl rfl rfl;exact rfl;exact in0;exact rfl)|(apply HeadG.hole2 rfl rfl rfl;exact rfl;exact in0;exact rfl)|(apply HeadG.hole3 rfl rfl rfl;exact rfl;exact in0;exact rfl)|(apply HeadG.hole4 rfl rfl rfl;exact rfl;exact in0;exact rfl)|(apply HeadG.stepNF rfl;exact rfl;exact in1;exact rfl)
    apply HeadG.precF 0 rfl rfl
    ·exact rfl
    ·intro Tv Ov
     refine K.call ?_
     apply WpL.callI (PutRef_c.ok w h Pi w h q b d L (plc1 w (sz8 e) k i).1 (plc1 w (sz8 e) k i).2.1 (bs.getD i default).1 (bs.getD i default).2 ⟨by omega,by omega⟩)
     ·exact snapA
     ·exact locA
     ·exact outA
     ·exact FrzR.tup (.agg (.keep rfl rfl (.keep rfl rfl (.own rfl rfl rfl (by show Pi.length*1=(List.map _ _).length;rw [Nat.mul_one,List.length_map];exact hpu.symm) hpu.symm (Snap.same rfl (still_ints _) (nofre_ints _)) .nil))) (.keep rfl rfl .nil))
     ·decide
     ·exact WpL.nil (Only.mk rfl)
    ·exact rfl
    first|(apply HeadG.preF 0 rfl rfl rfl;exact rfl;exact in0;exact rfl)|(apply HeadG.hole0 rfl rfl rfl;exact rfl;exact in0;exact rfl)|(apply HeadG.hole2 rfl rfl rfl;exact rfl;exact in0;exact rfl)|(apply HeadG.hole3 rfl rfl rfl;exact rfl;exact in0;exact rfl)|(apply HeadG.hole4 rfl rfl rfl;exact rfl;exact in0;exact rfl)|(apply HeadG.stepNF rfl;exact rfl;exact in1;exact rfl)
    first|(apply HeadG.preF 0 rfl rfl rfl;exact rfl;exact in0;exact rfl)|(apply HeadG.hole0 rfl rfl rfl;exact rfl;exact in0;exact rfl)|(apply HeadG.hole2 rfl rfl rfl;exact rfl;exact in0;exact rfl)|(apply HeadG.hole3 rfl rfl rfl;exact rfl;exact in0;exact rfl)|(apply HeadG.hole4 rfl rfl rfl;exact rfl;exact in0;exact rfl)|(apply HeadG.stepNF rfl;exact rfl;exact in1;exact rfl)
    first|(apply HeadG.preF 0 rfl rfl rfl;exact rfl;exact in0;exact rfl)|(apply HeadG.hole0 rfl rfl rfl;exact rfl;exact in0;exact rfl)|(apply HeadG.hole2 rfl rfl rfl;exact rfl;exact in0;exact rfl)|(apply HeadG.hole3 rfl rfl rfl;exact rfl;exact in0;exact rfl)|(apply HeadG.hole4 rfl rfl rfl;exact rfl;exact in0;exact rfl)|(apply HeadG.stepNF rfl;exact rfl;exact in1;exact rfl)
    first|(apply HeadG.preF 0 rfl rfl rfl;exact rfl;exact in0;exact rfl)|(apply HeadG.hole0 rfl rfl rfl;exact rfl;exact in0;exact rfl)|(apply HeadG.hole2 rfl rfl rfl;exact rfl;exact in0;exact rfl)|(apply HeadG.hole3 rfl rfl rfl;exact rfl;exact in0;exact rfl)|(apply HeadG.hole4 rfl rfl rfl;exact rfl;exact in0;exact rfl)|(apply HeadG.stepNF rfl;exact rfl;exact in1;exact rfl)
    exact Abs.HeadG.nil
   ·exact trueA
   ·exact trueA
   ·exact trueA
   ·exact demA
   ·exact rfl
   ·exact rfl
   refine goR (r:=?_);and_intros<;>intros<;>try exact True.intro
   all_goals first|contradiction|omega|(rw [hsu];exact .keep rfl rfl .nil)
  ·obtain rfl:i=manyE e:=by omega
   refine goR (r:=?_);and_intros<;>intros<;>try exact True.intro
   all_goals first|contradiction|omega|(rw [hsc];exact .keep rfl rfl .nil)
 ·obtain rfl:k=M.length:=by omega
  refine goR (r:=?_);and_intros<;>intros<;>try exact True.intro
  all_goals first|contradiction|omega|skip
  refine K.call ?_
  apply WpL.callK (ended_c w h w h q b d L (bldM w h q b M P0 M.length) (by omega))
  ·exact .agg (.keep rfl rfl (.keep rfl rfl (.keep rfl rfl (.keep rfl rfl (.keep rfl rfl (.keep rfl rfl .nil)))))) (.agg (.keep rfl rfl (.keep rfl rfl (.keep rfl rfl .nil))) .nil)
  ·decide
  refine goR (r:=?_);and_intros<;>intros<;>try exact True.intro
  all_goals first|contradiction|omega
end
end Go.Proofs.YtainhhfnnclfiaaGreat


namespace Go.Proofs.YtainhhfnnclfiaaGreat
open Go Go.Abs
attribute [local irreducible] WpA WpL Rnd Blk Abs.Seq Abs.Fin Abs.FinG FnC FnG Only
attribute [local irreducible] prS refL
theorem BuildRef_nil (w h q:Int) (b d:Bool) (L:List Int) (M:List Mbk) (hl:L.length≤1099511627776∧M.length≤1099511627776∧SmM 1099511627776 M) (hok:¬StOk w h q L M):Fn 76 [StA w h q b d L M] [] (.agg [I 0,I 0,.nilS]):=by
 have hd:=decide_eq_false hok
 refine FnC.of_body tabOk Tryz.func76 Tryz.ntmps76 rfl (by decide +kernel) (by simp) fun G=>?_
 refine goR (r:=?_);and_intros<;>intros<;>try exact True.intro
 all_goals first|contradiction|omega|exact hl.2.2
structure Frm where
 W:Int
 H:Int
 P:List Int
def bldF (w h q:Int) (b d:Bool) (L:List Int) (M:List Mbk):Frm:=if StOk w h q L M then ⟨w,h,refL w h q b d M⟩ else ⟨0,0,[]⟩
abbrev FrF (f:Frm):AV:=FrA f.W f.H f.P
theorem BuildRef_c (w h q:Int) (b d:Bool) (L:List Int) (M:List Mbk) (hl:L.length≤1099511627776∧M.length≤1099511627776∧SmM 1099511627776 M):Fn 76 [StA w h q b d L M] [] (FrF (bldF w h q b d L M)):=by
 unfold bldF
 by_cases hok:StOk w h q L M
 ·rw [if_pos hok];exact BuildRef_ok w h q b d L M hl hok
 ·rw [if_neg hok]
  exact FnC.still (BuildRef_nil w h q b d L M hl hok) (.agg (.keep rfl rfl (.keep rfl rfl (.nilI .nil))) .nil)
def decF (p:List UInt8):Frm:=if (prS p).c=0 then bldF (prS p).W (prS p).H (prS p).Q (prS p).B (prS p).D (prS p).L (prS p).ms else ⟨0,0,[]⟩
section
attribute [-instance] Parse_c
attribute [local irreducible] bldF
theorem RefDecode_0 (p:List UInt8) (hl:p.length≤1048576) (h0:(prS p).c=0):Fn 26 [Z p] [] (.tup [FrF (bldF (prS p).W (prS p).H (prS p).Q (prS p).B (prS p).D (prS p).L (prS p).ms),I 0]):=by
 have hz:=prS_sz p
 have hlen:(prS p).ms.length*2=(rows Abs.mbF (prS p).ms).length:=(rows_len (f:=Abs.mbF) (k:=2) (fun _=>rfl) (prS p).ms).symm
 refine FnC.of_body tabOk Tryz.func26 Tryz.ntmps26 rfl (by decide +kernel) (by simp) fun G=>?_
 refine goR (r:=?_);and_intros<;>intros<;>try exact True.intro
 refine K.call ?_
 apply WpL.callI (Parse_c.ok p (by omega))
 ·exact snapA
 ·exact locA
 ·exact outA
 ·exact FrzR.tup (.agg (.keep rfl rfl (.keep rfl rfl (.keep rfl rfl (.keep rfl rfl (.keep rfl rfl (.own rfl rfl rfl (by simp) rfl (Snap.same rfl (still_ints _) (nofre_ints _)) (.own rfl rfl rfl hlen rfl (Snap.rows snap_mb _) .nil))))))) (.keep rfl rfl (.keep rfl rfl .nil)))
 ·decide
 refine goR (r:=?_);and_intros<;>intros<;>try exact True.intro
 all_goals first|contradiction|omega|skip
 refine K.call ?_
 apply WpL.callK (BuildRef_c (prS p).W (prS p).H (prS p).Q (prS p).B (prS p).D (prS p).L (prS p).ms ⟨by omega,by omega,hz.2.2.2⟩)
 ·exact .agg (.keep rfl rfl (.keep rfl rfl (.keep rfl rfl (.keep rfl rfl (.keep rfl rfl (.keep rfl rfl (.keep rfl rfl .nil))))))) .nil
 ·decide
 refine goR (r:=?_);and_intros<;>intros<;>try exact True.intro
 all_goals first|contradiction|omega
theorem RefDecode_1 (p:List UInt8) (hl:p.length≤1048576) (h0:(prS p).c≠0):Fn 26 [Z p] [] (.tup [.agg [I 0,I 0,.nilS],I (prS p).c]):=by
 have hz:=prS_sz p
 have hlen:(prS p).ms.length*2=(rows Abs.mbF (prS p).ms).length:=(rows_len (f:=Abs.mbF) (k:=2) (fun _=>rfl) (prS p).ms).symm
 refine FnC.of_body tabOk Tryz.func26 Tryz.ntmps26 rfl (by decide +kernel) (by simp) fun G=>?_
 refine goR (r:=?_);and_intros<;>intros<;>try exact True.intro
 refine K.call ?_
 apply WpL.callI (Parse_c.ok p (by omega))
 ·exact snapA
 ·exact locA
 ·exact outA
 ·exact FrzR.tup (.agg (.keep rfl rfl (.keep rfl rfl (.keep rfl rfl (.keep rfl rfl (.keep rfl rfl (.own rfl rfl rfl (by simp) rfl (Snap.same rfl (still_ints _) (nofre_ints _)) (.own rfl rfl rfl hlen rfl (Snap.rows snap_mb _) .nil))))))) (.keep rfl rfl (.keep rfl rfl .nil)))
 ·decide
 refine goR (r:=?_);and_intros<;>intros<;>try exact True.intro
 all_goals first|contradiction|omega
end
theorem RefDecode_c (p:List UInt8) (hl:p.length≤1048576):Fn 26 [Z p] [] (.tup [FrF (decF p),I (prS p).c]):=by
 unfold decF
 by_cases h0:(prS p).c=0
 ·rw [if_pos h0,h0];exact RefDecode_0 p hl h0
 ·rw [if_neg h0]
  exact FnC.stillT (RefDecode_1 p hl h0) (.agg (.keep rfl rfl (.keep rfl rfl (.nilI .nil))) (.keep rfl rfl .nil))
theorem FastDecode_c (p:List UInt8) (hl:p.length≤1048576):Fn 19 [Z p] [] (.tup [FrF (decF p),I (prS p).c]):=by
 have hc:=RefDecode_c p hl
 generalize decF p=F at*
 refine FnC.of_body tabOk Tryz.func19 Tryz.ntmps19 rfl (by decide +kernel) (by simp) fun G=>?_
 refine goR (r:=?_);and_intros<;>intros<;>try exact True.intro
 refine K.call ?_
 apply WpL.callK hc
 ·exact .keep rfl rfl .nil
 ·decide
 refine goR (r:=?_);and_intros<;>intros<;>try exact True.intro
 all_goals first|contradiction|omega
end Go.Proofs.YtainhhfnnclfiaaGreat


namespace Go.Proofs.YtainhhfnnclfiaaGreat
open Go Go.Abs
attribute [local irreducible] WpA WpL Rnd Blk Abs.Seq Abs.Fin Abs.FinG FnC FnG Only
attribute [local irreducible] prS decF unL unOk
def fzF (F:Frm):List AV:=[I F.W,I F.H,IL F.P]
@[simp] theorem fz_len (l:List Frm):(rows fzF l).length=l.length*3:=rows_len (f:=fzF) (k:=3) (fun _=>rfl) l
abbrev FzO (l:List Frm):AObj:=⟨rows fzF l,0,3,some 36⟩
def mz {α:Type} (f:List UInt8→α) (L:List (List UInt8)) (k:Nat):List α:=(List.range k).map fun i=>f (L.getD i [])
@[simp] theorem mz_len {α:Type} (f:List UInt8→α) (L:List (List UInt8)) (k:Nat):(mz f L k).length=k:=by simp [mz]
theorem mz_snoc {α:Type} (f:List UInt8→α) (L:List (List UInt8)) (k:Nat):mz f L (k+1)=mz f L k++[f (L.getD k [])]:=by simp [mz,List.range_succ]
abbrev dcF (t:List UInt8):Frm:=decF t
abbrev dcC (t:List UInt8):Int:=(prS t).c
theorem PlayReel_z (s:List UInt8) (hl:s.length≤1048576) (hok:unOk s=true):Fn 18 [Z s] [FzO (mz dcF (unL s) (unL s).length),XI (mz dcC (unL s) (unL s).length)] (.tup [.own 0 0 0 (unL s).length,.own 1 0 0 (unL s).length]):=by
 have hu:=unL_len s
 have ht:=unL_tot s
 have hg:=fun k=>totR_get (unL s) k
 refine FnC.of_body tabOk Tryz.func18 Tryz.ntmps18 rfl (by decide +kernel) (by simp) fun G=>?_
 refine go (r:=?_);and_intros<;>intros<;>try exact True.intro
 all_goals first|contradiction|(exfalso;rename_i hg2;revert hg2;simp [hok];done)|skip
 generalize unL s=L at*
 refine WpA.loop (fun k:Nat=>⟨[(6,.own 1 0 0 k),(7,.own 2 0 0 k),(21,.own 0 0 0 L.length),(22,I L.length),(23,I k)],[SO L,FzO (mz dcF L k),XI (mz dcC L k)]⟩) (fun k=>k≤L.length) (fun k=>L.length-k) 0 (by omega) (go (r:=?_)) (fun k hk=>?_)
 ·and_intros<;>first|exact True.intro|rfl
 have hm1:=mz_snoc dcF L k
 have hm2:=mz_snoc dcC L k
 have hgk:=hg k
 have hrd:=RefDecode_c (L.getD k []) (by omega)
 by_cases hlt:k<L.length
 ·refine goR (r:=?_);and_intros<;>intros<;>try exact True.intro
  rw [Int.toNat_natCast]
  refine K.call ?_
  apply WpL.callK hrd
  ·exact .keep rfl rfl .nil
  ·decide
  refine goR (r:=?_);and_intros<;>intros<;>try exact True.intro
  all_goals first|contradiction|omega|exact hm2.symm|skip
  refine Re.same ?_ (still_rows (fun _=>rfl) _)
  show rows fzF (mz dcF L k)++_=rows fzF (mz dcF L (k+1))
  rw [hm1,rows_append,rows_one];rfl
 ·have ek:k=L.length:=by omega
  subst ek
  refine go (r:=?_);and_intros<;>intros<;>try exact True.intro
  all_goals first|contradiction|omega|rfl
end Go.Proofs.YtainhhfnnclfiaaGreat


namespace Go.Proofs.YtainhhfnnclfiaaGreat
open Go Go.Abs
attribute [local irreducible] WpA WpL Rnd Blk Abs.Seq Abs.Fin Abs.FinG FnC FnG Only
instance SameFrame_s:Con 20 (∀ (W H:Int) (p:List Int) (W2 H2:Int) (p2:List Int),p.length≤1099511627776∧p2.length≤1099511627776→Fn 20 [FrA W H p,FrA W2 H2 p2] [] (B (decide (W=W2∧H=H2∧p=p2)))):=⟨fun W H p W2 H2 p2 hl=>by
 refine FnC.of_body tabOk Tryz.func20 Tryz.ntmps20 rfl (by decide +kernel) (by simp) fun G=>?_
 by_cases h:W=W2∧H=H2∧p.length=p2.length
 ·obtain ⟨rfl,rfl,hpl⟩:=h
  refine go (r:=?_);and_intros<;>intros<;>try exact True.intro
  all_goals first|contradiction|omega|skip
  refine WpA.loop (fun k:Nat=>⟨[(2,.ptr 0 0 0),(3,.ptr 1 0 0),(5,I k)],[FrO W H p,FrO W H p2]⟩) (fun k=>k≤p.length∧∀j<k,p.getD j 0=p2.getD j 0) (fun k=>p.length-k) 0 (by simp) (go (r:=?_)) (fun k hk=>?_)
  ·and_intros<;>first|exact True.intro|rfl
  obtain ⟨hk,hj⟩:=hk
  refine go (r:=?_);and_intros<;>intros<;>try exact True.intro
  all_goals first|contradiction|omega|skip
  ·symm;rw [decide_eq_false_iff_not];rintro ⟨_,_,rfl⟩;simp_all
  ·rename_i j hj2
   by_cases h:j=k
   ·subst h;assumption
   ·exact hj j (by omega)
  ·have:=eq_all 0 (xs:=p) (ys:=p2) (by omega) (fun j hj2=>hj j (by omega))
   simp [this]
 ·refine go (r:=?_);and_intros<;>intros<;>try exact True.intro
  all_goals first|contradiction|omega|(symm;rw [decide_eq_false_iff_not];rintro ⟨rfl,rfl,rfl⟩;exact h ⟨rfl,rfl,rfl⟩)⟩
end Go.Proofs.YtainhhfnnclfiaaGreat


namespace Go.Abs
open Go
theorem RelAt.preC {n m G S ι F T O a w} (hr:RelAt n m G S ι F ⟨T,O⟩ a w) {id:Nat} (j:Nat) {ob:AObj} (ho:O[id]?=some ob):∃F',RelAt n m G S ι F' ⟨T,O.set id ⟨ob.cells.take j,ob.ep,ob.size,ob.ty⟩⟩ a w:=by
 have hid:id<O.length:=(List.getElem?_eq_some_iff.1 ho).1
 have hlat:Later S w ι O S w ι (O.set id ⟨ob.cells.take j,ob.ep,ob.size,ob.ty⟩):=⟨fun _ h=>h,fun _ _=>rfl,fun i oi hi=>by
  by_cases e:i=id
  ·subst e;rw [ho] at hi;cases hi
   exact ⟨⟨ob.cells.take j,ob.ep,ob.size,ob.ty⟩,by rw [List.getElem?_set_self hid],.inr ⟨rfl,rfl,rfl⟩⟩
  ·exact ⟨oi,by rw [List.getElem?_set,if_neg (fun h=>e h.symm)];exact hi,.inr ⟨rfl,rfl,rfl⟩⟩⟩
 obtain ⟨g,hg,hsub,hnd⟩:∃g,ObjAt S w ι (O.set id ⟨ob.cells.take j,ob.ep,ob.size,ob.ty⟩) ⟨ob.cells.take j,ob.ep,ob.size,ob.ty⟩ (ι id) g∧(∀ b∈g,b∈F id)∧g.Nodup:=by
  have h:=hr.objs.obj id _ ho
  have hn:=hr.objs.nodup id hid
  unfold ObjAt at h ⊢
  cases hs:ι id with
  |none=>rw [hs] at h;exact ⟨[],⟨by simp [h.1],rfl⟩,by simp,by simp⟩
  |some p=>
   obtain ⟨b,k⟩:=p
   rw [hs] at h
   obtain ⟨cur,t,fz,f',h1,h2,h3,h4,h5,h6,h7⟩:=h
   obtain ⟨g,g1,g2,g3⟩:=h7.take j
   rw [h1] at hn ⊢
   obtain ⟨n1,n2⟩:=List.nodup_cons.1 hn
   have hle:(ob.cells.take j).length≤ob.cells.length:=List.length_take_le' _ _
   refine ⟨b::g,⟨cur,t,fz,g,rfl,h2,h3,by show (ob.cells.take j).length≤k;omega,h5,h6,?_⟩,fun c hc=>?_,List.nodup_cons.2 ⟨fun hc=>n1 (g2 _ hc),g3 n2⟩⟩
   ·have e2:cur.toList.take (ob.cells.take j).length=(cur.toList.take ob.cells.length).take j:=by
     rw [List.take_take,List.length_take]
    show LRel S w ι _ (ob.cells.take j) (cur.toList.take (ob.cells.take j).length) g
    rw [e2];exact g1.mono hlat (fun _ _=>rfl)
   ·rcases List.mem_cons.1 hc with hc|hc
    ·exact hc▸List.mem_cons_self
    ·exact List.mem_cons_of_mem _ (g2 _ hc)
 have hF:∀i b,b∈upd F id g i→b∈F i:=fun i b hb=>by
  by_cases e:i=id
  ·subst e;rw [upd_same] at hb;exact hsub b hb
  ·rw [upd_other _ _ e] at hb;exact hb
 refine ⟨upd F id g,hr.defers,hr.size,fun t=>(hr.tmps t).mono hlat (by simp),⟨fun i oi hi=>?_,fun i hi=>?_,fun i j' hi hj hij b hb hb'=>hr.objs.apart i j' (by simpa using hi) (by simpa using hj) hij b (hF i b hb) (hF j' b hb')⟩,fun i hi b hb=>hr.foot i (by simpa using hi) b (hF i b hb),hr.base,hr.stable,hr.keeps,hr.spots,by have:=hr.mle;simpa using this⟩
 ·have hi:(O.set id ⟨ob.cells.take j,ob.ep,ob.size,ob.ty⟩)[i]?=some oi:=hi
  by_cases e:i=id
  ·subst e
   rw [List.getElem?_set_self hid] at hi;cases hi
   rw [upd_same];exact hg
  ·rw [upd_other _ _ e]
   rw [List.getElem?_set,if_neg (fun h=>e h.symm)] at hi
   have h:=hr.objs.obj i oi hi
   unfold ObjAt at h ⊢
   cases hs:ι i with
   |none=>rw [hs] at h;exact h
   |some p=>
    obtain ⟨b,k⟩:=p
    rw [hs] at h
    obtain ⟨cur,t,fz,f',h1,h2,h3,h4,h5,h6,h7⟩:=h
    exact ⟨cur,t,fz,f',h1,h2,h3,h4,h5,h6,h7.mono hlat (fun _ _=>rfl)⟩
 ·by_cases e:i=id
  ·subst e;rw [upd_same];exact hnd
  ·rw [upd_other _ _ e];exact hr.objs.nodup i (by simpa using hi)
theorem Weak.preC {m id:Nat} {T:List (Nat×AV)} {O:List AObj} {ob:AObj} (j:Nat) (ho:O[id]?=some ob):Weak m ⟨T,O⟩ ⟨T,O.set id ⟨ob.cells.take j,ob.ep,ob.size,ob.ty⟩⟩:=by
 rintro n G a w ⟨S,ι,F,hr⟩
 obtain ⟨F',h⟩:=hr.preC j ho
 exact ⟨S,ι,F',h⟩
end Go.Abs


namespace Go.Abs
open Go
section
variable {P:Program} {n m:Nat} {G:Ctx} {ops:Array Oper} {T0:List (Nat×AV)} {O Oi:List AObj} {keep sh:List Nat}
end
section
variable {P:Program} {n m:Nat} {G:Ctx} {ops:Array Oper} {T0:List (Nat×AV)} {O:List AObj}
theorem HeadJ.consB0 {fs fs2 out:List (Nat×AV)} {o:Oper} {l:List Oper} {d:Nat} {b:Bool} {F:List (Nat×AV)} (hd:o.dst=some d) (hF:depsF fs o.after.toList=some F)
 (h:∀Tv,WpL P n m G false ops [o] ⟨F++(T0++Tv),O⟩ (Only ⟨(d,.sc (.bool b))::(F++(T0++Tv)),O⟩)) (hb:b=false) (hs:catF fs [(d,.sc (.bool false))]=some fs2) (r:HeadJ P n m G ops T0 O fs2 l out):HeadJ P n m G ops T0 O fs (o::l) out:=by
 subst hb
 exact HeadJ.consF hd hF h hs r
end
end Go.Abs
