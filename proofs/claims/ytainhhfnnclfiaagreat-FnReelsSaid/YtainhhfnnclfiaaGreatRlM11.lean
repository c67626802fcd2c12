/- Proved in this text: lemmas and contracts of functions that the claim uses (parts: Mat2, Mat3, Mat4, Pred, Scan, Quant, Scn, Lw, Lev, Stat, Sid, ResL, LevP, DrP, Work, DbP). No condition. -/
import Derived.Test.YtainhhfnnclfiaaGreatRlM10
import Derived.Test.YtainhhfnnclfiaaGreatRlM6
import Derived.Test.YtainhhfnnclfiaaGreatRlM9
set_option linter.unusedVariables false
set_option linter.unusedSimpArgs false
set_option maxRecDepth 100000
set_option maxHeartbeats 16000000


namespace Go.Proofs.YtainhhfnnclfiaaGreat
open Go Go.Abs
attribute [local irreducible] WpA WpL Rnd Blk Abs.Seq Abs.Fin Abs.FinG FnC FnG Only
abbrev fh (n:Nat) (g:Nat→Nat→Int) (l:List Int) (q:Nat):Int:=halfM n g l (q/n) (q%n)
abbrev fo (n:Nat) (g:Nat→Nat→Int) (l:List Int) (q:Nat):Int:=fullM n g l (q/n) (q%n)
abbrev sh (n:Nat) (g:Nat→Nat→Int) (l:List Int) (r k i:Nat):Int:=sumF (fun i=>g r i*l.getD (i*n+k) 0) i
abbrev so (n:Nat) (g:Nat→Nat→Int) (l:List Int) (r k i:Nat):Int:=sumF (fun i=>halfM n g l r i*g k i) i
theorem divmod {n r k:Nat} (h:k<n):(r*n+k)/n=r∧(r*n+k)%n=k:=by
 have hn:0<n:=by omega
 constructor
 ·rw [Nat.mul_comm,Nat.mul_add_div hn,Nat.div_eq_of_lt h,Nat.add_zero]
 ·rw [Nat.mul_comm,Nat.mul_add_mod,Nat.mod_eq_of_lt h]
theorem mul_huge {a b:Int} (h:-17000000000≤a∧a≤17000000000) (h2:b=-2∨b=-1∨b=0∨b=1∨b=2):-34000000000≤a*b∧a*b≤34000000000:=by
 rcases h2 with rfl|rfl|rfl|rfl|rfl<;>omega
abbrev Sgn (g:Nat→Nat→Int):Prop:=∀r i,g r i=-2∨g r i=-1∨g r i=0∨g r i=1∨g r i=2
theorem half_in {n:Nat} {g:Nat→Nat→Int} {l:List Int} (hg:Sgn g) (hl:In l (-1000000000) 1000000000) (hn:n≤8) (r k:Nat):-17000000000≤halfM n g l r k∧halfM n g l r k≤17000000000:=by
 have:=half_bd (n:=n) (g:=g) (l:=l) (c:=1000000000) hg hl (by omega) r k n
 unfold halfM;omega
theorem so_bd {n:Nat} {g:Nat→Nat→Int} {l:List Int} (hg:Sgn g) (hl:In l (-1000000000) 1000000000) (hn:n≤8) (r k i:Nat):-(i*34000000000)≤so n g l r k i∧so n g l r k i≤i*34000000000:=
 sumF_bd (by omega) i fun j _=>mul_huge (half_in hg hl hn r j) (hg k j)
abbrev RowsOk (n:Nat) (g:Nat→Nat→Int) (M:List (List Int)):Prop:=M.length=n∧(∀ r,r<n→(M.getD r default).length=n)∧∀r i,r<n→i<n→(M.getD r default).getD i 0=g r i
def prodL (n:Nat) (g:Nat→Nat→Int) (l:List Int):List Int:=if l.length=n*n∧In l (-1000000000) 1000000000 then mulM n g l else []
theorem prodL_len (n:Nat) (g:Nat→Nat→Int) (l:List Int):(prodL n g l).length=if l.length=n*n∧In l (-1000000000) 1000000000 then n*n else 0:=by
 unfold prodL;split
 ·exact tabL_len _ _
 ·rfl
abbrev LLn (n:Nat) (M:List (List Int)):AV:=.imm 1 n (rows liI M)
theorem product_4 (g:Nat→Nat→Int) (M:List (List Int)) (l:List Int) (hg:Sgn g) (hM:RowsOk 4 g M) (hl:l.length≤1099511627776):Fn 252 [LLn 4 M,IL l] [XI (prodL 4 g l)] (.own 0 0 0 (prodL 4 g l).length):=by
 obtain ⟨hM1,hM2,hM3⟩:=hM
 have hpl:=prodL_len 4 g l
 by_cases h:l.length=16∧In l (-1000000000) 1000000000
 ·obtain ⟨h1,h2⟩:=id h
  have e:prodL 4 g l=tabL (fo 4 g l) 16:=by rw [prodL,if_pos h];rfl
  refine FnC.of_body tabOk Tryz.func252 Tryz.ntmps252 rfl (by decide +kernel) (by simp) fun G=>?_
  refine goR (r:=?_);and_intros<;>intros<;>try exact True.intro
  all_goals first|(exfalso;omega)|(exact absurd h2 (by assumption))|skip
  apply WpA.regionQ0 (O1:=[XD (List.replicate 16 0),XD (List.replicate 16 0),deadO,deadO]) 9 2 mixed (by decide +kernel)
  ·exact rfl
  ·apply HeadQ.consF .none rfl
   ·exact rfl
   ·exact in1
   ·exact rfl
   ·exact rfl
   apply HeadQ.consF .none rfl
   ·exact rfl
   ·exact in1
   ·exact rfl
   ·exact rfl
   apply HeadQ.consF .none rfl
   ·exact rfl
   ·exact in1
   ·exact rfl
   ·exact rfl
   apply HeadQ.consF (V:=.own 0 1 0 16) (.put 0 (XD (List.replicate 16 0))) rfl
   ·exact rfl
   ·intro Tv Ov hc hp hd hk
    refine WpL.makeInts tabOk rfl rfl rfl (by decide) (by decide) (by rw [nid_len,Nat.zero_add]) (by decide) ?_
    apply WpL.putNil (p:=0)
    ·exact hp 0 _ rfl
    ·exact Nat.zero_le _
    ·exact rfl
    ·first|exact still_ints _|exact still_rows (fun _=>rfl) _|rfl
   ·exact rfl
   ·exact rfl
   apply HeadQ.consF .none rfl
   ·exact rfl
   ·exact in1
   ·exact rfl
   ·exact rfl
   apply HeadQ.consF .none rfl
   ·exact rfl
   ·exact in1
   ·exact rfl
   ·exact rfl
   apply HeadQ.consF .none rfl
   ·exact rfl
   ·exact in1
   ·exact rfl
   ·exact rfl
   apply HeadQ.consF (V:=.own 1 1 0 16) (.put 1 (XD (List.replicate 16 0))) rfl
   ·exact rfl
   ·intro Tv Ov hc hp hd hk
    refine WpL.makeInts tabOk rfl rfl rfl (by decide) (by decide) (by rw [nid_len,Nat.zero_add]) (by decide) ?_
    apply WpL.putNil (p:=1)
    ·exact hp 1 _ rfl
    ·exact Nat.zero_le _
    ·exact rfl
    ·first|exact still_ints _|exact still_rows (fun _=>rfl) _|rfl
   ·exact rfl
   ·exact rfl
   apply HeadQ.consF .none rfl
   ·exact rfl
   ·exact in1
   ·exact rfl
   ·exact rfl
   exact HeadQ.nil
  ·exact rfl
  ·exact rfl
  ·exact rfl
  ·exact rfl
  ·exact rfl
  ·exact rfl
  refine go (r:=?_);and_intros<;>intros<;>try exact True.intro
  refine WpA.loop (fun r:Nat=>⟨[(0,LLn 4 M),(1,IL l),(5,I 4),(6,.own 0 1 0 16),(7,.own 1 1 0 16),(35,I 4),(36,I r)],[XD (part (fh 4 g l) 16 (r*4) 0),XD (List.replicate 16 0)]⟩) (fun r=>r≤4) (fun r=>4-r) 0 (by omega) (go (r:=?_)) (fun r hr=>?_)
  ·simp [part_zero]
  have hpl1:=part_len (fh 4 g l) 16 (r*4) 0
  refine go (r:=?_);and_intros<;>intros<;>try exact True.intro
  ·refine WpA.loop (fun k:Nat=>⟨[(0,LLn 4 M),(1,IL l),(5,I 4),(6,.own 0 1 0 16),(7,.own 1 1 0 16),(8,I r),(35,I 4),(36,I r),(39,I 4),(40,I k)],[XD (part (fh 4 g l) 16 (r*4+k) 0),XD (List.replicate 16 0)]⟩) (fun k=>k≤4) (fun k=>4-k) 0 (by omega) (go (r:=?_)) (fun k hk=>?_)
   ·trivial
   have hpl2:=part_len (fh 4 g l) 16 (r*4+k) 0
   refine go (r:=?_);and_intros<;>intros<;>try exact True.intro
   ·refine WpA.loop (fun i:Nat=>⟨[(0,LLn 4 M),(1,IL l),(5,I 4),(6,.own 0 1 0 16),(7,.own 1 1 0 16),(8,I r),(9,I k),(35,I 4),(36,I r),(39,I 4),(40,I k),(43,I 4),(44,I i)],[XD (part (fh 4 g l) 16 (r*4+k) (sh 4 g l r k i)),XD (List.replicate 16 0)]⟩) (fun i=>i≤4) (fun i=>4-i) 0 (by omega) (go (r:=?_)) (fun i hi=>?_)
    ·simp [sumF]
    have hpl3:=part_len (fh 4 g l) 16 (r*4+k) (sh 4 g l r k i)
    have hM2r:=hM2 r
    have hsb:-((i:Int)*(2*1000000000))≤sh 4 g l r k i∧sh 4 g l r k i≤(i:Int)*(2*1000000000):=half_bd (n:=4) (g:=g) (l:=l) (c:=1000000000) hg h2 (by omega) r k i
    have hdm:=divmod (n:=4) (r:=r) (k:=k)
    have hgl:=in_getZ h2 (by decide) (i*4+k)
    have hgg:=mul2 (hg r i) hgl (by decide)
    have hst:sh 4 g l r k (i+1)=sh 4 g l r k i+g r i*l.getD (i*4+k) 0:=rfl
    refine go (r:=?_);and_intros<;>intros<;>try exact True.intro
    ·rename_i hi1
     have hr1:r<4:=by omega
     have hk1:k<4:=by omega
     have e1:((r:Int)*4+k).toNat=r*4+k:=by omega
     have e2:((i:Int)*4+k).toNat=i*4+k:=by omega
     have e3:(M.getD r default).getD i 0=g r i:=hM3 r i hr1 (by omega)
     rw [e1,e2,e3,part_get (by omega),part_set (by omega),wrap64 (g r i*l.getD (i*4+k) 0) (by omega),wrap64 _ (by omega),hst]
    ·have hi1:i=4:=by omega
     subst hi1
     rw [←Nat.add_assoc];exact part_next (by show sh 4 g l r k 4=halfM 4 g l ((r*4+k)/4) ((r*4+k)%4);rw [(hdm (by omega)).1,(hdm (by omega)).2];rfl)
   ·have hk1:k=4:=by omega
    rw [hk1,Nat.succ_mul]
  have hr1:r=4:=by omega
  subst hr1
  have ep:part (fh 4 g l) 16 (4*4) 0=tabL (fh 4 g l) 16:=part_all _ _ _
  rw [ep]
  have hplh:=tabL_len (fh 4 g l) 16
  refine WpA.loop (fun r:Nat=>⟨[(0,LLn 4 M),(5,I 4),(6,.own 0 1 0 16),(7,.own 1 1 0 16),(76,I 4),(77,I r)],[XD (tabL (fh 4 g l) 16),XD (part (fo 4 g l) 16 (r*4) 0)]⟩) (fun r=>r≤4) (fun r=>4-r) 0 (by omega) (go (r:=?_)) (fun r hr=>?_)
  ·simp [part_zero]
  have hpl1:=part_len (fo 4 g l) 16 (r*4) 0
  refine go (r:=?_);and_intros<;>intros<;>try exact True.intro
  ·refine WpA.loop (fun k:Nat=>⟨[(0,LLn 4 M),(5,I 4),(6,.own 0 1 0 16),(7,.own 1 1 0 16),(11,I r),(76,I 4),(77,I r),(80,I 4),(81,I k)],[XD (tabL (fh 4 g l) 16),XD (part (fo 4 g l) 16 (r*4+k) 0)]⟩) (fun k=>k≤4) (fun k=>4-k) 0 (by omega) (go (r:=?_)) (fun k hk=>?_)
   ·trivial
   have hpl2:=part_len (fo 4 g l) 16 (r*4+k) 0
   refine go (r:=?_);and_intros<;>intros<;>try exact True.intro
   ·refine WpA.loop (fun i:Nat=>⟨[(0,LLn 4 M),(5,I 4),(6,.own 0 1 0 16),(7,.own 1 1 0 16),(11,I r),(12,I k),(76,I 4),(77,I r),(80,I 4),(81,I k),(84,I 4),(85,I i)],[XD (tabL (fh 4 g l) 16),XD (part (fo 4 g l) 16 (r*4+k) (so 4 g l r k i))]⟩) (fun i=>i≤4) (fun i=>4-i) 0 (by omega) (go (r:=?_)) (fun i hi=>?_)
    ·simp [sumF]
    have hpl3:=part_len (fo 4 g l) 16 (r*4+k) (so 4 g l r k i)
    have hM2r:=hM2 k
    have hsb:=so_bd (n:=4) hg h2 (by omega) r k i
    have hdm:=divmod (n:=4) (r:=r) (k:=k)
    have hdi:=divmod (n:=4) (r:=r) (k:=i)
    have hgl:=half_in (n:=4) hg h2 (by omega) r i
    have hgg:=mul_huge hgl (hg k i)
    have hst:so 4 g l r k (i+1)=so 4 g l r k i+halfM 4 g l r i*g k i:=rfl
    refine go (r:=?_);and_intros<;>intros<;>try exact True.intro
    ·rename_i hi1
     have hr1:r<4:=by omega
     have hk1:k<4:=by omega
     have e1:((r:Int)*4+k).toNat=r*4+k:=by omega
     have e2:((r:Int)*4+i).toNat=r*4+i:=by omega
     have e3:(M.getD k default).getD i 0=g k i:=hM3 k i hk1 (by omega)
     have e4:(tabL (fh 4 g l) 16).getD (r*4+i) 0=halfM 4 g l r i:=by rw [tabL_get (by omega)];show halfM 4 g l ((r*4+i)/4) ((r*4+i)%4)=_;rw [(hdi (by omega)).1,(hdi (by omega)).2]
     rw [e1,e2,e3,e4,part_get (by omega),part_set (by omega),wrap64 (halfM 4 g l r i*g k i) (by omega),wrap64 _ (by omega),hst]
    ·have hi1:i=4:=by omega
     subst hi1
     rw [←Nat.add_assoc];exact part_next (by show so 4 g l r k 4=fullM 4 g l ((r*4+k)/4) ((r*4+k)%4);rw [(hdm (by omega)).1,(hdm (by omega)).2];rfl)
   ·have hk1:k=4:=by omega
    rw [hk1,Nat.succ_mul]
  all_goals have hr1:r=4:=by omega
  all_goals subst hr1
  all_goals first|(rw [e,tabL_len];done)|(rw [e];exact congrArg _ (part_all _ _ _))|(rw [e];exact part_all _ _ _)
 ·have e:prodL 4 g l=[]:=by rw [prodL,if_neg h]
  refine FnC.of_body tabOk Tryz.func252 Tryz.ntmps252 rfl (by decide +kernel) (by simp) fun G=>?_
  refine goR (r:=?_);and_intros<;>intros<;>try exact True.intro
  all_goals first|(rw [e];done)|(rw [e];rfl)|(exact absurd ⟨by omega,by assumption⟩ h)
theorem product_8 (g:Nat→Nat→Int) (M:List (List Int)) (l:List Int) (hg:Sgn g) (hM:RowsOk 8 g M) (hl:l.length≤1099511627776):Fn 252 [LLn 8 M,IL l] [XI (prodL 8 g l)] (.own 0 0 0 (prodL 8 g l).length):=by
 obtain ⟨hM1,hM2,hM3⟩:=hM
 have hpl:=prodL_len 8 g l
 by_cases h:l.length=64∧In l (-1000000000) 1000000000
 ·obtain ⟨h1,h2⟩:=id h
  have e:prodL 8 g l=tabL (fo 8 g l) 64:=by rw [prodL,if_pos h];rfl
  refine FnC.of_body tabOk Tryz.func252 Tryz.ntmps252 rfl (by decide +kernel) (by simp) fun G=>?_
  refine goR (r:=?_);and_intros<;>intros<;>try exact True.intro
  all_goals first|(exfalso;omega)|(exact absurd h2 (by assumption))|skip
  apply WpA.regionQ0 (O1:=[XD (List.replicate 64 0),XD (List.replicate 64 0),deadO,deadO]) 9 2 mixed (by decide +kernel)
  ·exact rfl
  ·apply HeadQ.consF .none rfl
   ·exact rfl
   ·exact in1
   ·exact rfl
   ·exact rfl
   apply HeadQ.consF .none rfl
   ·exact rfl
   ·exact in1
   ·exact rfl
   ·exact rfl
   apply HeadQ.consF .none rfl
   ·exact rfl
   ·exact in1
   ·exact rfl
   ·exact rfl
   apply HeadQ.consF (V:=.own 0 1 0 64) (.put 0 (XD (List.replicate 64 0))) rfl
   ·exact rfl
   ·intro Tv Ov hc hp hd hk
    refine WpL.makeInts tabOk rfl rfl rfl (by decide) (by decide) (by rw [nid_len,Nat.zero_add]) (by decide) ?_
    apply WpL.putNil (p:=0)
    ·exact hp 0 _ rfl
    ·exact Nat.zero_le _
    ·exact rfl
    ·first|exact still_ints _|exact still_rows (fun _=>rfl) _|rfl
   ·exact rfl
   ·exact rfl
   apply HeadQ.consF .none rfl
   ·exact rfl
   ·exact in1
   ·exact rfl
   ·exact rfl
   apply HeadQ.consF .none rfl
   ·exact rfl
   ·exact in1
   ·exact rfl
   ·exact rfl
   apply HeadQ.consF .none rfl
   ·exact rfl
   ·exact in1
   ·exact rfl
   ·exact rfl
   apply HeadQ.consF (V:=.own 1 1 0 64) (.put 1 (XD (List.replicate 64 0))) rfl
   ·exact rfl
   ·intro Tv Ov hc hp hd hk
    refine WpL.makeInts tabOk rfl rfl rfl (by decide) (by decide) (by rw [nid_len,Nat.zero_add]) (by decide) ?_
    apply WpL.putNil (p:=1)
    ·exact hp 1 _ rfl
    ·exact Nat.zero_le _
    ·exact rfl
    ·first|exact still_ints _|exact still_rows (fun _=>rfl) _|rfl
   ·exact rfl
   ·exact rfl
   apply HeadQ.consF .none rfl
   ·exact rfl
   ·exact in1
   ·exact rfl
   ·exact rfl
   exact HeadQ.nil
  ·exact rfl
  ·exact rfl
  ·exact rfl
  ·exact rfl
  ·exact rfl
  ·exact rfl
  refine go (r:=?_);and_intros<;>intros<;>try exact True.intro
  refine WpA.loop (fun r:Nat=>⟨[(0,LLn 8 M),(1,IL l),(5,I 8),(6,.own 0 1 0 64),(7,.own 1 1 0 64),(35,I 8),(36,I r)],[XD (part (fh 8 g l) 64 (r*8) 0),XD (List.replicate 64 0)]⟩) (fun r=>r≤8) (fun r=>8-r) 0 (by omega) (go (r:=?_)) (fun r hr=>?_)
  ·simp [part_zero]
  have hpl1:=part_len (fh 8 g l) 64 (r*8) 0
  refine go (r:=?_);and_intros<;>intros<;>try exact True.intro
  ·refine WpA.loop (fun k:Nat=>⟨[(0,LLn 8 M),(1,IL l),(5,I 8),(6,.own 0 1 0 64),(7,.own 1 1 0 64),(8,I r),(35,I 8),(36,I r),(39,I 8),(40,I k)],[XD (part (fh 8 g l) 64 (r*8+k) 0),XD (List.replicate 64 0)]⟩) (fun k=>k≤8) (fun k=>8-k) 0 (by omega) (go (r:=?_)) (fun k hk=>?_)
   ·trivial
   have hpl2:=part_len (fh 8 g l) 64 (r*8+k) 0
   refine go (r:=?_);and_intros<;>intros<;>try exact True.intro
   ·refine WpA.loop (fun i:Nat=>⟨[(0,LLn 8 M),(1,IL l),(5,I 8),(6,.own 0 1 0 64),(7,.own 1 1 0 64),(8,I r),(9,I k),(35,I 8),(36,I r),(39,I 8),(40,I k),(43,I 8),(44,I i)],[XD (part (fh 8 g l) 64 (r*8+k) (sh 8 g l r k i)),XD (List.replicate 64 0)]⟩) (fun i=>i≤8) (fun i=>8-i) 0 (by omega) (go (r:=?_)) (fun i hi=>?_)
    ·simp [sumF]
    have hpl3:=part_len (fh 8 g l) 64 (r*8+k) (sh 8 g l r k i)
    have hM2r:=hM2 r
    have hsb:-((i:Int)*(2*1000000000))≤sh 8 g l r k i∧sh 8 g l r k i≤(i:Int)*(2*1000000000):=half_bd (n:=8) (g:=g) (l:=l) (c:=1000000000) hg h2 (by omega) r k i
    have hdm:=divmod (n:=8) (r:=r) (k:=k)
    have hgl:=in_getZ h2 (by decide) (i*8+k)
    have hgg:=mul2 (hg r i) hgl (by decide)
    have hst:sh 8 g l r k (i+1)=sh 8 g l r k i+g r i*l.getD (i*8+k) 0:=rfl
    refine go (r:=?_);and_intros<;>intros<;>try exact True.intro
    ·rename_i hi1
     have hr1:r<8:=by omega
     have hk1:k<8:=by omega
     have e1:((r:Int)*8+k).toNat=r*8+k:=by omega
     have e2:((i:Int)*8+k).toNat=i*8+k:=by omega
     have e3:(M.getD r default).getD i 0=g r i:=hM3 r i hr1 (by omega)
     rw [e1,e2,e3,part_get (by omega),part_set (by omega),wrap64 (g r i*l.getD (i*8+k) 0) (by omega),wrap64 _ (by omega),hst]
    ·have hi1:i=8:=by omega
     subst hi1
     rw [←Nat.add_assoc];exact part_next (by show sh 8 g l r k 8=halfM 8 g l ((r*8+k)/8) ((r*8+k)%8);rw [(hdm (by omega)).1,(hdm (by omega)).2];rfl)
   ·have hk1:k=8:=by omega
    rw [hk1,Nat.succ_mul]
  have hr1:r=8:=by omega
  subst hr1
  have ep:part (fh 8 g l) 64 (8*8) 0=tabL (fh 8 g l) 64:=part_all _ _ _
  rw [ep]
  have hplh:=tabL_len (fh 8 g l) 64
  refine WpA.loop (fun r:Nat=>⟨[(0,LLn 8 M),(5,I 8),(6,.own 0 1 0 64),(7,.own 1 1 0 64),(76,I 8),(77,I r)],[XD (tabL (fh 8 g l) 64),XD (part (fo 8 g l) 64 (r*8) 0)]⟩) (fun r=>r≤8) (fun r=>8-r) 0 (by omega) (go (r:=?_)) (fun r hr=>?_)
  ·simp [part_zero]
  have hpl1:=part_len (fo 8 g l) 64 (r*8) 0
  refine go (r:=?_);and_intros<;>intros<;>try exact True.intro
  ·refine WpA.loop (fun k:Nat=>⟨[(0,LLn 8 M),(5,I 8),(6,.own 0 1 0 64),(7,.own 1 1 0 64),(11,I r),(76,I 8),(77,I r),(80,I 8),(81,I k)],[XD (tabL (fh 8 g l) 64),XD (part (fo 8 g l) 64 (r*8+k) 0)]⟩) (fun k=>k≤8) (fun k=>8-k) 0 (by omega) (go (r:=?_)) (fun k hk=>?_)
   ·trivial
   have hpl2:=part_len (fo 8 g l) 64 (r*8+k) 0
   refine go (r:=?_);and_intros<;>intros<;>try exact True.intro
   ·refine WpA.loop (fun i:Nat=>⟨[(0,LLn 8 M),(5,I 8),(6,.own 0 1 0 64),(7,.own 1 1 0 64),(11,I r),(12,I k),(76,I 8),(77,I r),(80,I 8),(81,I k),(84,I 8),(85,I i)],[XD (tabL (fh 8 g l) 64),XD (part (fo 8 g l) 64 (r*8+k) (so 8 g l r k i))]⟩) (fun i=>i≤8) (fun i=>8-i) 0 (by omega) (go (r:=?_)) (fun i hi=>?_)
    ·simp [sumF]
    have hpl3:=part_len (fo 8 g l) 64 (r*8+k) (so 8 g l r k i)
    have hM2r:=hM2 k
    have hsb:=so_bd (n:=8) hg h2 (by omega) r k i
    have hdm:=divmod (n:=8) (r:=r) (k:=k)
    have hdi:=divmod (n:=8) (r:=r) (k:=i)
    have hgl:=half_in (n:=8) hg h2 (by omega) r i
    have hgg:=mul_huge hgl (hg k i)
    have hst:so 8 g l r k (i+1)=so 8 g l r k i+halfM 8 g l r i*g k i:=rfl
    refine go (r:=?_);and_intros<;>intros<;>try exact True.intro
    ·rename_i hi1
     have hr1:r<8:=by omega
     have hk1:k<8:=by omega
     have e1:((r:Int)*8+k).toNat=r*8+k:=by omega
     have e2:((r:Int)*8+i).toNat=r*8+i:=by omega
     have e3:(M.getD k default).getD i 0=g k i:=hM3 k i hk1 (by omega)
     have e4:(tabL (fh 8 g l) 64).getD (r*8+i) 0=halfM 8 g l r i:=by rw [tabL_get (by omega)];show halfM 8 g l ((r*8+i)/8) ((r*8+i)%8)=_;rw [(hdi (by omega)).1,(hdi (by omega)).2]
     rw [e1,e2,e3,e4,part_get (by omega),part_set (by omega),wrap64 (halfM 8 g l r i*g k i) (by omega),wrap64 _ (by omega),hst]
    ·have hi1:i=8:=by omega
     subst hi1
     rw [←Nat.add_assoc];exact part_next (by show so 8 g l r k 8=fullM 8 g l ((r*8+k)/8) ((r*8+k)%8);rw [(hdm (by omega)).1,(hdm (by omega)).2];rfl)
   ·have hk1:k=8:=by omega
    rw [hk1,Nat.succ_mul]
  all_goals have hr1:r=8:=by omega
  all_goals subst hr1
  all_goals first|(rw [e,tabL_len];done)|(rw [e];exact congrArg _ (part_all _ _ _))|(rw [e];exact part_all _ _ _)
 ·have e:prodL 8 g l=[]:=by rw [prodL,if_neg h]
  refine FnC.of_body tabOk Tryz.func252 Tryz.ntmps252 rfl (by decide +kernel) (by simp) fun G=>?_
  refine goR (r:=?_);and_intros<;>intros<;>try exact True.intro
  all_goals first|(rw [e];done)|(rw [e];rfl)|(exact absurd ⟨by omega,by assumption⟩ h)
end Go.Proofs.YtainhhfnnclfiaaGreat


namespace Go.Proofs.YtainhhfnnclfiaaGreat
open Go Go.Abs
attribute [local irreducible] WpA WpL Rnd Blk Abs.Seq Abs.Fin Abs.FinG FnC FnG Only RollN
def ocF (x:Int):Int:=if x=1∨x=2∨x=4 then 1 else if x=3∨x=5∨x=6 then 2 else if x=7 then 3 else 0
instance OnesCount64_c:Con 299 (∀ x:Int,0≤x∧x<8→Fn 299 [.sc (.int .u64 x)] [] (I (ocF x))):=⟨fun x hx=>by
 rcases (by omega:x=0∨x=1∨x=2∨x=3∨x=4∨x=5∨x=6∨x=7) with rfl|rfl|rfl|rfl|rfl|rfl|rfl|rfl
 all_goals refine FnC.of_body tabOk Tryz.func299 Tryz.ntmps299 rfl (by decide +kernel) (by simp) fun G=>?_
 all_goals refine go (r:=?_);and_intros<;>intros<;>try exact True.intro
 all_goals first|(decide +kernel)|rfl|(apply Re.setA (c:=cellsH r) (V:=.own 2 _ 0 _) (V':=.own 2 _ 0 _);(· apply Re.own (id:=2)<;>first|exact rfl|exact .nil);exact hst)⟩
instance OnesCount_c:Con 285 (∀ x:Int,0≤x∧x<8→Fn 285 [.sc (.int .u64 x)] [] (I (ocF x))):=⟨fun x hx=>by
 refine FnC.of_body tabOk Tryz.func285 Tryz.ntmps285 rfl (by decide +kernel) (by simp) fun G=>?_
 refine go (r:=?_);and_intros<;>intros<;>try exact True.intro⟩
theorem ocF_bd (x:Int):0≤ocF x∧ocF x≤3:=by unfold ocF;split<;>(try split)<;>(try split)<;>omega
theorem ocF_par (b:Nat) (h:b<8):1-2*(ocF b%2)=par b:=by
 rcases (by omega:b=0∨b=1∨b=2∨b=3∨b=4∨b=5∨b=6∨b=7) with rfl|rfl|rfl|rfl|rfl|rfl|rfl|rfl<;>rfl
def cellsH (r:Nat):List AV:=(List.range 8).map fun q=>if q<r then .fre 1 8 (ints (tabL (mx 8 q) 8)) else .nilS
theorem andu (r k:Nat) (h:r<8) (h2:k<8):IntKind.u64.wrap (IntKind.i64.wrap ((BitVec.ofInt IntKind.i64.bits (r:Int) &&& BitVec.ofInt IntKind.i64.bits (k:Int)).toNat:Nat))=((r &&& k:Nat):Int)∧r &&& k<8:=by
 have:=Nat.and_le_left (n:=r) (m:=k)
 rw [andw r k (by omega) (by omega)]
 refine ⟨?_,by omega⟩
 generalize r &&& k=b at this
 have hb:b<8:=by omega
 rcases (by omega:b=0∨b=1∨b=2∨b=3∨b=4∨b=5∨b=6∨b=7) with rfl|rfl|rfl|rfl|rfl|rfl|rfl|rfl<;>rfl
def invH (r:Nat):Nat→List AObj
 |0=>[⟨(cellsH r).set r .nilS,0,1,some 32⟩]
 |k+1=>[⟨(cellsH r).set r (.own 2 0 0 (k+1)),0,1,some 32⟩,⟨[.any],0,1,none⟩,XI (tabL (mx 8 r) (k+1))]
theorem cellsH_nil {r:Nat} (h:r<8):cellsH r=(cellsH r).set r .nilS:=by
 rcases (by omega:r=0∨r=1∨r=2∨r=3∨r=4∨r=5∨r=6∨r=7) with rfl|rfl|rfl|rfl|rfl|rfl|rfl|rfl<;>rfl
theorem cellsH_succ {r:Nat} (h:r<8) (X:AV):((cellsH r).set r X).set r (.fre 1 8 (ints (tabL (mx 8 r) 8)))=cellsH (r+1):=by
 rcases (by omega:r=0∨r=1∨r=2∨r=3∨r=4∨r=5∨r=6∨r=7) with rfl|rfl|rfl|rfl|rfl|rfl|rfl|rfl<;>rfl
theorem hnest {r:Nat} (h:r<8):flatO [⟨((cellsH r).set r (.own 2 0 0 8)).set r (.fre 1 8 (ints (tabL (mx 8 r) 8))),0,1,some 32⟩,⟨[.any],0,1,none⟩,⟨[],1,0,none⟩]=some [⟨cellsH (r+1),0,1,some 32⟩,⟨[.any],0,1,none⟩,⟨[],1,0,none⟩]:=by
 rw [cellsH_succ h];rfl
theorem Re.consA {O O':List AObj} {V V':AV} {vs us:List AV} (h:Re O O' [V] [V']) (r:Re O O' vs us):Re O O' (V::vs) (V'::us):=by
 cases h with
 |any _=>exact .any r
 |keep a b _=>exact .keep a b r
 |fn a _=>exact .fn a r
 |own a b c d e f _=>exact .own a b c d e f r
 |ptr a b c d _=>exact .ptr a b c d r
 |agg a _=>exact .agg a r
 |tup a _=>exact .tup a r
theorem Re.setA {O O':List AObj} {V V':AV} (h:Re O O' [V] [V']):∀{c:List AV} {i:Nat},c.all AV.still=true→Re O O' (c.set i V) (c.set i V')
 |[],i,_=>.nil
 |a::c,0,hs=>Re.consA h (Re.same rfl (by rw [List.all_cons,Bool.and_eq_true] at hs;exact hs.2))
 |a::c,i+1,hs=>by
  rw [List.all_cons,Bool.and_eq_true] at hs
  exact Re.keep rfl hs.1 (Re.setA h hs.2)
theorem cellsH_still (r:Nat):(cellsH r).all AV.still=true:=by
 rw [List.all_eq_true];intro V hV;simp only [cellsH,List.mem_map] at hV;obtain ⟨q,_,rfl⟩:=hV
 split<;>rfl
theorem cellsH_len (r:Nat):(cellsH r).length=8:=by simp [cellsH]
theorem cellsH_8:cellsH 8=rows liF H8:=rfl
theorem cellsH_0:cellsH 0=[.nilS,.nilS,.nilS,.nilS,.nilS,.nilS,.nilS,.nilS]:=rfl
attribute [local irreducible] cellsH
instance matrixH_c:Con 254 (Fn 254 [] [⟨rows liF H8,0,1,some 32⟩] (.own 0 0 0 8)):=⟨by
 refine FnC.of_body tabOk Tryz.func254 Tryz.ntmps254 rfl (by decide +kernel) (by simp) fun G=>?_
 refine K.A ?_
 refine WpA.seq ?_
 refine WpA.regionF rfl ?_
 refine WpL.assign rfl (by decide) ?_
 refine WpL.nil ?_
 refine Abs.Seq.n ?_
 refine WpA.seq ?_
 refine WpA.regionF rfl ?_
 refine WpL.make tabOk rfl rfl rfl (by decide) (by decide) rfl (by decide) ?_
 refine go (r:=?_);and_intros<;>intros<;>try exact True.intro
 refine WpA.loop (fun r:Nat=>⟨[(1,.own 0 0 0 8),(5,I r)],[⟨cellsH r,0,1,some 32⟩]⟩) (fun r=>r≤8) (fun r=>8-r) 0 (by omega) (go (r:=?_)) (fun r hr=>?_)
 ·and_intros<;>first|trivial|rfl|exact .nil|exact .inr rfl|exact Re.same cellsH_0.symm (cellsH_still 0)
 by_cases h8:r=8
 ·subst h8
  refine go (r:=?_);and_intros<;>intros<;>try exact True.intro
  all_goals first|exact cellsH_8
 have hr8:r<8:=by omega
 have hcl:=cellsH_len r
 have hst:=cellsH_still r
 have hc0:=cellsH_nil hr8
 refine go (r:=?_);and_intros<;>intros<;>try exact True.intro
 refine WpA.loop (fun k:Nat=>⟨[(1,.own 0 0 0 8),(2,I r),(5,I r),(8,I k)],invH r k⟩) (fun k=>k≤8) (fun k=>8-k) 0 (by omega) (go (r:=?_)) (fun k hk=>?_)
 ·and_intros<;>first|trivial|rfl|exact .nil|exact .inr rfl|(exact hc0)|exact Re.same hc0 (by rw [←hc0];exact hst)
 by_cases hk8:k=8
 ·subst hk8
  refine WpA.weak (NestC.weak (id:=0) (offs:=[r]) (O2:=[⟨cellsH (r+1),0,1,some 32⟩,⟨[.any],0,1,none⟩,⟨[],1,0,none⟩]) ?_) ?_
  ·apply NestC.cons (off:=r) (j:=2) (O1:=[⟨cellsH (r+1),0,1,some 32⟩,⟨[.any],0,1,none⟩,⟨[],1,0,none⟩])
   ·exact rfl
   ·exact List.getElem?_set_self (by omega)
   ·exact rfl
   ·exact rfl
   ·decide
   ·exact rfl
   ·exact still_ints _
   ·exact rfl
   ·exact hnest hr8
   ·exact .nil
  have hst1:=cellsH_still (r+1)
  refine go (r:=?_);and_intros<;>intros<;>try exact True.intro
  all_goals first|exact Re.same rfl hst1
 obtain ⟨hau,hal⟩:=andu r k (by omega) (by omega)
 have hob:=ocF_bd (IntKind.u64.wrap (IntKind.i64.wrap ((BitVec.ofInt IntKind.i64.bits ((r:Nat):Int) &&& BitVec.ofInt IntKind.i64.bits (k:Int)).toNat:Nat)))
 have hop:=ocF_par (r &&& k) hal
 have hkl:=tabL_len (mx 8 r) k
 have hval:1-2*(ocF (IntKind.u64.wrap (IntKind.i64.wrap ((BitVec.ofInt IntKind.i64.bits ((r:Nat):Int) &&& BitVec.ofInt IntKind.i64.bits (k:Int)).toNat:Nat)))%2)=mx 8 r k:=by rw [hau];exact hop
 rcases k with _|k
 ·refine go (r:=?_);and_intros<;>intros<;>try exact True.intro
  all_goals first|exact Re.any Re.nil|exact .inl rfl|(rw [hval];rfl)|(apply Re.setA (c:=cellsH r) (V:=.own 2 _ 0 _) (V':=.own 2 _ 0 _);(· apply Re.own (id:=2)<;>first|exact rfl|exact .nil);exact hst)|exact Re.same rfl hst
 ·refine go (r:=?_);and_intros<;>intros<;>try exact True.intro
  all_goals first|(rw [tabL_snoc _ (k+1),hval];done)|exact Re.any Re.nil|(apply Re.setA (c:=cellsH r) (V:=.own 2 _ 0 _) (V':=.own 2 _ 0 _);(· apply Re.own (id:=2)<;>first|exact rfl|exact .nil);exact hst)|(apply Re.setA (c:=cellsH r) (V:=.own 2 _ 0 _) (V':=.own 2 _ 0 _);(· apply Re.own (id:=2)<;>first|exact rfl|exact .nil);exact hst)⟩
end Go.Proofs.YtainhhfnnclfiaaGreat


namespace Go.Proofs.YtainhhfnnclfiaaGreat
open Go Go.Abs
attribute [local irreducible] WpA WpL Rnd Blk Abs.Seq Abs.Fin Abs.FinG FnC FnG Only
end Go.Proofs.YtainhhfnnclfiaaGreat


namespace Go.Proofs.YtainhhfnnclfiaaGreat
open Go Go.Abs
attribute [local irreducible] WpA WpL Rnd Blk Abs.Seq Abs.Fin Abs.FinG FnC FnG Only
def side (k:Nat):Int:=if k=16 then 4 else if k=64 then 8 else 0
theorem side_pos (k:Nat):0<side k↔k=16∨k=64:=by unfold side;split<;>(try split)<;>omega
theorem side_cases (k:Nat):(k=16∧side k=4)∨(k=64∧side k=8)∨(k≠16∧k≠64∧side k=0):=by unfold side;split<;>(try split)<;>omega
instance SizeOk_s:Con 179 (∀ n:Int,Fn 179 [I n] [] (B (decide (n=4∨n=8)))):=⟨fun n=>by
 refine FnC.of_body tabOk Tryz.func179 Tryz.ntmps179 rfl (by decide +kernel) (by simp) fun G=>?_
 refine go (r:=?_);and_intros<;>intros<;>try exact True.intro
 all_goals simp_all⟩
instance SizeOk_c:Con 175 (∀ n:Int,Fn 175 [I n] [] (B (decide (n=4∨n=8)))):=⟨fun n=>by
 refine FnC.of_body tabOk Tryz.func175 Tryz.ntmps175 rfl (by decide +kernel) (by simp) fun G=>?_
 refine go (r:=?_);and_intros<;>intros<;>try exact True.intro
 all_goals simp_all⟩
instance l9Side_s:Con 152 (∀ l:List Int,l.length≤9223372036854775807→Fn 152 [IL l] [] (I (side l.length))):=⟨fun l hl=>by
 refine FnC.of_body tabOk Tryz.func152 Tryz.ntmps152 rfl (by decide +kernel) (by simp) fun G=>?_
 have h:=side_cases l.length
 refine go (r:=?_);and_intros<;>intros<;>try exact True.intro⟩
instance sizeOf_c:Con 177 (∀ k:Nat,Fn 177 [I k] [] (I (side k))):=⟨fun k=>by
 refine FnC.of_body tabOk Tryz.func177 Tryz.ntmps177 rfl (by decide +kernel) (by simp) fun G=>?_
 have h:=side_cases k
 refine go (r:=?_);and_intros<;>intros<;>try exact True.intro⟩
def psum (l:List Int) (k:Nat):Int:=(l.take k).sum
theorem psum_zero (l:List Int):psum l 0=0:=by simp [psum]
theorem psum_succ (l:List Int) (k:Nat) (h:k<l.length):psum l (k+1)=psum l k+l.getD k 0:=by
 unfold psum;rw [List.take_succ_eq_append_getElem h,List.sum_append];simp [h]
theorem psum_all (l:List Int):psum l l.length=l.sum:=by simp [psum]
theorem psum_bd {l:List Int} (h:In l 0 255) (k:Nat) (hk:k≤l.length):0≤psum l k∧psum l k≤255*k:=by
 induction k with
 |zero=>simp [psum]
 |succ k ih=>
  have h1:=in_get h (k:=k) (by omega)
  have h2:=ih (by omega)
  rw [psum_succ l k (by omega)];omega
theorem in_take {l:List Int} {lo hi:Int} (h:In l lo hi) (k:Nat):In (l.take k) lo hi:=by unfold In at *;intro v hv;exact h v (List.mem_of_mem_take hv)
instance Clone_c:Con 131 (∀ l:List Int,l.length≤1099511627776→Fn 131 [IL l] [XI l] (.own 0 0 0 l.length)):=⟨fun l hl=>by
 refine FnC.of_body tabOk Tryz.func131 Tryz.ntmps131 rfl (by decide +kernel) (by simp) fun G=>?_
 refine go (r:=?_);and_intros<;>intros<;>try exact True.intro
 all_goals (have e:l=[]:=List.eq_nil_of_length_eq_zero (by omega));subst e;rfl⟩
def revp (l:List Int) (i:Nat):List Int:=(List.range l.length).map fun k=>if k<i∨l.length-1-k<i then l.getD (l.length-1-k) 0 else l.getD k 0
theorem revp_len (l:List Int) (i:Nat):(revp l i).length=l.length:=by simp [revp]
theorem revp_zero (l:List Int):revp l 0=l:=by
 apply eq_all 0 (by rw [revp_len])
 intro j hj
 rw [revp_len] at hj
 simp [revp,hj]
theorem revp_get (l:List Int) (i j:Nat) (hj:j<l.length):(revp l i).getD j 0=if j<i∨l.length-1-j<i then l.getD (l.length-1-j) 0 else l.getD j 0:=by
 simp only [revp,List.getD_eq_getElem?_getD,List.getElem?_map,List.getElem?_range hj,Option.map_some,Option.getD_some]
theorem rev_get (l:List Int) (j:Nat) (hj:j<l.length):l.reverse.getD j 0=l.getD (l.length-1-j) 0:=by
 simp only [List.getD_eq_getElem?_getD,List.getElem?_reverse hj]
theorem revp_end (l:List Int) (i:Nat) (h:l.length≤2*i+1):revp l i=l.reverse:=by
 apply eq_all 0 (by rw [revp_len,List.length_reverse])
 intro j hj
 rw [revp_len] at hj
 rw [revp_get l i j hj,rev_get l j hj]
 split
 ·rfl
 ·have:l.length-1-j=j:=by omega
  rw [this]
theorem revp_step (l:List Int) (i:Nat) (h:2*i+1<l.length):((revp l i).set i ((revp l i).getD (l.length-1-i) 0)).set (l.length-1-i) ((revp l i).getD i 0)=revp l (i+1):=by
 have e1:(revp l i).getD (l.length-1-i) 0=l.getD (l.length-1-i) 0:=by
  rw [revp_get l i _ (by omega),if_neg (by omega)]
 have e2:(revp l i).getD i 0=l.getD i 0:=by
  rw [revp_get l i _ (by omega),if_neg (by omega)]
 rw [e1,e2]
 apply eq_all 0 (by simp [revp_len])
 intro j hj
 simp only [List.length_set,revp_len] at hj
 rw [revp_get l (i+1) j hj,List.getD_eq_getElem?_getD,List.getElem?_set,List.getElem?_set]
 simp only [List.length_set,revp_len]
 by_cases c1:l.length-1-i=j
 ·rw [if_pos c1,if_pos (by omega),if_pos (by omega),Option.getD_some];congr 1;omega
 ·rw [if_neg c1]
  by_cases c2:i=j
  ·rw [if_pos c2,if_pos (by omega),if_pos (by omega),Option.getD_some,c2]
  ·rw [if_neg c2,←List.getD_eq_getElem?_getD,revp_get l i j hj]
   by_cases c3:j<i∨l.length-1-j<i
   ·rw [if_pos c3,if_pos (by omega)]
   ·rw [if_neg c3,if_neg (by omega)]
instance Reverse_c:ConG 283 (∀ l:List Int,1≤l.length∧l.length≤1099511627776→Gn 283 [.own 0 0 0 l.length] [XI l] [XI l.reverse] [] (.tup [])):=⟨fun l hl=>by
 refine FnG.of_bodyF tabOk Tryz.func283 Tryz.ntmps283 rfl (by decide +kernel) (by simp) rfl rfl fun G=>?_
 refine go (r:=?_);and_intros<;>intros<;>try exact True.intro
 refine WpA.loop (fun i:Nat=>⟨[(0,.own 0 0 0 l.length),(2,I i),(3,I ((l.length:Int)-1-i))],[XI (revp l i)]⟩) (fun i=>2*i≤l.length) (fun i=>l.length-i) 0 (by omega) (go (r:=?_)) (fun i hi=>?_)
 ·simp [revp_zero]
 have hl2:=revp_len l i
 refine go (r:=?_);and_intros<;>intros<;>try exact True.intro
 ·have e1:((l.length:Int)-1-(i:Int)).toNat=l.length-1-i:=by omega
  rw [e1,Int.toNat_natCast];exact revp_step l i (by omega)
 ·exact revp_end l i (by omega)⟩
end Go.Proofs.YtainhhfnnclfiaaGreat


namespace Go.Proofs.YtainhhfnnclfiaaGreat
open Go Go.Abs
attribute [local irreducible] WpA WpL Rnd Blk Abs.Seq Abs.Fin Abs.FinG FnC FnG Only
def scX (d k:Nat):Int:=if (d:Int)%2=0 then (d:Int)-k else k
def scIn (n:Int) (d:Nat):Nat→List Int→List Int
 |0,o=>o
 |k+1,o=>if scX d k<n∧(d:Int)-scX d k<n then scIn n d k o++[((d:Int)-scX d k)*n+scX d k] else scIn n d k o
def scOut (n:Int):Nat→List Int
 |0=>[]
 |d+1=>scIn n d (d+1) (scOut n d)
def scanL (n:Int):List Int:=if n=4∨n=8 then scOut n (2*n-1).toNat else []
theorem scIn_yes {n:Int} {d k:Nat} {o:List Int} {x v:Int} (hx:scX d k=x) (h1:x<n) (h2:(d:Int)-x<n) (hv:v=((d:Int)-x)*n+x):scIn n d k o++[v]=scIn n d (k+1) o:=by
 rw [scIn,hx,if_pos ⟨h1,h2⟩,hv]
theorem scIn_no {n:Int} {d k:Nat} {o:List Int} {x:Int} (hx:scX d k=x) (h:¬(x<n∧(d:Int)-x<n)):scIn n d k o=scIn n d (k+1) o:=by
 rw [scIn,hx,if_neg h]
theorem scIn_len (n:Int) (d:Nat) (o:List Int):∀k,(scIn n d k o).length≤o.length+k
 |0=>by simp [scIn]
 |k+1=>by rw [scIn];have:=scIn_len n d o k;split<;>(try rw [List.length_append,List.length_singleton])<;>omega
theorem scOut_len (n:Int):∀d,d≤16→(scOut n d).length≤16*d
 |0,_=>by simp [scOut]
 |d+1,h=>by rw [scOut];have:=scIn_len n d (scOut n d) (d+1);have:=scOut_len n d (by omega);omega
theorem scX_even {d k:Nat} (h:(d:Int)%2=0):scX d k=d-k:=by rw [scX,if_pos h]
theorem scX_odd {d k:Nat} (h:¬(d:Int)%2=0):scX d k=k:=by rw [scX,if_neg h]
theorem scIn_l1 {n:Int} {d k:Nat} {o:List Int} (h:scX d k<n∧(d:Int)-scX d k<n):(scIn n d (k+1) o).length=(scIn n d k o).length+1:=by rw [scIn,if_pos h,List.length_append,List.length_singleton]
theorem scIn_l0 {n:Int} {d k:Nat} {o:List Int} (h:¬(scX d k<n∧(d:Int)-scX d k<n)):(scIn n d (k+1) o).length=(scIn n d k o).length:=by rw [scIn,if_neg h]
instance ScanOrder_c:Con 250 (∀ n:Int,n=0∨n=4∨n=8→Fn 250 [I n] [XI (scanL n)] (.own 0 0 0 (scanL n).length)):=⟨fun n hn=>by
 refine FnC.of_body tabOk Tryz.func250 Tryz.ntmps250 rfl (by decide +kernel) (by simp) fun G=>?_
 have k4:n=4→scanL n=scOut 4 7:=by rintro rfl;rfl
 have k8:n=8→scanL n=scOut 8 15:=by rintro rfl;rfl
 rcases hn with rfl|rfl|rfl
 ·refine go (r:=?_);and_intros<;>intros<;>try exact True.intro
  all_goals rfl
 ·refine go (r:=?_);and_intros<;>intros<;>try exact True.intro
  refine WpA.loop (fun d:Nat=>⟨[(0,I 4),(3,.own 0 0 0 (scOut 4 d).length),(14,I 7),(15,I d)],[XI (scOut 4 d)]⟩) (fun d=>d≤7) (fun d=>7-d) 0 (by simp) (go (r:=?_)) (fun d hd=>?_)
  ·simp [scOut]
  have hol:=scOut_len 4 d (by omega)
  have hso:(scOut 4 (d+1))=scIn 4 d (d+1) (scOut 4 d):=rfl
  refine go (r:=?_);and_intros<;>intros<;>try exact True.intro
  ·refine WpA.loop (fun k:Nat=>⟨[(0,I 4),(3,.own 0 0 0 (scIn 4 d k (scOut 4 d)).length),(4,I d),(14,I 7),(15,I d),(19,I ((d:Int)+1)),(20,I k)],[XI (scIn 4 d k (scOut 4 d))]⟩) (fun k=>k≤d+1) (fun k=>d+1-k) 0 (by omega) (go (r:=?_)) (fun k hk=>?_)
   ·simp [scIn]
   have hil:=scIn_len 4 d (scOut 4 d) k
   have he:=scX_even (d:=d) (k:=k)
   have hod:=scX_odd (d:=d) (k:=k)
   have hl1:=scIn_l1 (n:=4) (d:=d) (k:=k) (o:=scOut 4 d)
   have hl0:=scIn_l0 (n:=4) (d:=d) (k:=k) (o:=scOut 4 d)
   have hso2:k=d+1→(scOut 4 (d+1)).length=(scIn 4 d k (scOut 4 d)).length:=by rintro rfl;rfl
   refine go (r:=?_);and_intros<;>intros<;>try exact True.intro
   all_goals first
    |(exact scIn_yes (he ‹_›) (by omega) (by omega) (by omega))
    |(exact scIn_yes (hod ‹_›) (by omega) (by omega) (by omega))
    |(exact scIn_no (he ‹_›) (by omega))
    |(exact scIn_no (hod ‹_›) (by omega))
    |skip
   all_goals have e:k=d+1:=by omega
   all_goals subst e
   all_goals rw [hso]
  all_goals have e:d=7:=by omega
  all_goals subst e
  all_goals first|rfl|(rw [k4 rfl])
 ·refine go (r:=?_);and_intros<;>intros<;>try exact True.intro
  refine WpA.loop (fun d:Nat=>⟨[(0,I 8),(3,.own 0 0 0 (scOut 8 d).length),(14,I 15),(15,I d)],[XI (scOut 8 d)]⟩) (fun d=>d≤15) (fun d=>15-d) 0 (by simp) (go (r:=?_)) (fun d hd=>?_)
  ·simp [scOut]
  have hol:=scOut_len 8 d (by omega)
  have hso:(scOut 8 (d+1))=scIn 8 d (d+1) (scOut 8 d):=rfl
  refine go (r:=?_);and_intros<;>intros<;>try exact True.intro
  ·refine WpA.loop (fun k:Nat=>⟨[(0,I 8),(3,.own 0 0 0 (scIn 8 d k (scOut 8 d)).length),(4,I d),(14,I 15),(15,I d),(19,I ((d:Int)+1)),(20,I k)],[XI (scIn 8 d k (scOut 8 d))]⟩) (fun k=>k≤d+1) (fun k=>d+1-k) 0 (by omega) (go (r:=?_)) (fun k hk=>?_)
   ·simp [scIn]
   have hil:=scIn_len 8 d (scOut 8 d) k
   have he:=scX_even (d:=d) (k:=k)
   have hod:=scX_odd (d:=d) (k:=k)
   have hl1:=scIn_l1 (n:=8) (d:=d) (k:=k) (o:=scOut 8 d)
   have hl0:=scIn_l0 (n:=8) (d:=d) (k:=k) (o:=scOut 8 d)
   have hso2:k=d+1→(scOut 8 (d+1)).length=(scIn 8 d k (scOut 8 d)).length:=by rintro rfl;rfl
   refine go (r:=?_);and_intros<;>intros<;>try exact True.intro
   all_goals first
    |(exact scIn_yes (he ‹_›) (by omega) (by omega) (by omega))
    |(exact scIn_yes (hod ‹_›) (by omega) (by omega) (by omega))
    |(exact scIn_no (he ‹_›) (by omega))
    |(exact scIn_no (hod ‹_›) (by omega))
    |skip
   all_goals have e:k=d+1:=by omega
   all_goals subst e
   all_goals rw [hso]
  all_goals have e:d=15:=by omega
  all_goals subst e
  all_goals first|rfl|(rw [k8 rfl])⟩
theorem scan_rg (n:Int) (h:n=0∨n=4∨n=8):In (scanL n) 0 (n*n-1)∧((scanL n).length:Int)=n*n:=by
 rcases h with rfl|rfl|rfl<;>decide +kernel
end Go.Proofs.YtainhhfnnclfiaaGreat


namespace Go.Proofs.YtainhhfnnclfiaaGreat
open Go Go.Abs
attribute [local irreducible] WpA WpL Rnd Blk Abs.Seq Abs.Fin Abs.FinG FnC FnG Only
theorem qz_snoc (f:Int→Int) (l:List Int) (k:Nat) (h:k<l.length):(l.take k).map f++[f (l.getD k 0)]=(l.take (k+1)).map f:=by
 rw [take_snoc l k h,List.map_append];rfl
end Go.Proofs.YtainhhfnnclfiaaGreat


namespace Go.Proofs.YtainhhfnnclfiaaGreat
open Go Go.Abs
attribute [local irreducible] WpA WpL Rnd Blk Abs.Seq Abs.Fin Abs.FinG FnC FnG Only
theorem scan_fit (l:List Int):In (scanL (side l.length)) 0 (l.length-1)∧(scanL (side l.length)).length≤64:=by
 rcases side_cases l.length with ⟨h,e⟩|⟨h,e⟩|⟨_,_,e⟩
 ·have h2:=(scan_rg 4 (by omega)).2
  have h1:=(scan_rg 4 (by omega)).1
  rw [e,h];exact ⟨h1,by omega⟩
 ·have h2:=(scan_rg 8 (by omega)).2
  have h1:=(scan_rg 8 (by omega)).1
  rw [e,h];exact ⟨h1,by omega⟩
 ·rw [e]
  have h0:scanL 0=[]:=rfl
  rw [h0]
  refine ⟨?_,by simp⟩
  unfold In;intro x hx;cases hx
end Go.Proofs.YtainhhfnnclfiaaGreat


namespace Go.Proofs.YtainhhfnnclfiaaGreat
open Go Go.Abs
attribute [local irreducible] WpA WpL Rnd Blk Abs.Seq Abs.Fin Abs.FinG FnC FnG Only
def marksI (k:Int) (n:Nat):List Int:=(List.range n).map fun i:Nat=>k+(i:Int)
@[simp] theorem marksI_len (k:Int) (n:Nat):(marksI k n).length=n:=by simp [marksI]
def marksB (k:Int) (n:Nat):List Bool:=(List.range n).map fun i:Nat=>decide ((k+(i:Int))%3=0)
@[simp] theorem marksB_len (k:Int) (n:Nat):(marksB k n).length=n:=by simp [marksB]
end Go.Proofs.YtainhhfnnclfiaaGreat


namespace Go.Proofs.YtainhhfnnclfiaaGreat
open Go Go.Abs
attribute [local irreducible] WpA WpL Rnd Blk Abs.Seq Abs.Fin Abs.FinG FnC FnG Only
abbrev FitM (l:List Int):Prop:=In l (-1000000000) 1000000000
theorem prodL_le {n:Nat} {g:Nat→Nat→Int} {l:List Int} (h:n≤8):(prodL n g l).length≤64:=by
 have:=prodL_len n g l
 have h2:n*n≤8*8:=Nat.mul_le_mul h h
 split at this<;>omega
def trL (n:Int) (b:Bool) (l:List Int):List Int:=prodL n.toNat (mg n.toNat b) l
theorem trL_le {n:Int} {b:Bool} {l:List Int} (h:n≤8):(trL n b l).length≤64:=prodL_le (by omega)
def gOf (M:List (List Int)) (r i:Nat):Int:=(M.getD r default).getD i 0
def MatOk (n:Nat) (M:List (List Int)):Prop:=M.length=n∧(∀ r,r<n→(M.getD r default).length=n)∧Sgn (gOf M)
instance product_c:Con 252 (∀ (n:Nat) (M:List (List Int)) (l:List Int),(n=4∨n=8)∧MatOk n M∧l.length≤1099511627776→Fn 252 [LLn n M,IL l] [XI (prodL n (gOf M) l)] (.own 0 0 0 (prodL n (gOf M) l).length)):=⟨fun n M l h=>by
 obtain ⟨rfl|rfl,h1,h2⟩:=h
 ·exact product_4 (gOf M) M l h1.2.2 ⟨h1.1,h1.2.1,fun _ _ _ _=>rfl⟩ h2
 ·exact product_8 (gOf M) M l h1.2.2 ⟨h1.1,h1.2.1,fun _ _ _ _=>rfl⟩ h2⟩
theorem sumF_congr {f g:Nat→Int}:∀k,(∀ i,i<k→f i=g i)→sumF f k=sumF g k
 |0,_=>rfl
 |k+1,h=>by rw [sumF,sumF,sumF_congr k (fun i hi=>h i (by omega)),h k (by omega)]
theorem prodL_congr {n:Nat} {f g:Nat→Nat→Int} {l:List Int} (hn:0<n) (h:∀r i,r<n→i<n→f r i=g r i):prodL n f l=prodL n g l:=by
 have hm:mulM n f l=mulM n g l:=by
  refine list_ext (N:=n*n) (tabL_len _ _) (tabL_len _ _) fun q hq=>?_
  unfold mulM
  rw [tabL_get hq,tabL_get hq]
  have h1:q/n<n:=Nat.div_lt_of_lt_mul hq
  have h2:q%n<n:=Nat.mod_lt _ hn
  refine sumF_congr n fun i hi=>?_
  rw [h _ _ h2 hi]
  congr 1
  exact sumF_congr n fun j hj=>by rw [h _ _ h1 hj]
 unfold prodL;rw [hm]
theorem A4_ok:MatOk 4 A4:=by
 refine ⟨rfl,?_,fun r i=>mx_val 4 r i⟩
 intro r hr
 rcases (by omega:r=0∨r=1∨r=2∨r=3) with rfl|rfl|rfl|rfl<;>rfl
theorem H8_row {r:Nat} (h:r<8):H8.getD r default=tabL (mx 8 r) 8:=by
 simp [H8,h]
theorem gOf_H8 {r i:Nat} (h:r<8) (h2:i<8):gOf H8 r i=mx 8 r i:=by
 rw [gOf,H8_row h,tabL_get h2]
theorem H8_ok:MatOk 8 H8:=by
 refine ⟨by simp [H8],fun r hr=>by rw [H8_row hr,tabL_len],fun r i=>?_⟩
 by_cases h:r<8
 ·by_cases h2:i<8
  ·rw [gOf_H8 h h2];exact mx_val 8 r i
  ·right;right;left
   rw [gOf,H8_row h,List.getD_eq_getElem?_getD,List.getElem?_eq_none (by rw [tabL_len];omega)];rfl
 ·right;right;left
  have:H8.getD r default=[]:=by rw [List.getD_eq_getElem?_getD,List.getElem?_eq_none (by simp [H8];omega)];rfl
  rw [gOf,this];rfl
end Go.Proofs.YtainhhfnnclfiaaGreat


namespace Go.Proofs.YtainhhfnnclfiaaGreat
open Go Go.Abs
attribute [local irreducible] WpA WpL Rnd Blk Abs.Seq Abs.Fin Abs.FinG FnC FnG Only
def modeNames:List (List UInt8):=[[109,101,97,110],[100,111,119,110],[97,99,114,111,115,115],[115,108,111,112,101],[108,101,102,116],[114,105,103,104,116]]
def modeW (m:Int):List UInt8:=if 0≤m∧m≤5 then modeNames.getD m.toNat [] else []
theorem modeW_nil (m:Int):modeW m=[]↔¬(0≤m∧m≤5):=by
 have key:∀k:Fin 6,modeNames.getD k.val []≠[]:=by decide
 unfold modeW
 constructor
 ·intro h hm
  rw [if_pos hm] at h
  exact key ⟨m.toNat,by omega⟩ h
 ·intro h;rw [if_neg h]
end Go.Proofs.YtainhhfnnclfiaaGreat


namespace Go.Proofs.YtainhhfnnclfiaaGreat
open Go Go.Abs
attribute [local irreducible] WpA WpL Rnd Blk Abs.Seq Abs.Fin Abs.FinG FnC FnG Only
abbrev HdOk (w h q:Int) (l:List Int):Prop:=SidesOk w h∧(0≤q∧q≤51)∧CodeOk l
instance HeaderOk_s:Con 77 (∀ (w h q:Int) (b d:Bool) (l:List Int),l.length≤1099511627776→Fn 77 [HdA w h q b d l] [] (B (decide (HdOk w h q l)))):=⟨fun w h q b d l hl=>by
 have hs:=stepL_pos q
 refine FnC.of_body tabOk Tryz.func77 Tryz.ntmps77 rfl (by decide +kernel) (by simp) fun G=>?_
 refine go (r:=?_);and_intros<;>intros<;>try exact True.intro
 all_goals simp_all⟩
instance HeaderOk_c:Con 145 (∀ (w h q:Int) (b d:Bool) (l:List Int),l.length≤1099511627776→Fn 145 [HdA w h q b d l] [] (B (decide (HdOk w h q l)))):=⟨fun w h q b d l hl=>by
 refine FnC.of_body tabOk Tryz.func145 Tryz.ntmps145 rfl (by decide +kernel) (by simp) fun G=>?_
 refine go (r:=?_);and_intros<;>intros<;>try exact True.intro
 all_goals simp_all⟩
def cntM (w h:Int):Int:=w/8*(h/8)
theorem cntM_bd {w h:Int} (hs:SidesOk w h):(0≤w/8∧w/8≤4)∧(0≤h/8∧h/8≤4)∧0≤cntM w h∧cntM w h≤16:=by
 have h1:0≤w/8∧w/8≤4:=by omega
 have h2:0≤h/8∧h/8≤4:=by omega
 refine ⟨h1,h2,Int.mul_nonneg h1.1 h2.1,?_⟩
 have:=Int.mul_le_mul h1.2 h2.2 h2.1 (by decide)
 exact this
instance l24Count_s:Con 79 (∀ (w h q:Int) (b d:Bool) (l:List Int),SidesOk w h→Fn 79 [HdA w h q b d l] [] (I (cntM w h))):=⟨fun w h q b d l hs=>by
 have:=cntM_bd hs
 unfold cntM at*
 refine FnC.of_body tabOk Tryz.func79 Tryz.ntmps79 rfl (by decide +kernel) (by simp) fun G=>?_
 refine go (r:=?_);and_intros<;>intros<;>try exact True.intro⟩
instance many_c:Con 133 (∀ (w h q:Int) (b d:Bool) (l:List Int),SidesOk w h→Fn 133 [HdA w h q b d l] [] (I (cntM w h))):=⟨fun w h q b d l hs=>by
 have:=cntM_bd hs
 unfold cntM at*
 refine FnC.of_body tabOk Tryz.func133 Tryz.ntmps133 rfl (by decide +kernel) (by simp) fun G=>?_
 refine go (r:=?_);and_intros<;>intros<;>try exact True.intro⟩
abbrev LvOk (l:List Int):Prop:=In l (-16383) 16383∧(l.length=16∨l.length=64)
instance LevelsOk_s:Con 216 (∀ l:List Int,l.length≤1099511627776→Fn 216 [IL l] [] (B (decide (LvOk l)))):=⟨fun l hl=>by
 have hsp:=side_pos l.length
 refine FnC.of_body tabOk Tryz.func216 Tryz.ntmps216 rfl (by decide +kernel) (by simp) fun G=>?_
 refine go (r:=?_);and_intros<;>intros<;>try exact True.intro
 refine WpA.loop (fun k:Nat=>⟨[(0,IL l),(3,I k)],[]⟩) (fun k=>k≤l.length∧In (l.take k) (-16383) 16383) (fun k=>l.length-k) 0 (by simp [in_nil]) (go (r:=?_)) (fun k hk=>?_)
 ·trivial
 have hi:=fun h=>in_snoc (lo:=-16383) (hi:=16383) (l:=l) (k:=k) h
 refine go (r:=?_);and_intros<;>intros<;>try exact True.intro
 ·have:=notin (k:=k) (by omega) ‹¬ (-16383≤l.getD k 0∧_)›;rw [eq_comm,decide_eq_false_iff_not] at *;exact fun h=>this h.1
 ·rw [hi (by omega)];exact ⟨hk.2,‹_›⟩
 all_goals have e:k=l.length:=by omega
 all_goals subst e
 all_goals rw [List.take_length] at*
 simp [hk.2,hsp]⟩
instance LevelsOk_c:Con 255 (∀ l:List Int,l.length≤1099511627776→Fn 255 [IL l] [] (B (decide (LvOk l)))):=⟨fun l hl=>by
 have hsp:=side_pos l.length
 refine FnC.of_body tabOk Tryz.func255 Tryz.ntmps255 rfl (by decide +kernel) (by simp) fun G=>?_
 refine go (r:=?_);and_intros<;>intros<;>try exact True.intro
 refine WpA.loop (fun k:Nat=>⟨[(0,IL l),(5,IL l),(6,I l.length),(7,I k)],[]⟩) (fun k=>k≤l.length∧In (l.take k) (-16383) 16383) (fun k=>l.length-k) 0 (by simp [in_nil]) (go (r:=?_)) (fun k hk=>?_)
 ·trivial
 have hi:=fun h=>in_snoc (lo:=-16383) (hi:=16383) (l:=l) (k:=k) h
 refine go (r:=?_);and_intros<;>intros<;>try exact True.intro
 ·have:=notin (k:=k) (by omega) ‹¬ (-16383≤l.getD k 0∧_)›;rw [eq_comm,decide_eq_false_iff_not] at *;exact fun h=>this h.1
 ·rw [hi (by omega)];exact ⟨hk.2,‹_›⟩
 all_goals have e:k=l.length:=by omega
 all_goals subst e
 all_goals rw [List.take_length] at*
 simp [hk.2,hsp]⟩
abbrev BlkOk (m:Int) (lv:List Int) (lens:List Int) (n:Int):Prop:=(n=4∨n=8)∧HasC lens m∧(lv.length:Int)=n*n∧LvOk lv
instance BlockOk_s:Con 144 (∀ (m:Int) (lv lens:List Int) (n:Int),lv.length≤1099511627776∧lens.length≤1099511627776→Fn 144 [.agg [I m,IL lv],IL lens,I n] [] (B (decide (BlkOk m lv lens n)))):=⟨fun m lv lens n hl=>by
 have hp:=symL_pos lens m
 have hnn:n=4∨n=8→0≤n*n∧n*n≤64:=by rintro (rfl|rfl)<;>decide
 refine FnC.of_body tabOk Tryz.func144 Tryz.ntmps144 rfl (by decide +kernel) (by simp) fun G=>?_
 refine go (r:=?_);and_intros<;>intros<;>try exact True.intro
 all_goals simp_all⟩
instance BlockOk_c:Con 220 (∀ (m:Int) (lv lens:List Int) (n:Int),lv.length≤1099511627776∧lens.length≤1099511627776→Fn 220 [.agg [I m,IL lv],IL lens,I n] [] (B (decide (BlkOk m lv lens n)))):=⟨fun m lv lens n hl=>by
 have hp:=symL_pos lens m
 have hnn:n=4∨n=8→0≤n*n∧n*n≤64:=by rintro (rfl|rfl)<;>decide
 refine FnC.of_body tabOk Tryz.func220 Tryz.ntmps220 rfl (by decide +kernel) (by simp) fun G=>?_
 refine go (r:=?_);and_intros<;>intros<;>try exact True.intro
 all_goals simp_all⟩
def ixF {α:Type} (p:α→Bool) (l:List α):Int:=if l.any p=true then (l.findIdx p:Int) else -1
theorem ixF_at {α:Type} [Inhabited α] {p:α→Bool} {l:List α} {i:Nat} (hi:i<l.length) (h0:∀j<i,p (l.getD j default)=false) (h1:p (l.getD i default)=true):(i:Int)=ixF p l:=by
 have hg:∀j (hj:j<l.length),l.getD j default=l[j]:=fun j hj=>by simp [hj]
 unfold ixF
 rw [if_pos (List.any_eq_true.2 ⟨l[i],List.getElem_mem hi,by rw [←hg i hi];exact h1⟩)]
 congr 1
 rw [eq_comm,List.findIdx_eq hi]
 exact ⟨by rw [←hg i hi];exact h1,fun j hj=>by rw [←hg j (by omega)];exact h0 j hj⟩
theorem ixF_no {α:Type} [Inhabited α] {p:α→Bool} {l:List α} (h0:∀j<l.length,p (l.getD j default)=false):-1=ixF p l:=by
 have hg:∀j (hj:j<l.length),l.getD j default=l[j]:=fun j hj=>by simp [hj]
 unfold ixF
 rw [if_neg]
 intro h
 obtain ⟨x,hx,hp⟩:=List.any_eq_true.1 h
 obtain ⟨j,hj,rfl⟩:=List.getElem_of_mem hx
 have:=h0 j hj
 rw [hg j hj,hp] at this;cases this
theorem ixF_ge {α:Type} (p:α→Bool) (l:List α):ixF p l≥0↔l.any p=true:=by
 unfold ixF;split
 ·rename_i h;simp [h]
 ·rename_i h;simp [h]
def badB (lens:List Int) (n:Int) (b:Blok):Bool:=decide (¬ BlkOk b.1 b.2 lens n)
abbrev fB (lens:List Int) (n:Int):AV:=.fn 219 [.iptr [IL lens] 0,.iptr [I n] 0]
instance MbOk1_c:Con 219 (∀ (m:Int) (lv lens:List Int) (n:Int),lv.length≤1099511627776∧lens.length≤1099511627776→Fn 219 [.agg [I m,IL lv],.iptr [IL lens] 0,.iptr [I n] 0] [] (B (badB lens n (m,lv)))):=⟨fun m lv lens n hl=>by
 unfold badB
 refine FnC.of_body tabOk Tryz.func219 Tryz.ntmps219 rfl (by decide +kernel) (by simp) fun G=>?_
 refine go (r:=?_);and_intros<;>intros<;>try exact True.intro
 all_goals simp_all⟩
instance IndexFuncB_c:Con 269 (∀ (l:List Blok) (lens:List Int) (n:Int),l.length≤1099511627776∧SmB 1099511627776 l∧lens.length≤1099511627776→Fn 269 [BkL l,fB lens n] [] (I (ixF (badB lens n) l))):=⟨fun l lens n hl=>by
 refine FnC.of_body tabOk Tryz.func269 Tryz.ntmps269 rfl (by decide +kernel) (by simp) fun G=>?_
 refine go (r:=?_);and_intros<;>intros<;>try exact True.intro
 refine WpA.loop (fun k:Nat=>⟨[(0,BkL l),(1,fB lens n),(7,I l.length),(8,I k)],[]⟩) (fun k=>k≤l.length∧∀j<k,badB lens n (l.getD j default)=false) (fun k=>l.length-k) 0 (by simp) (go (r:=?_)) (fun k hk=>?_)
 ·trivial
 have hg:=fun h=>smB_get hl.2.1 (k:=k) h
 refine go (r:=?_);and_intros<;>intros<;>try exact True.intro
 ·exact ixF_at (by omega) hk.2 (by unfold badB;exact decide_eq_true ‹_›)
 ·rename_i j hj;by_cases h:j=k
  ·subst h;unfold badB;exact decide_eq_false ‹_›
  ·exact hk.2 j (by omega)
 all_goals (have e:k=l.length:=by omega);subst e;exact ixF_no hk.2⟩
end Go.Proofs.YtainhhfnnclfiaaGreat


namespace Go.Proofs.YtainhhfnnclfiaaGreat
open Go Go.Abs
def plcK (o l:List Int):Nat→List Int
 |0=>List.replicate o.length 0
 |k+1=>(plcK o l k).set (o.getD k 0).toNat (l.getD k 0)
def plcL (l:List Int):List Int:=plcK (scanL (side l.length)) l (scanL (side l.length)).length
theorem plcK_len (o l:List Int):∀k,(plcK o l k).length=o.length
 |0=>by simp [plcK]
 |k+1=>by rw [plcK,List.length_set];exact plcK_len o l k
theorem plcL_len (l:List Int):(plcL l).length=(scanL (side l.length)).length:=plcK_len _ _ _
theorem plcK_in {o l:List Int} {c:Int} (hc:0≤c) (h:In l (-c) c):∀k,In (plcK o l k) (-c) c
 |0=>in_all fun j hj=>by
  rw [plcK,List.getD_eq_getElem?_getD,List.getElem?_replicate]
  split<;>simp<;>omega
 |k+1=>in_all fun j hj=>by
  rw [plcK,List.getD_eq_getElem?_getD,List.getElem?_set]
  split
  ·split
   ·exact in_getZ h hc k
   ·simp;omega
  ·have:=in_getZ (plcK_in (o:=o) hc h k) hc j
   rw [List.getD_eq_getElem?_getD] at this;exact this
theorem plcL_ok {l:List Int} (h:LvOk l):LvOk (plcL l):=by
 refine ⟨plcK_in (by decide) h.1 _,?_⟩
 rw [plcL_len]
 rcases h.2 with e|e
 ·rw [e];exact .inl (by have:=(scan_rg 4 (by omega)).2;show (scanL 4).length=16;omega)
 ·rw [e];exact .inr (by have:=(scan_rg 8 (by omega)).2;show (scanL 8).length=64;omega)
theorem plcL_len2 {l:List Int} (h:l.length=16∨l.length=64):(plcL l).length=l.length:=by
 rw [plcL_len]
 rcases h with e|e
 ·rw [e];have:=(scan_rg 4 (by omega)).2;show (scanL 4).length=16;omega
 ·rw [e];have:=(scan_rg 8 (by omega)).2;show (scanL 8).length=64;omega
def normL (n i:Int):Int:=if (n=4∨n=8)∧0≤i∧i≤n*n-1 then (if n=8 then 1 else if i/4%2+i%4%2=0 then 100 else if i/4%2+i%4%2=2 then 16 else 40) else 0
theorem normL_bd (n i:Int):0≤normL n i∧normL n i≤100:=by unfold normL;split<;>(try split)<;>(try split)<;>(try split)<;>omega
def scaF (l:List Int) (q:Int) (i:Nat):Int:=l.getD i 0*stepL q*normL (side l.length) i
def scaL (l:List Int) (q:Int):List Int:=if LvOk l∧0<stepL q then tabL (scaF l q) l.length else []
theorem stepL_bd (q:Int):0≤stepL q∧stepL q≤500:=by
 by_cases h:0≤q∧q≤51
 ·have:=stepL_in q h;omega
 ·unfold stepL;rw [if_neg h];omega
theorem mul_bds {a b A B:Int} (ha:-A≤a∧a≤A) (hb:0≤b∧b≤B) (hA:0≤A):-(A*B)≤a*b∧a*b≤A*B:=by
 have h1:a*b≤A*b:=Int.mul_le_mul_of_nonneg_right ha.2 hb.1
 have h2:A*b≤A*B:=Int.mul_le_mul_of_nonneg_left hb.2 hA
 have h3:-A*b≤a*b:=Int.mul_le_mul_of_nonneg_right ha.1 hb.1
 rw [Int.neg_mul] at h3
 omega
theorem sca1_bd {l:List Int} (h:In l (-16383) 16383) (q:Int) (i:Nat):-8191500≤l.getD i 0*stepL q∧l.getD i 0*stepL q≤8191500:=by
 have:=mul_bds (in_getZ (c:=16383) h (by decide) i) (stepL_bd q) (by decide)
 omega
theorem scaF_bd {l:List Int} (h:In l (-16383) 16383) (q:Int) (i:Nat):-819150000≤scaF l q i∧scaF l q i≤819150000:=by
 have:=mul_bds (sca1_bd h q i) (normL_bd (side l.length) i) (by decide)
 unfold scaF;omega
theorem scaL_len (l:List Int) (q:Int):(scaL l q).length=if LvOk l∧0<stepL q then l.length else 0:=by
 unfold scaL;split<;>simp [tabL_len]
theorem scaL_fit (l:List Int) (q:Int):FitM (scaL l q):=by
 unfold FitM In
 intro x hx
 unfold scaL at hx
 split at hx
 ·rename_i h
  unfold tabL at hx
  obtain ⟨i,_,rfl⟩:=List.mem_map.1 hx
  have:=scaF_bd h.1.1 q i
  omega
 ·cases hx
def rnd1 (k:Nat) (v:Int):Int:=if k=16 then (max (-1000000000000) (min 1000000000000 v)+800)/1600 else (max (-1000000000000) (min 1000000000000 v)+32)/64
def rndL (l:List Int):List Int:=if 0<side l.length then l.map (rnd1 l.length) else []
theorem rndL_le (l:List Int):(rndL l).length≤64:=by
 unfold rndL;split
 ·rename_i h;rw [List.length_map];have:=(side_pos l.length).1 h;omega
 ·simp
theorem floor_t {a b:Int} (hb:0<b):(if a.tmod b<0 then a.tdiv b-1 else a.tdiv b)=a/b:=by
 have h1:=Int.mul_ediv_add_emod a b
 have h2:=Int.emod_nonneg a (by omega:b≠0)
 have h3:=Int.emod_lt_of_pos a hb
 have h4:=Int.mul_tdiv_add_tmod a b
 rcases Int.lt_or_le a 0 with h|h
 ·have h0:(-a).tmod b=-(a.tmod b):=Int.neg_tmod ..
  have h5:=Int.tmod_nonneg b (show 0≤-a by omega)
  have h6:=Int.tmod_lt_of_pos (-a) hb
  rw [h0] at h5 h6
  split
  ·rename_i h7
   have:b*(a.tdiv b-1-a/b)=-(a.tmod b+b)+a%b:=by rw [Int.mul_sub,Int.mul_sub];omega
   have h8:a.tdiv b-1-a/b=0:=by
    rcases Int.lt_trichotomy (a.tdiv b-1-a/b) 0 with h9|h9|h9
    ·have:=Int.mul_le_mul_of_nonneg_left (show a.tdiv b-1-a/b≤-1 by omega) (Int.le_of_lt hb);omega
    ·exact h9
    ·have:=Int.mul_le_mul_of_nonneg_left (show 1≤a.tdiv b-1-a/b by omega) (Int.le_of_lt hb);omega
   omega
  ·have:b*(a.tdiv b-a/b)=a%b-a.tmod b:=by rw [Int.mul_sub];omega
   have h8:a.tdiv b-a/b=0:=by
    rcases Int.lt_trichotomy (a.tdiv b-a/b) 0 with h9|h9|h9
    ·have:=Int.mul_le_mul_of_nonneg_left (show a.tdiv b-a/b≤-1 by omega) (Int.le_of_lt hb);omega
    ·exact h9
    ·have:=Int.mul_le_mul_of_nonneg_left (show 1≤a.tdiv b-a/b by omega) (Int.le_of_lt hb);omega
   omega
 ·rw [Int.tdiv_eq_ediv_of_nonneg h,Int.tmod_eq_emod_of_nonneg h]
  rw [if_neg (by omega)]
def resL (b:Bool) (q:Int) (l:List Int):List Int:=if LvOk l∧0<stepL q then (if b=true then plcL l else rndL (trL (side l.length) true (scaL (plcL l) q))) else []
theorem resL_le (b:Bool) (q:Int) (l:List Int):(resL b q l).length≤64:=by
 unfold resL;split
 ·rename_i h
  split
  ·rw [plcL_len];exact (scan_fit l).2
  ·exact rndL_le _
 ·simp
theorem scan4_all (p:Nat) (hp:p<16):∃k,k<16∧(scanL 4).getD k 0=(p:Int):=by
 have key:∀p:Fin 16,∃k:Fin 16,(scanL 4).getD k.val 0=((p.val:Nat):Int):=by decide +kernel
 obtain ⟨k,hk⟩:=key ⟨p,hp⟩
 exact ⟨k.val,k.isLt,hk⟩
theorem scan8_all (p:Nat) (hp:p<64):∃k,k<64∧(scanL 8).getD k 0=(p:Int):=by
 have key:∀p:Fin 64,∃k:Fin 64,(scanL 8).getD k.val 0=((p.val:Nat):Int):=by decide +kernel
 obtain ⟨k,hk⟩:=key ⟨p,hp⟩
 exact ⟨k.val,k.isLt,hk⟩
theorem scan4_inj (i:Nat) (hi:i<16) (j:Nat) (hj:j<16) (h:(scanL 4).getD i 0=(scanL 4).getD j 0):i=j:=by
 have key:∀i j:Fin 16,(scanL 4).getD i.val 0=(scanL 4).getD j.val 0→i=j:=by decide +kernel
 exact congrArg Fin.val (key ⟨i,hi⟩ ⟨j,hj⟩ h)
theorem scan8_inj (i:Nat) (hi:i<64) (j:Nat) (hj:j<64) (h:(scanL 8).getD i 0=(scanL 8).getD j 0):i=j:=by
 have key:∀i j:Fin 64,(scanL 8).getD i.val 0=(scanL 8).getD j.val 0→i=j:=by decide +kernel
 exact congrArg Fin.val (key ⟨i,hi⟩ ⟨j,hj⟩ h)
theorem scan_facts {l:List Int} (h:l.length=16∨l.length=64):(scanL (side l.length)).length=l.length∧In (scanL (side l.length)) 0 (l.length-1)∧(∀ i,i<l.length→∀j,j<l.length→(scanL (side l.length)).getD i 0=(scanL (side l.length)).getD j 0→i=j)∧∀p,p<l.length→∃k,k<l.length∧(scanL (side l.length)).getD k 0=(p:Int):=by
 rcases h with e|e
 ·rw [e]
  have h1:=scan_rg 4 (by omega)
  exact ⟨by show (scanL 4).length=16;omega,h1.1,scan4_inj,scan4_all⟩
 ·rw [e]
  have h1:=scan_rg 8 (by omega)
  exact ⟨by show (scanL 8).length=64;omega,h1.1,scan8_inj,scan8_all⟩
end Go.Proofs.YtainhhfnnclfiaaGreat


namespace Go.Proofs.YtainhhfnnclfiaaGreat
open Go Go.Abs
end Go.Proofs.YtainhhfnnclfiaaGreat


namespace Go.Proofs.YtainhhfnnclfiaaGreat
open Go Go.Abs
attribute [local irreducible] belowD onceD pickD modeD l8D l8AnyD optD anyD seedD
structure Hd6 where
 w:Int
 h:Int
 q:Int
 b:Bool
 d:Bool
 lens:List Int
abbrev quant6:List Int:=[0,6,12,20,36,51]
def headD (l:List Int) (c:Cr):Cr×Hd6:=
 let w:=belowD l c 2
 let h:=belowD l w.1 2
 let q:=pickD l h.1 quant6
 let b:=onceD l q.1 4
 let d:=onceD l b.1 2
 let e:=l8D l d.1
 (e.1,⟨8*(1+w.2),8*(1+h.2),q.2,b.2,d.2,e.2⟩)
theorem headD_ok {l:List Int} {c:Cr} (h:CrOk l c):CrOk l (headD l c).1∧(headD l c).2.lens.length=6∧SidesOk (headD l c).2.w (headD l c).2.h:=by
 have h1:=belowD_ok 2 h
 have h2:=belowD_ok 2 h1.1
 have h3:=pickD_ok (xs:=quant6) h2.1 (by decide)
 have h4:=onceD_ok 4 h3.1
 have h5:=onceD_ok 2 h4
 have h6:=l8D_ok h5
 have a1:=h1.2.1
 have a2:=h1.2.2.1 (by decide)
 have a3:=h2.2.1
 have a4:=h2.2.2.1 (by decide)
 refine ⟨h6.1,h6.2,?_⟩
 show SidesOk (8*(1+(belowD l c 2).2)) (8*(1+(belowD l (belowD l c 2).1 2).2))
 refine ⟨?_,?_,?_,?_,?_,?_⟩<;>omega
def headAnyD (l:List Int) (c:Cr):Cr×Hd6:=
 let x:=headD l c
 let s:=belowD l x.1 12
 if s.2=0 then
  let p:=pickD l s.1 [0,40,12,32]
  (p.1,{x.2 with w:=p.2})
 else if s.2=1 then
  let p:=pickD l s.1 [-1,52,51]
  (p.1,{x.2 with q:=p.2})
 else if s.2=2 then
  let y:=l8AnyD l s.1
  (y.1,{x.2 with lens:=y.2})
 else (s.1,x.2)
end Go.Proofs.YtainhhfnnclfiaaGreat


namespace Go.Proofs.YtainhhfnnclfiaaGreat
open Go Go.Abs
attribute [local irreducible] WpA WpL Rnd Blk Abs.Seq Abs.Fin Abs.FinG FnC FnG Only
theorem any_at {α:Type} [Inhabited α] {p:α→Bool} {l:List α} {i:Nat} (hi:i<l.length) (h:p (l.getD i default)=true):l.any p=true:=
 List.any_eq_true.2 ⟨l.getD i default,by simp [hi],h⟩
theorem any_none {α:Type} [Inhabited α] {p:α→Bool} {l:List α} (h:∀j<l.length,p (l.getD j default)=false):l.any p=false:=by
 rw [List.any_eq_false]
 intro x hx
 obtain ⟨j,hj,rfl⟩:=List.getElem_of_mem hx
 have:=h j hj
 have e:l.getD j default=l[j]:=by simp [hj]
 rw [e] at this;simp [this]
theorem any_get {α:Type} [Inhabited α] {p:α→Bool} {l:List α} (h:l.any p=false) {i:Nat} (hi:i<l.length):p (l.getD i default)=false:=by
 cases hp:p (l.getD i default) with
 |false=>rfl
 |true=>rw [any_at hi hp] at h;cases h
instance ContainsFuncB_c:Con 218 (∀ (l:List Blok) (lens:List Int) (n:Int),l.length≤1099511627776∧SmB 1099511627776 l∧lens.length≤1099511627776→Fn 218 [BkL l,fB lens n] [] (B (l.any (badB lens n)))):=⟨fun l lens n hl=>by
 have hge:=ixF_ge (badB lens n) l
 refine FnC.of_body tabOk Tryz.func218 Tryz.ntmps218 rfl (by decide +kernel) (by simp) fun G=>?_
 refine go (r:=?_);and_intros<;>intros<;>try exact True.intro
 all_goals first|exact hl.2.1|(rw [Bool.eq_iff_iff,←hge];simp)⟩
def sz8 (e:Bool):Int:=bif e then 8 else 4
def nm8 (e:Bool):Int:=bif e then 1 else 4
theorem sz8_cases (e:Bool):(sz8 e=4∧nm8 e=4)∨(sz8 e=8∧nm8 e=1):=by cases e<;>simp [sz8,nm8]
instance l23Side_s:Con 86 (∀ e:Bool,Fn 86 [B e] [] (I (sz8 e))):=⟨fun e=>by
 cases e
 ·refine FnC.of_body tabOk Tryz.func86 Tryz.ntmps86 rfl (by decide +kernel) (by simp) fun G=>?_
  refine go (r:=?_);and_intros<;>intros<;>try exact True.intro
  all_goals rfl
 ·refine FnC.of_body tabOk Tryz.func86 Tryz.ntmps86 rfl (by decide +kernel) (by simp) fun G=>?_
  refine go (r:=?_);and_intros<;>intros<;>try exact True.intro
  all_goals rfl⟩
instance shape_c:Con 192 (∀ e:Bool,Fn 192 [B e] [] (.tup [I (nm8 e),I (sz8 e)])):=⟨fun e=>by
 cases e
 ·refine FnC.of_body tabOk Tryz.func192 Tryz.ntmps192 rfl (by decide +kernel) (by simp) fun G=>?_
  refine go (r:=?_);and_intros<;>intros<;>try exact True.intro
  all_goals rfl
 ·refine FnC.of_body tabOk Tryz.func192 Tryz.ntmps192 rfl (by decide +kernel) (by simp) fun G=>?_
  refine go (r:=?_);and_intros<;>intros<;>try exact True.intro
  all_goals rfl⟩
abbrev MbkOk (e:Bool) (bs:List Blok) (lens:List Int):Prop:=(bs.length:Int)=nm8 e∧bs.any (badB lens (sz8 e))=false
instance MbOk_s:Con 78 (∀ (e:Bool) (bs:List Blok) (lens:List Int),bs.length≤1099511627776∧SmB 1099511627776 bs∧lens.length≤1099511627776→Fn 78 [.agg [B e,BkL bs],IL lens] [] (B (decide (MbkOk e bs lens)))):=⟨fun e bs lens hl=>by
 have hc:=sz8_cases e
 refine FnC.of_body tabOk Tryz.func78 Tryz.ntmps78 rfl (by decide +kernel) (by simp) fun G=>?_
 refine go (r:=?_);and_intros<;>intros<;>try exact True.intro
 refine WpA.loop (fun k:Nat=>⟨[(1,IL lens),(2,.ptr 0 0 0),(5,I (sz8 e)),(6,I k)],[⟨[B e,BkL bs],0,0,none⟩]⟩) (fun k=>k≤bs.length∧∀j<k,badB lens (sz8 e) (bs.getD j default)=false) (fun k=>bs.length-k) 0 (by simp) (go (r:=?_)) (fun k hk=>?_)
 ·trivial
 have hg:=fun h=>smB_get hl.2.1 (k:=k) h
 have hnn:sz8 e*sz8 e=16∨sz8 e*sz8 e=64:=by rcases hc with ⟨h,_⟩|⟨h,_⟩<;>rw [h]<;>decide
 have hq:64/(sz8 e*sz8 e)=nm8 e:=by rcases hc with ⟨h,h2⟩|⟨h,h2⟩<;>rw [h,h2]<;>decide
 refine go (r:=?_);and_intros<;>intros<;>try exact True.intro
 ·have:bs.any (badB lens (sz8 e))=true:=any_at (i:=k) (by omega) (by unfold badB;exact decide_eq_true ‹_›)
  simp [this]
 ·rename_i j hj;by_cases h:j=k
  ·subst h;unfold badB;exact decide_eq_false (fun hh=>hh ‹BlkOk _ _ _ _›)
  ·exact hk.2 j (by omega)
 all_goals have e2:k=bs.length:=by omega
 all_goals subst e2
 have:=any_none (p:=badB lens (sz8 e)) hk.2
 rw [hq];simp [this]⟩
instance MbOk_c:Con 148 (∀ (e:Bool) (bs:List Blok) (lens:List Int),bs.length≤1099511627776∧SmB 1099511627776 bs∧lens.length≤1099511627776→Fn 148 [.agg [B e,BkL bs],IL lens] [] (B (decide (MbkOk e bs lens)))):=⟨fun e bs lens hl=>by
 have hc:=sz8_cases e
 refine FnC.of_body tabOk Tryz.func148 Tryz.ntmps148 rfl (by decide +kernel) (by simp) fun G=>?_
 refine go (r:=?_);and_intros<;>intros<;>try exact True.intro
 all_goals simp_all⟩
def badM (lens:List Int) (m:Mbk):Bool:=decide (¬ MbkOk m.1 m.2 lens)
abbrev StC (w h q:Int) (b d:Bool) (l:List Int) (M:List Mbk):List AV:=[I w,I h,I q,B b,B d,IL l,MbL M]
abbrev fM (w h q:Int) (b d:Bool) (l:List Int) (M:List Mbk):AV:=.fn 147 [.iptr (StC w h q b d l M) 0]
instance StreamOk1_c:Con 147 (∀ (e:Bool) (bs:List Blok) (w h q:Int) (b d:Bool) (l:List Int) (M:List Mbk),bs.length≤1099511627776∧SmB 1099511627776 bs∧l.length≤1099511627776→Fn 147 [.agg [B e,BkL bs],.iptr (StC w h q b d l M) 0] [] (B (badM l (e,bs)))):=⟨fun e bs w h q b d l M hl=>by
 unfold badM
 refine FnC.of_body tabOk Tryz.func147 Tryz.ntmps147 rfl (by decide +kernel) (by simp) fun G=>?_
 refine go (r:=?_);and_intros<;>intros<;>try exact True.intro
 all_goals simp_all⟩
instance IndexFuncM_c:Con 217 (∀ (w h q:Int) (b d:Bool) (l:List Int) (M N:List Mbk),N.length≤1099511627776∧SmM 1099511627776 N∧l.length≤1099511627776→Fn 217 [MbL N,fM w h q b d l M] [] (I (ixF (badM l) N))):=⟨fun w h q b d l M N hl=>by
 refine FnC.of_body tabOk Tryz.func217 Tryz.ntmps217 rfl (by decide +kernel) (by simp) fun G=>?_
 refine go (r:=?_);and_intros<;>intros<;>try exact True.intro
 refine WpA.loop (fun k:Nat=>⟨[(0,MbL N),(1,fM w h q b d l M),(7,I N.length),(8,I k)],[]⟩) (fun k=>k≤N.length∧∀j<k,badM l (N.getD j default)=false) (fun k=>N.length-k) 0 (by simp) (go (r:=?_)) (fun k hk=>?_)
 ·trivial
 have hg:=fun h=>(smM_get hl.2.1 (k:=k) h).1
 have hg2:=fun h=>(smM_get hl.2.1 (k:=k) h).2
 refine go (r:=?_);and_intros<;>intros<;>try exact True.intro
 all_goals first|exact hg2 (by omega)|skip
 ·exact ixF_at (by omega) hk.2 (by unfold badM;exact decide_eq_true ‹_›)
 ·rename_i j hj;by_cases h:j=k
  ·subst h;unfold badM;exact decide_eq_false ‹_›
  ·exact hk.2 j (by omega)
 all_goals (have e:k=N.length:=by omega);subst e;exact ixF_no hk.2⟩
instance ContainsFuncM_c:Con 146 (∀ (w h q:Int) (b d:Bool) (l:List Int) (M N:List Mbk),N.length≤1099511627776∧SmM 1099511627776 N∧l.length≤1099511627776→Fn 146 [MbL N,fM w h q b d l M] [] (B (N.any (badM l)))):=⟨fun w h q b d l M N hl=>by
 have hge:=ixF_ge (badM l) N
 refine FnC.of_body tabOk Tryz.func146 Tryz.ntmps146 rfl (by decide +kernel) (by simp) fun G=>?_
 refine go (r:=?_);and_intros<;>intros<;>try exact True.intro
 all_goals first|exact hl.2.1|(rw [Bool.eq_iff_iff,←hge];simp)⟩
abbrev StOk (w h q:Int) (l:List Int) (M:List Mbk):Prop:=HdOk w h q l∧(M.length:Int)=cntM w h∧M.any (badM l)=false
instance StreamOk_s:Con 27 (∀ (w h q:Int) (b d:Bool) (l:List Int) (M:List Mbk),l.length≤1099511627776∧M.length≤1099511627776∧SmM 1099511627776 M→Fn 27 [StA w h q b d l M] [] (B (decide (StOk w h q l M)))):=⟨fun w h q b d l M hl=>by
 refine FnC.of_body tabOk Tryz.func27 Tryz.ntmps27 rfl (by decide +kernel) (by simp) fun G=>?_
 by_cases h0:HdOk w h q l
 ·have hcb:=cntM_bd h0.1
  refine go (r:=?_);and_intros<;>intros<;>try exact True.intro
  all_goals first|(exact absurd h0 (by assumption))|skip
  refine WpA.loop (fun k:Nat=>⟨[(1,.ptr 0 0 0),(3,I k)],[⟨StC w h q b d l M,0,0,none⟩]⟩) (fun k=>k≤M.length∧∀j<k,badM l (M.getD j default)=false) (fun k=>M.length-k) 0 (by simp) (go (r:=?_)) (fun k hk=>?_)
  ·trivial
  have hg:=fun h=>(smM_get hl.2.2 (k:=k) h).1
  have hg2:=fun h=>(smM_get hl.2.2 (k:=k) h).2
  refine go (r:=?_);and_intros<;>intros<;>try exact True.intro
  ·exact hg2 (by omega)
  ·have:M.any (badM l)=true:=any_at (i:=k) (by omega) (by unfold badM;exact decide_eq_true ‹_›)
   simp [this]
  ·rename_i j hj;by_cases h:j=k
   ·subst h;unfold badM;exact decide_eq_false (fun hh=>hh ‹MbkOk _ _ _›)
   ·exact hk.2 j (by omega)
  all_goals have e2:k=M.length:=by omega
  all_goals subst e2
  have:=any_none (p:=badM l) hk.2
  simp [this,h0]
 ·refine go (r:=?_);and_intros<;>intros<;>try exact True.intro
  all_goals simp [StOk,h0]⟩
theorem Weak.eqv {m d:Nat} {V V':AV} {T:List (Nat×AV)} {O:List AObj} (h:V=V'):Weak m ⟨(d,V)::T,O⟩ ⟨(d,V')::T,O⟩:=by subst h;exact fun n G a w h=>h
instance StreamOk_c:Con 80 (∀ (w h q:Int) (b d:Bool) (l:List Int) (M:List Mbk),l.length≤1099511627776∧M.length≤1099511627776∧SmM 1099511627776 M→Fn 80 [StA w h q b d l M] [] (B (decide (StOk w h q l M)))):=⟨fun w h q b d l M hl=>by
 refine FnC.of_body tabOk Tryz.func80 Tryz.ntmps80 rfl (by decide +kernel) (by simp) fun G=>?_
 refine K.A ?_
 refine WpA.seq ?_
 refine WpA.regionF rfl ?_
 refine WpL.box rfl rfl rfl (by decide) ?_
 refine WpL.assign rfl (by decide) ?_
 refine WpL.nil ?_
 refine Abs.Seq.n ?_
 refine WpA.seq ?_
 by_cases h0:HdOk w h q l
 ·have e0:decide (HdOk w h q l)=true:=decide_eq_true h0
  by_cases h1:(M.length:Int)=cntM w h
  ·have e1:decide ((M.length:Int)=cntM w h)=true:=decide_eq_true h1
   apply WpA.regionM 16 mixed (by decide +kernel)
   ·apply HeadJ.consF rfl
    ·exact rfl
    ·exact in1
    ·exact rfl
    apply HeadJ.consF rfl
    ·exact rfl
    ·exact in1
    ·exact rfl
    apply HeadJ.consF rfl
    ·exact rfl
    ·(refine fun Tv=>?_;refine K.call ?_;refine K.con (fun hcon=>?_);refine WpL.call0 (hcon _ _ _ _ _ _ ?_) snapA locA rfl rfl (by decide) ?_;(· exact hl.1);refine WpL.weak (Weak.eqv (V':=B true) (by rw [e0])) ?_;exact WpL.nil (Only.mk rfl))
    ·exact rfl
    apply HeadJ.consF rfl
    ·exact rfl
    ·exact in1
    ·exact rfl
    apply HeadJ.consF rfl
    ·exact rfl
    ·(refine fun Tv=>?_;refine K.gT rfl (by decide) rfl ?_;exact in1)
    ·exact rfl
    apply HeadJ.consF rfl
    ·exact rfl
    ·(refine fun Tv=>?_;refine K.gT rfl (by decide) rfl ?_;exact in1)
    ·exact rfl
    apply HeadJ.consF rfl
    ·exact rfl
    ·(refine fun Tv=>?_;refine K.gT rfl (by decide) rfl ?_;exact in1)
    ·exact rfl
    apply HeadJ.consF rfl
    ·exact rfl
    ·(refine fun Tv=>?_;refine K.gT rfl (by decide) rfl ?_;exact in1)
    ·exact rfl
    apply HeadJ.consF rfl
    ·exact rfl
    ·(refine fun Tv=>?_;refine K.gT rfl (by decide) rfl ?_;exact in1)
    ·exact rfl
    apply HeadJ.consF rfl
    ·exact rfl
    ·(refine fun Tv=>?_;refine K.gT rfl (by decide) rfl ?_;refine K.call ?_;refine K.con (fun hcon=>?_);refine WpL.call0 (hcon _ _ _ _ _ _ h0.1) snapA locA rfl rfl (by decide) ?_;exact WpL.nil (Only.mk rfl))
    ·exact rfl
    apply HeadJ.consF rfl
    ·exact rfl
    ·(refine fun Tv=>?_;refine K.gT rfl (by decide) rfl ?_;refine WpL.bin rfl rfl rfl (by decide) ?_;refine WpL.weak (Weak.eqv (V':=B true) (by simp only [e1])) ?_;exact WpL.nil (Only.mk rfl))
    ·exact rfl
    apply HeadJ.consF rfl
    ·exact rfl
    ·exact in1
    ·exact rfl
    apply HeadJ.consF rfl
    ·exact rfl
    ·exact in1
    ·exact rfl
    apply HeadJ.consF rfl
    ·exact rfl
    ·(refine fun Tv=>?_;refine K.gT rfl (by decide) rfl ?_;exact in1)
    ·exact rfl
    apply HeadJ.consF rfl
    ·exact rfl
    ·(refine fun Tv=>?_;refine K.gT rfl (by decide) rfl ?_;exact in1)
    ·exact rfl
    apply HeadJ.consF rfl
    ·exact rfl
    ·(refine fun Tv=>?_;refine K.gT rfl (by decide) rfl ?_;refine WpL.makeFunc (cs:=[.ptr 0 0 0]) rfl (by decide) ?_;exact WpL.nil (Only.mk rfl))
    ·exact rfl
    exact HeadJ.nil
   ·kernel_rfl
   ·kernel_rfl
   ·exact rfl
   refine go (r:=?_);and_intros<;>intros<;>try exact True.intro
   all_goals first|exact hl.2.2|(simp [StOk,h0,h1];done)
  ·have e1:decide ((M.length:Int)=cntM w h)=false:=decide_eq_false h1
   apply WpA.regionM 16 mixed (by decide +kernel)
   ·apply HeadJ.consF rfl
    ·exact rfl
    ·exact in1
    ·exact rfl
    apply HeadJ.consF rfl
    ·exact rfl
    ·exact in1
    ·exact rfl
    apply HeadJ.consF rfl
    ·exact rfl
    ·(refine fun Tv=>?_;refine K.call ?_;refine K.con (fun hcon=>?_);refine WpL.call0 (hcon _ _ _ _ _ _ ?_) snapA locA rfl rfl (by decide) ?_;(· exact hl.1);refine WpL.weak (Weak.eqv (V':=B true) (by rw [e0])) ?_;exact WpL.nil (Only.mk rfl))
    ·exact rfl
    apply HeadJ.consF rfl
    ·exact rfl
    ·exact in1
    ·exact rfl
    apply HeadJ.consF rfl
    ·exact rfl
    ·(refine fun Tv=>?_;refine K.gT rfl (by decide) rfl ?_;exact in1)
    ·exact rfl
    apply HeadJ.consF rfl
    ·exact rfl
    ·(refine fun Tv=>?_;refine K.gT rfl (by decide) rfl ?_;exact in1)
    ·exact rfl
    apply HeadJ.consF rfl
    ·exact rfl
    ·(refine fun Tv=>?_;refine K.gT rfl (by decide) rfl ?_;exact in1)
    ·exact rfl
    apply HeadJ.consF rfl
    ·exact rfl
    ·(refine fun Tv=>?_;refine K.gT rfl (by decide) rfl ?_;exact in1)
    ·exact rfl
    apply HeadJ.consF rfl
    ·exact rfl
    ·(refine fun Tv=>?_;refine K.gT rfl (by decide) rfl ?_;exact in1)
    ·exact rfl
    apply HeadJ.consF rfl
    ·exact rfl
    ·(refine fun Tv=>?_;refine K.gT rfl (by decide) rfl ?_;refine K.call ?_;refine K.con (fun hcon=>?_);refine WpL.call0 (hcon _ _ _ _ _ _ h0.1) snapA locA rfl rfl (by decide) ?_;exact WpL.nil (Only.mk rfl))
    ·exact rfl
    apply HeadJ.consF rfl
    ·exact rfl
    ·(refine fun Tv=>?_;refine K.gT rfl (by decide) rfl ?_;refine WpL.bin rfl rfl rfl (by decide) ?_;refine WpL.weak (Weak.eqv (V':=B false) (by simp only [e1])) ?_;exact WpL.nil (Only.mk rfl))
    ·exact rfl
    apply HeadJ.consF rfl
    ·exact rfl
    ·exact in1
    ·exact rfl
    apply HeadJ.consF rfl
    ·exact rfl
    ·exact in1
    ·exact rfl
    apply HeadJ.consF rfl
    ·exact rfl
    ·(refine fun Tv=>?_;refine K.gF rfl (by decide) rfl ?_;exact WpL.nil (Only.mk rfl))
    ·exact rfl
    apply HeadJ.consF rfl
    ·exact rfl
    ·(refine fun Tv=>?_;refine K.gF rfl (by decide) rfl ?_;exact WpL.nil (Only.mk rfl))
    ·exact rfl
    apply HeadJ.consF rfl
    ·exact rfl
    ·(refine fun Tv=>?_;refine K.gF rfl (by decide) rfl ?_;exact WpL.nil (Only.mk rfl))
    ·exact rfl
    exact HeadJ.nil
   ·kernel_rfl
   ·kernel_rfl
   ·exact rfl
   refine go (r:=?_);and_intros<;>intros<;>try exact True.intro
   all_goals simp [StOk,h1]
 ·have e0:decide (HdOk w h q l)=false:=decide_eq_false h0
  apply WpA.regionM 16 mixed (by decide +kernel)
  ·apply HeadJ.consF rfl
   ·exact rfl
   ·exact in1
   ·exact rfl
   apply HeadJ.consF rfl
   ·exact rfl
   ·exact in1
   ·exact rfl
   apply HeadJ.consF rfl
   ·exact rfl
   ·(refine fun Tv=>?_;refine K.call ?_;refine K.con (fun hcon=>?_);refine WpL.call0 (hcon _ _ _ _ _ _ ?_) snapA locA rfl rfl (by decide) ?_;(· exact hl.1);refine WpL.weak (Weak.eqv (V':=B false) (by rw [e0])) ?_;exact WpL.nil (Only.mk rfl))
   ·exact rfl
   apply HeadJ.consF rfl
   ·exact rfl
   ·exact in1
   ·exact rfl
   apply HeadJ.consF rfl
   ·exact rfl
   ·(refine fun Tv=>?_;refine K.gF rfl (by decide) rfl ?_;exact WpL.nil (Only.mk rfl))
   ·exact rfl
   apply HeadJ.consF rfl
   ·exact rfl
   ·(refine fun Tv=>?_;refine K.gF rfl (by decide) rfl ?_;exact WpL.nil (Only.mk rfl))
   ·exact rfl
   apply HeadJ.consF rfl
   ·exact rfl
   ·(refine fun Tv=>?_;refine K.gF rfl (by decide) rfl ?_;exact WpL.nil (Only.mk rfl))
   ·exact rfl
   apply HeadJ.consF rfl
   ·exact rfl
   ·(refine fun Tv=>?_;refine K.gF rfl (by decide) rfl ?_;exact WpL.nil (Only.mk rfl))
   ·exact rfl
   apply HeadJ.consF rfl
   ·exact rfl
   ·(refine fun Tv=>?_;refine K.gF rfl (by decide) rfl ?_;exact WpL.nil (Only.mk rfl))
   ·exact rfl
   apply HeadJ.consF rfl
   ·exact rfl
   ·(refine fun Tv=>?_;refine K.gF rfl (by decide) rfl ?_;exact WpL.nil (Only.mk rfl))
   ·exact rfl
   apply HeadJ.consF rfl
   ·exact rfl
   ·(refine fun Tv=>?_;refine K.gF rfl (by decide) rfl ?_;exact WpL.nil (Only.mk rfl))
   ·exact rfl
   apply HeadJ.consF rfl
   ·exact rfl
   ·exact in1
   ·exact rfl
   apply HeadJ.consF rfl
   ·exact rfl
   ·exact in1
   ·exact rfl
   apply HeadJ.consF rfl
   ·exact rfl
   ·(refine fun Tv=>?_;refine K.gF rfl (by decide) rfl ?_;exact WpL.nil (Only.mk rfl))
   ·exact rfl
   apply HeadJ.consF rfl
   ·exact rfl
   ·(refine fun Tv=>?_;refine K.gF rfl (by decide) rfl ?_;exact WpL.nil (Only.mk rfl))
   ·exact rfl
   apply HeadJ.consF rfl
   ·exact rfl
   ·(refine fun Tv=>?_;refine K.gF rfl (by decide) rfl ?_;exact WpL.nil (Only.mk rfl))
   ·exact rfl
   exact HeadJ.nil
  ·kernel_rfl
  ·kernel_rfl
  ·exact rfl
  refine go (r:=?_);and_intros<;>intros<;>try exact True.intro
  all_goals simp [StOk,h0]⟩
def pk (l:List Int):Nat→List (Int×Int)×Int
 |0=>([],0)
 |k+1=>if l.getD k 0=0 then ((pk l k).1,(pk l k).2+1) else ((pk l k).1++[((pk l k).2,l.getD k 0)],0)
def prsL (l:List Int):List (Int×Int):=if LvOk l then (pk l l.length).1 else []
theorem pk_bd (l:List Int):∀k,(pk l k).1.length≤k∧0≤(pk l k).2∧(pk l k).2≤k
 |0=>by simp [pk]
 |k+1=>by have:=pk_bd l k;rw [pk];split<;>simp<;>omega
abbrev XP (l:List (Int×Int)):AObj:=⟨rows prF l,0,2,some 221⟩
instance PairsOf_s:Con 280 (∀ l:List Int,l.length≤1099511627776→Fn 280 [IL l] [XP (prsL l)] (.own 0 0 0 (prsL l).length)):=⟨fun l hl=>by
 refine FnC.of_body tabOk Tryz.func280 Tryz.ntmps280 rfl (by decide +kernel) (by simp) fun G=>?_
 by_cases h:LvOk l
 ·refine go (r:=?_);and_intros<;>intros<;>try exact True.intro
  refine WpA.loop (fun k:Nat=>⟨[(0,IL l),(3,.own 0 0 0 (pk l k).1.length),(4,I (pk l k).2),(5,I k)],[XP (pk l k).1]⟩) (fun k=>k≤l.length) (fun k=>l.length-k) 0 (by simp) (go (r:=?_)) (fun k hk=>?_)
  ·simp [pk]
  have hb:=pk_bd l k
  have hend:k=l.length→(pk l k).1=prsL l:=by rintro rfl;rw [prsL,if_pos h]
  by_cases hz:l.getD k 0=0
  ·have e1:pk l (k+1)=((pk l k).1,(pk l k).2+1):=by rw [pk,if_pos hz]
   have e2:(pk l (k+1)).1.length=(pk l k).1.length:=by rw [e1]
   refine go (r:=?_);and_intros<;>intros<;>try exact True.intro
   all_goals first|(rw [e1];done)|(rw [hend (by omega)];done)
  ·have e1:pk l (k+1)=((pk l k).1++[((pk l k).2,l.getD k 0)],0):=by rw [pk,if_neg hz]
   have e2:(pk l (k+1)).1.length=(pk l k).1.length+1:=by rw [e1,List.length_append,List.length_singleton]
   refine go (r:=?_);and_intros<;>intros<;>try exact True.intro
   all_goals first|(rw [e1];done)|(rw [e1];rfl)|(rw [hend (by omega)];done)
 ·have e:prsL l=[]:=by rw [prsL,if_neg h]
  refine go (r:=?_);and_intros<;>intros<;>try exact True.intro
  refine WpA.loop (fun k:Nat=>⟨[(0,IL l),(3,.own 0 0 0 0),(4,I 0),(5,I 0)],[XP []]⟩) (fun k=>k≤0) (fun k=>0) 0 (by omega) (go (r:=?_)) (fun k hk=>?_)
  ·first|trivial|(refine ⟨?_,?_⟩<;>trivial)|skip
  refine go (r:=?_);and_intros<;>intros<;>try exact True.intro
  all_goals first|(rw [e];done)|(rw [e];rfl)⟩
theorem ok_blk {w h q:Int} {l:List Int} {M:List Mbk} (hs:StOk w h q l M) {i:Nat} (hi:i<M.length):MbkOk (M.getD i default).1 (M.getD i default).2 l:=by
 have:=any_get hs.2.2 hi
 unfold badM at this
 exact Decidable.not_not.1 (of_decide_eq_false this)
theorem ok_lv {e:Bool} {bs:List Blok} {l:List Int} (hs:MbkOk e bs l) {k:Nat} (hk:k<bs.length):BlkOk (bs.getD k default).1 (bs.getD k default).2 l (sz8 e):=by
 have:=any_get hs.2 hk
 unfold badB at this
 exact Decidable.not_not.1 (of_decide_eq_false this)
end Go.Proofs.YtainhhfnnclfiaaGreat


namespace Go.Proofs.YtainhhfnnclfiaaGreat
open Go Go.Abs
attribute [local irreducible] belowD onceD pickD modeD l8D l8AnyD optD anyD seedD headD headAnyD
def bmA (l lens:List Int):Nat→Bool→Cr×Int→Cr×Int
 |0,_,s=>s
 |n+1,f,s=>if f=true∨¬HasC lens s.2 then bmA l lens n false (belowD l s.1 6) else s
def bmB (lens:List Int):Nat→Int→Int
 |0,m=>m
 |n+1,m=>if ¬HasC lens m then bmB lens n (m+1) else m
def bmC (lens:List Int) (m:Int):Int:=if HasC lens m then m else 1
theorem bmA_ok {l lens:List Int}:∀(n:Nat) (f:Bool) {s:Cr×Int},CrOk l s.1→0≤s.2∧s.2≤5→CrOk l (bmA l lens n f s).1∧0≤(bmA l lens n f s).2∧(bmA l lens n f s).2≤5
 |0,_,s,h,hb=>⟨h,hb⟩
 |n+1,f,s,h,hb=>by
  rw [bmA];split
  ·have h1:=belowD_ok 6 h
   have h2:=h1.2.1
   have h3:=h1.2.2.1 (by decide)
   exact bmA_ok n false h1.1 ⟨h2,by omega⟩
  ·exact ⟨h,hb⟩
theorem bmA_go {l lens:List Int} {n:Nat} {f:Bool} {s:Cr×Int} (h:f=true∨¬HasC lens s.2):bmA l lens (n+1) f s=bmA l lens n false (belowD l s.1 6):=by rw [bmA,if_pos h]
theorem bmA_stop {l lens:List Int} {n:Nat} {s:Cr×Int} (h:HasC lens s.2):bmA l lens n false s=s:=by
 cases n with
 |zero=>rfl
 |succ n=>rw [bmA,if_neg];rintro (h1|h1);cases h1;exact h1 h
theorem bmB_go {lens:List Int} {m:Int} (hm:m<6) (h:¬HasC lens m):bmB lens (6-m).toNat m=bmB lens (6-(m+1)).toNat (m+1):=by
 rw [show (6-m).toNat=(6-(m+1)).toNat+1 by omega,bmB,if_pos h]
theorem bmB_stop {lens:List Int} {m:Int} (h:HasC lens m∨¬m<6):bmB lens (6-m).toNat m=m:=by
 by_cases hm:m<6
 ·rw [show (6-m).toNat=(6-(m+1)).toNat+1 by omega,bmB,if_neg]
  rcases h with h|h
  ·exact fun h1=>h1 h
  ·exact absurd hm h
 ·rw [show (6-m).toNat=0 by omega];rfl
def blkM (l lens:List Int) (c:Cr):Cr×Int:=((bmA l lens 8 true (c,0)).1,bmC lens (bmB lens (6-(bmA l lens 8 true (c,0)).2).toNat (bmA l lens 8 true (c,0)).2))
theorem blkM_ok {l lens:List Int} {c:Cr} (h:CrOk l c):CrOk l (blkM l lens c).1:=(bmA_ok 8 true (s:=(c,0)) h ⟨Int.le_refl 0,by show (0:Int)≤5;omega⟩).1
abbrev ixs (n:Int) (x:Int):List Int:=[0,0,1,2,n*n-1,x]
abbrev lvs (x:Int):List Int:=[1,-1,3,-20,90,x-200]
def dvS (l:List Int) (n:Int) (s:Cr×List Int):Cr×List Int:=
 ((pickD l (belowD l (pickD l (belowD l s.1 (n*n)).1 (ixs n (belowD l s.1 (n*n)).2)).1 400).1 (lvs (belowD l (pickD l (belowD l s.1 (n*n)).1 (ixs n (belowD l s.1 (n*n)).2)).1 400).2)).1,
  s.2.set (pickD l (belowD l s.1 (n*n)).1 (ixs n (belowD l s.1 (n*n)).2)).2.toNat (pickD l (belowD l (pickD l (belowD l s.1 (n*n)).1 (ixs n (belowD l s.1 (n*n)).2)).1 400).1 (lvs (belowD l (pickD l (belowD l s.1 (n*n)).1 (ixs n (belowD l s.1 (n*n)).2)).1 400).2)).2)
def dvK (l:List Int) (n:Int):Nat→Cr×List Int→Cr×List Int
 |0,s=>s
 |k+1,s=>dvK l n k (dvS l n s)
structure LvSt (l:List Int) (n:Int) (s:Cr×List Int) where
 b:Cr×Int
 i:Cr×Int
 q:Cr×Int
 v:Cr×Int
 hb:b=belowD l s.1 (n*n)
 hi:i=pickD l b.1 (ixs n b.2)
 hq:q=belowD l i.1 400
 hv:v=pickD l q.1 (lvs q.2)
theorem dvS_facts {l:List Int} {n:Int} {s:Cr×List Int} (hn:n=4∨n=8) (h:CrOk l s.1):CrOk l (belowD l s.1 (n*n)).1∧CrOk l (pickD l (belowD l s.1 (n*n)).1 (ixs n (belowD l s.1 (n*n)).2)).1∧
 (0≤(pickD l (belowD l s.1 (n*n)).1 (ixs n (belowD l s.1 (n*n)).2)).2∧(pickD l (belowD l s.1 (n*n)).1 (ixs n (belowD l s.1 (n*n)).2)).2<n*n)∧
 CrOk l (belowD l (pickD l (belowD l s.1 (n*n)).1 (ixs n (belowD l s.1 (n*n)).2)).1 400).1∧CrOk l (dvS l n s).1∧(dvS l n s).2.length=s.2.length:=by
 have hnn:n*n=16∨n*n=64:=by rcases hn with rfl|rfl<;>decide
 have h1:=belowD_ok (n*n) h
 have h2:=pickD_ok (xs:=ixs n (belowD l s.1 (n*n)).2) h1.1 (by simp)
 have h3:=belowD_ok 400 h2.1
 have h4:=pickD_ok (xs:=lvs (belowD l (pickD l (belowD l s.1 (n*n)).1 (ixs n (belowD l s.1 (n*n)).2)).1 400).2) h3.1 (by simp)
 have a:=h1.2.1
 have b:=h1.2.2.1 (by omega)
 have e:=h2.2
 simp only [List.mem_cons,List.not_mem_nil,or_false] at e
 exact ⟨h1.1,h2.1,by omega,h3.1,h4.1,by unfold dvS;rw [List.length_set]⟩
theorem dvK_ok {l:List Int} {n:Int} (hn:n=4∨n=8):∀(k:Nat) {s:Cr×List Int},CrOk l s.1→CrOk l (dvK l n k s).1∧(dvK l n k s).2.length=s.2.length
 |0,s,h=>⟨h,rfl⟩
 |k+1,s,h=>by
  have h1:=dvS_facts hn h
  have h2:=dvK_ok hn k h1.2.2.2.2.1
  exact ⟨h2.1,by rw [dvK,h2.2,h1.2.2.2.2.2]⟩
def blkD (l lens:List Int) (n:Int) (c:Cr):Cr×Blok:=
 ((dvK l n (belowD l (blkM l lens c).1 5).2.toNat ((belowD l (blkM l lens c).1 5).1,List.replicate (n*n).toNat 0)).1,
  ((blkM l lens c).2,(dvK l n (belowD l (blkM l lens c).1 5).2.toNat ((belowD l (blkM l lens c).1 5).1,List.replicate (n*n).toNat 0)).2))
theorem blkD_ok {l lens:List Int} {n:Int} {c:Cr} (hn:n=4∨n=8) (h:CrOk l c):CrOk l (blkD l lens n c).1∧((blkD l lens n c).2.2.length:Int)=n*n:=by
 have h1:=belowD_ok 5 (blkM_ok (lens:=lens) h)
 have h2:=dvK_ok hn (belowD l (blkM l lens c).1 5).2.toNat (s:=((belowD l (blkM l lens c).1 5).1,List.replicate (n*n).toNat 0)) h1.1
 refine ⟨h2.1,?_⟩
 unfold blkD
 simp only
 rw [h2.2,List.length_replicate]
 rcases hn with rfl|rfl<;>decide
def mbsK (l lens:List Int) (n:Int):Nat→Cr×List Blok→Cr×List Blok
 |0,s=>s
 |k+1,s=>mbsK l lens n k ((blkD l lens n s.1).1,s.2++[(blkD l lens n s.1).2])
def SqB (n:Int) (bs:List Blok):Prop:=∀b∈bs,(b.2.length:Int)=n*n
theorem mbsK_ok {l lens:List Int} {n:Int} (hn:n=4∨n=8):∀(k:Nat) {s:Cr×List Blok},CrOk l s.1→SqB n s.2→CrOk l (mbsK l lens n k s).1∧(mbsK l lens n k s).2.length=s.2.length+k∧SqB n (mbsK l lens n k s).2
 |0,s,h,hb=>⟨h,rfl,hb⟩
 |k+1,s,h,hb=>by
  have h1:=blkD_ok (lens:=lens) hn h
  have h2:=mbsK_ok (lens:=lens) hn k (s:=((blkD l lens n s.1).1,s.2++[(blkD l lens n s.1).2])) h1.1 (by
   intro b hb2
   rcases List.mem_append.1 hb2 with hb2|hb2
   ·exact hb b hb2
   ·rw [List.mem_singleton.1 hb2];exact h1.2)
  exact ⟨h2.1,by rw [mbsK,h2.2.1];simp;omega,h2.2.2⟩
def mbD (l lens:List Int) (c:Cr):Cr×Mbk:=
 ((mbsK l lens (sz8 (onceD l c 3).2) (nm8 (onceD l c 3).2).toNat ((onceD l c 3).1,[])).1,((onceD l c 3).2,(mbsK l lens (sz8 (onceD l c 3).2) (nm8 (onceD l c 3).2).toNat ((onceD l c 3).1,[])).2))
theorem sz8_48 (e:Bool):sz8 e=4∨sz8 e=8:=by cases e<;>simp [sz8]
theorem mbD_ok {l lens:List Int} {c:Cr} (h:CrOk l c):CrOk l (mbD l lens c).1∧((mbD l lens c).2.2.length:Int)=nm8 (mbD l lens c).2.1∧SqB (sz8 (mbD l lens c).2.1) (mbD l lens c).2.2:=by
 have h1:=onceD_ok 3 h
 have h2:=mbsK_ok (lens:=lens) (sz8_48 (onceD l c 3).2) (nm8 (onceD l c 3).2).toNat (s:=((onceD l c 3).1,[])) h1 (fun b hb=>by cases hb)
 refine ⟨h2.1,?_,h2.2.2⟩
 have:=h2.2.1
 simp only [List.length_nil,Nat.zero_add] at this
 show ((mbsK l lens _ _ _).2.length:Int)=nm8 (onceD l c 3).2
 rw [this]
 cases (onceD l c 3).2<;>decide
theorem sq_small {e:Bool} {bs:List Blok} (h:SqB (sz8 e) bs):∀b∈bs,b.2.length≤64:=fun b hb=>by
 have:=h b hb
 rcases sz8_48 e with e2|e2<;>rw [e2] at this<;>omega
def strK (l lens:List Int):Nat→Cr×List Mbk→Cr×List Mbk
 |0,s=>s
 |k+1,s=>strK l lens k ((mbD l lens s.1).1,s.2++[(mbD l lens s.1).2])
def MbG (m:Mbk):Prop:=m.2.length≤4∧∀b∈m.2,b.2.length≤64
theorem mbD_g {l lens:List Int} {c:Cr} (h:CrOk l c):MbG (mbD l lens c).2:=by
 have h1:=mbD_ok (lens:=lens) h
 refine ⟨?_,sq_small h1.2.2⟩
 have:=h1.2.1
 cases hx:(mbD l lens c).2.1<;>rw [hx] at this<;>simp [nm8] at this<;>omega
theorem strK_ok {l lens:List Int}:∀(k:Nat) {s:Cr×List Mbk},CrOk l s.1→(∀ m∈s.2,MbG m)→CrOk l (strK l lens k s).1∧(strK l lens k s).2.length=s.2.length+k∧∀m∈(strK l lens k s).2,MbG m
 |0,s,h,hb=>⟨h,rfl,hb⟩
 |k+1,s,h,hb=>by
  have h1:=mbD_ok (lens:=lens) h
  have h2:=strK_ok (lens:=lens) k (s:=((mbD l lens s.1).1,s.2++[(mbD l lens s.1).2])) h1.1 (by
   intro b hb2
   rcases List.mem_append.1 hb2 with hb2|hb2
   ·exact hb b hb2
   ·rw [List.mem_singleton.1 hb2];exact mbD_g h)
  exact ⟨h2.1,by rw [strK,h2.2.1];simp;omega,h2.2.2⟩
structure Str8 where
 hd:Hd6
 ms:List Mbk
def strD (l:List Int) (c:Cr):Cr×Str8:=
 ((strK l (headD l c).2.lens (cntM (headD l c).2.w (headD l c).2.h).toNat ((headD l c).1,[])).1,⟨(headD l c).2,(strK l (headD l c).2.lens (cntM (headD l c).2.w (headD l c).2.h).toNat ((headD l c).1,[])).2⟩)
theorem strD_ok {l:List Int} {c:Cr} (h:CrOk l c):CrOk l (strD l c).1∧(strD l c).2.hd.lens.length=6∧SidesOk (strD l c).2.hd.w (strD l c).2.hd.h∧((strD l c).2.ms.length:Int)=cntM (strD l c).2.hd.w (strD l c).2.hd.h∧∀m∈(strD l c).2.ms,MbG m:=by
 have h1:=headD_ok h
 have h2:=strK_ok (lens:=(headD l c).2.lens) (cntM (headD l c).2.w (headD l c).2.h).toNat (s:=((headD l c).1,[])) h1.1 (fun m hm=>by cases hm)
 have h3:=cntM_bd h1.2.2
 refine ⟨h2.1,h1.2.1,h1.2.2,?_,h2.2.2⟩
 have:=h2.2.1
 simp only [List.length_nil,Nat.zero_add] at this
 show ((strK l _ _ _).2.length:Int)=cntM (headD l c).2.w (headD l c).2.h
 rw [this];omega
end Go.Proofs.YtainhhfnnclfiaaGreat
