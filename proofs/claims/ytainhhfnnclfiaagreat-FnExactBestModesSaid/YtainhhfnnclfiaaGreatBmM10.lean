/- Proved in this text: lemmas and contracts of functions that the claim uses (parts: Mat2, Mat3, Mat4, Pred, Scan, Quant, Scn, Kraft, Sym). No condition. -/
import Derived.Test.YtainhhfnnclfiaaGreatBmM9
import Derived.Test.YtainhhfnnclfiaaGreatBmM6
set_option linter.unusedVariables false
set_option linter.unusedSimpArgs false
set_option maxRecDepth 100000
set_option maxHeartbeats 16000000


namespace Go.Proofs.YtainhhfnnclfiaaGreat
open Go Go.Abs
attribute [local irreducible] WpA WpL Rnd Blk Abs.Seq Abs.Fin Abs.FinG FnC FnG Only
abbrev fh (n:Nat) (g:Nat→Nat→Int) (l:List Int) (q:Nat):Int:=halfM n g l (q/n) (q%n)
abbrev fo (n:Nat) (g:Nat→Nat→Int) (l:List Int) (q:Nat):Int:=fullM n g l (q/n) (q%n)
abbrev sh (n:Nat) (g:Nat→Nat→Int) (l:List Int) (r k i:Nat):Int:=sumF (fun i=>g r i*l.getD (i*n+k) 0) i
abbrev so (n:Nat) (g:Nat→Nat→Int) (l:List Int) (r k i:Nat):Int:=sumF (fun i=>halfM n g l r i*g k i) i
theorem divmod {n r k:Nat} (h:k<n):(r*n+k)/n=r∧(r*n+k)%n=k:=by
 have hn:0<n:=by omega
 constructor
 ·rw [Nat.mul_comm,Nat.mul_add_div hn,Nat.div_eq_of_lt h,Nat.add_zero]
 ·rw [Nat.mul_comm,Nat.mul_add_mod,Nat.mod_eq_of_lt h]
theorem mul_huge {a b:Int} (h:-17000000000≤a∧a≤17000000000) (h2:b=-2∨b=-1∨b=0∨b=1∨b=2):-34000000000≤a*b∧a*b≤34000000000:=by
 rcases h2 with rfl|rfl|rfl|rfl|rfl<;>omega
abbrev Sgn (g:Nat→Nat→Int):Prop:=∀r i,g r i=-2∨g r i=-1∨g r i=0∨g r i=1∨g r i=2
theorem half_in {n:Nat} {g:Nat→Nat→Int} {l:List Int} (hg:Sgn g) (hl:In l (-1000000000) 1000000000) (hn:n≤8) (r k:Nat):-17000000000≤halfM n g l r k∧halfM n g l r k≤17000000000:=by
 have:=half_bd (n:=n) (g:=g) (l:=l) (c:=1000000000) hg hl (by omega) r k n
 unfold halfM;omega
theorem so_bd {n:Nat} {g:Nat→Nat→Int} {l:List Int} (hg:Sgn g) (hl:In l (-1000000000) 1000000000) (hn:n≤8) (r k i:Nat):-(i*34000000000)≤so n g l r k i∧so n g l r k i≤i*34000000000:=
 sumF_bd (by omega) i fun j _=>mul_huge (half_in hg hl hn r j) (hg k j)
abbrev RowsOk (n:Nat) (g:Nat→Nat→Int) (M:List (List Int)):Prop:=M.length=n∧(∀ r,r<n→(M.getD r default).length=n)∧∀r i,r<n→i<n→(M.getD r default).getD i 0=g r i
def prodL (n:Nat) (g:Nat→Nat→Int) (l:List Int):List Int:=if l.length=n*n∧In l (-1000000000) 1000000000 then mulM n g l else []
theorem prodL_len (n:Nat) (g:Nat→Nat→Int) (l:List Int):(prodL n g l).length=if l.length=n*n∧In l (-1000000000) 1000000000 then n*n else 0:=by
 unfold prodL;split
 ·exact tabL_len _ _
 ·rfl
abbrev LLn (n:Nat) (M:List (List Int)):AV:=.imm 1 n (rows liI M)
theorem product_4 (g:Nat→Nat→Int) (M:List (List Int)) (l:List Int) (hg:Sgn g) (hM:RowsOk 4 g M) (hl:l.length≤1099511627776):Fn 252 [LLn 4 M,IL l] [XI (prodL 4 g l)] (.own 0 0 0 (prodL 4 g l).length):=by
 obtain ⟨hM1,hM2,hM3⟩:=hM
 have hpl:=prodL_len 4 g l
 by_cases h:l.length=16∧In l (-1000000000) 1000000000
 ·obtain ⟨h1,h2⟩:=id h
  have e:prodL 4 g l=tabL (fo 4 g l) 16:=by rw [prodL,if_pos h];rfl
  refine FnC.of_body tabOk Tryz.func252 Tryz.ntmps252 rfl (by decide +kernel) (by simp) fun G=>?_
  refine goR (r:=?_);and_intros<;>intros<;>try exact True.intro
  all_goals first|(exfalso;omega)|(exact absurd h2 (by assumption))|skip
  apply WpA.regionQ0 (O1:=[XD (List.replicate 16 0),XD (List.replicate 16 0),deadO,deadO]) 9 2 mixed (by decide +kernel)
  ·exact rfl
  ·apply HeadQ.consF .none rfl
   ·exact rfl
   ·exact in1
   ·exact rfl
   ·exact rfl
   apply HeadQ.consF .none rfl
   ·exact rfl
   ·exact in1
   ·exact rfl
   ·exact rfl
   apply HeadQ.consF .none rfl
   ·exact rfl
   ·exact in1
   ·exact rfl
   ·exact rfl
   apply HeadQ.consF (V:=.own 0 1 0 16) (.put 0 (XD (List.replicate 16 0))) rfl
   ·exact rfl
   ·intro Tv Ov hc hp hd hk
    refine WpL.makeInts tabOk rfl rfl rfl (by decide) (by decide) (by rw [nid_len,Nat.zero_add]) (by decide) ?_
    apply WpL.putNil (p:=0)
    ·exact hp 0 _ rfl
    ·exact Nat.zero_le _
    ·exact rfl
    ·first|exact still_ints _|exact still_rows (fun _=>rfl) _|rfl
   ·exact rfl
   ·exact rfl
   apply HeadQ.consF .none rfl
   ·exact rfl
   ·exact in1
   ·exact rfl
   ·exact rfl
   apply HeadQ.consF .none rfl
   ·exact rfl
   ·exact in1
   ·exact rfl
   ·exact rfl
   apply HeadQ.consF .none rfl
   ·exact rfl
   ·exact in1
   ·exact rfl
   ·exact rfl
   apply HeadQ.consF (V:=.own 1 1 0 16) (.put 1 (XD (List.replicate 16 0))) rfl
   ·exact rfl
   ·intro Tv Ov hc hp hd hk
    refine WpL.makeInts tabOk rfl rfl rfl (by decide) (by decide) (by rw [nid_len,Nat.zero_add]) (by decide) ?_
    apply WpL.putNil (p:=1)
    ·exact hp 1 _ rfl
    ·exact Nat.zero_le _
    ·exact rfl
    ·first|exact still_ints _|exact still_rows (fun _=>rfl) _|rfl
   ·exact rfl
   ·exact rfl
   apply HeadQ.consF .none rfl
   ·exact rfl
   ·exact in1
   ·exact rfl
   ·exact rfl
   exact HeadQ.nil
  ·exact rfl
  ·exact rfl
  ·exact rfl
  ·exact rfl
  ·exact rfl
  ·exact rfl
  refine go (r:=?_);and_intros<;>intros<;>try exact True.intro
  refine WpA.loop (fun r:Nat=>⟨[(0,LLn 4 M),(1,IL l),(5,I 4),(6,.own 0 1 0 16),(7,.own 1 1 0 16),(35,I 4),(36,I r)],[XD (part (fh 4 g l) 16 (r*4) 0),XD (List.replicate 16 0)]⟩) (fun r=>r≤4) (fun r=>4-r) 0 (by omega) (go (r:=?_)) (fun r hr=>?_)
  ·simp [part_zero]
  have hpl1:=part_len (fh 4 g l) 16 (r*4) 0
  refine go (r:=?_);and_intros<;>intros<;>try exact True.intro
  ·refine WpA.loop (fun k:Nat=>⟨[(0,LLn 4 M),(1,IL l),(5,I 4),(6,.own 0 1 0 16),(7,.own 1 1 0 16),(8,I r),(35,I 4),(36,I r),(39,I 4),(40,I k)],[XD (part (fh 4 g l) 16 (r*4+k) 0),XD (List.replicate 16 0)]⟩) (fun k=>k≤4) (fun k=>4-k) 0 (by omega) (go (r:=?_)) (fun k hk=>?_)
   ·trivial
   have hpl2:=part_len (fh 4 g l) 16 (r*4+k) 0
   refine go (r:=?_);and_intros<;>intros<;>try exact True.intro
   ·refine WpA.loop (fun i:Nat=>⟨[(0,LLn 4 M),(1,IL l),(5,I 4),(6,.own 0 1 0 16),(7,.own 1 1 0 16),(8,I r),(9,I k),(35,I 4),(36,I r),(39,I 4),(40,I k),(43,I 4),(44,I i)],[XD (part (fh 4 g l) 16 (r*4+k) (sh 4 g l r k i)),XD (List.replicate 16 0)]⟩) (fun i=>i≤4) (fun i=>4-i) 0 (by omega) (go (r:=?_)) (fun i hi=>?_)
    ·simp [sumF]
    have hpl3:=part_len (fh 4 g l) 16 (r*4+k) (sh 4 g l r k i)
    have hM2r:=hM2 r
    have hsb:-((i:Int)*(2*1000000000))≤sh 4 g l r k i∧sh 4 g l r k i≤(i:Int)*(2*1000000000):=half_bd (n:=4) (g:=g) (l:=l) (c:=1000000000) hg h2 (by omega) r k i
    have hdm:=divmod (n:=4) (r:=r) (k:=k)
    have hgl:=in_getZ h2 (by decide) (i*4+k)
    have hgg:=mul2 (hg r i) hgl (by decide)
    have hst:sh 4 g l r k (i+1)=sh 4 g l r k i+g r i*l.getD (i*4+k) 0:=rfl
    refine go (r:=?_);and_intros<;>intros<;>try exact True.intro
    ·rename_i hi1
     have hr1:r<4:=by omega
     have hk1:k<4:=by omega
     have e1:((r:Int)*4+k).toNat=r*4+k:=by omega
     have e2:((i:Int)*4+k).toNat=i*4+k:=by omega
     have e3:(M.getD r default).getD i 0=g r i:=hM3 r i hr1 (by omega)
     rw [e1,e2,e3,part_get (by omega),part_set (by omega),wrap64 (g r i*l.getD (i*4+k) 0) (by omega),wrap64 _ (by omega),hst]
    ·have hi1:i=4:=by omega
     subst hi1
     rw [←Nat.add_assoc];exact part_next (by show sh 4 g l r k 4=halfM 4 g l ((r*4+k)/4) ((r*4+k)%4);rw [(hdm (by omega)).1,(hdm (by omega)).2];rfl)
   ·have hk1:k=4:=by omega
    rw [hk1,Nat.succ_mul]
  have hr1:r=4:=by omega
  subst hr1
  have ep:part (fh 4 g l) 16 (4*4) 0=tabL (fh 4 g l) 16:=part_all _ _ _
  rw [ep]
  have hplh:=tabL_len (fh 4 g l) 16
  refine WpA.loop (fun r:Nat=>⟨[(0,LLn 4 M),(5,I 4),(6,.own 0 1 0 16),(7,.own 1 1 0 16),(76,I 4),(77,I r)],[XD (tabL (fh 4 g l) 16),XD (part (fo 4 g l) 16 (r*4) 0)]⟩) (fun r=>r≤4) (fun r=>4-r) 0 (by omega) (go (r:=?_)) (fun r hr=>?_)
  ·simp [part_zero]
  have hpl1:=part_len (fo 4 g l) 16 (r*4) 0
  refine go (r:=?_);and_intros<;>intros<;>try exact True.intro
  ·refine WpA.loop (fun k:Nat=>⟨[(0,LLn 4 M),(5,I 4),(6,.own 0 1 0 16),(7,.own 1 1 0 16),(11,I r),(76,I 4),(77,I r),(80,I 4),(81,I k)],[XD (tabL (fh 4 g l) 16),XD (part (fo 4 g l) 16 (r*4+k) 0)]⟩) (fun k=>k≤4) (fun k=>4-k) 0 (by omega) (go (r:=?_)) (fun k hk=>?_)
   ·trivial
   have hpl2:=part_len (fo 4 g l) 16 (r*4+k) 0
   refine go (r:=?_);and_intros<;>intros<;>try exact True.intro
   ·refine WpA.loop (fun i:Nat=>⟨[(0,LLn 4 M),(5,I 4),(6,.own 0 1 0 16),(7,.own 1 1 0 16),(11,I r),(12,I k),(76,I 4),(77,I r),(80,I 4),(81,I k),(84,I 4),(85,I i)],[XD (tabL (fh 4 g l) 16),XD (part (fo 4 g l) 16 (r*4+k) (so 4 g l r k i))]⟩) (fun i=>i≤4) (fun i=>4-i) 0 (by omega) (go (r:=?_)) (fun i hi=>?_)
    ·simp [sumF]
    have hpl3:=part_len (fo 4 g l) 16 (r*4+k) (so 4 g l r k i)
    have hM2r:=hM2 k
    have hsb:=so_bd (n:=4) hg h2 (by omega) r k i
    have hdm:=divmod (n:=4) (r:=r) (k:=k)
    have hdi:=divmod (n:=4) (r:=r) (k:=i)
    have hgl:=half_in (n:=4) hg h2 (by omega) r i
    have hgg:=mul_huge hgl (hg k i)
    have hst:so 4 g l r k (i+1)=so 4 g l r k i+halfM 4 g l r i*g k i:=rfl
    refine go (r:=?_);and_intros<;>intros<;>try exact True.intro
    ·rename_i hi1
     have hr1:r<4:=by omega
     have hk1:k<4:=by omega
     have e1:((r:Int)*4+k).toNat=r*4+k:=by omega
     have e2:((r:Int)*4+i).toNat=r*4+i:=by omega
     have e3:(M.getD k default).getD i 0=g k i:=hM3 k i hk1 (by omega)
     have e4:(tabL (fh 4 g l) 16).getD (r*4+i) 0=halfM 4 g l r i:=by rw [tabL_get (by omega)];show halfM 4 g l ((r*4+i)/4) ((r*4+i)%4)=_;rw [(hdi (by omega)).1,(hdi (by omega)).2]
     rw [e1,e2,e3,e4,part_get (by omega),part_set (by omega),wrap64 (halfM 4 g l r i*g k i) (by omega),wrap64 _ (by omega),hst]
    ·have hi1:i=4:=by omega
     subst hi1
     rw [←Nat.add_assoc];exact part_next (by show so 4 g l r k 4=fullM 4 g l ((r*4+k)/4) ((r*4+k)%4);rw [(hdm (by omega)).1,(hdm (by omega)).2];rfl)
   ·have hk1:k=4:=by omega
    rw [hk1,Nat.succ_mul]
  all_goals have hr1:r=4:=by omega
  all_goals subst hr1
  all_goals first|(rw [e,tabL_len];done)|(rw [e];exact congrArg _ (part_all _ _ _))|(rw [e];exact part_all _ _ _)
 ·have e:prodL 4 g l=[]:=by rw [prodL,if_neg h]
  refine FnC.of_body tabOk Tryz.func252 Tryz.ntmps252 rfl (by decide +kernel) (by simp) fun G=>?_
  refine goR (r:=?_);and_intros<;>intros<;>try exact True.intro
  all_goals first|(rw [e];done)|(rw [e];rfl)|(exact absurd ⟨by omega,by assumption⟩ h)
theorem product_8 (g:Nat→Nat→Int) (M:List (List Int)) (l:List Int) (hg:Sgn g) (hM:RowsOk 8 g M) (hl:l.length≤1099511627776):Fn 252 [LLn 8 M,IL l] [XI (prodL 8 g l)] (.own 0 0 0 (prodL 8 g l).length):=by
 obtain ⟨hM1,hM2,hM3⟩:=hM
 have hpl:=prodL_len 8 g l
 by_cases h:l.length=64∧In l (-1000000000) 1000000000
 ·obtain ⟨h1,h2⟩:=id h
  have e:prodL 8 g l=tabL (fo 8 g l) 64:=by rw [prodL,if_pos h];rfl
  refine FnC.of_body tabOk Tryz.func252 Tryz.ntmps252 rfl (by decide +kernel) (by simp) fun G=>?_
  refine goR (r:=?_);and_intros<;>intros<;>try exact True.intro
  all_goals first|(exfalso;omega)|(exact absurd h2 (by assumption))|skip
  apply WpA.regionQ0 (O1:=[XD (List.replicate 64 0),XD (List.replicate 64 0),deadO,deadO]) 9 2 mixed (by decide +kernel)
  ·exact rfl
  ·apply HeadQ.consF .none rfl
   ·exact rfl
   ·exact in1
   ·exact rfl
   ·exact rfl
   apply HeadQ.consF .none rfl
   ·exact rfl
   ·exact in1
   ·exact rfl
   ·exact rfl
   apply HeadQ.consF .none rfl
   ·exact rfl
   ·exact in1
   ·exact rfl
   ·exact rfl
   apply HeadQ.consF (V:=.own 0 1 0 64) (.put 0 (XD (List.replicate 64 0))) rfl
   ·exact rfl
   ·intro Tv Ov hc hp hd hk
    refine WpL.makeInts tabOk rfl rfl rfl (by decide) (by decide) (by rw [nid_len,Nat.zero_add]) (by decide) ?_
    apply WpL.putNil (p:=0)
    ·exact hp 0 _ rfl
    ·exact Nat.zero_le _
    ·exact rfl
    ·first|exact still_ints _|exact still_rows (fun _=>rfl) _|rfl
   ·exact rfl
   ·exact rfl
   apply HeadQ.consF .none rfl
   ·exact rfl
   ·exact in1
   ·exact rfl
   ·exact rfl
   apply HeadQ.consF .none rfl
   ·exact rfl
   ·exact in1
   ·exact rfl
   ·exact rfl
   apply HeadQ.consF .none rfl
   ·exact rfl
   ·exact in1
   ·exact rfl
   ·exact rfl
   apply HeadQ.consF (V:=.own 1 1 0 64) (.put 1 (XD (List.replicate 64 0))) rfl
   ·exact rfl
   ·intro Tv Ov hc hp hd hk
    refine WpL.makeInts tabOk rfl rfl rfl (by decide) (by decide) (by rw [nid_len,Nat.zero_add]) (by decide) ?_
    apply WpL.putNil (p:=1)
    ·exact hp 1 _ rfl
    ·exact Nat.zero_le _
    ·exact rfl
    ·first|exact still_ints _|exact still_rows (fun _=>rfl) _|rfl
   ·exact rfl
   ·exact rfl
   apply HeadQ.consF .none rfl
   ·exact rfl
   ·exact in1
   ·exact rfl
   ·exact rfl
   exact HeadQ.nil
  ·exact rfl
  ·exact rfl
  ·exact rfl
  ·exact rfl
  ·exact rfl
  ·exact rfl
  refine go (r:=?_);and_intros<;>intros<;>try exact True.intro
  refine WpA.loop (fun r:Nat=>⟨[(0,LLn 8 M),(1,IL l),(5,I 8),(6,.own 0 1 0 64),(7,.own 1 1 0 64),(35,I 8),(36,I r)],[XD (part (fh 8 g l) 64 (r*8) 0),XD (List.replicate 64 0)]⟩) (fun r=>r≤8) (fun r=>8-r) 0 (by omega) (go (r:=?_)) (fun r hr=>?_)
  ·simp [part_zero]
  have hpl1:=part_len (fh 8 g l) 64 (r*8) 0
  refine go (r:=?_);and_intros<;>intros<;>try exact True.intro
  ·refine WpA.loop (fun k:Nat=>⟨[(0,LLn 8 M),(1,IL l),(5,I 8),(6,.own 0 1 0 64),(7,.own 1 1 0 64),(8,I r),(35,I 8),(36,I r),(39,I 8),(40,I k)],[XD (part (fh 8 g l) 64 (r*8+k) 0),XD (List.replicate 64 0)]⟩) (fun k=>k≤8) (fun k=>8-k) 0 (by omega) (go (r:=?_)) (fun k hk=>?_)
   ·trivial
   have hpl2:=part_len (fh 8 g l) 64 (r*8+k) 0
   refine go (r:=?_);and_intros<;>intros<;>try exact True.intro
   ·refine WpA.loop (fun i:Nat=>⟨[(0,LLn 8 M),(1,IL l),(5,I 8),(6,.own 0 1 0 64),(7,.own 1 1 0 64),(8,I r),(9,I k),(35,I 8),(36,I r),(39,I 8),(40,I k),(43,I 8),(44,I i)],[XD (part (fh 8 g l) 64 (r*8+k) (sh 8 g l r k i)),XD (List.replicate 64 0)]⟩) (fun i=>i≤8) (fun i=>8-i) 0 (by omega) (go (r:=?_)) (fun i hi=>?_)
    ·simp [sumF]
    have hpl3:=part_len (fh 8 g l) 64 (r*8+k) (sh 8 g l r k i)
    have hM2r:=hM2 r
    have hsb:-((i:Int)*(2*1000000000))≤sh 8 g l r k i∧sh 8 g l r k i≤(i:Int)*(2*1000000000):=half_bd (n:=8) (g:=g) (l:=l) (c:=1000000000) hg h2 (by omega) r k i
    have hdm:=divmod (n:=8) (r:=r) (k:=k)
    have hgl:=in_getZ h2 (by decide) (i*8+k)
    have hgg:=mul2 (hg r i) hgl (by decide)
    have hst:sh 8 g l r k (i+1)=sh 8 g l r k i+g r i*l.getD (i*8+k) 0:=rfl
    refine go (r:=?_);and_intros<;>intros<;>try exact True.intro
    ·rename_i hi1
     have hr1:r<8:=by omega
     have hk1:k<8:=by omega
     have e1:((r:Int)*8+k).toNat=r*8+k:=by omega
     have e2:((i:Int)*8+k).toNat=i*8+k:=by omega
     have e3:(M.getD r default).getD i 0=g r i:=hM3 r i hr1 (by omega)
     rw [e1,e2,e3,part_get (by omega),part_set (by omega),wrap64 (g r i*l.getD (i*8+k) 0) (by omega),wrap64 _ (by omega),hst]
    ·have hi1:i=8:=by omega
     subst hi1
     rw [←Nat.add_assoc];exact part_next (by show sh 8 g l r k 8=halfM 8 g l ((r*8+k)/8) ((r*8+k)%8);rw [(hdm (by omega)).1,(hdm (by omega)).2];rfl)
   ·have hk1:k=8:=by omega
    rw [hk1,Nat.succ_mul]
  have hr1:r=8:=by omega
  subst hr1
  have ep:part (fh 8 g l) 64 (8*8) 0=tabL (fh 8 g l) 64:=part_all _ _ _
  rw [ep]
  have hplh:=tabL_len (fh 8 g l) 64
  refine WpA.loop (fun r:Nat=>⟨[(0,LLn 8 M),(5,I 8),(6,.own 0 1 0 64),(7,.own 1 1 0 64),(76,I 8),(77,I r)],[XD (tabL (fh 8 g l) 64),XD (part (fo 8 g l) 64 (r*8) 0)]⟩) (fun r=>r≤8) (fun r=>8-r) 0 (by omega) (go (r:=?_)) (fun r hr=>?_)
  ·simp [part_zero]
  have hpl1:=part_len (fo 8 g l) 64 (r*8) 0
  refine go (r:=?_);and_intros<;>intros<;>try exact True.intro
  ·refine WpA.loop (fun k:Nat=>⟨[(0,LLn 8 M),(5,I 8),(6,.own 0 1 0 64),(7,.own 1 1 0 64),(11,I r),(76,I 8),(77,I r),(80,I 8),(81,I k)],[XD (tabL (fh 8 g l) 64),XD (part (fo 8 g l) 64 (r*8+k) 0)]⟩) (fun k=>k≤8) (fun k=>8-k) 0 (by omega) (go (r:=?_)) (fun k hk=>?_)
   ·trivial
   have hpl2:=part_len (fo 8 g l) 64 (r*8+k) 0
   refine go (r:=?_);and_intros<;>intros<;>try exact True.intro
   ·refine WpA.loop (fun i:Nat=>⟨[(0,LLn 8 M),(5,I 8),(6,.own 0 1 0 64),(7,.own 1 1 0 64),(11,I r),(12,I k),(76,I 8),(77,I r),(80,I 8),(81,I k),(84,I 8),(85,I i)],[XD (tabL (fh 8 g l) 64),XD (part (fo 8 g l) 64 (r*8+k) (so 8 g l r k i))]⟩) (fun i=>i≤8) (fun i=>8-i) 0 (by omega) (go (r:=?_)) (fun i hi=>?_)
    ·simp [sumF]
    have hpl3:=part_len (fo 8 g l) 64 (r*8+k) (so 8 g l r k i)
    have hM2r:=hM2 k
    have hsb:=so_bd (n:=8) hg h2 (by omega) r k i
    have hdm:=divmod (n:=8) (r:=r) (k:=k)
    have hdi:=divmod (n:=8) (r:=r) (k:=i)
    have hgl:=half_in (n:=8) hg h2 (by omega) r i
    have hgg:=mul_huge hgl (hg k i)
    have hst:so 8 g l r k (i+1)=so 8 g l r k i+halfM 8 g l r i*g k i:=rfl
    refine go (r:=?_);and_intros<;>intros<;>try exact True.intro
    ·rename_i hi1
     have hr1:r<8:=by omega
     have hk1:k<8:=by omega
     have e1:((r:Int)*8+k).toNat=r*8+k:=by omega
     have e2:((r:Int)*8+i).toNat=r*8+i:=by omega
     have e3:(M.getD k default).getD i 0=g k i:=hM3 k i hk1 (by omega)
     have e4:(tabL (fh 8 g l) 64).getD (r*8+i) 0=halfM 8 g l r i:=by rw [tabL_get (by omega)];show halfM 8 g l ((r*8+i)/8) ((r*8+i)%8)=_;rw [(hdi (by omega)).1,(hdi (by omega)).2]
     rw [e1,e2,e3,e4,part_get (by omega),part_set (by omega),wrap64 (halfM 8 g l r i*g k i) (by omega),wrap64 _ (by omega),hst]
    ·have hi1:i=8:=by omega
     subst hi1
     rw [←Nat.add_assoc];exact part_next (by show so 8 g l r k 8=fullM 8 g l ((r*8+k)/8) ((r*8+k)%8);rw [(hdm (by omega)).1,(hdm (by omega)).2];rfl)
   ·have hk1:k=8:=by omega
    rw [hk1,Nat.succ_mul]
  all_goals have hr1:r=8:=by omega
  all_goals subst hr1
  all_goals first|(rw [e,tabL_len];done)|(rw [e];exact congrArg _ (part_all _ _ _))|(rw [e];exact part_all _ _ _)
 ·have e:prodL 8 g l=[]:=by rw [prodL,if_neg h]
  refine FnC.of_body tabOk Tryz.func252 Tryz.ntmps252 rfl (by decide +kernel) (by simp) fun G=>?_
  refine goR (r:=?_);and_intros<;>intros<;>try exact True.intro
  all_goals first|(rw [e];done)|(rw [e];rfl)|(exact absurd ⟨by omega,by assumption⟩ h)
end Go.Proofs.YtainhhfnnclfiaaGreat


namespace Go.Proofs.YtainhhfnnclfiaaGreat
open Go Go.Abs
attribute [local irreducible] WpA WpL Rnd Blk Abs.Seq Abs.Fin Abs.FinG FnC FnG Only RollN
def ocF (x:Int):Int:=if x=1∨x=2∨x=4 then 1 else if x=3∨x=5∨x=6 then 2 else if x=7 then 3 else 0
instance OnesCount64_c:Con 299 (∀ x:Int,0≤x∧x<8→Fn 299 [.sc (.int .u64 x)] [] (I (ocF x))):=⟨fun x hx=>by
 rcases (by omega:x=0∨x=1∨x=2∨x=3∨x=4∨x=5∨x=6∨x=7) with rfl|rfl|rfl|rfl|rfl|rfl|rfl|rfl
 all_goals refine FnC.of_body tabOk Tryz.func299 Tryz.ntmps299 rfl (by decide +kernel) (by simp) fun G=>?_
 all_goals refine go (r:=?_);and_intros<;>intros<;>try exact True.intro
 all_goals first|(decide +kernel)|rfl|(apply Re.setA (c:=cellsH r) (V:=.own 2 _ 0 _) (V':=.own 2 _ 0 _);(· apply Re.own (id:=2)<;>first|exact rfl|exact .nil);exact hst)⟩
instance OnesCount_c:Con 285 (∀ x:Int,0≤x∧x<8→Fn 285 [.sc (.int .u64 x)] [] (I (ocF x))):=⟨fun x hx=>by
 refine FnC.of_body tabOk Tryz.func285 Tryz.ntmps285 rfl (by decide +kernel) (by simp) fun G=>?_
 refine go (r:=?_);and_intros<;>intros<;>try exact True.intro⟩
theorem ocF_bd (x:Int):0≤ocF x∧ocF x≤3:=by unfold ocF;split<;>(try split)<;>(try split)<;>omega
theorem ocF_par (b:Nat) (h:b<8):1-2*(ocF b%2)=par b:=by
 rcases (by omega:b=0∨b=1∨b=2∨b=3∨b=4∨b=5∨b=6∨b=7) with rfl|rfl|rfl|rfl|rfl|rfl|rfl|rfl<;>rfl
def cellsH (r:Nat):List AV:=(List.range 8).map fun q=>if q<r then .fre 1 8 (ints (tabL (mx 8 q) 8)) else .nilS
theorem andu (r k:Nat) (h:r<8) (h2:k<8):IntKind.u64.wrap (IntKind.i64.wrap ((BitVec.ofInt IntKind.i64.bits (r:Int) &&& BitVec.ofInt IntKind.i64.bits (k:Int)).toNat:Nat))=((r &&& k:Nat):Int)∧r &&& k<8:=by
 have:=Nat.and_le_left (n:=r) (m:=k)
 rw [andw r k (by omega) (by omega)]
 refine ⟨?_,by omega⟩
 generalize r &&& k=b at this
 have hb:b<8:=by omega
 rcases (by omega:b=0∨b=1∨b=2∨b=3∨b=4∨b=5∨b=6∨b=7) with rfl|rfl|rfl|rfl|rfl|rfl|rfl|rfl<;>rfl
def invH (r:Nat):Nat→List AObj
 |0=>[⟨(cellsH r).set r .nilS,0,1,some 32⟩]
 |k+1=>[⟨(cellsH r).set r (.own 2 0 0 (k+1)),0,1,some 32⟩,⟨[.any],0,1,none⟩,XI (tabL (mx 8 r) (k+1))]
theorem cellsH_nil {r:Nat} (h:r<8):cellsH r=(cellsH r).set r .nilS:=by
 rcases (by omega:r=0∨r=1∨r=2∨r=3∨r=4∨r=5∨r=6∨r=7) with rfl|rfl|rfl|rfl|rfl|rfl|rfl|rfl<;>rfl
theorem cellsH_succ {r:Nat} (h:r<8) (X:AV):((cellsH r).set r X).set r (.fre 1 8 (ints (tabL (mx 8 r) 8)))=cellsH (r+1):=by
 rcases (by omega:r=0∨r=1∨r=2∨r=3∨r=4∨r=5∨r=6∨r=7) with rfl|rfl|rfl|rfl|rfl|rfl|rfl|rfl<;>rfl
theorem hnest {r:Nat} (h:r<8):flatO [⟨((cellsH r).set r (.own 2 0 0 8)).set r (.fre 1 8 (ints (tabL (mx 8 r) 8))),0,1,some 32⟩,⟨[.any],0,1,none⟩,⟨[],1,0,none⟩]=some [⟨cellsH (r+1),0,1,some 32⟩,⟨[.any],0,1,none⟩,⟨[],1,0,none⟩]:=by
 rw [cellsH_succ h];rfl
theorem Re.consA {O O':List AObj} {V V':AV} {vs us:List AV} (h:Re O O' [V] [V']) (r:Re O O' vs us):Re O O' (V::vs) (V'::us):=by
 cases h with
 |any _=>exact .any r
 |keep a b _=>exact .keep a b r
 |fn a _=>exact .fn a r
 |own a b c d e f _=>exact .own a b c d e f r
 |ptr a b c d _=>exact .ptr a b c d r
 |agg a _=>exact .agg a r
 |tup a _=>exact .tup a r
theorem Re.setA {O O':List AObj} {V V':AV} (h:Re O O' [V] [V']):∀{c:List AV} {i:Nat},c.all AV.still=true→Re O O' (c.set i V) (c.set i V')
 |[],i,_=>.nil
 |a::c,0,hs=>Re.consA h (Re.same rfl (by rw [List.all_cons,Bool.and_eq_true] at hs;exact hs.2))
 |a::c,i+1,hs=>by
  rw [List.all_cons,Bool.and_eq_true] at hs
  exact Re.keep rfl hs.1 (Re.setA h hs.2)
theorem cellsH_still (r:Nat):(cellsH r).all AV.still=true:=by
 rw [List.all_eq_true];intro V hV;simp only [cellsH,List.mem_map] at hV;obtain ⟨q,_,rfl⟩:=hV
 split<;>rfl
theorem cellsH_len (r:Nat):(cellsH r).length=8:=by simp [cellsH]
theorem cellsH_8:cellsH 8=rows liF H8:=rfl
theorem cellsH_0:cellsH 0=[.nilS,.nilS,.nilS,.nilS,.nilS,.nilS,.nilS,.nilS]:=rfl
attribute [local irreducible] cellsH
instance matrixH_c:Con 254 (Fn 254 [] [⟨rows liF H8,0,1,some 32⟩] (.own 0 0 0 8)):=⟨by
 refine FnC.of_body tabOk Tryz.func254 Tryz.ntmps254 rfl (by decide +kernel) (by simp) fun G=>?_
 refine K.A ?_
 refine WpA.seq ?_
 refine WpA.regionF rfl ?_
 refine WpL.assign rfl (by decide) ?_
 refine WpL.nil ?_
 refine Abs.Seq.n ?_
 refine WpA.seq ?_
 refine WpA.regionF rfl ?_
 refine WpL.make tabOk rfl rfl rfl (by decide) (by decide) rfl (by decide) ?_
 refine go (r:=?_);and_intros<;>intros<;>try exact True.intro
 refine WpA.loop (fun r:Nat=>⟨[(1,.own 0 0 0 8),(5,I r)],[⟨cellsH r,0,1,some 32⟩]⟩) (fun r=>r≤8) (fun r=>8-r) 0 (by omega) (go (r:=?_)) (fun r hr=>?_)
 ·and_intros<;>first|trivial|rfl|exact .nil|exact .inr rfl|exact Re.same cellsH_0.symm (cellsH_still 0)
 by_cases h8:r=8
 ·subst h8
  refine go (r:=?_);and_intros<;>intros<;>try exact True.intro
  all_goals first|exact cellsH_8
 have hr8:r<8:=by omega
 have hcl:=cellsH_len r
 have hst:=cellsH_still r
 have hc0:=cellsH_nil hr8
 refine go (r:=?_);and_intros<;>intros<;>try exact True.intro
 refine WpA.loop (fun k:Nat=>⟨[(1,.own 0 0 0 8),(2,I r),(5,I r),(8,I k)],invH r k⟩) (fun k=>k≤8) (fun k=>8-k) 0 (by omega) (go (r:=?_)) (fun k hk=>?_)
 ·and_intros<;>first|trivial|rfl|exact .nil|exact .inr rfl|(exact hc0)|exact Re.same hc0 (by rw [←hc0];exact hst)
 by_cases hk8:k=8
 ·subst hk8
  refine WpA.weak (NestC.weak (id:=0) (offs:=[r]) (O2:=[⟨cellsH (r+1),0,1,some 32⟩,⟨[.any],0,1,none⟩,⟨[],1,0,none⟩]) ?_) ?_
  ·apply NestC.cons (off:=r) (j:=2) (O1:=[⟨cellsH (r+1),0,1,some 32⟩,⟨[.any],0,1,none⟩,⟨[],1,0,none⟩])
   ·exact rfl
   ·exact List.getElem?_set_self (by omega)
   ·exact rfl
   ·exact rfl
   ·decide
   ·exact rfl
   ·exact still_ints _
   ·exact rfl
   ·exact hnest hr8
   ·exact .nil
  have hst1:=cellsH_still (r+1)
  refine go (r:=?_);and_intros<;>intros<;>try exact True.intro
  all_goals first|exact Re.same rfl hst1
 obtain ⟨hau,hal⟩:=andu r k (by omega) (by omega)
 have hob:=ocF_bd (IntKind.u64.wrap (IntKind.i64.wrap ((BitVec.ofInt IntKind.i64.bits ((r:Nat):Int) &&& BitVec.ofInt IntKind.i64.bits (k:Int)).toNat:Nat)))
 have hop:=ocF_par (r &&& k) hal
 have hkl:=tabL_len (mx 8 r) k
 have hval:1-2*(ocF (IntKind.u64.wrap (IntKind.i64.wrap ((BitVec.ofInt IntKind.i64.bits ((r:Nat):Int) &&& BitVec.ofInt IntKind.i64.bits (k:Int)).toNat:Nat)))%2)=mx 8 r k:=by rw [hau];exact hop
 rcases k with _|k
 ·refine go (r:=?_);and_intros<;>intros<;>try exact True.intro
  all_goals first|exact Re.any Re.nil|exact .inl rfl|(rw [hval];rfl)|(apply Re.setA (c:=cellsH r) (V:=.own 2 _ 0 _) (V':=.own 2 _ 0 _);(· apply Re.own (id:=2)<;>first|exact rfl|exact .nil);exact hst)|exact Re.same rfl hst
 ·refine go (r:=?_);and_intros<;>intros<;>try exact True.intro
  all_goals first|(rw [tabL_snoc _ (k+1),hval];done)|exact Re.any Re.nil|(apply Re.setA (c:=cellsH r) (V:=.own 2 _ 0 _) (V':=.own 2 _ 0 _);(· apply Re.own (id:=2)<;>first|exact rfl|exact .nil);exact hst)|(apply Re.setA (c:=cellsH r) (V:=.own 2 _ 0 _) (V':=.own 2 _ 0 _);(· apply Re.own (id:=2)<;>first|exact rfl|exact .nil);exact hst)⟩
end Go.Proofs.YtainhhfnnclfiaaGreat


namespace Go.Proofs.YtainhhfnnclfiaaGreat
open Go Go.Abs
attribute [local irreducible] WpA WpL Rnd Blk Abs.Seq Abs.Fin Abs.FinG FnC FnG Only
def pm (n:Nat) (back:Bool) (r i q:Nat):Bool:=if back then decide (q%n<r∨(q%n=r∧q/n<i)) else decide (q/n<r∨(q/n=r∧q%n<i))
abbrev fm (n:Nat) (back:Bool) (q:Nat):Int:=mg n back (q/n) (q%n)
theorem pmset_4 (back:Bool) (r i:Nat) (hr:r<4) (hi:i<4):(msk (pm 4 back r i) (fm 4 back) 16).set (if back then i*4+r else r*4+i) (mx 4 r i)=msk (pm 4 back r (i+1)) (fm 4 back) 16:=by
 cases back with
 |true=>
  refine msk_set (by show i*4+r<16;omega) ?_ fun q hq=>?_
  ·show mx 4 r i=mx 4 ((i*4+r)%4) ((i*4+r)/4);rw [(divmod hr).1,(divmod hr).2]
  ·simp only [pm,if_true,decide_eq_true_eq];omega
 |false=>
  refine msk_set (by show r*4+i<16;omega) ?_ fun q hq=>?_
  ·show mx 4 r i=mx 4 ((r*4+i)/4) ((r*4+i)%4);rw [(divmod hi).1,(divmod hi).2]
  ·simp only [pm,Bool.false_eq_true,if_false,decide_eq_true_eq];omega
theorem pmnext_4 (back:Bool) (r:Nat):msk (pm 4 back r 4) (fm 4 back) 16=msk (pm 4 back (r+1) 0) (fm 4 back) 16:=by
 refine msk_same fun q hq=>?_
 cases back<;>simp only [pm,if_true,Bool.false_eq_true,if_false,decide_eq_true_eq]<;>omega
theorem pmzero_4 (back:Bool):msk (pm 4 back 0 0) (fm 4 back) 16=List.replicate 16 0:=by
 refine msk_none fun q hq=>?_
 cases back<;>simp [pm]
theorem pmall_4 (back:Bool):msk (pm 4 back 4 0) (fm 4 back) 16=tabL (fm 4 back) 16:=by
 refine msk_all fun q hq=>?_
 cases back<;>simp only [pm,if_true,Bool.false_eq_true,if_false,decide_eq_true_eq]<;>omega
theorem fmget_4 (back:Bool) (r i:Nat) (hr:r<4) (hi:i<4):(tabL (fm 4 back) 16).getD (r*4+i) 0=mg 4 back r i:=by
 rw [tabL_get (by omega)];show mg 4 back ((r*4+i)/4) ((r*4+i)%4)=_;rw [(divmod hi).1,(divmod hi).2]
theorem l12Mul_4 (back:Bool) (l:List Int) (h:l.length=16∧In l (-1000000000) 1000000000):Fn 274 [IL l,I 4,B back] [XI (mulM 4 (mg 4 back) l)] (.own 0 0 0 16):=by
 obtain ⟨h1,h2⟩:=h
 have hg:Sgn (mg 4 back):=fun r i=>mg_val 4 back r i
 have e:mulM 4 (mg 4 back) l=tabL (fo 4 (mg 4 back) l) 16:=rfl
 refine FnC.of_body tabOk Tryz.func274 Tryz.ntmps274 rfl (by decide +kernel) (by simp) fun G=>?_
 refine go (r:=?_);and_intros<;>intros<;>try exact True.intro
 refine WpA.loop (fun r:Nat=>⟨[(0,IL l),(1,I 4),(2,B back),(7,.own 0 0 0 16),(8,I r)],[XI (msk (pm 4 back r 0) (fm 4 back) 16)]⟩) (fun r=>r≤4) (fun r=>4-r) 0 (by omega) (go (r:=?_)) (fun r hr=>?_)
 ·rw [pmzero_4];and_intros<;>first|trivial|rfl
 have hpl1:=msk_len (pm 4 back r 0) (fm 4 back) 16
 have hrl:=tabL_len (mx 4 r) 4
 refine go (r:=?_);and_intros<;>intros<;>try exact True.intro
 ·refine WpA.loop (fun i:Nat=>⟨[(0,IL l),(1,I 4),(2,B back),(7,.own 0 0 0 16),(8,I r),(9,.own 1 0 0 4),(10,I i)],[XI (msk (pm 4 back r i) (fm 4 back) 16),IN (tabL (mx 4 r) 4)]⟩) (fun i=>i≤4) (fun i=>4-i) 0 (by omega) (go (r:=?_)) (fun i hi=>?_)
  ·trivial
  have hpl2:=msk_len (pm 4 back r i) (fm 4 back) 16
  have hps:=pmset_4 back r i
  have hrg:i<4→(tabL (mx 4 r) 4).getD i 0=mx 4 r i:=fun h=>tabL_get h
  refine go (r:=?_);and_intros<;>intros<;>try exact True.intro
  ·rename_i hb
   subst hb
   rw [Int.toNat_natCast,hrg (by omega),show ((i:Int)*4+r).toNat=i*4+r by omega];exact hps (by omega) (by omega)
  ·rename_i hb
   subst hb
   rw [Int.toNat_natCast,hrg (by omega),show ((r:Int)*4+i).toNat=r*4+i by omega];exact hps (by omega) (by omega)
  ·have hi1:i=4:=by omega
   subst hi1;exact pmnext_4 back r
 have hr1:r=4:=by omega
 subst hr1
 rw [pmall_4]
 have hplh:=tabL_len (fm 4 back) 16
 refine WpA.loop (fun r:Nat=>⟨[(0,IL l),(1,I 4),(7,.own 0 0 0 16),(11,.own 1 0 0 16),(12,.own 2 0 0 16),(13,I r)],[XI (tabL (fm 4 back) 16),XI (part (fh 4 (mg 4 back) l) 16 (r*4) 0),XI (List.replicate 16 0)]⟩) (fun r=>r≤4) (fun r=>4-r) 0 (by omega) (go (r:=?_)) (fun r hr=>?_)
 ·simp [part_zero]
 have hpl1:=part_len (fh 4 (mg 4 back) l) 16 (r*4) 0
 refine go (r:=?_);and_intros<;>intros<;>try exact True.intro
 ·refine WpA.loop (fun k:Nat=>⟨[(0,IL l),(1,I 4),(7,.own 0 0 0 16),(11,.own 1 0 0 16),(12,.own 2 0 0 16),(13,I r),(14,I k)],[XI (tabL (fm 4 back) 16),XI (part (fh 4 (mg 4 back) l) 16 (r*4+k) 0),XI (List.replicate 16 0)]⟩) (fun k=>k≤4) (fun k=>4-k) 0 (by omega) (go (r:=?_)) (fun k hk=>?_)
  ·trivial
  have hpl2:=part_len (fh 4 (mg 4 back) l) 16 (r*4+k) 0
  refine go (r:=?_);and_intros<;>intros<;>try exact True.intro
  ·refine WpA.loop (fun i:Nat=>⟨[(0,IL l),(1,I 4),(7,.own 0 0 0 16),(11,.own 1 0 0 16),(12,.own 2 0 0 16),(13,I r),(14,I k),(15,I i)],[XI (tabL (fm 4 back) 16),XI (part (fh 4 (mg 4 back) l) 16 (r*4+k) (sh 4 (mg 4 back) l r k i)),XI (List.replicate 16 0)]⟩) (fun i=>i≤4) (fun i=>4-i) 0 (by omega) (go (r:=?_)) (fun i hi=>?_)
   ·simp [sumF]
   have hpl3:=part_len (fh 4 (mg 4 back) l) 16 (r*4+k) (sh 4 (mg 4 back) l r k i)
   have hsb:-((i:Int)*(2*1000000000))≤sh 4 (mg 4 back) l r k i∧sh 4 (mg 4 back) l r k i≤(i:Int)*(2*1000000000):=half_bd (n:=4) (g:=(mg 4 back)) (l:=l) (c:=1000000000) hg h2 (by omega) r k i
   have hdm:=divmod (n:=4) (r:=r) (k:=k)
   have hgl:=in_getZ h2 (by decide) (i*4+k)
   have hgg:=mul2 (hg r i) hgl (by decide)
   have hst:sh 4 (mg 4 back) l r k (i+1)=sh 4 (mg 4 back) l r k i+(mg 4 back) r i*l.getD (i*4+k) 0:=rfl
   refine go (r:=?_);and_intros<;>intros<;>try exact True.intro
   ·rename_i hi1
    have e1:((r:Int)*4+k).toNat=r*4+k:=by omega
    have e2:((i:Int)*4+k).toNat=i*4+k:=by omega
    have e4:((r:Int)*4+i).toNat=r*4+i:=by omega
    rw [e1,e2,e4,fmget_4 back r i (by omega) (by omega),part_get (by omega),part_set (by omega),wrap64 ((mg 4 back) r i*l.getD (i*4+k) 0) (by omega),wrap64 _ (by omega),hst]
   ·have hi1:i=4:=by omega
    subst hi1
    rw [←Nat.add_assoc];exact part_next (by show sh 4 (mg 4 back) l r k 4=halfM 4 (mg 4 back) l ((r*4+k)/4) ((r*4+k)%4);rw [(hdm (by omega)).1,(hdm (by omega)).2];rfl)
  ·have hk1:k=4:=by omega
   rw [hk1,Nat.succ_mul]
 have hr1:r=4:=by omega
 subst hr1
 have ep:part (fh 4 (mg 4 back) l) 16 (4*4) 0=tabL (fh 4 (mg 4 back) l) 16:=part_all _ _ _
 rw [ep]
 have hplh2:=tabL_len (fh 4 (mg 4 back) l) 16
 refine WpA.loop (fun r:Nat=>⟨[(1,I 4),(7,.own 0 0 0 16),(11,.own 1 0 0 16),(12,.own 2 0 0 16),(16,I r)],[XI (tabL (fm 4 back) 16),XI (tabL (fh 4 (mg 4 back) l) 16),XI (part (fo 4 (mg 4 back) l) 16 (r*4) 0)]⟩) (fun r=>r≤4) (fun r=>4-r) 0 (by omega) (go (r:=?_)) (fun r hr=>?_)
 ·simp [part_zero]
 have hpl1:=part_len (fo 4 (mg 4 back) l) 16 (r*4) 0
 refine go (r:=?_);and_intros<;>intros<;>try exact True.intro
 ·refine WpA.loop (fun k:Nat=>⟨[(1,I 4),(7,.own 0 0 0 16),(11,.own 1 0 0 16),(12,.own 2 0 0 16),(16,I r),(17,I k)],[XI (tabL (fm 4 back) 16),XI (tabL (fh 4 (mg 4 back) l) 16),XI (part (fo 4 (mg 4 back) l) 16 (r*4+k) 0)]⟩) (fun k=>k≤4) (fun k=>4-k) 0 (by omega) (go (r:=?_)) (fun k hk=>?_)
  ·trivial
  have hpl2:=part_len (fo 4 (mg 4 back) l) 16 (r*4+k) 0
  refine go (r:=?_);and_intros<;>intros<;>try exact True.intro
  ·refine WpA.loop (fun i:Nat=>⟨[(1,I 4),(7,.own 0 0 0 16),(11,.own 1 0 0 16),(12,.own 2 0 0 16),(16,I r),(17,I k),(18,I i)],[XI (tabL (fm 4 back) 16),XI (tabL (fh 4 (mg 4 back) l) 16),XI (part (fo 4 (mg 4 back) l) 16 (r*4+k) (so 4 (mg 4 back) l r k i))]⟩) (fun i=>i≤4) (fun i=>4-i) 0 (by omega) (go (r:=?_)) (fun i hi=>?_)
   ·simp [sumF]
   have hpl3:=part_len (fo 4 (mg 4 back) l) 16 (r*4+k) (so 4 (mg 4 back) l r k i)
   have hsb:=so_bd (n:=4) hg h2 (by omega) r k i
   have hdm:=divmod (n:=4) (r:=r) (k:=k)
   have hdi:=divmod (n:=4) (r:=r) (k:=i)
   have hgl:=half_in (n:=4) hg h2 (by omega) r i
   have hgg:=mul_huge hgl (hg k i)
   have hst:so 4 (mg 4 back) l r k (i+1)=so 4 (mg 4 back) l r k i+halfM 4 (mg 4 back) l r i*(mg 4 back) k i:=rfl
   refine go (r:=?_);and_intros<;>intros<;>try exact True.intro
   ·rename_i hi1
    have e1:((r:Int)*4+k).toNat=r*4+k:=by omega
    have e2:((r:Int)*4+i).toNat=r*4+i:=by omega
    have e3:((k:Int)*4+i).toNat=k*4+i:=by omega
    have e4:(tabL (fh 4 (mg 4 back) l) 16).getD (r*4+i) 0=halfM 4 (mg 4 back) l r i:=by rw [tabL_get (by omega)];show halfM 4 (mg 4 back) l ((r*4+i)/4) ((r*4+i)%4)=_;rw [(hdi (by omega)).1,(hdi (by omega)).2]
    rw [e1,e2,e3,e4,fmget_4 back k i (by omega) (by omega),part_get (by omega),part_set (by omega),wrap64 (halfM 4 (mg 4 back) l r i*(mg 4 back) k i) (by omega),wrap64 _ (by omega),hst]
   ·have hi1:i=4:=by omega
    subst hi1
    rw [←Nat.add_assoc];exact part_next (by show so 4 (mg 4 back) l r k 4=fullM 4 (mg 4 back) l ((r*4+k)/4) ((r*4+k)%4);rw [(hdm (by omega)).1,(hdm (by omega)).2];rfl)
  ·have hk1:k=4:=by omega
   rw [hk1,Nat.succ_mul]
 all_goals have hr1:r=4:=by omega
 all_goals subst hr1
 all_goals first|(rw [e];exact congrArg _ (part_all _ _ _))|(rw [e];exact part_all _ _ _)
theorem pmset_8 (back:Bool) (r i:Nat) (hr:r<8) (hi:i<8):(msk (pm 8 back r i) (fm 8 back) 64).set (if back then i*8+r else r*8+i) (mx 8 r i)=msk (pm 8 back r (i+1)) (fm 8 back) 64:=by
 cases back with
 |true=>
  refine msk_set (by show i*8+r<64;omega) ?_ fun q hq=>?_
  ·show mx 8 r i=mx 8 ((i*8+r)%8) ((i*8+r)/8);rw [(divmod hr).1,(divmod hr).2]
  ·simp only [pm,if_true,decide_eq_true_eq];omega
 |false=>
  refine msk_set (by show r*8+i<64;omega) ?_ fun q hq=>?_
  ·show mx 8 r i=mx 8 ((r*8+i)/8) ((r*8+i)%8);rw [(divmod hi).1,(divmod hi).2]
  ·simp only [pm,Bool.false_eq_true,if_false,decide_eq_true_eq];omega
theorem pmnext_8 (back:Bool) (r:Nat):msk (pm 8 back r 8) (fm 8 back) 64=msk (pm 8 back (r+1) 0) (fm 8 back) 64:=by
 refine msk_same fun q hq=>?_
 cases back<;>simp only [pm,if_true,Bool.false_eq_true,if_false,decide_eq_true_eq]<;>omega
theorem pmzero_8 (back:Bool):msk (pm 8 back 0 0) (fm 8 back) 64=List.replicate 64 0:=by
 refine msk_none fun q hq=>?_
 cases back<;>simp [pm]
theorem pmall_8 (back:Bool):msk (pm 8 back 8 0) (fm 8 back) 64=tabL (fm 8 back) 64:=by
 refine msk_all fun q hq=>?_
 cases back<;>simp only [pm,if_true,Bool.false_eq_true,if_false,decide_eq_true_eq]<;>omega
theorem fmget_8 (back:Bool) (r i:Nat) (hr:r<8) (hi:i<8):(tabL (fm 8 back) 64).getD (r*8+i) 0=mg 8 back r i:=by
 rw [tabL_get (by omega)];show mg 8 back ((r*8+i)/8) ((r*8+i)%8)=_;rw [(divmod hi).1,(divmod hi).2]
theorem l12Mul_8 (back:Bool) (l:List Int) (h:l.length=64∧In l (-1000000000) 1000000000):Fn 274 [IL l,I 8,B back] [XI (mulM 8 (mg 8 back) l)] (.own 0 0 0 64):=by
 obtain ⟨h1,h2⟩:=h
 have hg:Sgn (mg 8 back):=fun r i=>mg_val 8 back r i
 have e:mulM 8 (mg 8 back) l=tabL (fo 8 (mg 8 back) l) 64:=rfl
 refine FnC.of_body tabOk Tryz.func274 Tryz.ntmps274 rfl (by decide +kernel) (by simp) fun G=>?_
 refine go (r:=?_);and_intros<;>intros<;>try exact True.intro
 refine WpA.loop (fun r:Nat=>⟨[(0,IL l),(1,I 8),(2,B back),(7,.own 0 0 0 64),(8,I r)],[XI (msk (pm 8 back r 0) (fm 8 back) 64)]⟩) (fun r=>r≤8) (fun r=>8-r) 0 (by omega) (go (r:=?_)) (fun r hr=>?_)
 ·rw [pmzero_8];and_intros<;>first|trivial|rfl
 have hpl1:=msk_len (pm 8 back r 0) (fm 8 back) 64
 have hrl:=tabL_len (mx 8 r) 8
 refine go (r:=?_);and_intros<;>intros<;>try exact True.intro
 ·refine WpA.loop (fun i:Nat=>⟨[(0,IL l),(1,I 8),(2,B back),(7,.own 0 0 0 64),(8,I r),(9,.own 1 0 0 8),(10,I i)],[XI (msk (pm 8 back r i) (fm 8 back) 64),IN (tabL (mx 8 r) 8)]⟩) (fun i=>i≤8) (fun i=>8-i) 0 (by omega) (go (r:=?_)) (fun i hi=>?_)
  ·trivial
  have hpl2:=msk_len (pm 8 back r i) (fm 8 back) 64
  have hps:=pmset_8 back r i
  have hrg:i<8→(tabL (mx 8 r) 8).getD i 0=mx 8 r i:=fun h=>tabL_get h
  refine go (r:=?_);and_intros<;>intros<;>try exact True.intro
  ·rename_i hb
   subst hb
   rw [Int.toNat_natCast,hrg (by omega),show ((i:Int)*8+r).toNat=i*8+r by omega];exact hps (by omega) (by omega)
  ·rename_i hb
   subst hb
   rw [Int.toNat_natCast,hrg (by omega),show ((r:Int)*8+i).toNat=r*8+i by omega];exact hps (by omega) (by omega)
  ·have hi1:i=8:=by omega
   subst hi1;exact pmnext_8 back r
 have hr1:r=8:=by omega
 subst hr1
 rw [pmall_8]
 have hplh:=tabL_len (fm 8 back) 64
 refine WpA.loop (fun r:Nat=>⟨[(0,IL l),(1,I 8),(7,.own 0 0 0 64),(11,.own 1 0 0 64),(12,.own 2 0 0 64),(13,I r)],[XI (tabL (fm 8 back) 64),XI (part (fh 8 (mg 8 back) l) 64 (r*8) 0),XI (List.replicate 64 0)]⟩) (fun r=>r≤8) (fun r=>8-r) 0 (by omega) (go (r:=?_)) (fun r hr=>?_)
 ·simp [part_zero]
 have hpl1:=part_len (fh 8 (mg 8 back) l) 64 (r*8) 0
 refine go (r:=?_);and_intros<;>intros<;>try exact True.intro
 ·refine WpA.loop (fun k:Nat=>⟨[(0,IL l),(1,I 8),(7,.own 0 0 0 64),(11,.own 1 0 0 64),(12,.own 2 0 0 64),(13,I r),(14,I k)],[XI (tabL (fm 8 back) 64),XI (part (fh 8 (mg 8 back) l) 64 (r*8+k) 0),XI (List.replicate 64 0)]⟩) (fun k=>k≤8) (fun k=>8-k) 0 (by omega) (go (r:=?_)) (fun k hk=>?_)
  ·trivial
  have hpl2:=part_len (fh 8 (mg 8 back) l) 64 (r*8+k) 0
  refine go (r:=?_);and_intros<;>intros<;>try exact True.intro
  ·refine WpA.loop (fun i:Nat=>⟨[(0,IL l),(1,I 8),(7,.own 0 0 0 64),(11,.own 1 0 0 64),(12,.own 2 0 0 64),(13,I r),(14,I k),(15,I i)],[XI (tabL (fm 8 back) 64),XI (part (fh 8 (mg 8 back) l) 64 (r*8+k) (sh 8 (mg 8 back) l r k i)),XI (List.replicate 64 0)]⟩) (fun i=>i≤8) (fun i=>8-i) 0 (by omega) (go (r:=?_)) (fun i hi=>?_)
   ·simp [sumF]
   have hpl3:=part_len (fh 8 (mg 8 back) l) 64 (r*8+k) (sh 8 (mg 8 back) l r k i)
   have hsb:-((i:Int)*(2*1000000000))≤sh 8 (mg 8 back) l r k i∧sh 8 (mg 8 back) l r k i≤(i:Int)*(2*1000000000):=half_bd (n:=8) (g:=(mg 8 back)) (l:=l) (c:=1000000000) hg h2 (by omega) r k i
   have hdm:=divmod (n:=8) (r:=r) (k:=k)
   have hgl:=in_getZ h2 (by decide) (i*8+k)
   have hgg:=mul2 (hg r i) hgl (by decide)
   have hst:sh 8 (mg 8 back) l r k (i+1)=sh 8 (mg 8 back) l r k i+(mg 8 back) r i*l.getD (i*8+k) 0:=rfl
   refine go (r:=?_);and_intros<;>intros<;>try exact True.intro
   ·rename_i hi1
    have e1:((r:Int)*8+k).toNat=r*8+k:=by omega
    have e2:((i:Int)*8+k).toNat=i*8+k:=by omega
    have e4:((r:Int)*8+i).toNat=r*8+i:=by omega
    rw [e1,e2,e4,fmget_8 back r i (by omega) (by omega),part_get (by omega),part_set (by omega),wrap64 ((mg 8 back) r i*l.getD (i*8+k) 0) (by omega),wrap64 _ (by omega),hst]
   ·have hi1:i=8:=by omega
    subst hi1
    rw [←Nat.add_assoc];exact part_next (by show sh 8 (mg 8 back) l r k 8=halfM 8 (mg 8 back) l ((r*8+k)/8) ((r*8+k)%8);rw [(hdm (by omega)).1,(hdm (by omega)).2];rfl)
  ·have hk1:k=8:=by omega
   rw [hk1,Nat.succ_mul]
 have hr1:r=8:=by omega
 subst hr1
 have ep:part (fh 8 (mg 8 back) l) 64 (8*8) 0=tabL (fh 8 (mg 8 back) l) 64:=part_all _ _ _
 rw [ep]
 have hplh2:=tabL_len (fh 8 (mg 8 back) l) 64
 refine WpA.loop (fun r:Nat=>⟨[(1,I 8),(7,.own 0 0 0 64),(11,.own 1 0 0 64),(12,.own 2 0 0 64),(16,I r)],[XI (tabL (fm 8 back) 64),XI (tabL (fh 8 (mg 8 back) l) 64),XI (part (fo 8 (mg 8 back) l) 64 (r*8) 0)]⟩) (fun r=>r≤8) (fun r=>8-r) 0 (by omega) (go (r:=?_)) (fun r hr=>?_)
 ·simp [part_zero]
 have hpl1:=part_len (fo 8 (mg 8 back) l) 64 (r*8) 0
 refine go (r:=?_);and_intros<;>intros<;>try exact True.intro
 ·refine WpA.loop (fun k:Nat=>⟨[(1,I 8),(7,.own 0 0 0 64),(11,.own 1 0 0 64),(12,.own 2 0 0 64),(16,I r),(17,I k)],[XI (tabL (fm 8 back) 64),XI (tabL (fh 8 (mg 8 back) l) 64),XI (part (fo 8 (mg 8 back) l) 64 (r*8+k) 0)]⟩) (fun k=>k≤8) (fun k=>8-k) 0 (by omega) (go (r:=?_)) (fun k hk=>?_)
  ·trivial
  have hpl2:=part_len (fo 8 (mg 8 back) l) 64 (r*8+k) 0
  refine go (r:=?_);and_intros<;>intros<;>try exact True.intro
  ·refine WpA.loop (fun i:Nat=>⟨[(1,I 8),(7,.own 0 0 0 64),(11,.own 1 0 0 64),(12,.own 2 0 0 64),(16,I r),(17,I k),(18,I i)],[XI (tabL (fm 8 back) 64),XI (tabL (fh 8 (mg 8 back) l) 64),XI (part (fo 8 (mg 8 back) l) 64 (r*8+k) (so 8 (mg 8 back) l r k i))]⟩) (fun i=>i≤8) (fun i=>8-i) 0 (by omega) (go (r:=?_)) (fun i hi=>?_)
   ·simp [sumF]
   have hpl3:=part_len (fo 8 (mg 8 back) l) 64 (r*8+k) (so 8 (mg 8 back) l r k i)
   have hsb:=so_bd (n:=8) hg h2 (by omega) r k i
   have hdm:=divmod (n:=8) (r:=r) (k:=k)
   have hdi:=divmod (n:=8) (r:=r) (k:=i)
   have hgl:=half_in (n:=8) hg h2 (by omega) r i
   have hgg:=mul_huge hgl (hg k i)
   have hst:so 8 (mg 8 back) l r k (i+1)=so 8 (mg 8 back) l r k i+halfM 8 (mg 8 back) l r i*(mg 8 back) k i:=rfl
   refine go (r:=?_);and_intros<;>intros<;>try exact True.intro
   ·rename_i hi1
    have e1:((r:Int)*8+k).toNat=r*8+k:=by omega
    have e2:((r:Int)*8+i).toNat=r*8+i:=by omega
    have e3:((k:Int)*8+i).toNat=k*8+i:=by omega
    have e4:(tabL (fh 8 (mg 8 back) l) 64).getD (r*8+i) 0=halfM 8 (mg 8 back) l r i:=by rw [tabL_get (by omega)];show halfM 8 (mg 8 back) l ((r*8+i)/8) ((r*8+i)%8)=_;rw [(hdi (by omega)).1,(hdi (by omega)).2]
    rw [e1,e2,e3,e4,fmget_8 back k i (by omega) (by omega),part_get (by omega),part_set (by omega),wrap64 (halfM 8 (mg 8 back) l r i*(mg 8 back) k i) (by omega),wrap64 _ (by omega),hst]
   ·have hi1:i=8:=by omega
    subst hi1
    rw [←Nat.add_assoc];exact part_next (by show so 8 (mg 8 back) l r k 8=fullM 8 (mg 8 back) l ((r*8+k)/8) ((r*8+k)%8);rw [(hdm (by omega)).1,(hdm (by omega)).2];rfl)
  ·have hk1:k=8:=by omega
   rw [hk1,Nat.succ_mul]
 all_goals have hr1:r=8:=by omega
 all_goals subst hr1
 all_goals first|(rw [e];exact congrArg _ (part_all _ _ _))|(rw [e];exact part_all _ _ _)
end Go.Proofs.YtainhhfnnclfiaaGreat


namespace Go.Proofs.YtainhhfnnclfiaaGreat
open Go Go.Abs
attribute [local irreducible] WpA WpL Rnd Blk Abs.Seq Abs.Fin Abs.FinG FnC FnG Only
def side (k:Nat):Int:=if k=16 then 4 else if k=64 then 8 else 0
theorem side_pos (k:Nat):0<side k↔k=16∨k=64:=by unfold side;split<;>(try split)<;>omega
theorem side_cases (k:Nat):(k=16∧side k=4)∨(k=64∧side k=8)∨(k≠16∧k≠64∧side k=0):=by unfold side;split<;>(try split)<;>omega
instance SizeOk_s:Con 179 (∀ n:Int,Fn 179 [I n] [] (B (decide (n=4∨n=8)))):=⟨fun n=>by
 refine FnC.of_body tabOk Tryz.func179 Tryz.ntmps179 rfl (by decide +kernel) (by simp) fun G=>?_
 refine go (r:=?_);and_intros<;>intros<;>try exact True.intro
 all_goals simp_all⟩
instance SizeOk_c:Con 175 (∀ n:Int,Fn 175 [I n] [] (B (decide (n=4∨n=8)))):=⟨fun n=>by
 refine FnC.of_body tabOk Tryz.func175 Tryz.ntmps175 rfl (by decide +kernel) (by simp) fun G=>?_
 refine go (r:=?_);and_intros<;>intros<;>try exact True.intro
 all_goals simp_all⟩
instance l9Side_s:Con 152 (∀ l:List Int,l.length≤9223372036854775807→Fn 152 [IL l] [] (I (side l.length))):=⟨fun l hl=>by
 refine FnC.of_body tabOk Tryz.func152 Tryz.ntmps152 rfl (by decide +kernel) (by simp) fun G=>?_
 have h:=side_cases l.length
 refine go (r:=?_);and_intros<;>intros<;>try exact True.intro⟩
instance sizeOf_c:Con 177 (∀ k:Nat,Fn 177 [I k] [] (I (side k))):=⟨fun k=>by
 refine FnC.of_body tabOk Tryz.func177 Tryz.ntmps177 rfl (by decide +kernel) (by simp) fun G=>?_
 have h:=side_cases k
 refine go (r:=?_);and_intros<;>intros<;>try exact True.intro⟩
def psum (l:List Int) (k:Nat):Int:=(l.take k).sum
theorem psum_zero (l:List Int):psum l 0=0:=by simp [psum]
theorem psum_succ (l:List Int) (k:Nat) (h:k<l.length):psum l (k+1)=psum l k+l.getD k 0:=by
 unfold psum;rw [List.take_succ_eq_append_getElem h,List.sum_append];simp [h]
theorem psum_all (l:List Int):psum l l.length=l.sum:=by simp [psum]
theorem psum_bd {l:List Int} (h:In l 0 255) (k:Nat) (hk:k≤l.length):0≤psum l k∧psum l k≤255*k:=by
 induction k with
 |zero=>simp [psum]
 |succ k ih=>
  have h1:=in_get h (k:=k) (by omega)
  have h2:=ih (by omega)
  rw [psum_succ l k (by omega)];omega
theorem in_take {l:List Int} {lo hi:Int} (h:In l lo hi) (k:Nat):In (l.take k) lo hi:=by unfold In at *;intro v hv;exact h v (List.mem_of_mem_take hv)
instance l14Sum_s:Con 245 (∀ l:List Int,l.length≤1099511627776∧In l 0 255→Fn 245 [IL l] [] (I l.sum)):=⟨fun l hl=>by
 refine FnC.of_body tabOk Tryz.func245 Tryz.ntmps245 rfl (by decide +kernel) (by simp) fun G=>?_
 refine go (r:=?_);and_intros<;>intros<;>try exact True.intro
 refine WpA.loop (fun k:Nat=>⟨[(0,IL l),(3,I (psum l k)),(4,I k)],[]⟩) (fun k=>k≤l.length) (fun k=>l.length-k) 0 (by omega) (go (r:=?_)) (fun k hk=>?_)
 ·simp [psum_zero]
 have hb:=psum_bd hl.2 k hk
 have hg:=fun h=>in_get hl.2 (k:=k) h
 have hs:=fun h=>psum_succ l k h
 refine go (r:=?_);and_intros<;>intros<;>try exact True.intro
 ·have e:k=l.length:=by omega
  subst e;rw [psum_all]⟩
instance Clone_c:Con 131 (∀ l:List Int,l.length≤1099511627776→Fn 131 [IL l] [XI l] (.own 0 0 0 l.length)):=⟨fun l hl=>by
 refine FnC.of_body tabOk Tryz.func131 Tryz.ntmps131 rfl (by decide +kernel) (by simp) fun G=>?_
 refine go (r:=?_);and_intros<;>intros<;>try exact True.intro
 all_goals (have e:l=[]:=List.eq_nil_of_length_eq_zero (by omega));subst e;rfl⟩
def revp (l:List Int) (i:Nat):List Int:=(List.range l.length).map fun k=>if k<i∨l.length-1-k<i then l.getD (l.length-1-k) 0 else l.getD k 0
theorem revp_len (l:List Int) (i:Nat):(revp l i).length=l.length:=by simp [revp]
theorem revp_zero (l:List Int):revp l 0=l:=by
 apply eq_all 0 (by rw [revp_len])
 intro j hj
 rw [revp_len] at hj
 simp [revp,hj]
theorem revp_get (l:List Int) (i j:Nat) (hj:j<l.length):(revp l i).getD j 0=if j<i∨l.length-1-j<i then l.getD (l.length-1-j) 0 else l.getD j 0:=by
 simp only [revp,List.getD_eq_getElem?_getD,List.getElem?_map,List.getElem?_range hj,Option.map_some,Option.getD_some]
theorem rev_get (l:List Int) (j:Nat) (hj:j<l.length):l.reverse.getD j 0=l.getD (l.length-1-j) 0:=by
 simp only [List.getD_eq_getElem?_getD,List.getElem?_reverse hj]
theorem revp_end (l:List Int) (i:Nat) (h:l.length≤2*i+1):revp l i=l.reverse:=by
 apply eq_all 0 (by rw [revp_len,List.length_reverse])
 intro j hj
 rw [revp_len] at hj
 rw [revp_get l i j hj,rev_get l j hj]
 split
 ·rfl
 ·have:l.length-1-j=j:=by omega
  rw [this]
theorem revp_step (l:List Int) (i:Nat) (h:2*i+1<l.length):((revp l i).set i ((revp l i).getD (l.length-1-i) 0)).set (l.length-1-i) ((revp l i).getD i 0)=revp l (i+1):=by
 have e1:(revp l i).getD (l.length-1-i) 0=l.getD (l.length-1-i) 0:=by
  rw [revp_get l i _ (by omega),if_neg (by omega)]
 have e2:(revp l i).getD i 0=l.getD i 0:=by
  rw [revp_get l i _ (by omega),if_neg (by omega)]
 rw [e1,e2]
 apply eq_all 0 (by simp [revp_len])
 intro j hj
 simp only [List.length_set,revp_len] at hj
 rw [revp_get l (i+1) j hj,List.getD_eq_getElem?_getD,List.getElem?_set,List.getElem?_set]
 simp only [List.length_set,revp_len]
 by_cases c1:l.length-1-i=j
 ·rw [if_pos c1,if_pos (by omega),if_pos (by omega),Option.getD_some];congr 1;omega
 ·rw [if_neg c1]
  by_cases c2:i=j
  ·rw [if_pos c2,if_pos (by omega),if_pos (by omega),Option.getD_some,c2]
  ·rw [if_neg c2,←List.getD_eq_getElem?_getD,revp_get l i j hj]
   by_cases c3:j<i∨l.length-1-j<i
   ·rw [if_pos c3,if_pos (by omega)]
   ·rw [if_neg c3,if_neg (by omega)]
instance Reverse_c:ConG 283 (∀ l:List Int,1≤l.length∧l.length≤1099511627776→Gn 283 [.own 0 0 0 l.length] [XI l] [XI l.reverse] [] (.tup [])):=⟨fun l hl=>by
 refine FnG.of_bodyF tabOk Tryz.func283 Tryz.ntmps283 rfl (by decide +kernel) (by simp) rfl rfl fun G=>?_
 refine go (r:=?_);and_intros<;>intros<;>try exact True.intro
 refine WpA.loop (fun i:Nat=>⟨[(0,.own 0 0 0 l.length),(2,I i),(3,I ((l.length:Int)-1-i))],[XI (revp l i)]⟩) (fun i=>2*i≤l.length) (fun i=>l.length-i) 0 (by omega) (go (r:=?_)) (fun i hi=>?_)
 ·simp [revp_zero]
 have hl2:=revp_len l i
 refine go (r:=?_);and_intros<;>intros<;>try exact True.intro
 ·have e1:((l.length:Int)-1-(i:Int)).toNat=l.length-1-i:=by omega
  rw [e1,Int.toNat_natCast];exact revp_step l i (by omega)
 ·exact revp_end l i (by omega)⟩
end Go.Proofs.YtainhhfnnclfiaaGreat


namespace Go.Proofs.YtainhhfnnclfiaaGreat
open Go Go.Abs
attribute [local irreducible] WpA WpL Rnd Blk Abs.Seq Abs.Fin Abs.FinG FnC FnG Only
def scX (d k:Nat):Int:=if (d:Int)%2=0 then (d:Int)-k else k
def scIn (n:Int) (d:Nat):Nat→List Int→List Int
 |0,o=>o
 |k+1,o=>if scX d k<n∧(d:Int)-scX d k<n then scIn n d k o++[((d:Int)-scX d k)*n+scX d k] else scIn n d k o
def scOut (n:Int):Nat→List Int
 |0=>[]
 |d+1=>scIn n d (d+1) (scOut n d)
def scanL (n:Int):List Int:=if n=4∨n=8 then scOut n (2*n-1).toNat else []
theorem scIn_yes {n:Int} {d k:Nat} {o:List Int} {x v:Int} (hx:scX d k=x) (h1:x<n) (h2:(d:Int)-x<n) (hv:v=((d:Int)-x)*n+x):scIn n d k o++[v]=scIn n d (k+1) o:=by
 rw [scIn,hx,if_pos ⟨h1,h2⟩,hv]
theorem scIn_no {n:Int} {d k:Nat} {o:List Int} {x:Int} (hx:scX d k=x) (h:¬(x<n∧(d:Int)-x<n)):scIn n d k o=scIn n d (k+1) o:=by
 rw [scIn,hx,if_neg h]
theorem scIn_len (n:Int) (d:Nat) (o:List Int):∀k,(scIn n d k o).length≤o.length+k
 |0=>by simp [scIn]
 |k+1=>by rw [scIn];have:=scIn_len n d o k;split<;>(try rw [List.length_append,List.length_singleton])<;>omega
theorem scOut_len (n:Int):∀d,d≤16→(scOut n d).length≤16*d
 |0,_=>by simp [scOut]
 |d+1,h=>by rw [scOut];have:=scIn_len n d (scOut n d) (d+1);have:=scOut_len n d (by omega);omega
theorem scX_even {d k:Nat} (h:(d:Int)%2=0):scX d k=d-k:=by rw [scX,if_pos h]
theorem scX_odd {d k:Nat} (h:¬(d:Int)%2=0):scX d k=k:=by rw [scX,if_neg h]
theorem scIn_l1 {n:Int} {d k:Nat} {o:List Int} (h:scX d k<n∧(d:Int)-scX d k<n):(scIn n d (k+1) o).length=(scIn n d k o).length+1:=by rw [scIn,if_pos h,List.length_append,List.length_singleton]
theorem scIn_l0 {n:Int} {d k:Nat} {o:List Int} (h:¬(scX d k<n∧(d:Int)-scX d k<n)):(scIn n d (k+1) o).length=(scIn n d k o).length:=by rw [scIn,if_neg h]
instance ScanOrder_s:Con 227 (∀ n:Int,n=0∨n=4∨n=8→Fn 227 [I n] [XI (scanL n)] (.own 0 0 0 (scanL n).length)):=⟨fun n hn=>by
 refine FnC.of_body tabOk Tryz.func227 Tryz.ntmps227 rfl (by decide +kernel) (by simp) fun G=>?_
 have key:n=0→scanL n=[]:=by rintro rfl;decide
 have k4:n=4→scanL n=scOut 4 7:=by rintro rfl;rfl
 have k8:n=8→scanL n=scOut 8 15:=by rintro rfl;rfl
 rcases hn with rfl|rfl|rfl
 ·refine go (r:=?_);and_intros<;>intros<;>try exact True.intro
  refine WpA.loop (fun d:Nat=>⟨[(0,I 0),(3,.own 0 0 0 0),(4,I 0)],[XI []]⟩) (fun d=>d≤0) (fun d=>16-d) 0 (by simp) (go (r:=trivial)) (fun d hd=>?_)
  refine go (r:=?_);and_intros<;>intros<;>try exact True.intro
  all_goals rfl
 ·refine go (r:=?_);and_intros<;>intros<;>try exact True.intro
  refine WpA.loop (fun d:Nat=>⟨[(0,I 4),(3,.own 0 0 0 (scOut 4 d).length),(4,I d)],[XI (scOut 4 d)]⟩) (fun d=>d≤7) (fun d=>7-d) 0 (by simp) (go (r:=?_)) (fun d hd=>?_)
  ·simp [scOut]
  have hol:=scOut_len 4 d (by omega)
  have hso:(scOut 4 (d+1))=scIn 4 d (d+1) (scOut 4 d):=rfl
  refine go (r:=?_);and_intros<;>intros<;>try exact True.intro
  ·refine WpA.loop (fun k:Nat=>⟨[(0,I 4),(3,.own 0 0 0 (scIn 4 d k (scOut 4 d)).length),(4,I d),(5,I k)],[XI (scIn 4 d k (scOut 4 d))]⟩) (fun k=>k≤d+1) (fun k=>d+1-k) 0 (by omega) (go (r:=?_)) (fun k hk=>?_)
   ·simp [scIn]
   have hil:=scIn_len 4 d (scOut 4 d) k
   have he:=scX_even (d:=d) (k:=k)
   have hod:=scX_odd (d:=d) (k:=k)
   have hl1:=scIn_l1 (n:=4) (d:=d) (k:=k) (o:=scOut 4 d)
   have hl0:=scIn_l0 (n:=4) (d:=d) (k:=k) (o:=scOut 4 d)
   have hso2:k=d+1→(scOut 4 (d+1)).length=(scIn 4 d k (scOut 4 d)).length:=by rintro rfl;rfl
   refine go (r:=?_);and_intros<;>intros<;>try exact True.intro
   all_goals first
    |(exact scIn_yes (he ‹_›) (by omega) (by omega) (by omega))
    |(exact scIn_yes (hod ‹_›) (by omega) (by omega) (by omega))
    |(exact scIn_no (he ‹_›) (by omega))
    |(exact scIn_no (hod ‹_›) (by omega))
    |skip
   all_goals have e:k=d+1:=by omega
   all_goals subst e
   all_goals rw [hso]
  all_goals have e:d=7:=by omega
  all_goals subst e
  all_goals first|rfl|(rw [k4 rfl])
 ·refine go (r:=?_);and_intros<;>intros<;>try exact True.intro
  refine WpA.loop (fun d:Nat=>⟨[(0,I 8),(3,.own 0 0 0 (scOut 8 d).length),(4,I d)],[XI (scOut 8 d)]⟩) (fun d=>d≤15) (fun d=>15-d) 0 (by simp) (go (r:=?_)) (fun d hd=>?_)
  ·simp [scOut]
  have hol:=scOut_len 8 d (by omega)
  have hso:(scOut 8 (d+1))=scIn 8 d (d+1) (scOut 8 d):=rfl
  refine go (r:=?_);and_intros<;>intros<;>try exact True.intro
  ·refine WpA.loop (fun k:Nat=>⟨[(0,I 8),(3,.own 0 0 0 (scIn 8 d k (scOut 8 d)).length),(4,I d),(5,I k)],[XI (scIn 8 d k (scOut 8 d))]⟩) (fun k=>k≤d+1) (fun k=>d+1-k) 0 (by omega) (go (r:=?_)) (fun k hk=>?_)
   ·simp [scIn]
   have hil:=scIn_len 8 d (scOut 8 d) k
   have he:=scX_even (d:=d) (k:=k)
   have hod:=scX_odd (d:=d) (k:=k)
   have hl1:=scIn_l1 (n:=8) (d:=d) (k:=k) (o:=scOut 8 d)
   have hl0:=scIn_l0 (n:=8) (d:=d) (k:=k) (o:=scOut 8 d)
   have hso2:k=d+1→(scOut 8 (d+1)).length=(scIn 8 d k (scOut 8 d)).length:=by rintro rfl;rfl
   refine go (r:=?_);and_intros<;>intros<;>try exact True.intro
   all_goals first
    |(exact scIn_yes (he ‹_›) (by omega) (by omega) (by omega))
    |(exact scIn_yes (hod ‹_›) (by omega) (by omega) (by omega))
    |(exact scIn_no (he ‹_›) (by omega))
    |(exact scIn_no (hod ‹_›) (by omega))
    |skip
   all_goals have e:k=d+1:=by omega
   all_goals subst e
   all_goals rw [hso]
  all_goals have e:d=15:=by omega
  all_goals subst e
  all_goals first|rfl|(rw [k8 rfl])⟩
instance ScanOrder_c:Con 250 (∀ n:Int,n=0∨n=4∨n=8→Fn 250 [I n] [XI (scanL n)] (.own 0 0 0 (scanL n).length)):=⟨fun n hn=>by
 refine FnC.of_body tabOk Tryz.func250 Tryz.ntmps250 rfl (by decide +kernel) (by simp) fun G=>?_
 have k4:n=4→scanL n=scOut 4 7:=by rintro rfl;rfl
 have k8:n=8→scanL n=scOut 8 15:=by rintro rfl;rfl
 rcases hn with rfl|rfl|rfl
 ·refine go (r:=?_);and_intros<;>intros<;>try exact True.intro
  all_goals rfl
 ·refine go (r:=?_);and_intros<;>intros<;>try exact True.intro
  refine WpA.loop (fun d:Nat=>⟨[(0,I 4),(3,.own 0 0 0 (scOut 4 d).length),(14,I 7),(15,I d)],[XI (scOut 4 d)]⟩) (fun d=>d≤7) (fun d=>7-d) 0 (by simp) (go (r:=?_)) (fun d hd=>?_)
  ·simp [scOut]
  have hol:=scOut_len 4 d (by omega)
  have hso:(scOut 4 (d+1))=scIn 4 d (d+1) (scOut 4 d):=rfl
  refine go (r:=?_);and_intros<;>intros<;>try exact True.intro
  ·refine WpA.loop (fun k:Nat=>⟨[(0,I 4),(3,.own 0 0 0 (scIn 4 d k (scOut 4 d)).length),(4,I d),(14,I 7),(15,I d),(19,I ((d:Int)+1)),(20,I k)],[XI (scIn 4 d k (scOut 4 d))]⟩) (fun k=>k≤d+1) (fun k=>d+1-k) 0 (by omega) (go (r:=?_)) (fun k hk=>?_)
   ·simp [scIn]
   have hil:=scIn_len 4 d (scOut 4 d) k
   have he:=scX_even (d:=d) (k:=k)
   have hod:=scX_odd (d:=d) (k:=k)
   have hl1:=scIn_l1 (n:=4) (d:=d) (k:=k) (o:=scOut 4 d)
   have hl0:=scIn_l0 (n:=4) (d:=d) (k:=k) (o:=scOut 4 d)
   have hso2:k=d+1→(scOut 4 (d+1)).length=(scIn 4 d k (scOut 4 d)).length:=by rintro rfl;rfl
   refine go (r:=?_);and_intros<;>intros<;>try exact True.intro
   all_goals first
    |(exact scIn_yes (he ‹_›) (by omega) (by omega) (by omega))
    |(exact scIn_yes (hod ‹_›) (by omega) (by omega) (by omega))
    |(exact scIn_no (he ‹_›) (by omega))
    |(exact scIn_no (hod ‹_›) (by omega))
    |skip
   all_goals have e:k=d+1:=by omega
   all_goals subst e
   all_goals rw [hso]
  all_goals have e:d=7:=by omega
  all_goals subst e
  all_goals first|rfl|(rw [k4 rfl])
 ·refine go (r:=?_);and_intros<;>intros<;>try exact True.intro
  refine WpA.loop (fun d:Nat=>⟨[(0,I 8),(3,.own 0 0 0 (scOut 8 d).length),(14,I 15),(15,I d)],[XI (scOut 8 d)]⟩) (fun d=>d≤15) (fun d=>15-d) 0 (by simp) (go (r:=?_)) (fun d hd=>?_)
  ·simp [scOut]
  have hol:=scOut_len 8 d (by omega)
  have hso:(scOut 8 (d+1))=scIn 8 d (d+1) (scOut 8 d):=rfl
  refine go (r:=?_);and_intros<;>intros<;>try exact True.intro
  ·refine WpA.loop (fun k:Nat=>⟨[(0,I 8),(3,.own 0 0 0 (scIn 8 d k (scOut 8 d)).length),(4,I d),(14,I 15),(15,I d),(19,I ((d:Int)+1)),(20,I k)],[XI (scIn 8 d k (scOut 8 d))]⟩) (fun k=>k≤d+1) (fun k=>d+1-k) 0 (by omega) (go (r:=?_)) (fun k hk=>?_)
   ·simp [scIn]
   have hil:=scIn_len 8 d (scOut 8 d) k
   have he:=scX_even (d:=d) (k:=k)
   have hod:=scX_odd (d:=d) (k:=k)
   have hl1:=scIn_l1 (n:=8) (d:=d) (k:=k) (o:=scOut 8 d)
   have hl0:=scIn_l0 (n:=8) (d:=d) (k:=k) (o:=scOut 8 d)
   have hso2:k=d+1→(scOut 8 (d+1)).length=(scIn 8 d k (scOut 8 d)).length:=by rintro rfl;rfl
   refine go (r:=?_);and_intros<;>intros<;>try exact True.intro
   all_goals first
    |(exact scIn_yes (he ‹_›) (by omega) (by omega) (by omega))
    |(exact scIn_yes (hod ‹_›) (by omega) (by omega) (by omega))
    |(exact scIn_no (he ‹_›) (by omega))
    |(exact scIn_no (hod ‹_›) (by omega))
    |skip
   all_goals have e:k=d+1:=by omega
   all_goals subst e
   all_goals rw [hso]
  all_goals have e:d=15:=by omega
  all_goals subst e
  all_goals first|rfl|(rw [k8 rfl])⟩
theorem scan_rg (n:Int) (h:n=0∨n=4∨n=8):In (scanL n) 0 (n*n-1)∧((scanL n).length:Int)=n*n:=by
 rcases h with rfl|rfl|rfl<;>decide +kernel
end Go.Proofs.YtainhhfnnclfiaaGreat


namespace Go.Proofs.YtainhhfnnclfiaaGreat
open Go Go.Abs
attribute [local irreducible] WpA WpL Rnd Blk Abs.Seq Abs.Fin Abs.FinG FnC FnG Only
def nearL (s v:Int):Int:=if v<0 then -((-v*2+s)/(2*s)) else (v*2+s)/(2*s)
def qz (s v:Int):Int:=max (-16383) (min 16383 (nearL s (clampM v)))
def quantL (l:List Int) (q:Int):List Int:=if 0<side l.length∧0<stepL q then l.map (qz (stepL q)) else []
theorem near_bd {s v:Int} (hs:1≤s∧s≤500) (hv:-1000000≤v∧v≤1000000):-2000000≤nearL s v∧nearL s v≤2000000:=by
 unfold nearL
 have h1:∀a:Int,0≤a→a≤2000500→0≤a/(2*s)∧a/(2*s)≤a/2:=by
  intro a h0 h1
  refine ⟨Int.ediv_nonneg h0 (by omega),?_⟩
  rw [Int.mul_comm,←Int.ediv_ediv_of_nonneg (by omega)]
  have:=Int.ediv_le_self s (show 0≤a by omega)
  exact Int.ediv_le_ediv (by decide) this
 split
 ·have:=h1 (-v*2+s) (by omega) (by omega);omega
 ·have:=h1 (v*2+s) (by omega) (by omega);omega
instance l11Near_s:Con 228 (∀ v s:Int,(1≤s∧s≤500)∧-1000000≤v∧v≤1000000→Fn 228 [I v,I s] [] (I (nearL s v))):=⟨fun v s h=>by
 have hb:=near_bd h.1 h.2
 unfold nearL at hb
 by_cases hv:v<0
 ·rw [if_pos hv] at hb
  refine FnC.of_body tabOk Tryz.func228 Tryz.ntmps228 rfl (by decide +kernel) (by simp) fun G=>?_
  refine go (r:=?_);and_intros<;>intros<;>try exact True.intro
  rw [nearL,if_pos hv]
 ·rw [if_neg hv] at hb
  refine FnC.of_body tabOk Tryz.func228 Tryz.ntmps228 rfl (by decide +kernel) (by simp) fun G=>?_
  refine go (r:=?_);and_intros<;>intros<;>try exact True.intro
  rw [nearL,if_neg hv]⟩
theorem qz_snoc (f:Int→Int) (l:List Int) (k:Nat) (h:k<l.length):(l.take k).map f++[f (l.getD k 0)]=(l.take (k+1)).map f:=by
 rw [take_snoc l k h,List.map_append];rfl
theorem clamp_bd (v:Int):-1000000≤clampM v∧clampM v≤1000000:=by unfold clampM;omega
instance Quantized_s:Con 155 (∀ (l:List Int) (q:Int),l.length≤1099511627776→Fn 155 [IL l,I q] [XI (quantL l q)] (.own 0 0 0 (quantL l q).length)):=⟨fun l q hl=>by
 have hsl:=stepL_pos q
 refine FnC.of_body tabOk Tryz.func155 Tryz.ntmps155 rfl (by decide +kernel) (by simp) fun G=>?_
 by_cases h:0<side l.length∧0<stepL q
 ·have hs:=stepL_in q (hsl.1 h.2)
  refine go (r:=?_);and_intros<;>intros<;>try exact True.intro
  refine WpA.loop (fun k:Nat=>⟨[(0,IL l),(1,I q),(5,.own 0 0 0 k),(6,I k)],[XI ((l.take k).map (qz (stepL q)))]⟩) (fun k=>k≤l.length) (fun k=>l.length-k) 0 (by omega) (go (r:=?_)) (fun k hk=>?_)
  ·simp
  have hlk:((l.take k).map (qz (stepL q))).length=k:=by simp;omega
  have hcl:=clamp_bd (l.getD k 0)
  unfold clampM at hcl
  refine go (r:=?_);and_intros<;>intros<;>try exact True.intro
  ·rw [←qz_snoc _ l k (by omega)];simp only [qz,clampM,Int.min_comm]
  all_goals have e:k=l.length:=by omega
  all_goals subst e
  ·rw [quantL,if_pos h,List.length_map]
  ·rw [quantL,if_pos h,List.take_length]
 ·have e:quantL l q=[]:=by rw [quantL,if_neg h]
  refine go (r:=?_);and_intros<;>intros<;>try exact True.intro
  refine WpA.loop (fun k:Nat=>⟨[(0,IL l),(1,I q),(5,.own 0 0 0 0),(6,I 0)],[XI []]⟩) (fun k=>k≤0) (fun k=>l.length-k) 0 (by omega) (go (r:=trivial)) (fun k hk=>?_)
  have hx:0<side l.length→¬0<stepL q:=fun a b=>h ⟨a,b⟩
  by_cases h1:0<side l.length
  ·have h2:=hx h1
   refine go (r:=?_);and_intros<;>intros<;>try exact True.intro
   all_goals first|(rw [e];done)|(rw [e];rfl)
  ·refine go (r:=?_);and_intros<;>intros<;>try exact True.intro
   all_goals first|(rw [e];done)|(rw [e];rfl)⟩
instance Quantized_c:Con 195 (∀ (l:List Int) (q:Int),l.length≤1099511627776→Fn 195 [IL l,I q] [XI (quantL l q)] (.own 0 0 0 (quantL l q).length)):=⟨fun l q hl=>by
 have hsl:=stepL_pos q
 have hsd:=side_cases l.length
 have hsn:¬0<stepL q→stepL q=0:=fun hh=>by
  rw [stepL];split
  ·rename_i hq;exact absurd (hsl.2 hq) hh
  ·rfl
 refine FnC.of_body tabOk Tryz.func195 Tryz.ntmps195 rfl (by decide +kernel) (by simp) fun G=>?_
 by_cases h:0<side l.length∧0<stepL q
 ·have hs:=stepL_in q (hsl.1 h.2)
  refine go (r:=?_);and_intros<;>intros<;>try exact True.intro
  refine WpA.loop (fun k:Nat=>⟨[(5,I (stepL q)),(6,.own 0 0 0 k),(21,IL l),(22,I l.length),(23,I k)],[XI ((l.take k).map (qz (stepL q)))]⟩) (fun k=>k≤l.length) (fun k=>l.length-k) 0 (by omega) (go (r:=?_)) (fun k hk=>?_)
  ·simp
  have hlk:((l.take k).map (qz (stepL q))).length=k:=by simp;omega
  have hcl:=clamp_bd (l.getD k 0)
  have hnb:=near_bd hs hcl
  unfold clampM at hcl hnb
  have hq2:2*max (max (-1000000) (min (l.getD k 0) 1000000)) (-max (-1000000) (min (l.getD k 0) 1000000))+stepL q=(if max (-1000000) (min (l.getD k 0) 1000000)<0 then -max (-1000000) (min (l.getD k 0) 1000000)*2+stepL q else max (-1000000) (min (l.getD k 0) 1000000)*2+stepL q):=by split<;>omega
  by_cases hneg:max (-1000000) (min (l.getD k 0) 1000000)<0
  ·rw [if_pos hneg] at hq2
   rw [nearL,if_pos hneg,←hq2] at hnb
   refine go (r:=?_);and_intros<;>intros<;>try exact True.intro
   ·rw [←qz_snoc _ l k (by omega)];simp only [qz,nearL,clampM,if_pos hneg,←hq2,Int.min_comm]
   all_goals have e:k=l.length:=by omega
   all_goals subst e
   ·rw [quantL,if_pos h,List.length_map]
   ·rw [quantL,if_pos h,List.take_length]
  ·rw [if_neg hneg] at hq2
   rw [nearL,if_neg hneg,←hq2] at hnb
   refine go (r:=?_);and_intros<;>intros<;>try exact True.intro
   ·rw [←qz_snoc _ l k (by omega)];simp only [qz,nearL,clampM,if_neg hneg,←hq2,Int.min_comm]
   all_goals have e:k=l.length:=by omega
   all_goals subst e
   ·rw [quantL,if_pos h,List.length_map]
   ·rw [quantL,if_pos h,List.take_length]
 ·have e:quantL l q=[]:=by rw [quantL,if_neg h]
  by_cases h1:0<side l.length
  ·have h2:stepL q=0:=hsn (fun hh=>h ⟨h1,hh⟩)
   refine go (r:=?_);and_intros<;>intros<;>try exact True.intro
   all_goals first|(rw [e];done)|(rw [e];rfl)
  ·have h2:side l.length=0:=by omega
   refine go (r:=?_);and_intros<;>intros<;>try exact True.intro
   all_goals first|(rw [e];done)|(rw [e];rfl)⟩
end Go.Proofs.YtainhhfnnclfiaaGreat


namespace Go.Proofs.YtainhhfnnclfiaaGreat
open Go Go.Abs
attribute [local irreducible] WpA WpL Rnd Blk Abs.Seq Abs.Fin Abs.FinG FnC FnG Only
def scnL (l:List Int):List Int:=(scanL (side l.length)).map fun p=>l.getD p.toNat 0
theorem scnL_len (l:List Int):(scnL l).length=(scanL (side l.length)).length:=by simp [scnL]
theorem scan_fit (l:List Int):In (scanL (side l.length)) 0 (l.length-1)∧(scanL (side l.length)).length≤64:=by
 rcases side_cases l.length with ⟨h,e⟩|⟨h,e⟩|⟨_,_,e⟩
 ·have h2:=(scan_rg 4 (by omega)).2
  have h1:=(scan_rg 4 (by omega)).1
  rw [e,h];exact ⟨h1,by omega⟩
 ·have h2:=(scan_rg 8 (by omega)).2
  have h1:=(scan_rg 8 (by omega)).1
  rw [e,h];exact ⟨h1,by omega⟩
 ·rw [e]
  have h0:scanL 0=[]:=rfl
  rw [h0]
  refine ⟨?_,by simp⟩
  unfold In;intro x hx;cases hx
instance Scanned_s:Con 154 (∀ l:List Int,l.length≤1099511627776→Fn 154 [IL l] [XI (scnL l)] (.own 0 0 0 (scnL l).length)):=⟨fun l hl=>by
 obtain ⟨hs1,hs2⟩:=scan_fit l
 have hsc:=side_cases l.length
 have hsl:=scnL_len l
 refine FnC.of_body tabOk Tryz.func154 Tryz.ntmps154 rfl (by decide +kernel) (by simp) fun G=>?_
 refine go (r:=?_);and_intros<;>intros<;>try exact True.intro
 refine WpA.loop (fun k:Nat=>⟨[(0,IL l),(3,.own 0 0 0 k),(4,.own 1 0 0 (scanL (side l.length)).length),(5,I k)],[XI (((scanL (side l.length)).take k).map fun p=>l.getD p.toNat 0),XI (scanL (side l.length))]⟩) (fun k=>k≤(scanL (side l.length)).length) (fun k=>(scanL (side l.length)).length-k) 0 (by omega) (go (r:=?_)) (fun k hk=>?_)
 ·simp
 have hg:=fun h=>in_get hs1 (k:=((k:Int)).toNat) h
 have hq:=fun h=>qz_snoc (fun p:Int=>l.getD p.toNat 0) (scanL (side l.length)) k h
 have hkl:(((scanL (side l.length)).take k).map fun p=>l.getD p.toNat 0).length=k:=by simp;omega
 refine go (r:=?_);and_intros<;>intros<;>try exact True.intro
 ·rename_i hk1
  rw [←hq (by omega)];rfl
 ·have e:k=(scanL (side l.length)).length:=by omega
  rw [e,List.take_length];rfl⟩
instance Scanned_c:Con 194 (∀ l:List Int,l.length≤1099511627776→Fn 194 [IL l] [XI (scnL l)] (.own 0 0 0 (scnL l).length)):=⟨fun l hl=>by
 obtain ⟨hs1,hs2⟩:=scan_fit l
 have hsc:=side_cases l.length
 have hsl:=scnL_len l
 refine FnC.of_body tabOk Tryz.func194 Tryz.ntmps194 rfl (by decide +kernel) (by simp) fun G=>?_
 refine go (r:=?_);and_intros<;>intros<;>try exact True.intro
 refine WpA.loop (fun k:Nat=>⟨[(0,IL l),(3,.own 0 0 0 k),(10,.own 1 0 0 (scanL (side l.length)).length),(11,I (scanL (side l.length)).length),(12,I k)],[XI (((scanL (side l.length)).take k).map fun p=>l.getD p.toNat 0),XI (scanL (side l.length))]⟩) (fun k=>k≤(scanL (side l.length)).length) (fun k=>(scanL (side l.length)).length-k) 0 (by omega) (go (r:=?_)) (fun k hk=>?_)
 ·simp
 have hg:=fun h=>in_get hs1 (k:=((k:Int)).toNat) h
 have hg2:=fun h=>in_get hs1 (k:=k) h
 have hq:=fun h=>qz_snoc (fun p:Int=>l.getD p.toNat 0) (scanL (side l.length)) k h
 have hkl:(((scanL (side l.length)).take k).map fun p=>l.getD p.toNat 0).length=k:=by simp;omega
 refine go (r:=?_);and_intros<;>intros<;>try exact True.intro
 ·rename_i hk1
  rw [←hq (by omega)];rfl
 ·have e:k=(scanL (side l.length)).length:=by omega
  rw [e,List.take_length];rfl⟩
end Go.Proofs.YtainhhfnnclfiaaGreat


namespace Go.Proofs.YtainhhfnnclfiaaGreat
open Go Go.Abs
def Dn (l:List Int) (w:Int) (i m:Nat):Prop:=(1≤l.getD m 0∧l.getD m 0<w)∨(l.getD m 0=w∧m<i)
def hit (c l:List Int) (m:Nat) (v:Int):Prop:=c.getD m 0*cw (l.getD m 0)≤v∧v<(c.getD m 0+1)*cw (l.getD m 0)
structure J (l:List Int) (w p:Int) (i:Nat) (s:List Int×Int):Prop where
 len:s.1.length=l.length
 lo:0≤s.2
 cod:∀m,m<l.length→Dn l w i m→0≤s.1.getD m 0∧(s.1.getD m 0+1)*cw (l.getD m 0)≤s.2*p
 cov:∀v,0≤v→v<s.2*p→∃m,m<l.length∧Dn l w i m∧hit s.1 l m v
 uni:∀m m' v,m<l.length→m'<l.length→Dn l w i m→Dn l w i m'→hit s.1 l m v→hit s.1 l m' v→m=m'
theorem getD_set (c:List Int) (i m:Nat) (v:Int) (h:i<c.length):(c.set i v).getD m 0=if m=i then v else c.getD m 0:=by
 rw [List.getD_eq_getElem?_getD,List.getElem?_set]
 by_cases e:i=m
 ·subst e;simp [h]
 ·have:¬m=i:=fun h=>e h.symm
  simp [e,this]
theorem J.step {l:List Int} {w p:Int} {i:Nat} {s:List Int×Int} (h:J l w p i s) (hi:i<l.length) (hp:cw w=p) (hp0:0<p) (hw:1≤w):
 J l w p (i+1) (if l.getD i 0=w then (s.1.set i s.2,s.2+1) else s):=by
 by_cases e:l.getD i 0=w
 ·rw [if_pos e]
  have hl:=h.len
  have hmul:(s.2+1)*p=s.2*p+p:=by rw [Int.add_mul,Int.one_mul]
  have hD:∀m,Dn l w (i+1) m↔Dn l w i m∨m=i:=by
   intro m;unfold Dn;constructor
   ·rintro (h|⟨h1,h2⟩)
    ·exact .inl (.inl h)
    ·by_cases hm:m=i
     ·exact .inr hm
     ·exact .inl (.inr ⟨h1,by omega⟩)
   ·rintro ((h|⟨h1,h2⟩)|rfl)
    ·exact .inl h
    ·exact .inr ⟨h1,by omega⟩
    ·exact .inr ⟨e,by omega⟩
  have hne:∀m,Dn l w i m→m≠i:=by
   rintro m (h|⟨_,h⟩) rfl
   ·omega
   ·omega
  have hg:∀m,(s.1.set i s.2).getD m 0=if m=i then s.2 else s.1.getD m 0:=fun m=>getD_set s.1 i m s.2 (by omega)
  have hhit:∀m v,m≠i→(hit (s.1.set i s.2) l m v↔hit s.1 l m v):=by intro m v hm;unfold hit;rw [hg,if_neg hm]
  have hhi:∀v,hit (s.1.set i s.2) l i v↔s.2*p≤v∧v<s.2*p+p:=by intro v;unfold hit;rw [hg,if_pos rfl,e,hp,hmul]
  refine ⟨by simp [hl],by have:=h.lo;simp only;omega,fun m hm hd=>?_,fun v h0 hv=>?_,fun m m' v hm hm' hd hd' h1 h2=>?_⟩
  ·show 0≤(s.1.set i s.2).getD m 0∧((s.1.set i s.2).getD m 0+1)*_≤(s.2+1)*p
   rw [hg,hmul]
   rcases (hD m).1 hd with hd|rfl
   ·rw [if_neg (hne m hd)];have:=h.cod m hm hd;omega
   ·rw [if_pos rfl,e,hp,hmul];have:=h.lo;omega
  ·have hv:v<(s.2+1)*p:=hv
   rw [hmul] at hv
   by_cases hlt:v<s.2*p
   ·obtain ⟨m,h1,h2,h3⟩:=h.cov v h0 hlt
    exact ⟨m,h1,(hD m).2 (.inl h2),(hhit m v (hne m h2)).2 h3⟩
   ·exact ⟨i,hi,(hD i).2 (.inr rfl),(hhi v).2 ⟨by omega,hv⟩⟩
  ·rcases (hD m).1 hd with d1|rfl<;>rcases (hD m').1 hd' with d2|e2
   ·exact h.uni m m' v hm hm' d1 d2 ((hhit m v (hne m d1)).1 h1) ((hhit m' v (hne m' d2)).1 h2)
   ·subst e2
    have a:=(hhit m v (hne m d1)).1 h1
    have b:=(hhi v).1 h2
    have c:=h.cod m hm d1
    unfold hit at a;omega
   ·have a:=(hhit m' v (hne m' d2)).1 h2
    have b:=(hhi v).1 h1
    have c:=h.cod m' hm' d2
    unfold hit at a;omega
   ·exact e2.symm
 ·rw [if_neg e]
  have hD:∀m,Dn l w (i+1) m↔Dn l w i m:=by
   intro m;unfold Dn;constructor
   ·rintro (h|⟨h1,h2⟩)
    ·exact .inl h
    ·refine .inr ⟨h1,?_⟩
     have:m≠i:=by rintro rfl;exact e h1
     omega
   ·rintro (h|⟨h1,h2⟩)
    ·exact .inl h
    ·exact .inr ⟨h1,by omega⟩
  exact ⟨h.len,h.lo,fun m hm hd=>h.cod m hm ((hD m).1 hd),fun v h0 hv=>by
   obtain ⟨m,h1,h2,h3⟩:=h.cov v h0 hv
   exact ⟨m,h1,(hD m).2 h2,h3⟩,fun m m' v hm hm' hd hd'=>h.uni m m' v hm hm' ((hD m).1 hd) ((hD m').1 hd')⟩
theorem J.level {l:List Int} {w p q:Int} {s:List Int×Int} (h:J l w p l.length s) (hpq:p=2*q) (hw:1≤w):J l (w+1) q 0 (s.1,s.2*2):=by
 have e:s.2*2*q=s.2*p:=by rw [hpq,Int.mul_assoc]
 have hD:∀m,m<l.length→(Dn l (w+1) 0 m↔Dn l w l.length m):=by
  intro m hm;unfold Dn;constructor
  ·rintro (h|⟨h1,h2⟩)
   ·by_cases hw:l.getD m 0=w
    ·exact .inr ⟨hw,hm⟩
    ·exact .inl (by omega)
   ·omega
  ·rintro (h|⟨h1,h2⟩)
   ·exact .inl (by omega)
   ·exact .inl (by omega)
 refine ⟨h.len,?_,fun m hm hd=>?_,fun v h0 hv=>?_,fun m m' v hm hm' hd hd'=>h.uni m m' v hm hm' ((hD m hm).1 hd) ((hD m' hm').1 hd')⟩
 ·show 0≤s.2*2
  have:=h.lo;omega
 ·show 0≤s.1.getD m 0∧_≤s.2*2*q
  rw [e];exact h.cod m hm ((hD m hm).1 hd)
 ·have hv:v<s.2*2*q:=hv
  rw [e] at hv
  obtain ⟨m,h1,h2,h3⟩:=h.cov v h0 hv
  exact ⟨m,h1,(hD m h1).2 h2,h3⟩
theorem J.inn {l:List Int} {w p:Int} {s:List Int×Int} (h:J l w p 0 s) (hp:cw w=p) (hp0:0<p) (hw:1≤w):∀i,i≤l.length→J l w p i (cIn w l i s)
 |0,_=>h
 |i+1,hi=>by rw [cIn];exact J.step (J.inn h hp hp0 hw i (by omega)) (by omega) hp hp0 hw
theorem J7 (l:List Int):J l 7 1 l.length (cOut l 7):=by
 have j0:J l 1 64 0 ((cOut l 0).1,(cOut l 0).2*2):=by
  refine ⟨by simp [cOut],by simp [cOut],fun m hm hd=>?_,fun v h0 hv=>?_,fun m m' v hm hm' hd=>?_⟩
  ·unfold Dn at hd;omega
  ·have:v<0:=by simpa [cOut] using hv
   omega
  ·unfold Dn at hd;omega
 have j1:=(J.inn j0 (by decide) (by decide) (by decide) l.length (Nat.le_refl _)).level (q:=32) (by decide) (by decide)
 have j2:=(J.inn j1 (by decide) (by decide) (by decide) l.length (Nat.le_refl _)).level (q:=16) (by decide) (by decide)
 have j3:=(J.inn j2 (by decide) (by decide) (by decide) l.length (Nat.le_refl _)).level (q:=8) (by decide) (by decide)
 have j4:=(J.inn j3 (by decide) (by decide) (by decide) l.length (Nat.le_refl _)).level (q:=4) (by decide) (by decide)
 have j5:=(J.inn j4 (by decide) (by decide) (by decide) l.length (Nat.le_refl _)).level (q:=2) (by decide) (by decide)
 have j6:=(J.inn j5 (by decide) (by decide) (by decide) l.length (Nat.le_refl _)).level (q:=1) (by decide) (by decide)
 exact J.inn j6 (by decide) (by decide) (by decide) l.length (Nat.le_refl _)
theorem cIn_cnt (w:Int) (l:List Int) (s:List Int×Int):∀i,i≤l.length→(cIn w l i s).2=s.2+((l.take i).count w:Nat)
 |0,_=>by simp [cIn]
 |i+1,hi=>by
  have ih:=cIn_cnt w l s i (by omega)
  rw [cIn,List.take_succ_eq_append_getElem (by omega),List.count_append]
  have e:l.getD i 0=l[i]:=by simp [show i<l.length by omega]
  rw [e]
  by_cases h:l[i]=w
  ·rw [if_pos h];simp only [h,List.count_singleton_self];omega
  ·rw [if_neg h];simp only [List.count_singleton,beq_iff_eq,h,if_false];omega
theorem csum_cnt (l:List Int) (h:In l 0 7):csum l=64*(l.count 1:Nat)+32*(l.count 2:Nat)+16*(l.count 3:Nat)+8*(l.count 4:Nat)+4*(l.count 5:Nat)+2*(l.count 6:Nat)+(l.count 7:Nat):=by
 induction l with
 |nil=>simp [csum]
 |cons x l ih=>
  have hx:0≤x∧x≤7:=by unfold In at h;exact h x (by simp)
  have ih:=ih (by unfold In at *;exact fun v hv=>h v (List.mem_cons_of_mem _ hv))
  have hc:csum (x::l)=cw x+csum l:=by unfold csum;simp
  have key:∀k:Fin 8,cw (k.val:Int)+csum l=64*((((k.val:Int)::l).count 1:Nat):Int)+32*(((k.val:Int)::l).count 2:Nat)+16*(((k.val:Int)::l).count 3:Nat)+8*(((k.val:Int)::l).count 4:Nat)+4*(((k.val:Int)::l).count 5:Nat)+2*(((k.val:Int)::l).count 6:Nat)+(((k.val:Int)::l).count 7:Nat):=by
   have c0:cw 0=0:=by decide
   have c1:cw 1=64:=by decide
   have c2:cw 2=32:=by decide
   have c3:cw 3=16:=by decide
   have c4:cw 4=8:=by decide
   have c5:cw 5=4:=by decide
   have c6:cw 6=2:=by decide
   have c7:cw 7=1:=by decide
   rintro ⟨k,hk⟩
   rcases (by omega:k=0∨k=1∨k=2∨k=3∨k=4∨k=5∨k=6∨k=7) with rfl|rfl|rfl|rfl|rfl|rfl|rfl|rfl<;>simp [List.count_cons,c0,c1,c2,c3,c4,c5,c6,c7]<;>omega
  obtain ⟨k,rfl⟩:∃k:Nat,x=k:=⟨x.toNat,by omega⟩
  rw [hc];exact key ⟨k,by omega⟩
theorem next7 (l:List Int) (h:In l 0 7):(cOut l 7).2=csum l:=by
 have e:∀w,(cOut l (w+1)).2=(cOut l w).2*2+(l.count ((w:Int)+1):Nat):=by
  intro w;rw [cOut,cIn_cnt _ _ _ _ (Nat.le_refl _),List.take_length]
 have e1:=e 0;have e2:=e 1;have e3:=e 2;have e4:=e 3;have e5:=e 4;have e6:=e 5;have e7:=e 6
 have e0:(cOut l 0).2=0:=rfl
 rw [csum_cnt l h]
 simp only [Nat.reduceAdd,Int.natCast_zero,Int.reduceAdd,Int.zero_add] at e1 e2 e3 e4 e5 e6 e7
 simp only [show ((1:Nat):Int)+1=2 from rfl,show ((2:Nat):Int)+1=3 from rfl,show ((3:Nat):Int)+1=4 from rfl,show ((4:Nat):Int)+1=5 from rfl,show ((5:Nat):Int)+1=6 from rfl,show ((6:Nat):Int)+1=7 from rfl] at e1 e2 e3 e4 e5 e6 e7
 omega
theorem code_in {l:List Int} (h:CodeOk l) {m:Nat} (hm:m<6):0≤l.getD m 0∧l.getD m 0≤7:=by
 have h6:=h.2.1
 exact in_get h.1 (by omega)
theorem code_fit {l:List Int} (h:CodeOk l) {m:Nat} (hm:m<6) (h1:l.getD m 0≠0):0≤(codes l).getD m 0∧((codes l).getD m 0+1)*cw (l.getD m 0)≤128:=by
 have h6:=h.2.1
 have hb:=code_in h hm
 have:=(J7 l).cod m (by omega) (by unfold Dn;omega)
 rw [next7 l h.1,h.2.2] at this
 simpa [codes] using this
theorem code_lt {l:List Int} (h:CodeOk l) {m:Nat} (hm:m<6) (h1:l.getD m 0≠0):(codes l).getD m 0<2 ^ (l.getD m 0).toNat:=by
 have hb:=code_in h hm
 have hf:=(code_fit h hm h1).2
 generalize (codes l).getD m 0=c at*
 generalize l.getD m 0=n at*
 have key:∀k:Fin 8,k.val≠0→(c+1)*cw (k.val:Int)≤128→c<2 ^ ((k.val:Int)).toNat:=by
  rintro ⟨k,hk⟩ h0 hc
  rcases (by omega:k=0∨k=1∨k=2∨k=3∨k=4∨k=5∨k=6∨k=7) with rfl|rfl|rfl|rfl|rfl|rfl|rfl|rfl
  ·exact absurd rfl h0
  all_goals simp [cw] at hc ⊢
  all_goals omega
 obtain ⟨k,rfl⟩:∃k:Nat,n=k:=⟨n.toNat,by omega⟩
 exact key ⟨k,by omega⟩ (fun e=>h1 (by simp at e;simp [e])) hf
end Go.Proofs.YtainhhfnnclfiaaGreat


namespace Go.Proofs.YtainhhfnnclfiaaGreat
open Go Go.Abs
attribute [local irreducible] WpA WpL Rnd Blk Abs.Seq Abs.Fin Abs.FinG FnC FnG Only
def HasC (l:List Int) (m:Int):Prop:=CodeOk l∧(0≤m∧m≤5)∧l.getD m.toNat 0≠0
instance (l:List Int) (m:Int):Decidable (HasC l m):=by unfold HasC;infer_instance
def symL (l:List Int) (m:Int):List Int:=if HasC l m then bitsL ((codes l).getD m.toNat 0) (l.getD m.toNat 0) else []
theorem sym_fit {l:List Int} {m:Int} (h:HasC l m):(1≤l.getD m.toNat 0∧l.getD m.toNat 0≤7)∧0≤(codes l).getD m.toNat 0∧(codes l).getD m.toNat 0≤127∧bitOk ((codes l).getD m.toNat 0) (l.getD m.toNat 0):=by
 obtain ⟨h1,h2,h3⟩:=h
 have a:=code_in h1 (m:=m.toNat) (by omega)
 have b:=code_fit h1 (m:=m.toNat) (by omega) h3
 have c:=code_lt h1 (m:=m.toNat) (by omega) h3
 have d:(codes l).getD m.toNat 0≤127:=by
  have:(2:Int) ^ (l.getD m.toNat 0).toNat≤2 ^ 7:=by
   have:=Nat.pow_le_pow_right (n:=2) (by decide) (show (l.getD m.toNat 0).toNat≤7 by omega)
   exact_mod_cast this
  omega
 exact ⟨by omega,b.1,d,by omega,b.1,Int.ediv_eq_zero_of_lt b.1 c⟩
theorem symL_len (l:List Int) (m:Int):((symL l m).length:Int)=if HasC l m then l.getD m.toNat 0 else 0:=by
 unfold symL
 split
 ·rename_i h
  obtain ⟨h1,h2,h3,h4⟩:=sym_fit h
  rw [bitsL,if_pos h4,bitsR_len];omega
 ·rfl
theorem symL_pos (l:List Int) (m:Int):0<(symL l m).length↔HasC l m:=by
 have:=symL_len l m
 split at this
 ·rename_i h;have:=(sym_fit h).1;constructor<;>intro _<;>first|assumption|omega
 ·rename_i h;constructor
  ·intro h';omega
  ·intro h';exact absurd h' h
instance SymBits_s:Con 115 (∀ (l:List Int) (m:Int),l.length≤1099511627776→Fn 115 [IL l,I m] [XI (symL l m)] (.own 0 0 0 (symL l m).length)):=⟨fun l m hl=>by
 by_cases h:HasC l m
 ·obtain ⟨h1,h2,h3⟩:=id h
  obtain ⟨f1,f2,f3,f4⟩:=sym_fit h
  have h6:=h1.2.1
  have e:=codesR_ok l h1
  have h7:(codesR l).length=6:=codesR_len l h1
  rw [←e] at f2 f3
  refine FnC.of_body tabOk Tryz.func115 Tryz.ntmps115 rfl (by decide +kernel) (by simp) fun G=>?_
  refine go (r:=?_);and_intros<;>intros<;>try exact True.intro
  all_goals first|(exact absurd ‹CodeOk l› ‹¬ CodeOk l›)|(exact absurd h1 (by assumption))|(exact absurd h2 (by assumption))|(exact absurd (by assumption) h3)|skip
  ·rw [symL,if_pos h,e]
  ·rw [symL,if_pos h,e]
 ·have e:symL l m=[]:=by rw [symL,if_neg h]
  by_cases hc:CodeOk l
  ·have h6:=hc.2.1
   have h7:(codes l).length=6:=by rw [codes_len,h6]
   by_cases hm:0≤m∧m≤5
   ·have h0:l.getD m.toNat 0=0:=Decidable.not_not.1 fun hh=>h ⟨hc,hm,hh⟩
    refine FnC.of_body tabOk Tryz.func115 Tryz.ntmps115 rfl (by decide +kernel) (by simp) fun G=>?_
    refine go (r:=?_);and_intros<;>intros<;>try exact True.intro
    all_goals first|(rw [e];done)|(rw [e];rfl)|skip
   ·refine FnC.of_body tabOk Tryz.func115 Tryz.ntmps115 rfl (by decide +kernel) (by simp) fun G=>?_
    refine go (r:=?_);and_intros<;>intros<;>try exact True.intro
    all_goals first|(rw [e];done)|(rw [e];rfl)|skip
  ·refine FnC.of_body tabOk Tryz.func115 Tryz.ntmps115 rfl (by decide +kernel) (by simp) fun G=>?_
   refine go (r:=?_);and_intros<;>intros<;>try exact True.intro
   all_goals first|(rw [e];done)|(rw [e];rfl)|skip⟩
instance SymBits_c:Con 176 (∀ (l:List Int) (m:Int),l.length≤1099511627776→Fn 176 [IL l,I m] [XI (symL l m)] (.own 0 0 0 (symL l m).length)):=⟨fun l m hl=>by
 by_cases h:HasC l m
 ·obtain ⟨h1,h2,h3⟩:=id h
  obtain ⟨f1,f2,f3,f4⟩:=sym_fit h
  have h6:=h1.2.1
  have h7:(codes l).length=6:=by rw [codes_len,h6]
  refine FnC.of_body tabOk Tryz.func176 Tryz.ntmps176 rfl (by decide +kernel) (by simp) fun G=>?_
  refine go (r:=?_);and_intros<;>intros<;>try exact True.intro
  all_goals first|(exact absurd ‹CodeOk l› ‹¬ CodeOk l›)|(exact absurd h1 (by assumption))|(exact absurd h2 (by assumption))|(exact absurd (by assumption) h3)|skip
  ·rw [symL,if_pos h]
  ·rw [symL,if_pos h]
 ·have e:symL l m=[]:=by rw [symL,if_neg h]
  by_cases hc:CodeOk l
  ·have h6:=hc.2.1
   have h7:(codes l).length=6:=by rw [codes_len,h6]
   by_cases hm:0≤m∧m≤5
   ·have h0:l.getD m.toNat 0=0:=Decidable.not_not.1 fun hh=>h ⟨hc,hm,hh⟩
    refine FnC.of_body tabOk Tryz.func176 Tryz.ntmps176 rfl (by decide +kernel) (by simp) fun G=>?_
    refine go (r:=?_);and_intros<;>intros<;>try exact True.intro
    all_goals first|(rw [e];done)|(rw [e];rfl)|skip
   ·refine FnC.of_body tabOk Tryz.func176 Tryz.ntmps176 rfl (by decide +kernel) (by simp) fun G=>?_
    refine go (r:=?_);and_intros<;>intros<;>try exact True.intro
    all_goals first|(rw [e];done)|(rw [e];rfl)|skip
  ·refine FnC.of_body tabOk Tryz.func176 Tryz.ntmps176 rfl (by decide +kernel) (by simp) fun G=>?_
   refine go (r:=?_);and_intros<;>intros<;>try exact True.intro
   all_goals first|(rw [e];done)|(rw [e];rfl)|skip⟩
instance hasCode_c:Con 111 (∀ (l:List Int) (m:Int),l.length≤1099511627776→Fn 111 [IL l,I m] [] (B (decide (HasC l m)))):=⟨fun l m hl=>by
 have:=symL_pos l m
 refine FnC.of_body tabOk Tryz.func111 Tryz.ntmps111 rfl (by decide +kernel) (by simp) fun G=>?_
 refine go (r:=?_);and_intros<;>intros<;>try exact True.intro
 all_goals (rw [decide_eq_decide];rw [←symL_pos];omega)⟩
def firstM (l:List Int):Nat:=l.findIdx (fun x=>decide (x≠0))
def modeF (q:Int) (l ms:List Int) (k:Int):Int:=if OptOk q l∧0≤k then
 (if ms≠[]∧HasC l (ms.getD (k%ms.length).toNat 0) then ms.getD (k%ms.length).toNat 0 else firstM l) else -1
abbrev OpO (q:Int) (b d:Bool) (l m:List Int) (e:List Bool):AObj:=⟨[I q,B b,B d,IL l,IL m,BL e],0,0,none⟩
end Go.Proofs.YtainhhfnnclfiaaGreat
