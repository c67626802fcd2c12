/- Proved in this text: lemmas and contracts of functions that the claim uses (parts: Mat3, Mat4, Pred, Scan, Quant, Scn, Kraft, Sym, Lw, Lev, Stat, Sid, ResL, EdgL, Nb, PredAt). No condition. -/
import Derived.Test.YtainhhfnnclfiaaGreatBsM9
import Derived.Test.YtainhhfnnclfiaaGreatBsM6
set_option linter.unusedVariables false
set_option linter.unusedSimpArgs false
set_option maxRecDepth 100000
set_option maxHeartbeats 16000000


namespace Go.Proofs.YtainhhfnnclfiaaGreat
open Go Go.Abs
attribute [local irreducible] WpA WpL Rnd Blk Abs.Seq Abs.Fin Abs.FinG FnC FnG Only RollN
def ocF (x:Int):Int:=if x=1∨x=2∨x=4 then 1 else if x=3∨x=5∨x=6 then 2 else if x=7 then 3 else 0
instance OnesCount64_c:Con 299 (∀ x:Int,0≤x∧x<8→Fn 299 [.sc (.int .u64 x)] [] (I (ocF x))):=⟨fun x hx=>by
 rcases (by omega:x=0∨x=1∨x=2∨x=3∨x=4∨x=5∨x=6∨x=7) with rfl|rfl|rfl|rfl|rfl|rfl|rfl|rfl
 all_goals refine FnC.of_body tabOk Tryz.func299 Tryz.ntmps299 rfl (by decide +kernel) (by simp) fun G=>?_
 all_goals refine go (r:=?_);and_intros<;>intros<;>try exact True.intro
 all_goals first|(decide +kernel)|rfl|(apply Re.setA (c:=cellsH r) (V:=.own 2 _ 0 _) (V':=.own 2 _ 0 _);(· apply Re.own (id:=2)<;>first|exact rfl|exact .nil);exact hst)⟩
instance OnesCount_c:Con 285 (∀ x:Int,0≤x∧x<8→Fn 285 [.sc (.int .u64 x)] [] (I (ocF x))):=⟨fun x hx=>by
 refine FnC.of_body tabOk Tryz.func285 Tryz.ntmps285 rfl (by decide +kernel) (by simp) fun G=>?_
 refine go (r:=?_);and_intros<;>intros<;>try exact True.intro⟩
theorem ocF_bd (x:Int):0≤ocF x∧ocF x≤3:=by unfold ocF;split<;>(try split)<;>(try split)<;>omega
theorem ocF_par (b:Nat) (h:b<8):1-2*(ocF b%2)=par b:=by
 rcases (by omega:b=0∨b=1∨b=2∨b=3∨b=4∨b=5∨b=6∨b=7) with rfl|rfl|rfl|rfl|rfl|rfl|rfl|rfl<;>rfl
def cellsH (r:Nat):List AV:=(List.range 8).map fun q=>if q<r then .fre 1 8 (ints (tabL (mx 8 q) 8)) else .nilS
theorem andu (r k:Nat) (h:r<8) (h2:k<8):IntKind.u64.wrap (IntKind.i64.wrap ((BitVec.ofInt IntKind.i64.bits (r:Int) &&& BitVec.ofInt IntKind.i64.bits (k:Int)).toNat:Nat))=((r &&& k:Nat):Int)∧r &&& k<8:=by
 have:=Nat.and_le_left (n:=r) (m:=k)
 rw [andw r k (by omega) (by omega)]
 refine ⟨?_,by omega⟩
 generalize r &&& k=b at this
 have hb:b<8:=by omega
 rcases (by omega:b=0∨b=1∨b=2∨b=3∨b=4∨b=5∨b=6∨b=7) with rfl|rfl|rfl|rfl|rfl|rfl|rfl|rfl<;>rfl
def invH (r:Nat):Nat→List AObj
 |0=>[⟨(cellsH r).set r .nilS,0,1,some 32⟩]
 |k+1=>[⟨(cellsH r).set r (.own 2 0 0 (k+1)),0,1,some 32⟩,⟨[.any],0,1,none⟩,XI (tabL (mx 8 r) (k+1))]
theorem cellsH_nil {r:Nat} (h:r<8):cellsH r=(cellsH r).set r .nilS:=by
 rcases (by omega:r=0∨r=1∨r=2∨r=3∨r=4∨r=5∨r=6∨r=7) with rfl|rfl|rfl|rfl|rfl|rfl|rfl|rfl<;>rfl
theorem cellsH_succ {r:Nat} (h:r<8) (X:AV):((cellsH r).set r X).set r (.fre 1 8 (ints (tabL (mx 8 r) 8)))=cellsH (r+1):=by
 rcases (by omega:r=0∨r=1∨r=2∨r=3∨r=4∨r=5∨r=6∨r=7) with rfl|rfl|rfl|rfl|rfl|rfl|rfl|rfl<;>rfl
theorem hnest {r:Nat} (h:r<8):flatO [⟨((cellsH r).set r (.own 2 0 0 8)).set r (.fre 1 8 (ints (tabL (mx 8 r) 8))),0,1,some 32⟩,⟨[.any],0,1,none⟩,⟨[],1,0,none⟩]=some [⟨cellsH (r+1),0,1,some 32⟩,⟨[.any],0,1,none⟩,⟨[],1,0,none⟩]:=by
 rw [cellsH_succ h];rfl
theorem Re.consA {O O':List AObj} {V V':AV} {vs us:List AV} (h:Re O O' [V] [V']) (r:Re O O' vs us):Re O O' (V::vs) (V'::us):=by
 cases h with
 |any _=>exact .any r
 |keep a b _=>exact .keep a b r
 |fn a _=>exact .fn a r
 |own a b c d e f _=>exact .own a b c d e f r
 |ptr a b c d _=>exact .ptr a b c d r
 |agg a _=>exact .agg a r
 |tup a _=>exact .tup a r
theorem Re.setA {O O':List AObj} {V V':AV} (h:Re O O' [V] [V']):∀{c:List AV} {i:Nat},c.all AV.still=true→Re O O' (c.set i V) (c.set i V')
 |[],i,_=>.nil
 |a::c,0,hs=>Re.consA h (Re.same rfl (by rw [List.all_cons,Bool.and_eq_true] at hs;exact hs.2))
 |a::c,i+1,hs=>by
  rw [List.all_cons,Bool.and_eq_true] at hs
  exact Re.keep rfl hs.1 (Re.setA h hs.2)
theorem cellsH_still (r:Nat):(cellsH r).all AV.still=true:=by
 rw [List.all_eq_true];intro V hV;simp only [cellsH,List.mem_map] at hV;obtain ⟨q,_,rfl⟩:=hV
 split<;>rfl
theorem cellsH_len (r:Nat):(cellsH r).length=8:=by simp [cellsH]
theorem cellsH_8:cellsH 8=rows liF H8:=rfl
theorem cellsH_0:cellsH 0=[.nilS,.nilS,.nilS,.nilS,.nilS,.nilS,.nilS,.nilS]:=rfl
attribute [local irreducible] cellsH
instance matrixH_c:Con 254 (Fn 254 [] [⟨rows liF H8,0,1,some 32⟩] (.own 0 0 0 8)):=⟨by
 refine FnC.of_body tabOk Tryz.func254 Tryz.ntmps254 rfl (by decide +kernel) (by simp) fun G=>?_
 refine K.A ?_
 refine WpA.seq ?_
 refine WpA.regionF rfl ?_
 refine WpL.assign rfl (by decide) ?_
 refine WpL.nil ?_
 refine Abs.Seq.n ?_
 refine WpA.seq ?_
 refine WpA.regionF rfl ?_
 refine WpL.make tabOk rfl rfl rfl (by decide) (by decide) rfl (by decide) ?_
 refine go (r:=?_);and_intros<;>intros<;>try exact True.intro
 refine WpA.loop (fun r:Nat=>⟨[(1,.own 0 0 0 8),(5,I r)],[⟨cellsH r,0,1,some 32⟩]⟩) (fun r=>r≤8) (fun r=>8-r) 0 (by omega) (go (r:=?_)) (fun r hr=>?_)
 ·and_intros<;>first|trivial|rfl|exact .nil|exact .inr rfl|exact Re.same cellsH_0.symm (cellsH_still 0)
 by_cases h8:r=8
 ·subst h8
  refine go (r:=?_);and_intros<;>intros<;>try exact True.intro
  all_goals first|exact cellsH_8
 have hr8:r<8:=by omega
 have hcl:=cellsH_len r
 have hst:=cellsH_still r
 have hc0:=cellsH_nil hr8
 refine go (r:=?_);and_intros<;>intros<;>try exact True.intro
 refine WpA.loop (fun k:Nat=>⟨[(1,.own 0 0 0 8),(2,I r),(5,I r),(8,I k)],invH r k⟩) (fun k=>k≤8) (fun k=>8-k) 0 (by omega) (go (r:=?_)) (fun k hk=>?_)
 ·and_intros<;>first|trivial|rfl|exact .nil|exact .inr rfl|(exact hc0)|exact Re.same hc0 (by rw [←hc0];exact hst)
 by_cases hk8:k=8
 ·subst hk8
  refine WpA.weak (NestC.weak (id:=0) (offs:=[r]) (O2:=[⟨cellsH (r+1),0,1,some 32⟩,⟨[.any],0,1,none⟩,⟨[],1,0,none⟩]) ?_) ?_
  ·apply NestC.cons (off:=r) (j:=2) (O1:=[⟨cellsH (r+1),0,1,some 32⟩,⟨[.any],0,1,none⟩,⟨[],1,0,none⟩])
   ·exact rfl
   ·exact List.getElem?_set_self (by omega)
   ·exact rfl
   ·exact rfl
   ·decide
   ·exact rfl
   ·exact still_ints _
   ·exact rfl
   ·exact hnest hr8
   ·exact .nil
  have hst1:=cellsH_still (r+1)
  refine go (r:=?_);and_intros<;>intros<;>try exact True.intro
  all_goals first|exact Re.same rfl hst1
 obtain ⟨hau,hal⟩:=andu r k (by omega) (by omega)
 have hob:=ocF_bd (IntKind.u64.wrap (IntKind.i64.wrap ((BitVec.ofInt IntKind.i64.bits ((r:Nat):Int) &&& BitVec.ofInt IntKind.i64.bits (k:Int)).toNat:Nat)))
 have hop:=ocF_par (r &&& k) hal
 have hkl:=tabL_len (mx 8 r) k
 have hval:1-2*(ocF (IntKind.u64.wrap (IntKind.i64.wrap ((BitVec.ofInt IntKind.i64.bits ((r:Nat):Int) &&& BitVec.ofInt IntKind.i64.bits (k:Int)).toNat:Nat)))%2)=mx 8 r k:=by rw [hau];exact hop
 rcases k with _|k
 ·refine go (r:=?_);and_intros<;>intros<;>try exact True.intro
  all_goals first|exact Re.any Re.nil|exact .inl rfl|(rw [hval];rfl)|(apply Re.setA (c:=cellsH r) (V:=.own 2 _ 0 _) (V':=.own 2 _ 0 _);(· apply Re.own (id:=2)<;>first|exact rfl|exact .nil);exact hst)|exact Re.same rfl hst
 ·refine go (r:=?_);and_intros<;>intros<;>try exact True.intro
  all_goals first|(rw [tabL_snoc _ (k+1),hval];done)|exact Re.any Re.nil|(apply Re.setA (c:=cellsH r) (V:=.own 2 _ 0 _) (V':=.own 2 _ 0 _);(· apply Re.own (id:=2)<;>first|exact rfl|exact .nil);exact hst)|(apply Re.setA (c:=cellsH r) (V:=.own 2 _ 0 _) (V':=.own 2 _ 0 _);(· apply Re.own (id:=2)<;>first|exact rfl|exact .nil);exact hst)⟩
end Go.Proofs.YtainhhfnnclfiaaGreat


namespace Go.Proofs.YtainhhfnnclfiaaGreat
open Go Go.Abs
attribute [local irreducible] WpA WpL Rnd Blk Abs.Seq Abs.Fin Abs.FinG FnC FnG Only
end Go.Proofs.YtainhhfnnclfiaaGreat


namespace Go.Proofs.YtainhhfnnclfiaaGreat
open Go Go.Abs
attribute [local irreducible] WpA WpL Rnd Blk Abs.Seq Abs.Fin Abs.FinG FnC FnG Only
def side (k:Nat):Int:=if k=16 then 4 else if k=64 then 8 else 0
theorem side_pos (k:Nat):0<side k↔k=16∨k=64:=by unfold side;split<;>(try split)<;>omega
theorem side_cases (k:Nat):(k=16∧side k=4)∨(k=64∧side k=8)∨(k≠16∧k≠64∧side k=0):=by unfold side;split<;>(try split)<;>omega
instance SizeOk_s:Con 179 (∀ n:Int,Fn 179 [I n] [] (B (decide (n=4∨n=8)))):=⟨fun n=>by
 refine FnC.of_body tabOk Tryz.func179 Tryz.ntmps179 rfl (by decide +kernel) (by simp) fun G=>?_
 refine go (r:=?_);and_intros<;>intros<;>try exact True.intro
 all_goals simp_all⟩
instance SizeOk_c:Con 175 (∀ n:Int,Fn 175 [I n] [] (B (decide (n=4∨n=8)))):=⟨fun n=>by
 refine FnC.of_body tabOk Tryz.func175 Tryz.ntmps175 rfl (by decide +kernel) (by simp) fun G=>?_
 refine go (r:=?_);and_intros<;>intros<;>try exact True.intro
 all_goals simp_all⟩
instance l9Side_s:Con 152 (∀ l:List Int,l.length≤9223372036854775807→Fn 152 [IL l] [] (I (side l.length))):=⟨fun l hl=>by
 refine FnC.of_body tabOk Tryz.func152 Tryz.ntmps152 rfl (by decide +kernel) (by simp) fun G=>?_
 have h:=side_cases l.length
 refine go (r:=?_);and_intros<;>intros<;>try exact True.intro⟩
instance sizeOf_c:Con 177 (∀ k:Nat,Fn 177 [I k] [] (I (side k))):=⟨fun k=>by
 refine FnC.of_body tabOk Tryz.func177 Tryz.ntmps177 rfl (by decide +kernel) (by simp) fun G=>?_
 have h:=side_cases k
 refine go (r:=?_);and_intros<;>intros<;>try exact True.intro⟩
def psum (l:List Int) (k:Nat):Int:=(l.take k).sum
theorem psum_zero (l:List Int):psum l 0=0:=by simp [psum]
theorem psum_succ (l:List Int) (k:Nat) (h:k<l.length):psum l (k+1)=psum l k+l.getD k 0:=by
 unfold psum;rw [List.take_succ_eq_append_getElem h,List.sum_append];simp [h]
theorem psum_all (l:List Int):psum l l.length=l.sum:=by simp [psum]
theorem psum_bd {l:List Int} (h:In l 0 255) (k:Nat) (hk:k≤l.length):0≤psum l k∧psum l k≤255*k:=by
 induction k with
 |zero=>simp [psum]
 |succ k ih=>
  have h1:=in_get h (k:=k) (by omega)
  have h2:=ih (by omega)
  rw [psum_succ l k (by omega)];omega
theorem in_take {l:List Int} {lo hi:Int} (h:In l lo hi) (k:Nat):In (l.take k) lo hi:=by unfold In at *;intro v hv;exact h v (List.mem_of_mem_take hv)
instance l14Sum_s:Con 245 (∀ l:List Int,l.length≤1099511627776∧In l 0 255→Fn 245 [IL l] [] (I l.sum)):=⟨fun l hl=>by
 refine FnC.of_body tabOk Tryz.func245 Tryz.ntmps245 rfl (by decide +kernel) (by simp) fun G=>?_
 refine go (r:=?_);and_intros<;>intros<;>try exact True.intro
 refine WpA.loop (fun k:Nat=>⟨[(0,IL l),(3,I (psum l k)),(4,I k)],[]⟩) (fun k=>k≤l.length) (fun k=>l.length-k) 0 (by omega) (go (r:=?_)) (fun k hk=>?_)
 ·simp [psum_zero]
 have hb:=psum_bd hl.2 k hk
 have hg:=fun h=>in_get hl.2 (k:=k) h
 have hs:=fun h=>psum_succ l k h
 refine go (r:=?_);and_intros<;>intros<;>try exact True.intro
 ·have e:k=l.length:=by omega
  subst e;rw [psum_all]⟩
instance Clone_c:Con 131 (∀ l:List Int,l.length≤1099511627776→Fn 131 [IL l] [XI l] (.own 0 0 0 l.length)):=⟨fun l hl=>by
 refine FnC.of_body tabOk Tryz.func131 Tryz.ntmps131 rfl (by decide +kernel) (by simp) fun G=>?_
 refine go (r:=?_);and_intros<;>intros<;>try exact True.intro
 all_goals (have e:l=[]:=List.eq_nil_of_length_eq_zero (by omega));subst e;rfl⟩
def revp (l:List Int) (i:Nat):List Int:=(List.range l.length).map fun k=>if k<i∨l.length-1-k<i then l.getD (l.length-1-k) 0 else l.getD k 0
theorem revp_len (l:List Int) (i:Nat):(revp l i).length=l.length:=by simp [revp]
theorem revp_zero (l:List Int):revp l 0=l:=by
 apply eq_all 0 (by rw [revp_len])
 intro j hj
 rw [revp_len] at hj
 simp [revp,hj]
theorem revp_get (l:List Int) (i j:Nat) (hj:j<l.length):(revp l i).getD j 0=if j<i∨l.length-1-j<i then l.getD (l.length-1-j) 0 else l.getD j 0:=by
 simp only [revp,List.getD_eq_getElem?_getD,List.getElem?_map,List.getElem?_range hj,Option.map_some,Option.getD_some]
theorem rev_get (l:List Int) (j:Nat) (hj:j<l.length):l.reverse.getD j 0=l.getD (l.length-1-j) 0:=by
 simp only [List.getD_eq_getElem?_getD,List.getElem?_reverse hj]
theorem revp_end (l:List Int) (i:Nat) (h:l.length≤2*i+1):revp l i=l.reverse:=by
 apply eq_all 0 (by rw [revp_len,List.length_reverse])
 intro j hj
 rw [revp_len] at hj
 rw [revp_get l i j hj,rev_get l j hj]
 split
 ·rfl
 ·have:l.length-1-j=j:=by omega
  rw [this]
theorem revp_step (l:List Int) (i:Nat) (h:2*i+1<l.length):((revp l i).set i ((revp l i).getD (l.length-1-i) 0)).set (l.length-1-i) ((revp l i).getD i 0)=revp l (i+1):=by
 have e1:(revp l i).getD (l.length-1-i) 0=l.getD (l.length-1-i) 0:=by
  rw [revp_get l i _ (by omega),if_neg (by omega)]
 have e2:(revp l i).getD i 0=l.getD i 0:=by
  rw [revp_get l i _ (by omega),if_neg (by omega)]
 rw [e1,e2]
 apply eq_all 0 (by simp [revp_len])
 intro j hj
 simp only [List.length_set,revp_len] at hj
 rw [revp_get l (i+1) j hj,List.getD_eq_getElem?_getD,List.getElem?_set,List.getElem?_set]
 simp only [List.length_set,revp_len]
 by_cases c1:l.length-1-i=j
 ·rw [if_pos c1,if_pos (by omega),if_pos (by omega),Option.getD_some];congr 1;omega
 ·rw [if_neg c1]
  by_cases c2:i=j
  ·rw [if_pos c2,if_pos (by omega),if_pos (by omega),Option.getD_some,c2]
  ·rw [if_neg c2,←List.getD_eq_getElem?_getD,revp_get l i j hj]
   by_cases c3:j<i∨l.length-1-j<i
   ·rw [if_pos c3,if_pos (by omega)]
   ·rw [if_neg c3,if_neg (by omega)]
instance Reverse_c:ConG 283 (∀ l:List Int,1≤l.length∧l.length≤1099511627776→Gn 283 [.own 0 0 0 l.length] [XI l] [XI l.reverse] [] (.tup [])):=⟨fun l hl=>by
 refine FnG.of_bodyF tabOk Tryz.func283 Tryz.ntmps283 rfl (by decide +kernel) (by simp) rfl rfl fun G=>?_
 refine go (r:=?_);and_intros<;>intros<;>try exact True.intro
 refine WpA.loop (fun i:Nat=>⟨[(0,.own 0 0 0 l.length),(2,I i),(3,I ((l.length:Int)-1-i))],[XI (revp l i)]⟩) (fun i=>2*i≤l.length) (fun i=>l.length-i) 0 (by omega) (go (r:=?_)) (fun i hi=>?_)
 ·simp [revp_zero]
 have hl2:=revp_len l i
 refine go (r:=?_);and_intros<;>intros<;>try exact True.intro
 ·have e1:((l.length:Int)-1-(i:Int)).toNat=l.length-1-i:=by omega
  rw [e1,Int.toNat_natCast];exact revp_step l i (by omega)
 ·exact revp_end l i (by omega)⟩
end Go.Proofs.YtainhhfnnclfiaaGreat


namespace Go.Proofs.YtainhhfnnclfiaaGreat
open Go Go.Abs
attribute [local irreducible] WpA WpL Rnd Blk Abs.Seq Abs.Fin Abs.FinG FnC FnG Only
def scX (d k:Nat):Int:=if (d:Int)%2=0 then (d:Int)-k else k
def scIn (n:Int) (d:Nat):Nat→List Int→List Int
 |0,o=>o
 |k+1,o=>if scX d k<n∧(d:Int)-scX d k<n then scIn n d k o++[((d:Int)-scX d k)*n+scX d k] else scIn n d k o
def scOut (n:Int):Nat→List Int
 |0=>[]
 |d+1=>scIn n d (d+1) (scOut n d)
def scanL (n:Int):List Int:=if n=4∨n=8 then scOut n (2*n-1).toNat else []
theorem scIn_yes {n:Int} {d k:Nat} {o:List Int} {x v:Int} (hx:scX d k=x) (h1:x<n) (h2:(d:Int)-x<n) (hv:v=((d:Int)-x)*n+x):scIn n d k o++[v]=scIn n d (k+1) o:=by
 rw [scIn,hx,if_pos ⟨h1,h2⟩,hv]
theorem scIn_no {n:Int} {d k:Nat} {o:List Int} {x:Int} (hx:scX d k=x) (h:¬(x<n∧(d:Int)-x<n)):scIn n d k o=scIn n d (k+1) o:=by
 rw [scIn,hx,if_neg h]
theorem scIn_len (n:Int) (d:Nat) (o:List Int):∀k,(scIn n d k o).length≤o.length+k
 |0=>by simp [scIn]
 |k+1=>by rw [scIn];have:=scIn_len n d o k;split<;>(try rw [List.length_append,List.length_singleton])<;>omega
theorem scOut_len (n:Int):∀d,d≤16→(scOut n d).length≤16*d
 |0,_=>by simp [scOut]
 |d+1,h=>by rw [scOut];have:=scIn_len n d (scOut n d) (d+1);have:=scOut_len n d (by omega);omega
theorem scX_even {d k:Nat} (h:(d:Int)%2=0):scX d k=d-k:=by rw [scX,if_pos h]
theorem scX_odd {d k:Nat} (h:¬(d:Int)%2=0):scX d k=k:=by rw [scX,if_neg h]
theorem scIn_l1 {n:Int} {d k:Nat} {o:List Int} (h:scX d k<n∧(d:Int)-scX d k<n):(scIn n d (k+1) o).length=(scIn n d k o).length+1:=by rw [scIn,if_pos h,List.length_append,List.length_singleton]
theorem scIn_l0 {n:Int} {d k:Nat} {o:List Int} (h:¬(scX d k<n∧(d:Int)-scX d k<n)):(scIn n d (k+1) o).length=(scIn n d k o).length:=by rw [scIn,if_neg h]
instance ScanOrder_c:Con 250 (∀ n:Int,n=0∨n=4∨n=8→Fn 250 [I n] [XI (scanL n)] (.own 0 0 0 (scanL n).length)):=⟨fun n hn=>by
 refine FnC.of_body tabOk Tryz.func250 Tryz.ntmps250 rfl (by decide +kernel) (by simp) fun G=>?_
 have k4:n=4→scanL n=scOut 4 7:=by rintro rfl;rfl
 have k8:n=8→scanL n=scOut 8 15:=by rintro rfl;rfl
 rcases hn with rfl|rfl|rfl
 ·refine go (r:=?_);and_intros<;>intros<;>try exact True.intro
  all_goals rfl
 ·refine go (r:=?_);and_intros<;>intros<;>try exact True.intro
  refine WpA.loop (fun d:Nat=>⟨[(0,I 4),(3,.own 0 0 0 (scOut 4 d).length),(14,I 7),(15,I d)],[XI (scOut 4 d)]⟩) (fun d=>d≤7) (fun d=>7-d) 0 (by simp) (go (r:=?_)) (fun d hd=>?_)
  ·simp [scOut]
  have hol:=scOut_len 4 d (by omega)
  have hso:(scOut 4 (d+1))=scIn 4 d (d+1) (scOut 4 d):=rfl
  refine go (r:=?_);and_intros<;>intros<;>try exact True.intro
  ·refine WpA.loop (fun k:Nat=>⟨[(0,I 4),(3,.own 0 0 0 (scIn 4 d k (scOut 4 d)).length),(4,I d),(14,I 7),(15,I d),(19,I ((d:Int)+1)),(20,I k)],[XI (scIn 4 d k (scOut 4 d))]⟩) (fun k=>k≤d+1) (fun k=>d+1-k) 0 (by omega) (go (r:=?_)) (fun k hk=>?_)
   ·simp [scIn]
   have hil:=scIn_len 4 d (scOut 4 d) k
   have he:=scX_even (d:=d) (k:=k)
   have hod:=scX_odd (d:=d) (k:=k)
   have hl1:=scIn_l1 (n:=4) (d:=d) (k:=k) (o:=scOut 4 d)
   have hl0:=scIn_l0 (n:=4) (d:=d) (k:=k) (o:=scOut 4 d)
   have hso2:k=d+1→(scOut 4 (d+1)).length=(scIn 4 d k (scOut 4 d)).length:=by rintro rfl;rfl
   refine go (r:=?_);and_intros<;>intros<;>try exact True.intro
   all_goals first
    |(exact scIn_yes (he ‹_›) (by omega) (by omega) (by omega))
    |(exact scIn_yes (hod ‹_›) (by omega) (by omega) (by omega))
    |(exact scIn_no (he ‹_›) (by omega))
    |(exact scIn_no (hod ‹_›) (by omega))
    |skip
   all_goals have e:k=d+1:=by omega
   all_goals subst e
   all_goals rw [hso]
  all_goals have e:d=7:=by omega
  all_goals subst e
  all_goals first|rfl|(rw [k4 rfl])
 ·refine go (r:=?_);and_intros<;>intros<;>try exact True.intro
  refine WpA.loop (fun d:Nat=>⟨[(0,I 8),(3,.own 0 0 0 (scOut 8 d).length),(14,I 15),(15,I d)],[XI (scOut 8 d)]⟩) (fun d=>d≤15) (fun d=>15-d) 0 (by simp) (go (r:=?_)) (fun d hd=>?_)
  ·simp [scOut]
  have hol:=scOut_len 8 d (by omega)
  have hso:(scOut 8 (d+1))=scIn 8 d (d+1) (scOut 8 d):=rfl
  refine go (r:=?_);and_intros<;>intros<;>try exact True.intro
  ·refine WpA.loop (fun k:Nat=>⟨[(0,I 8),(3,.own 0 0 0 (scIn 8 d k (scOut 8 d)).length),(4,I d),(14,I 15),(15,I d),(19,I ((d:Int)+1)),(20,I k)],[XI (scIn 8 d k (scOut 8 d))]⟩) (fun k=>k≤d+1) (fun k=>d+1-k) 0 (by omega) (go (r:=?_)) (fun k hk=>?_)
   ·simp [scIn]
   have hil:=scIn_len 8 d (scOut 8 d) k
   have he:=scX_even (d:=d) (k:=k)
   have hod:=scX_odd (d:=d) (k:=k)
   have hl1:=scIn_l1 (n:=8) (d:=d) (k:=k) (o:=scOut 8 d)
   have hl0:=scIn_l0 (n:=8) (d:=d) (k:=k) (o:=scOut 8 d)
   have hso2:k=d+1→(scOut 8 (d+1)).length=(scIn 8 d k (scOut 8 d)).length:=by rintro rfl;rfl
   refine go (r:=?_);and_intros<;>intros<;>try exact True.intro
   all_goals first
    |(exact scIn_yes (he ‹_›) (by omega) (by omega) (by omega))
    |(exact scIn_yes (hod ‹_›) (by omega) (by omega) (by omega))
    |(exact scIn_no (he ‹_›) (by omega))
    |(exact scIn_no (hod ‹_›) (by omega))
    |skip
   all_goals have e:k=d+1:=by omega
   all_goals subst e
   all_goals rw [hso]
  all_goals have e:d=15:=by omega
  all_goals subst e
  all_goals first|rfl|(rw [k8 rfl])⟩
theorem scan_rg (n:Int) (h:n=0∨n=4∨n=8):In (scanL n) 0 (n*n-1)∧((scanL n).length:Int)=n*n:=by
 rcases h with rfl|rfl|rfl<;>decide +kernel
end Go.Proofs.YtainhhfnnclfiaaGreat


namespace Go.Proofs.YtainhhfnnclfiaaGreat
open Go Go.Abs
attribute [local irreducible] WpA WpL Rnd Blk Abs.Seq Abs.Fin Abs.FinG FnC FnG Only
def nearL (s v:Int):Int:=if v<0 then -((-v*2+s)/(2*s)) else (v*2+s)/(2*s)
def qz (s v:Int):Int:=max (-16383) (min 16383 (nearL s (clampM v)))
def quantL (l:List Int) (q:Int):List Int:=if 0<side l.length∧0<stepL q then l.map (qz (stepL q)) else []
theorem near_bd {s v:Int} (hs:1≤s∧s≤500) (hv:-1000000≤v∧v≤1000000):-2000000≤nearL s v∧nearL s v≤2000000:=by
 unfold nearL
 have h1:∀a:Int,0≤a→a≤2000500→0≤a/(2*s)∧a/(2*s)≤a/2:=by
  intro a h0 h1
  refine ⟨Int.ediv_nonneg h0 (by omega),?_⟩
  rw [Int.mul_comm,←Int.ediv_ediv_of_nonneg (by omega)]
  have:=Int.ediv_le_self s (show 0≤a by omega)
  exact Int.ediv_le_ediv (by decide) this
 split
 ·have:=h1 (-v*2+s) (by omega) (by omega);omega
 ·have:=h1 (v*2+s) (by omega) (by omega);omega
theorem qz_snoc (f:Int→Int) (l:List Int) (k:Nat) (h:k<l.length):(l.take k).map f++[f (l.getD k 0)]=(l.take (k+1)).map f:=by
 rw [take_snoc l k h,List.map_append];rfl
theorem clamp_bd (v:Int):-1000000≤clampM v∧clampM v≤1000000:=by unfold clampM;omega
instance Quantized_c:Con 195 (∀ (l:List Int) (q:Int),l.length≤1099511627776→Fn 195 [IL l,I q] [XI (quantL l q)] (.own 0 0 0 (quantL l q).length)):=⟨fun l q hl=>by
 have hsl:=stepL_pos q
 have hsd:=side_cases l.length
 have hsn:¬0<stepL q→stepL q=0:=fun hh=>by
  rw [stepL];split
  ·rename_i hq;exact absurd (hsl.2 hq) hh
  ·rfl
 refine FnC.of_body tabOk Tryz.func195 Tryz.ntmps195 rfl (by decide +kernel) (by simp) fun G=>?_
 by_cases h:0<side l.length∧0<stepL q
 ·have hs:=stepL_in q (hsl.1 h.2)
  refine go (r:=?_);and_intros<;>intros<;>try exact True.intro
  refine WpA.loop (fun k:Nat=>⟨[(5,I (stepL q)),(6,.own 0 0 0 k),(21,IL l),(22,I l.length),(23,I k)],[XI ((l.take k).map (qz (stepL q)))]⟩) (fun k=>k≤l.length) (fun k=>l.length-k) 0 (by omega) (go (r:=?_)) (fun k hk=>?_)
  ·simp
  have hlk:((l.take k).map (qz (stepL q))).length=k:=by simp;omega
  have hcl:=clamp_bd (l.getD k 0)
  have hnb:=near_bd hs hcl
  unfold clampM at hcl hnb
  have hq2:2*max (max (-1000000) (min (l.getD k 0) 1000000)) (-max (-1000000) (min (l.getD k 0) 1000000))+stepL q=(if max (-1000000) (min (l.getD k 0) 1000000)<0 then -max (-1000000) (min (l.getD k 0) 1000000)*2+stepL q else max (-1000000) (min (l.getD k 0) 1000000)*2+stepL q):=by split<;>omega
  by_cases hneg:max (-1000000) (min (l.getD k 0) 1000000)<0
  ·rw [if_pos hneg] at hq2
   rw [nearL,if_pos hneg,←hq2] at hnb
   refine go (r:=?_);and_intros<;>intros<;>try exact True.intro
   ·rw [←qz_snoc _ l k (by omega)];simp only [qz,nearL,clampM,if_pos hneg,←hq2,Int.min_comm]
   all_goals have e:k=l.length:=by omega
   all_goals subst e
   ·rw [quantL,if_pos h,List.length_map]
   ·rw [quantL,if_pos h,List.take_length]
  ·rw [if_neg hneg] at hq2
   rw [nearL,if_neg hneg,←hq2] at hnb
   refine go (r:=?_);and_intros<;>intros<;>try exact True.intro
   ·rw [←qz_snoc _ l k (by omega)];simp only [qz,nearL,clampM,if_neg hneg,←hq2,Int.min_comm]
   all_goals have e:k=l.length:=by omega
   all_goals subst e
   ·rw [quantL,if_pos h,List.length_map]
   ·rw [quantL,if_pos h,List.take_length]
 ·have e:quantL l q=[]:=by rw [quantL,if_neg h]
  by_cases h1:0<side l.length
  ·have h2:stepL q=0:=hsn (fun hh=>h ⟨h1,hh⟩)
   refine go (r:=?_);and_intros<;>intros<;>try exact True.intro
   all_goals first|(rw [e];done)|(rw [e];rfl)
  ·have h2:side l.length=0:=by omega
   refine go (r:=?_);and_intros<;>intros<;>try exact True.intro
   all_goals first|(rw [e];done)|(rw [e];rfl)⟩
end Go.Proofs.YtainhhfnnclfiaaGreat


namespace Go.Proofs.YtainhhfnnclfiaaGreat
open Go Go.Abs
attribute [local irreducible] WpA WpL Rnd Blk Abs.Seq Abs.Fin Abs.FinG FnC FnG Only
def scnL (l:List Int):List Int:=(scanL (side l.length)).map fun p=>l.getD p.toNat 0
theorem scnL_len (l:List Int):(scnL l).length=(scanL (side l.length)).length:=by simp [scnL]
theorem scan_fit (l:List Int):In (scanL (side l.length)) 0 (l.length-1)∧(scanL (side l.length)).length≤64:=by
 rcases side_cases l.length with ⟨h,e⟩|⟨h,e⟩|⟨_,_,e⟩
 ·have h2:=(scan_rg 4 (by omega)).2
  have h1:=(scan_rg 4 (by omega)).1
  rw [e,h];exact ⟨h1,by omega⟩
 ·have h2:=(scan_rg 8 (by omega)).2
  have h1:=(scan_rg 8 (by omega)).1
  rw [e,h];exact ⟨h1,by omega⟩
 ·rw [e]
  have h0:scanL 0=[]:=rfl
  rw [h0]
  refine ⟨?_,by simp⟩
  unfold In;intro x hx;cases hx
instance Scanned_c:Con 194 (∀ l:List Int,l.length≤1099511627776→Fn 194 [IL l] [XI (scnL l)] (.own 0 0 0 (scnL l).length)):=⟨fun l hl=>by
 obtain ⟨hs1,hs2⟩:=scan_fit l
 have hsc:=side_cases l.length
 have hsl:=scnL_len l
 refine FnC.of_body tabOk Tryz.func194 Tryz.ntmps194 rfl (by decide +kernel) (by simp) fun G=>?_
 refine go (r:=?_);and_intros<;>intros<;>try exact True.intro
 refine WpA.loop (fun k:Nat=>⟨[(0,IL l),(3,.own 0 0 0 k),(10,.own 1 0 0 (scanL (side l.length)).length),(11,I (scanL (side l.length)).length),(12,I k)],[XI (((scanL (side l.length)).take k).map fun p=>l.getD p.toNat 0),XI (scanL (side l.length))]⟩) (fun k=>k≤(scanL (side l.length)).length) (fun k=>(scanL (side l.length)).length-k) 0 (by omega) (go (r:=?_)) (fun k hk=>?_)
 ·simp
 have hg:=fun h=>in_get hs1 (k:=((k:Int)).toNat) h
 have hg2:=fun h=>in_get hs1 (k:=k) h
 have hq:=fun h=>qz_snoc (fun p:Int=>l.getD p.toNat 0) (scanL (side l.length)) k h
 have hkl:(((scanL (side l.length)).take k).map fun p=>l.getD p.toNat 0).length=k:=by simp;omega
 refine go (r:=?_);and_intros<;>intros<;>try exact True.intro
 ·rename_i hk1
  rw [←hq (by omega)];rfl
 ·have e:k=(scanL (side l.length)).length:=by omega
  rw [e,List.take_length];rfl⟩
end Go.Proofs.YtainhhfnnclfiaaGreat


namespace Go.Proofs.YtainhhfnnclfiaaGreat
open Go Go.Abs
def Dn (l:List Int) (w:Int) (i m:Nat):Prop:=(1≤l.getD m 0∧l.getD m 0<w)∨(l.getD m 0=w∧m<i)
def hit (c l:List Int) (m:Nat) (v:Int):Prop:=c.getD m 0*cw (l.getD m 0)≤v∧v<(c.getD m 0+1)*cw (l.getD m 0)
structure J (l:List Int) (w p:Int) (i:Nat) (s:List Int×Int):Prop where
 len:s.1.length=l.length
 lo:0≤s.2
 cod:∀m,m<l.length→Dn l w i m→0≤s.1.getD m 0∧(s.1.getD m 0+1)*cw (l.getD m 0)≤s.2*p
 cov:∀v,0≤v→v<s.2*p→∃m,m<l.length∧Dn l w i m∧hit s.1 l m v
 uni:∀m m' v,m<l.length→m'<l.length→Dn l w i m→Dn l w i m'→hit s.1 l m v→hit s.1 l m' v→m=m'
theorem getD_set (c:List Int) (i m:Nat) (v:Int) (h:i<c.length):(c.set i v).getD m 0=if m=i then v else c.getD m 0:=by
 rw [List.getD_eq_getElem?_getD,List.getElem?_set]
 by_cases e:i=m
 ·subst e;simp [h]
 ·have:¬m=i:=fun h=>e h.symm
  simp [e,this]
theorem J.step {l:List Int} {w p:Int} {i:Nat} {s:List Int×Int} (h:J l w p i s) (hi:i<l.length) (hp:cw w=p) (hp0:0<p) (hw:1≤w):
 J l w p (i+1) (if l.getD i 0=w then (s.1.set i s.2,s.2+1) else s):=by
 by_cases e:l.getD i 0=w
 ·rw [if_pos e]
  have hl:=h.len
  have hmul:(s.2+1)*p=s.2*p+p:=by rw [Int.add_mul,Int.one_mul]
  have hD:∀m,Dn l w (i+1) m↔Dn l w i m∨m=i:=by
   intro m;unfold Dn;constructor
   ·rintro (h|⟨h1,h2⟩)
    ·exact .inl (.inl h)
    ·by_cases hm:m=i
     ·exact .inr hm
     ·exact .inl (.inr ⟨h1,by omega⟩)
   ·rintro ((h|⟨h1,h2⟩)|rfl)
    ·exact .inl h
    ·exact .inr ⟨h1,by omega⟩
    ·exact .inr ⟨e,by omega⟩
  have hne:∀m,Dn l w i m→m≠i:=by
   rintro m (h|⟨_,h⟩) rfl
   ·omega
   ·omega
  have hg:∀m,(s.1.set i s.2).getD m 0=if m=i then s.2 else s.1.getD m 0:=fun m=>getD_set s.1 i m s.2 (by omega)
  have hhit:∀m v,m≠i→(hit (s.1.set i s.2) l m v↔hit s.1 l m v):=by intro m v hm;unfold hit;rw [hg,if_neg hm]
  have hhi:∀v,hit (s.1.set i s.2) l i v↔s.2*p≤v∧v<s.2*p+p:=by intro v;unfold hit;rw [hg,if_pos rfl,e,hp,hmul]
  refine ⟨by simp [hl],by have:=h.lo;simp only;omega,fun m hm hd=>?_,fun v h0 hv=>?_,fun m m' v hm hm' hd hd' h1 h2=>?_⟩
  ·show 0≤(s.1.set i s.2).getD m 0∧((s.1.set i s.2).getD m 0+1)*_≤(s.2+1)*p
   rw [hg,hmul]
   rcases (hD m).1 hd with hd|rfl
   ·rw [if_neg (hne m hd)];have:=h.cod m hm hd;omega
   ·rw [if_pos rfl,e,hp,hmul];have:=h.lo;omega
  ·have hv:v<(s.2+1)*p:=hv
   rw [hmul] at hv
   by_cases hlt:v<s.2*p
   ·obtain ⟨m,h1,h2,h3⟩:=h.cov v h0 hlt
    exact ⟨m,h1,(hD m).2 (.inl h2),(hhit m v (hne m h2)).2 h3⟩
   ·exact ⟨i,hi,(hD i).2 (.inr rfl),(hhi v).2 ⟨by omega,hv⟩⟩
  ·rcases (hD m).1 hd with d1|rfl<;>rcases (hD m').1 hd' with d2|e2
   ·exact h.uni m m' v hm hm' d1 d2 ((hhit m v (hne m d1)).1 h1) ((hhit m' v (hne m' d2)).1 h2)
   ·subst e2
    have a:=(hhit m v (hne m d1)).1 h1
    have b:=(hhi v).1 h2
    have c:=h.cod m hm d1
    unfold hit at a;omega
   ·have a:=(hhit m' v (hne m' d2)).1 h2
    have b:=(hhi v).1 h1
    have c:=h.cod m' hm' d2
    unfold hit at a;omega
   ·exact e2.symm
 ·rw [if_neg e]
  have hD:∀m,Dn l w (i+1) m↔Dn l w i m:=by
   intro m;unfold Dn;constructor
   ·rintro (h|⟨h1,h2⟩)
    ·exact .inl h
    ·refine .inr ⟨h1,?_⟩
     have:m≠i:=by rintro rfl;exact e h1
     omega
   ·rintro (h|⟨h1,h2⟩)
    ·exact .inl h
    ·exact .inr ⟨h1,by omega⟩
  exact ⟨h.len,h.lo,fun m hm hd=>h.cod m hm ((hD m).1 hd),fun v h0 hv=>by
   obtain ⟨m,h1,h2,h3⟩:=h.cov v h0 hv
   exact ⟨m,h1,(hD m).2 h2,h3⟩,fun m m' v hm hm' hd hd'=>h.uni m m' v hm hm' ((hD m).1 hd) ((hD m').1 hd')⟩
theorem J.level {l:List Int} {w p q:Int} {s:List Int×Int} (h:J l w p l.length s) (hpq:p=2*q) (hw:1≤w):J l (w+1) q 0 (s.1,s.2*2):=by
 have e:s.2*2*q=s.2*p:=by rw [hpq,Int.mul_assoc]
 have hD:∀m,m<l.length→(Dn l (w+1) 0 m↔Dn l w l.length m):=by
  intro m hm;unfold Dn;constructor
  ·rintro (h|⟨h1,h2⟩)
   ·by_cases hw:l.getD m 0=w
    ·exact .inr ⟨hw,hm⟩
    ·exact .inl (by omega)
   ·omega
  ·rintro (h|⟨h1,h2⟩)
   ·exact .inl (by omega)
   ·exact .inl (by omega)
 refine ⟨h.len,?_,fun m hm hd=>?_,fun v h0 hv=>?_,fun m m' v hm hm' hd hd'=>h.uni m m' v hm hm' ((hD m hm).1 hd) ((hD m' hm').1 hd')⟩
 ·show 0≤s.2*2
  have:=h.lo;omega
 ·show 0≤s.1.getD m 0∧_≤s.2*2*q
  rw [e];exact h.cod m hm ((hD m hm).1 hd)
 ·have hv:v<s.2*2*q:=hv
  rw [e] at hv
  obtain ⟨m,h1,h2,h3⟩:=h.cov v h0 hv
  exact ⟨m,h1,(hD m h1).2 h2,h3⟩
theorem J.inn {l:List Int} {w p:Int} {s:List Int×Int} (h:J l w p 0 s) (hp:cw w=p) (hp0:0<p) (hw:1≤w):∀i,i≤l.length→J l w p i (cIn w l i s)
 |0,_=>h
 |i+1,hi=>by rw [cIn];exact J.step (J.inn h hp hp0 hw i (by omega)) (by omega) hp hp0 hw
theorem J7 (l:List Int):J l 7 1 l.length (cOut l 7):=by
 have j0:J l 1 64 0 ((cOut l 0).1,(cOut l 0).2*2):=by
  refine ⟨by simp [cOut],by simp [cOut],fun m hm hd=>?_,fun v h0 hv=>?_,fun m m' v hm hm' hd=>?_⟩
  ·unfold Dn at hd;omega
  ·have:v<0:=by simpa [cOut] using hv
   omega
  ·unfold Dn at hd;omega
 have j1:=(J.inn j0 (by decide) (by decide) (by decide) l.length (Nat.le_refl _)).level (q:=32) (by decide) (by decide)
 have j2:=(J.inn j1 (by decide) (by decide) (by decide) l.length (Nat.le_refl _)).level (q:=16) (by decide) (by decide)
 have j3:=(J.inn j2 (by decide) (by decide) (by decide) l.length (Nat.le_refl _)).level (q:=8) (by decide) (by decide)
 have j4:=(J.inn j3 (by decide) (by decide) (by decide) l.length (Nat.le_refl _)).level (q:=4) (by decide) (by decide)
 have j5:=(J.inn j4 (by decide) (by decide) (by decide) l.length (Nat.le_refl _)).level (q:=2) (by decide) (by decide)
 have j6:=(J.inn j5 (by decide) (by decide) (by decide) l.length (Nat.le_refl _)).level (q:=1) (by decide) (by decide)
 exact J.inn j6 (by decide) (by decide) (by decide) l.length (Nat.le_refl _)
theorem cIn_cnt (w:Int) (l:List Int) (s:List Int×Int):∀i,i≤l.length→(cIn w l i s).2=s.2+((l.take i).count w:Nat)
 |0,_=>by simp [cIn]
 |i+1,hi=>by
  have ih:=cIn_cnt w l s i (by omega)
  rw [cIn,List.take_succ_eq_append_getElem (by omega),List.count_append]
  have e:l.getD i 0=l[i]:=by simp [show i<l.length by omega]
  rw [e]
  by_cases h:l[i]=w
  ·rw [if_pos h];simp only [h,List.count_singleton_self];omega
  ·rw [if_neg h];simp only [List.count_singleton,beq_iff_eq,h,if_false];omega
theorem csum_cnt (l:List Int) (h:In l 0 7):csum l=64*(l.count 1:Nat)+32*(l.count 2:Nat)+16*(l.count 3:Nat)+8*(l.count 4:Nat)+4*(l.count 5:Nat)+2*(l.count 6:Nat)+(l.count 7:Nat):=by
 induction l with
 |nil=>simp [csum]
 |cons x l ih=>
  have hx:0≤x∧x≤7:=by unfold In at h;exact h x (by simp)
  have ih:=ih (by unfold In at *;exact fun v hv=>h v (List.mem_cons_of_mem _ hv))
  have hc:csum (x::l)=cw x+csum l:=by unfold csum;simp
  have key:∀k:Fin 8,cw (k.val:Int)+csum l=64*((((k.val:Int)::l).count 1:Nat):Int)+32*(((k.val:Int)::l).count 2:Nat)+16*(((k.val:Int)::l).count 3:Nat)+8*(((k.val:Int)::l).count 4:Nat)+4*(((k.val:Int)::l).count 5:Nat)+2*(((k.val:Int)::l).count 6:Nat)+(((k.val:Int)::l).count 7:Nat):=by
   have c0:cw 0=0:=by decide
   have c1:cw 1=64:=by decide
   have c2:cw 2=32:=by decide
   have c3:cw 3=16:=by decide
   have c4:cw 4=8:=by decide
   have c5:cw 5=4:=by decide
   have c6:cw 6=2:=by decide
   have c7:cw 7=1:=by decide
   rintro ⟨k,hk⟩
   rcases (by omega:k=0∨k=1∨k=2∨k=3∨k=4∨k=5∨k=6∨k=7) with rfl|rfl|rfl|rfl|rfl|rfl|rfl|rfl<;>simp [List.count_cons,c0,c1,c2,c3,c4,c5,c6,c7]<;>omega
  obtain ⟨k,rfl⟩:∃k:Nat,x=k:=⟨x.toNat,by omega⟩
  rw [hc];exact key ⟨k,by omega⟩
theorem next7 (l:List Int) (h:In l 0 7):(cOut l 7).2=csum l:=by
 have e:∀w,(cOut l (w+1)).2=(cOut l w).2*2+(l.count ((w:Int)+1):Nat):=by
  intro w;rw [cOut,cIn_cnt _ _ _ _ (Nat.le_refl _),List.take_length]
 have e1:=e 0;have e2:=e 1;have e3:=e 2;have e4:=e 3;have e5:=e 4;have e6:=e 5;have e7:=e 6
 have e0:(cOut l 0).2=0:=rfl
 rw [csum_cnt l h]
 simp only [Nat.reduceAdd,Int.natCast_zero,Int.reduceAdd,Int.zero_add] at e1 e2 e3 e4 e5 e6 e7
 simp only [show ((1:Nat):Int)+1=2 from rfl,show ((2:Nat):Int)+1=3 from rfl,show ((3:Nat):Int)+1=4 from rfl,show ((4:Nat):Int)+1=5 from rfl,show ((5:Nat):Int)+1=6 from rfl,show ((6:Nat):Int)+1=7 from rfl] at e1 e2 e3 e4 e5 e6 e7
 omega
theorem code_in {l:List Int} (h:CodeOk l) {m:Nat} (hm:m<6):0≤l.getD m 0∧l.getD m 0≤7:=by
 have h6:=h.2.1
 exact in_get h.1 (by omega)
theorem code_fit {l:List Int} (h:CodeOk l) {m:Nat} (hm:m<6) (h1:l.getD m 0≠0):0≤(codes l).getD m 0∧((codes l).getD m 0+1)*cw (l.getD m 0)≤128:=by
 have h6:=h.2.1
 have hb:=code_in h hm
 have:=(J7 l).cod m (by omega) (by unfold Dn;omega)
 rw [next7 l h.1,h.2.2] at this
 simpa [codes] using this
theorem code_lt {l:List Int} (h:CodeOk l) {m:Nat} (hm:m<6) (h1:l.getD m 0≠0):(codes l).getD m 0<2 ^ (l.getD m 0).toNat:=by
 have hb:=code_in h hm
 have hf:=(code_fit h hm h1).2
 generalize (codes l).getD m 0=c at*
 generalize l.getD m 0=n at*
 have key:∀k:Fin 8,k.val≠0→(c+1)*cw (k.val:Int)≤128→c<2 ^ ((k.val:Int)).toNat:=by
  rintro ⟨k,hk⟩ h0 hc
  rcases (by omega:k=0∨k=1∨k=2∨k=3∨k=4∨k=5∨k=6∨k=7) with rfl|rfl|rfl|rfl|rfl|rfl|rfl|rfl
  ·exact absurd rfl h0
  all_goals simp [cw] at hc ⊢
  all_goals omega
 obtain ⟨k,rfl⟩:∃k:Nat,n=k:=⟨n.toNat,by omega⟩
 exact key ⟨k,by omega⟩ (fun e=>h1 (by simp at e;simp [e])) hf
theorem code_cov {l:List Int} (h:CodeOk l) {v:Int} (h0:0≤v) (h1:v<128):∃m,m<6∧l.getD m 0≠0∧hit (codes l) l m v:=by
 have h6:=h.2.1
 obtain ⟨m,a,b,c⟩:=(J7 l).cov v h0 (by rw [next7 l h.1,h.2.2];omega)
 exact ⟨m,by omega,by unfold Dn at b;omega,c⟩
end Go.Proofs.YtainhhfnnclfiaaGreat


namespace Go.Proofs.YtainhhfnnclfiaaGreat
open Go Go.Abs
attribute [local irreducible] WpA WpL Rnd Blk Abs.Seq Abs.Fin Abs.FinG FnC FnG Only
def HasC (l:List Int) (m:Int):Prop:=CodeOk l∧(0≤m∧m≤5)∧l.getD m.toNat 0≠0
instance (l:List Int) (m:Int):Decidable (HasC l m):=by unfold HasC;infer_instance
def symL (l:List Int) (m:Int):List Int:=if HasC l m then bitsL ((codes l).getD m.toNat 0) (l.getD m.toNat 0) else []
theorem sym_fit {l:List Int} {m:Int} (h:HasC l m):(1≤l.getD m.toNat 0∧l.getD m.toNat 0≤7)∧0≤(codes l).getD m.toNat 0∧(codes l).getD m.toNat 0≤127∧bitOk ((codes l).getD m.toNat 0) (l.getD m.toNat 0):=by
 obtain ⟨h1,h2,h3⟩:=h
 have a:=code_in h1 (m:=m.toNat) (by omega)
 have b:=code_fit h1 (m:=m.toNat) (by omega) h3
 have c:=code_lt h1 (m:=m.toNat) (by omega) h3
 have d:(codes l).getD m.toNat 0≤127:=by
  have:(2:Int) ^ (l.getD m.toNat 0).toNat≤2 ^ 7:=by
   have:=Nat.pow_le_pow_right (n:=2) (by decide) (show (l.getD m.toNat 0).toNat≤7 by omega)
   exact_mod_cast this
  omega
 exact ⟨by omega,b.1,d,by omega,b.1,Int.ediv_eq_zero_of_lt b.1 c⟩
theorem symL_len (l:List Int) (m:Int):((symL l m).length:Int)=if HasC l m then l.getD m.toNat 0 else 0:=by
 unfold symL
 split
 ·rename_i h
  obtain ⟨h1,h2,h3,h4⟩:=sym_fit h
  rw [bitsL,if_pos h4,bitsR_len];omega
 ·rfl
theorem symL_pos (l:List Int) (m:Int):0<(symL l m).length↔HasC l m:=by
 have:=symL_len l m
 split at this
 ·rename_i h;have:=(sym_fit h).1;constructor<;>intro _<;>first|assumption|omega
 ·rename_i h;constructor
  ·intro h';omega
  ·intro h';exact absurd h' h
instance SymBits_s:Con 115 (∀ (l:List Int) (m:Int),l.length≤1099511627776→Fn 115 [IL l,I m] [XI (symL l m)] (.own 0 0 0 (symL l m).length)):=⟨fun l m hl=>by
 by_cases h:HasC l m
 ·obtain ⟨h1,h2,h3⟩:=id h
  obtain ⟨f1,f2,f3,f4⟩:=sym_fit h
  have h6:=h1.2.1
  have e:=codesR_ok l h1
  have h7:(codesR l).length=6:=codesR_len l h1
  rw [←e] at f2 f3
  refine FnC.of_body tabOk Tryz.func115 Tryz.ntmps115 rfl (by decide +kernel) (by simp) fun G=>?_
  refine go (r:=?_);and_intros<;>intros<;>try exact True.intro
  all_goals first|(exact absurd ‹CodeOk l› ‹¬ CodeOk l›)|(exact absurd h1 (by assumption))|(exact absurd h2 (by assumption))|(exact absurd (by assumption) h3)|skip
  ·rw [symL,if_pos h,e]
  ·rw [symL,if_pos h,e]
 ·have e:symL l m=[]:=by rw [symL,if_neg h]
  by_cases hc:CodeOk l
  ·have h6:=hc.2.1
   have h7:(codes l).length=6:=by rw [codes_len,h6]
   by_cases hm:0≤m∧m≤5
   ·have h0:l.getD m.toNat 0=0:=Decidable.not_not.1 fun hh=>h ⟨hc,hm,hh⟩
    refine FnC.of_body tabOk Tryz.func115 Tryz.ntmps115 rfl (by decide +kernel) (by simp) fun G=>?_
    refine go (r:=?_);and_intros<;>intros<;>try exact True.intro
    all_goals first|(rw [e];done)|(rw [e];rfl)|skip
   ·refine FnC.of_body tabOk Tryz.func115 Tryz.ntmps115 rfl (by decide +kernel) (by simp) fun G=>?_
    refine go (r:=?_);and_intros<;>intros<;>try exact True.intro
    all_goals first|(rw [e];done)|(rw [e];rfl)|skip
  ·refine FnC.of_body tabOk Tryz.func115 Tryz.ntmps115 rfl (by decide +kernel) (by simp) fun G=>?_
   refine go (r:=?_);and_intros<;>intros<;>try exact True.intro
   all_goals first|(rw [e];done)|(rw [e];rfl)|skip⟩
instance SymBits_c:Con 176 (∀ (l:List Int) (m:Int),l.length≤1099511627776→Fn 176 [IL l,I m] [XI (symL l m)] (.own 0 0 0 (symL l m).length)):=⟨fun l m hl=>by
 by_cases h:HasC l m
 ·obtain ⟨h1,h2,h3⟩:=id h
  obtain ⟨f1,f2,f3,f4⟩:=sym_fit h
  have h6:=h1.2.1
  have h7:(codes l).length=6:=by rw [codes_len,h6]
  refine FnC.of_body tabOk Tryz.func176 Tryz.ntmps176 rfl (by decide +kernel) (by simp) fun G=>?_
  refine go (r:=?_);and_intros<;>intros<;>try exact True.intro
  all_goals first|(exact absurd ‹CodeOk l› ‹¬ CodeOk l›)|(exact absurd h1 (by assumption))|(exact absurd h2 (by assumption))|(exact absurd (by assumption) h3)|skip
  ·rw [symL,if_pos h]
  ·rw [symL,if_pos h]
 ·have e:symL l m=[]:=by rw [symL,if_neg h]
  by_cases hc:CodeOk l
  ·have h6:=hc.2.1
   have h7:(codes l).length=6:=by rw [codes_len,h6]
   by_cases hm:0≤m∧m≤5
   ·have h0:l.getD m.toNat 0=0:=Decidable.not_not.1 fun hh=>h ⟨hc,hm,hh⟩
    refine FnC.of_body tabOk Tryz.func176 Tryz.ntmps176 rfl (by decide +kernel) (by simp) fun G=>?_
    refine go (r:=?_);and_intros<;>intros<;>try exact True.intro
    all_goals first|(rw [e];done)|(rw [e];rfl)|skip
   ·refine FnC.of_body tabOk Tryz.func176 Tryz.ntmps176 rfl (by decide +kernel) (by simp) fun G=>?_
    refine go (r:=?_);and_intros<;>intros<;>try exact True.intro
    all_goals first|(rw [e];done)|(rw [e];rfl)|skip
  ·refine FnC.of_body tabOk Tryz.func176 Tryz.ntmps176 rfl (by decide +kernel) (by simp) fun G=>?_
   refine go (r:=?_);and_intros<;>intros<;>try exact True.intro
   all_goals first|(rw [e];done)|(rw [e];rfl)|skip⟩
instance hasCode_c:Con 111 (∀ (l:List Int) (m:Int),l.length≤1099511627776→Fn 111 [IL l,I m] [] (B (decide (HasC l m)))):=⟨fun l m hl=>by
 have:=symL_pos l m
 refine FnC.of_body tabOk Tryz.func111 Tryz.ntmps111 rfl (by decide +kernel) (by simp) fun G=>?_
 refine go (r:=?_);and_intros<;>intros<;>try exact True.intro
 all_goals (rw [decide_eq_decide];rw [←symL_pos];omega)⟩
def firstM (l:List Int):Nat:=l.findIdx (fun x=>decide (x≠0))
theorem firstM_eq {l:List Int} {k:Nat} (hk:k<l.length) (h0:∀j<k,l.getD j 0=0) (h1:l.getD k 0≠0):firstM l=k:=by
 unfold firstM
 rw [List.findIdx_eq hk]
 refine ⟨by simpa [hk] using h1,fun j hj=>?_⟩
 have:=h0 j hj
 simpa [show j<l.length by omega] using this
theorem code_some {l:List Int} (h:CodeOk l):∃m,m<6∧l.getD m 0≠0:=by
 obtain ⟨m,a,b,_⟩:=code_cov h (v:=0) (by omega) (by omega)
 exact ⟨m,a,b⟩
theorem firstM_has {l:List Int} (h:CodeOk l):firstM l<6∧l.getD (firstM l) 0≠0:=by
 obtain ⟨m,a,b⟩:=code_some h
 have h6:=h.2.1
 have hx:∃x∈l,decide (x≠0)=true:=⟨l.getD m 0,by simp [show m<l.length by omega],by simpa using b⟩
 have:=List.findIdx_lt_length_of_exists hx
 have h2:=List.findIdx_getElem (w:=this)
 unfold firstM
 refine ⟨by omega,?_⟩
 rw [List.getD_eq_getElem?_getD,List.getElem?_eq_getElem this];simpa using h2
def modeF (q:Int) (l ms:List Int) (k:Int):Int:=if OptOk q l∧0≤k then
 (if ms≠[]∧HasC l (ms.getD (k%ms.length).toNat 0) then ms.getD (k%ms.length).toNat 0 else firstM l) else -1
theorem has_code {l:List Int} (h:CodeOk l) {k:Nat} (hk:k<6):HasC l (k:Int)↔l.getD k 0≠0:=by
 unfold HasC;simp only [Int.toNat_natCast]
 constructor
 ·rintro ⟨_,_,h⟩;exact h
 ·intro h';exact ⟨h,by omega,h'⟩
abbrev OpO (q:Int) (b d:Bool) (l m:List Int) (e:List Bool):AObj:=⟨[I q,B b,B d,IL l,IL m,BL e],0,0,none⟩
theorem modeF_own {q:Int} {l ms:List Int} {k:Int} (h:OptOk q l∧0≤k) (h1:(ms.length:Int)>0) (h2:HasC l (ms.getD (k%ms.length).toNat 0)):ms.getD (k%ms.length).toNat 0=modeF q l ms k:=by
 rw [modeF,if_pos h,if_pos ⟨by rintro rfl;simp at h1,h2⟩]
theorem modeF_first {q:Int} {l ms:List Int} {k:Int} {i:Nat} (h:OptOk q l∧0≤k) (h1:¬((ms.length:Int)>0)∨¬HasC l (ms.getD (k%ms.length).toNat 0)) (hi:i<6) (h2:∀j<i,l.getD j 0=0) (h3:l.getD i 0≠0):(i:Int)=modeF q l ms k:=by
 have h6:=h.1.2.2.1
 rw [modeF,if_pos h,if_neg,firstM_eq (by omega) h2 h3]
 rintro ⟨a,b⟩
 rcases h1 with h1|h1
 ·exact a (List.eq_nil_of_length_eq_zero (by omega))
 ·exact h1 b
theorem first_go {l:List Int} (h:CodeOk l) {i:Nat} (hi:i<6) (h1:∀j<i,l.getD j 0=0) (h2:l.getD i 0=0):i+1<6∧∀j<i+1,l.getD j 0=0:=by
 have key:∀j<i+1,l.getD j 0=0:=by
  intro j hj
  by_cases e:j=i
  ·subst e;exact h2
  ·exact h1 j (by omega)
 refine ⟨?_,key⟩
 obtain ⟨m,a,b⟩:=code_some h
 rcases Nat.lt_or_ge (i+1) 6 with h'|h'
 ·exact h'
 ·exact absurd (key m (by omega)) b
instance ModeFor_c:Con 70 (∀ (q:Int) (b d:Bool) (l m:List Int) (e:List Bool) (k:Int),l.length≤1099511627776∧m.length≤1099511627776→Fn 70 [OpA q b d l m e,I k] [] (I (modeF q l m k))):=⟨fun q b d l m e k hl=>by
 refine FnC.of_body tabOk Tryz.func70 Tryz.ntmps70 rfl (by decide +kernel) (by simp) fun G=>?_
 by_cases h:OptOk q l∧0≤k
 ·obtain ⟨h0,hk⟩:=id h
  have h1:=h0.2
  have h6:=h1.2.1
  have hrem:=Int.emod_lt_of_pos k (b:=m.length)
  have hrem0:=fun (hz:(m.length:Int)≠0)=>Int.emod_nonneg k hz
  refine go (r:=?_);and_intros<;>intros<;>try exact True.intro
  all_goals first|(exact absurd h0 ‹¬ OptOk q l›)|skip
  ·exact modeF_own h ‹_› ‹_›
  ·have hx:¬((m.length:Int)>0)∨¬HasC l (m.getD (k%m.length).toNat 0):=.inr ‹_›
   refine WpA.loop (fun i:Nat=>⟨[(2,.ptr 0 0 0),(5,I i)],[OpO q b d l m e]⟩) (fun i=>i<6∧∀j<i,l.getD j 0=0) (fun i=>6-i) 0 (by simp) (go (r:=trivial)) (fun i hi=>?_)
   have hc:=has_code h1 hi.1
   refine go (r:=?_);and_intros<;>intros<;>try exact True.intro
   ·exact (first_go h1 hi.1 hi.2 (Decidable.not_not.1 (fun hh=>‹¬ HasC l _› (hc.2 hh)))).1
   ·exact (first_go h1 hi.1 hi.2 (Decidable.not_not.1 (fun hh=>‹¬ HasC l _› (hc.2 hh)))).2 _ ‹_›
   ·exact modeF_first h hx hi.1 hi.2 (hc.1 ‹_›)
  ·have hx:¬((m.length:Int)>0)∨¬HasC l (m.getD (k%m.length).toNat 0):=.inl ‹_›
   refine WpA.loop (fun i:Nat=>⟨[(2,.ptr 0 0 0),(5,I i)],[OpO q b d l m e]⟩) (fun i=>i<6∧∀j<i,l.getD j 0=0) (fun i=>6-i) 0 (by simp) (go (r:=trivial)) (fun i hi=>?_)
   have hc:=has_code h1 hi.1
   refine go (r:=?_);and_intros<;>intros<;>try exact True.intro
   ·exact (first_go h1 hi.1 hi.2 (Decidable.not_not.1 (fun hh=>‹¬ HasC l _› (hc.2 hh)))).1
   ·exact (first_go h1 hi.1 hi.2 (Decidable.not_not.1 (fun hh=>‹¬ HasC l _› (hc.2 hh)))).2 _ ‹_›
   ·exact modeF_first h hx hi.1 hi.2 (hc.1 ‹_›)
 ·refine go (r:=?_);and_intros<;>intros<;>try exact True.intro
  all_goals first|(exact absurd ⟨‹_›,by omega⟩ h)|(rw [modeF,if_neg h];done)|skip⟩
end Go.Proofs.YtainhhfnnclfiaaGreat


namespace Go.Proofs.YtainhhfnnclfiaaGreat
open Go Go.Abs
attribute [local irreducible] WpA WpL Rnd Blk Abs.Seq Abs.Fin Abs.FinG FnC FnG Only
def marksI (k:Int) (n:Nat):List Int:=(List.range n).map fun i:Nat=>k+(i:Int)
@[simp] theorem marksI_len (k:Int) (n:Nat):(marksI k n).length=n:=by simp [marksI]
def marksB (k:Int) (n:Nat):List Bool:=(List.range n).map fun i:Nat=>decide ((k+(i:Int))%3=0)
@[simp] theorem marksB_len (k:Int) (n:Nat):(marksB k n).length=n:=by simp [marksB]
end Go.Proofs.YtainhhfnnclfiaaGreat


namespace Go.Proofs.YtainhhfnnclfiaaGreat
open Go Go.Abs
attribute [local irreducible] WpA WpL Rnd Blk Abs.Seq Abs.Fin Abs.FinG FnC FnG Only
abbrev FitM (l:List Int):Prop:=In l (-1000000000) 1000000000
theorem prodL_le {n:Nat} {g:Nat→Nat→Int} {l:List Int} (h:n≤8):(prodL n g l).length≤64:=by
 have:=prodL_len n g l
 have h2:n*n≤8*8:=Nat.mul_le_mul h h
 split at this<;>omega
def trL (n:Int) (b:Bool) (l:List Int):List Int:=prodL n.toNat (mg n.toNat b) l
theorem trL_le {n:Int} {b:Bool} {l:List Int} (h:n≤8):(trL n b l).length≤64:=prodL_le (by omega)
theorem trL_yes {n:Int} {b:Bool} {l:List Int} (h:n=4∨n=8) (h1:FitM l∧(l.length:Int)=n*n):trL n b l=mulM n.toNat (mg n.toNat b) l:=by
 rw [trL,prodL,if_pos]
 refine ⟨?_,h1.1⟩
 have:=h1.2
 rcases h with rfl|rfl
 ·show l.length=16;omega
 ·show l.length=64;omega
def gOf (M:List (List Int)) (r i:Nat):Int:=(M.getD r default).getD i 0
def MatOk (n:Nat) (M:List (List Int)):Prop:=M.length=n∧(∀ r,r<n→(M.getD r default).length=n)∧Sgn (gOf M)
instance product_c:Con 252 (∀ (n:Nat) (M:List (List Int)) (l:List Int),(n=4∨n=8)∧MatOk n M∧l.length≤1099511627776→Fn 252 [LLn n M,IL l] [XI (prodL n (gOf M) l)] (.own 0 0 0 (prodL n (gOf M) l).length)):=⟨fun n M l h=>by
 obtain ⟨rfl|rfl,h1,h2⟩:=h
 ·exact product_4 (gOf M) M l h1.2.2 ⟨h1.1,h1.2.1,fun _ _ _ _=>rfl⟩ h2
 ·exact product_8 (gOf M) M l h1.2.2 ⟨h1.1,h1.2.1,fun _ _ _ _=>rfl⟩ h2⟩
theorem sumF_congr {f g:Nat→Int}:∀k,(∀ i,i<k→f i=g i)→sumF f k=sumF g k
 |0,_=>rfl
 |k+1,h=>by rw [sumF,sumF,sumF_congr k (fun i hi=>h i (by omega)),h k (by omega)]
theorem prodL_congr {n:Nat} {f g:Nat→Nat→Int} {l:List Int} (hn:0<n) (h:∀r i,r<n→i<n→f r i=g r i):prodL n f l=prodL n g l:=by
 have hm:mulM n f l=mulM n g l:=by
  refine list_ext (N:=n*n) (tabL_len _ _) (tabL_len _ _) fun q hq=>?_
  unfold mulM
  rw [tabL_get hq,tabL_get hq]
  have h1:q/n<n:=Nat.div_lt_of_lt_mul hq
  have h2:q%n<n:=Nat.mod_lt _ hn
  refine sumF_congr n fun i hi=>?_
  rw [h _ _ h2 hi]
  congr 1
  exact sumF_congr n fun j hj=>by rw [h _ _ h1 hj]
 unfold prodL;rw [hm]
theorem A4_ok:MatOk 4 A4:=by
 refine ⟨rfl,?_,fun r i=>mx_val 4 r i⟩
 intro r hr
 rcases (by omega:r=0∨r=1∨r=2∨r=3) with rfl|rfl|rfl|rfl<;>rfl
theorem H8_row {r:Nat} (h:r<8):H8.getD r default=tabL (mx 8 r) 8:=by
 simp [H8,h]
theorem gOf_H8 {r i:Nat} (h:r<8) (h2:i<8):gOf H8 r i=mx 8 r i:=by
 rw [gOf,H8_row h,tabL_get h2]
theorem H8_ok:MatOk 8 H8:=by
 refine ⟨by simp [H8],fun r hr=>by rw [H8_row hr,tabL_len],fun r i=>?_⟩
 by_cases h:r<8
 ·by_cases h2:i<8
  ·rw [gOf_H8 h h2];exact mx_val 8 r i
  ·right;right;left
   rw [gOf,H8_row h,List.getD_eq_getElem?_getD,List.getElem?_eq_none (by rw [tabL_len];omega)];rfl
 ·right;right;left
  have:H8.getD r default=[]:=by rw [List.getD_eq_getElem?_getD,List.getElem?_eq_none (by simp [H8];omega)];rfl
  rw [gOf,this];rfl
theorem trA4 (l:List Int):prodL 4 (gOf A4) l=trL 4 false l:=rfl
theorem trH8 (l:List Int):prodL 8 (gOf H8) l=trL 8 false l:=prodL_congr (by decide) fun r i hr hi=>gOf_H8 hr hi
instance Forward4_c:Con 196 (∀ l:List Int,l.length≤1099511627776→Fn 196 [IL l] [XI (trL 4 false l)] (.own 0 0 0 (trL 4 false l).length)):=⟨fun l h=>by
 have hA:=A4_ok
 rw [←trA4]
 refine FnC.of_body tabOk Tryz.func196 Tryz.ntmps196 rfl (by decide +kernel) (by simp) fun G=>?_
 refine go (r:=?_);and_intros<;>intros<;>try exact True.intro
 refine K.call ?_
 refine K.con (fun hcon=>?_)
 refine WpL.callF (hcon 4 A4 l ⟨by decide,hA,h⟩) snapA locA outA rfl rfl rfl (by decide) ?_
 refine go (r:=?_);and_intros<;>intros<;>try exact True.intro⟩
instance Forward8_c:Con 197 (∀ l:List Int,l.length≤1099511627776→Fn 197 [IL l] [XI (trL 8 false l)] (.own 0 0 0 (trL 8 false l).length)):=⟨fun l h=>by
 have hA:=H8_ok
 rw [←trH8]
 refine FnC.of_body tabOk Tryz.func197 Tryz.ntmps197 rfl (by decide +kernel) (by simp) fun G=>?_
 refine go (r:=?_);and_intros<;>intros<;>try exact True.intro
 refine K.call ?_
 refine K.con (fun hcon=>?_)
 refine WpL.callF (hcon 8 H8 l ⟨by decide,hA,h⟩) snapA locA outA rfl rfl rfl (by decide) ?_
 refine go (r:=?_);and_intros<;>intros<;>try exact True.intro⟩
def clampL (v:Int):Int:=max (-16383) (min 16383 v)
def levL (b:Bool) (q:Int) (l r:List Int):List Int:=if OptOk q l∧0<side r.length∧FitM r then
 (if b=true then scnL (r.map clampL) else scnL (quantL (trL (side r.length) false r) q)) else []
theorem quantL_le (l:List Int) (q:Int):(quantL l q).length≤l.length:=by unfold quantL;split<;>simp
theorem scn_le (l:List Int):(scnL l).length≤64:=by rw [scnL_len];exact (scan_fit l).2
theorem levL_le (b:Bool) (q:Int) (l r:List Int):(levL b q l r).length≤64:=by
 unfold levL;split
 ·split<;>exact scn_le _
 ·simp
theorem clampL_map (r:List Int):(List.range r.length).map (fun i=>clampL (r.getD i 0))=r.map clampL:=by
 apply List.ext_getElem (by simp)
 intro i h1 h2
 simp at h1
 simp [h1]
theorem clampL_min (v:Int):max (-16383) (min v 16383)=clampL v:=by unfold clampL;rw [Int.min_comm]
instance LevelsFor_c:Con 137 (∀ (q:Int) (b d:Bool) (l m:List Int) (e:List Bool) (r:List Int),l.length≤1099511627776∧r.length≤1099511627776→Fn 137 [OpA q b d l m e,IL r] [XI (levL b q l r)] (.own 0 0 0 (levL b q l r).length)):=⟨fun q b d l m e r hl=>by
 have hsc:=side_cases r.length
 have ht4:=trL_le (n:=4) (b:=false) (l:=r) (by decide)
 have ht8:=trL_le (n:=8) (b:=false) (l:=r) (by decide)
 have hq4:=quantL_le (trL 4 false r) q
 have hq8:=quantL_le (trL 8 false r) q
 refine FnC.of_body tabOk Tryz.func137 Tryz.ntmps137 rfl (by decide +kernel) (by simp) fun G=>?_
 by_cases h:OptOk q l∧0<side r.length∧FitM r
 ·obtain ⟨h1,h2,h3⟩:=id h
  have he:levL b q l r=if b=true then scnL (r.map clampL) else scnL (quantL (trL (side r.length) false r) q):=by rw [levL,if_pos h]
  have hb1:b=true→levL b q l r=scnL (r.map clampL):=fun h=>by rw [he,if_pos h]
  have hb4:b=false→(r.length:Int)=16→levL b q l r=scnL (quantL (trL 4 false r) q):=fun h hh=>by
   have hs4:side r.length=4:=by omega
   rw [he,if_neg (by simp [h]),hs4]
  have hb8:b=false→¬(r.length:Int)=16→levL b q l r=scnL (quantL (trL 8 false r) q):=fun h hh=>by
   have hs4:side r.length=8:=by omega
   rw [he,if_neg (by simp [h]),hs4]
  refine go (r:=?_);and_intros<;>intros<;>try exact True.intro
  ·rename_i hb
   refine WpA.loop (fun k:Nat=>⟨[(5,.own 1 0 0 r.length),(26,.own 1 0 0 r.length),(27,I r.length),(28,I k)],[OpO q b d l m e,XI ((List.range k).map (fun i=>clampL (r.getD i 0))++r.drop k)]⟩) (fun k=>k≤r.length) (fun k=>r.length-k) 0 (by omega) (go (r:=?_)) (fun k hk=>?_)
   ·simp
   have hkl:((List.range k).map (fun i=>clampL (r.getD i 0))++r.drop k).length=r.length:=by simp;omega
   have hms:=mark_step (fun i=>clampL (r.getD i 0)) r k
   refine go (r:=?_);and_intros<;>intros<;>try exact True.intro
   ·rename_i hk1
    have hk2:k<r.length:=by omega
    have hgd:((List.range k).map (fun i=>clampL (r.getD i 0))++r.drop k).getD k 0=r.getD k 0:=by
     rw [List.getD_eq_getElem?_getD,List.getElem?_append_right (by simp),List.getElem?_drop];simp
    rw [Int.toNat_natCast,hgd,clampL_min];exact hms hk2
   all_goals have ek:k=r.length:=by omega
   all_goals rw [ek,clampL_map,List.drop_length,List.append_nil,hb1 hb]
  all_goals first|(rw [hb4 (by assumption) (by assumption)];done)|(rw [hb8 (by assumption) (by assumption)];done)
 ·have he:levL b q l r=[]:=by rw [levL,if_neg h]
  refine go (r:=?_);and_intros<;>intros<;>try exact True.intro
  all_goals first|(rw [he];done)|(rw [he];rfl)|(exact absurd ⟨by assumption,by omega,by assumption⟩ h)⟩
end Go.Proofs.YtainhhfnnclfiaaGreat


namespace Go.Proofs.YtainhhfnnclfiaaGreat
open Go Go.Abs
attribute [local irreducible] WpA WpL Rnd Blk Abs.Seq Abs.Fin Abs.FinG FnC FnG Only
def modeNames:List (List UInt8):=[[109,101,97,110],[100,111,119,110],[97,99,114,111,115,115],[115,108,111,112,101],[108,101,102,116],[114,105,103,104,116]]
def modeW (m:Int):List UInt8:=if 0≤m∧m≤5 then modeNames.getD m.toNat [] else []
theorem modeW_nil (m:Int):modeW m=[]↔¬(0≤m∧m≤5):=by
 have key:∀k:Fin 6,modeNames.getD k.val []≠[]:=by decide
 unfold modeW
 constructor
 ·intro h hm
  rw [if_pos hm] at h
  exact key ⟨m.toNat,by omega⟩ h
 ·intro h;rw [if_neg h]
instance ModeWord_s:Con 119 (∀ m:Int,Fn 119 [I m] [] (Z (modeW m))):=⟨fun m=>by
 refine FnC.of_body tabOk Tryz.func119 Tryz.ntmps119 rfl (by decide +kernel) (by simp) fun G=>?_
 refine go (r:=?_);and_intros<;>intros<;>try exact True.intro
 all_goals first|(rw [modeW,if_neg (by assumption)];done)|(rw [modeW,if_pos (by assumption)];rfl)⟩
end Go.Proofs.YtainhhfnnclfiaaGreat


namespace Go.Proofs.YtainhhfnnclfiaaGreat
open Go Go.Abs
attribute [local irreducible] WpA WpL Rnd Blk Abs.Seq Abs.Fin Abs.FinG FnC FnG Only
abbrev HdOk (w h q:Int) (l:List Int):Prop:=SidesOk w h∧(0≤q∧q≤51)∧CodeOk l
instance HeaderOk_s:Con 77 (∀ (w h q:Int) (b d:Bool) (l:List Int),l.length≤1099511627776→Fn 77 [HdA w h q b d l] [] (B (decide (HdOk w h q l)))):=⟨fun w h q b d l hl=>by
 have hs:=stepL_pos q
 refine FnC.of_body tabOk Tryz.func77 Tryz.ntmps77 rfl (by decide +kernel) (by simp) fun G=>?_
 refine go (r:=?_);and_intros<;>intros<;>try exact True.intro
 all_goals simp_all⟩
def cntM (w h:Int):Int:=w/8*(h/8)
theorem cntM_bd {w h:Int} (hs:SidesOk w h):(0≤w/8∧w/8≤4)∧(0≤h/8∧h/8≤4)∧0≤cntM w h∧cntM w h≤16:=by
 have h1:0≤w/8∧w/8≤4:=by omega
 have h2:0≤h/8∧h/8≤4:=by omega
 refine ⟨h1,h2,Int.mul_nonneg h1.1 h2.1,?_⟩
 have:=Int.mul_le_mul h1.2 h2.2 h2.1 (by decide)
 exact this
instance l24Count_s:Con 79 (∀ (w h q:Int) (b d:Bool) (l:List Int),SidesOk w h→Fn 79 [HdA w h q b d l] [] (I (cntM w h))):=⟨fun w h q b d l hs=>by
 have:=cntM_bd hs
 unfold cntM at*
 refine FnC.of_body tabOk Tryz.func79 Tryz.ntmps79 rfl (by decide +kernel) (by simp) fun G=>?_
 refine go (r:=?_);and_intros<;>intros<;>try exact True.intro⟩
instance many_c:Con 133 (∀ (w h q:Int) (b d:Bool) (l:List Int),SidesOk w h→Fn 133 [HdA w h q b d l] [] (I (cntM w h))):=⟨fun w h q b d l hs=>by
 have:=cntM_bd hs
 unfold cntM at*
 refine FnC.of_body tabOk Tryz.func133 Tryz.ntmps133 rfl (by decide +kernel) (by simp) fun G=>?_
 refine go (r:=?_);and_intros<;>intros<;>try exact True.intro⟩
abbrev LvOk (l:List Int):Prop:=In l (-16383) 16383∧(l.length=16∨l.length=64)
instance LevelsOk_s:Con 216 (∀ l:List Int,l.length≤1099511627776→Fn 216 [IL l] [] (B (decide (LvOk l)))):=⟨fun l hl=>by
 have hsp:=side_pos l.length
 refine FnC.of_body tabOk Tryz.func216 Tryz.ntmps216 rfl (by decide +kernel) (by simp) fun G=>?_
 refine go (r:=?_);and_intros<;>intros<;>try exact True.intro
 refine WpA.loop (fun k:Nat=>⟨[(0,IL l),(3,I k)],[]⟩) (fun k=>k≤l.length∧In (l.take k) (-16383) 16383) (fun k=>l.length-k) 0 (by simp [in_nil]) (go (r:=?_)) (fun k hk=>?_)
 ·trivial
 have hi:=fun h=>in_snoc (lo:=-16383) (hi:=16383) (l:=l) (k:=k) h
 refine go (r:=?_);and_intros<;>intros<;>try exact True.intro
 ·have:=notin (k:=k) (by omega) ‹¬ (-16383≤l.getD k 0∧_)›;rw [eq_comm,decide_eq_false_iff_not] at *;exact fun h=>this h.1
 ·rw [hi (by omega)];exact ⟨hk.2,‹_›⟩
 all_goals have e:k=l.length:=by omega
 all_goals subst e
 all_goals rw [List.take_length] at*
 simp [hk.2,hsp]⟩
instance LevelsOk_c:Con 255 (∀ l:List Int,l.length≤1099511627776→Fn 255 [IL l] [] (B (decide (LvOk l)))):=⟨fun l hl=>by
 have hsp:=side_pos l.length
 refine FnC.of_body tabOk Tryz.func255 Tryz.ntmps255 rfl (by decide +kernel) (by simp) fun G=>?_
 refine go (r:=?_);and_intros<;>intros<;>try exact True.intro
 refine WpA.loop (fun k:Nat=>⟨[(0,IL l),(5,IL l),(6,I l.length),(7,I k)],[]⟩) (fun k=>k≤l.length∧In (l.take k) (-16383) 16383) (fun k=>l.length-k) 0 (by simp [in_nil]) (go (r:=?_)) (fun k hk=>?_)
 ·trivial
 have hi:=fun h=>in_snoc (lo:=-16383) (hi:=16383) (l:=l) (k:=k) h
 refine go (r:=?_);and_intros<;>intros<;>try exact True.intro
 ·have:=notin (k:=k) (by omega) ‹¬ (-16383≤l.getD k 0∧_)›;rw [eq_comm,decide_eq_false_iff_not] at *;exact fun h=>this h.1
 ·rw [hi (by omega)];exact ⟨hk.2,‹_›⟩
 all_goals have e:k=l.length:=by omega
 all_goals subst e
 all_goals rw [List.take_length] at*
 simp [hk.2,hsp]⟩
abbrev BlkOk (m:Int) (lv:List Int) (lens:List Int) (n:Int):Prop:=(n=4∨n=8)∧HasC lens m∧(lv.length:Int)=n*n∧LvOk lv
instance BlockOk_s:Con 144 (∀ (m:Int) (lv lens:List Int) (n:Int),lv.length≤1099511627776∧lens.length≤1099511627776→Fn 144 [.agg [I m,IL lv],IL lens,I n] [] (B (decide (BlkOk m lv lens n)))):=⟨fun m lv lens n hl=>by
 have hp:=symL_pos lens m
 have hnn:n=4∨n=8→0≤n*n∧n*n≤64:=by rintro (rfl|rfl)<;>decide
 refine FnC.of_body tabOk Tryz.func144 Tryz.ntmps144 rfl (by decide +kernel) (by simp) fun G=>?_
 refine go (r:=?_);and_intros<;>intros<;>try exact True.intro
 all_goals simp_all⟩
def badB (lens:List Int) (n:Int) (b:Blok):Bool:=decide (¬ BlkOk b.1 b.2 lens n)
end Go.Proofs.YtainhhfnnclfiaaGreat


namespace Go.Proofs.YtainhhfnnclfiaaGreat
open Go Go.Abs
def plcK (o l:List Int):Nat→List Int
 |0=>List.replicate o.length 0
 |k+1=>(plcK o l k).set (o.getD k 0).toNat (l.getD k 0)
def plcL (l:List Int):List Int:=plcK (scanL (side l.length)) l (scanL (side l.length)).length
theorem plcK_len (o l:List Int):∀k,(plcK o l k).length=o.length
 |0=>by simp [plcK]
 |k+1=>by rw [plcK,List.length_set];exact plcK_len o l k
theorem plcL_len (l:List Int):(plcL l).length=(scanL (side l.length)).length:=plcK_len _ _ _
theorem plcK_in {o l:List Int} {c:Int} (hc:0≤c) (h:In l (-c) c):∀k,In (plcK o l k) (-c) c
 |0=>in_all fun j hj=>by
  rw [plcK,List.getD_eq_getElem?_getD,List.getElem?_replicate]
  split<;>simp<;>omega
 |k+1=>in_all fun j hj=>by
  rw [plcK,List.getD_eq_getElem?_getD,List.getElem?_set]
  split
  ·split
   ·exact in_getZ h hc k
   ·simp;omega
  ·have:=in_getZ (plcK_in (o:=o) hc h k) hc j
   rw [List.getD_eq_getElem?_getD] at this;exact this
theorem plcL_ok {l:List Int} (h:LvOk l):LvOk (plcL l):=by
 refine ⟨plcK_in (by decide) h.1 _,?_⟩
 rw [plcL_len]
 rcases h.2 with e|e
 ·rw [e];exact .inl (by have:=(scan_rg 4 (by omega)).2;show (scanL 4).length=16;omega)
 ·rw [e];exact .inr (by have:=(scan_rg 8 (by omega)).2;show (scanL 8).length=64;omega)
theorem plcL_len2 {l:List Int} (h:l.length=16∨l.length=64):(plcL l).length=l.length:=by
 rw [plcL_len]
 rcases h with e|e
 ·rw [e];have:=(scan_rg 4 (by omega)).2;show (scanL 4).length=16;omega
 ·rw [e];have:=(scan_rg 8 (by omega)).2;show (scanL 8).length=64;omega
def normL (n i:Int):Int:=if (n=4∨n=8)∧0≤i∧i≤n*n-1 then (if n=8 then 1 else if i/4%2+i%4%2=0 then 100 else if i/4%2+i%4%2=2 then 16 else 40) else 0
theorem normL_bd (n i:Int):0≤normL n i∧normL n i≤100:=by unfold normL;split<;>(try split)<;>(try split)<;>(try split)<;>omega
def scaF (l:List Int) (q:Int) (i:Nat):Int:=l.getD i 0*stepL q*normL (side l.length) i
def scaL (l:List Int) (q:Int):List Int:=if LvOk l∧0<stepL q then tabL (scaF l q) l.length else []
theorem stepL_bd (q:Int):0≤stepL q∧stepL q≤500:=by
 by_cases h:0≤q∧q≤51
 ·have:=stepL_in q h;omega
 ·unfold stepL;rw [if_neg h];omega
theorem mul_bds {a b A B:Int} (ha:-A≤a∧a≤A) (hb:0≤b∧b≤B) (hA:0≤A):-(A*B)≤a*b∧a*b≤A*B:=by
 have h1:a*b≤A*b:=Int.mul_le_mul_of_nonneg_right ha.2 hb.1
 have h2:A*b≤A*B:=Int.mul_le_mul_of_nonneg_left hb.2 hA
 have h3:-A*b≤a*b:=Int.mul_le_mul_of_nonneg_right ha.1 hb.1
 rw [Int.neg_mul] at h3
 omega
theorem sca1_bd {l:List Int} (h:In l (-16383) 16383) (q:Int) (i:Nat):-8191500≤l.getD i 0*stepL q∧l.getD i 0*stepL q≤8191500:=by
 have:=mul_bds (in_getZ (c:=16383) h (by decide) i) (stepL_bd q) (by decide)
 omega
theorem scaF_bd {l:List Int} (h:In l (-16383) 16383) (q:Int) (i:Nat):-819150000≤scaF l q i∧scaF l q i≤819150000:=by
 have:=mul_bds (sca1_bd h q i) (normL_bd (side l.length) i) (by decide)
 unfold scaF;omega
theorem scaL_len (l:List Int) (q:Int):(scaL l q).length=if LvOk l∧0<stepL q then l.length else 0:=by
 unfold scaL;split<;>simp [tabL_len]
theorem scaL_fit (l:List Int) (q:Int):FitM (scaL l q):=by
 unfold FitM In
 intro x hx
 unfold scaL at hx
 split at hx
 ·rename_i h
  unfold tabL at hx
  obtain ⟨i,_,rfl⟩:=List.mem_map.1 hx
  have:=scaF_bd h.1.1 q i
  omega
 ·cases hx
def rnd1 (k:Nat) (v:Int):Int:=if k=16 then (max (-1000000000000) (min 1000000000000 v)+800)/1600 else (max (-1000000000000) (min 1000000000000 v)+32)/64
def rndL (l:List Int):List Int:=if 0<side l.length then l.map (rnd1 l.length) else []
theorem rndL_le (l:List Int):(rndL l).length≤64:=by
 unfold rndL;split
 ·rename_i h;rw [List.length_map];have:=(side_pos l.length).1 h;omega
 ·simp
theorem floor_t {a b:Int} (hb:0<b):(if a.tmod b<0 then a.tdiv b-1 else a.tdiv b)=a/b:=by
 have h1:=Int.mul_ediv_add_emod a b
 have h2:=Int.emod_nonneg a (by omega:b≠0)
 have h3:=Int.emod_lt_of_pos a hb
 have h4:=Int.mul_tdiv_add_tmod a b
 rcases Int.lt_or_le a 0 with h|h
 ·have h0:(-a).tmod b=-(a.tmod b):=Int.neg_tmod ..
  have h5:=Int.tmod_nonneg b (show 0≤-a by omega)
  have h6:=Int.tmod_lt_of_pos (-a) hb
  rw [h0] at h5 h6
  split
  ·rename_i h7
   have:b*(a.tdiv b-1-a/b)=-(a.tmod b+b)+a%b:=by rw [Int.mul_sub,Int.mul_sub];omega
   have h8:a.tdiv b-1-a/b=0:=by
    rcases Int.lt_trichotomy (a.tdiv b-1-a/b) 0 with h9|h9|h9
    ·have:=Int.mul_le_mul_of_nonneg_left (show a.tdiv b-1-a/b≤-1 by omega) (Int.le_of_lt hb);omega
    ·exact h9
    ·have:=Int.mul_le_mul_of_nonneg_left (show 1≤a.tdiv b-1-a/b by omega) (Int.le_of_lt hb);omega
   omega
  ·have:b*(a.tdiv b-a/b)=a%b-a.tmod b:=by rw [Int.mul_sub];omega
   have h8:a.tdiv b-a/b=0:=by
    rcases Int.lt_trichotomy (a.tdiv b-a/b) 0 with h9|h9|h9
    ·have:=Int.mul_le_mul_of_nonneg_left (show a.tdiv b-a/b≤-1 by omega) (Int.le_of_lt hb);omega
    ·exact h9
    ·have:=Int.mul_le_mul_of_nonneg_left (show 1≤a.tdiv b-a/b by omega) (Int.le_of_lt hb);omega
   omega
 ·rw [Int.tdiv_eq_ediv_of_nonneg h,Int.tmod_eq_emod_of_nonneg h]
  rw [if_neg (by omega)]
def resL (b:Bool) (q:Int) (l:List Int):List Int:=if LvOk l∧0<stepL q then (if b=true then plcL l else rndL (trL (side l.length) true (scaL (plcL l) q))) else []
theorem resL_le (b:Bool) (q:Int) (l:List Int):(resL b q l).length≤64:=by
 unfold resL;split
 ·rename_i h
  split
  ·rw [plcL_len];exact (scan_fit l).2
  ·exact rndL_le _
 ·simp
theorem scan4_all (p:Nat) (hp:p<16):∃k,k<16∧(scanL 4).getD k 0=(p:Int):=by
 have key:∀p:Fin 16,∃k:Fin 16,(scanL 4).getD k.val 0=((p.val:Nat):Int):=by decide +kernel
 obtain ⟨k,hk⟩:=key ⟨p,hp⟩
 exact ⟨k.val,k.isLt,hk⟩
theorem scan8_all (p:Nat) (hp:p<64):∃k,k<64∧(scanL 8).getD k 0=(p:Int):=by
 have key:∀p:Fin 64,∃k:Fin 64,(scanL 8).getD k.val 0=((p.val:Nat):Int):=by decide +kernel
 obtain ⟨k,hk⟩:=key ⟨p,hp⟩
 exact ⟨k.val,k.isLt,hk⟩
theorem scan4_inj (i:Nat) (hi:i<16) (j:Nat) (hj:j<16) (h:(scanL 4).getD i 0=(scanL 4).getD j 0):i=j:=by
 have key:∀i j:Fin 16,(scanL 4).getD i.val 0=(scanL 4).getD j.val 0→i=j:=by decide +kernel
 exact congrArg Fin.val (key ⟨i,hi⟩ ⟨j,hj⟩ h)
theorem scan8_inj (i:Nat) (hi:i<64) (j:Nat) (hj:j<64) (h:(scanL 8).getD i 0=(scanL 8).getD j 0):i=j:=by
 have key:∀i j:Fin 64,(scanL 8).getD i.val 0=(scanL 8).getD j.val 0→i=j:=by decide +kernel
 exact congrArg Fin.val (key ⟨i,hi⟩ ⟨j,hj⟩ h)
theorem scan_facts {l:List Int} (h:l.length=16∨l.length=64):(scanL (side l.length)).length=l.length∧In (scanL (side l.length)) 0 (l.length-1)∧(∀ i,i<l.length→∀j,j<l.length→(scanL (side l.length)).getD i 0=(scanL (side l.length)).getD j 0→i=j)∧∀p,p<l.length→∃k,k<l.length∧(scanL (side l.length)).getD k 0=(p:Int):=by
 rcases h with e|e
 ·rw [e]
  have h1:=scan_rg 4 (by omega)
  exact ⟨by show (scanL 4).length=16;omega,h1.1,scan4_inj,scan4_all⟩
 ·rw [e]
  have h1:=scan_rg 8 (by omega)
  exact ⟨by show (scanL 8).length=64;omega,h1.1,scan8_inj,scan8_all⟩
end Go.Proofs.YtainhhfnnclfiaaGreat


namespace Go.Proofs.YtainhhfnnclfiaaGreat
open Go Go.Abs
def alphaL (q:Int):Int:=if 0≤q∧q≤51 then q+4 else 0
def betaL (q:Int):Int:=if 0≤q∧q≤51 then q/3+2 else 0
abbrev EdOk (a b c d q:Int):Prop:=In [a,b,c,d] 0 255∧max (b-c) (c-b)<alphaL q∧max (a-b) (b-a)<betaL q∧max (c-d) (d-c)<betaL q
def edD (a b c d q:Int):Int:=max (-(q/4+1)) (min (q/4+1) ((4*(c-b)+(a-d)+4)/8))
def edP (a b c d q:Int):Int×Int:=if EdOk a b c d q then (max 0 (min 255 (b+edD a b c d q)),max 0 (min 255 (c-edD a b c d q))) else (b,c)
def edg (q:Int) (e s:Nat) (f l:List Int):List Int:=(l.set (e-s) (edP (f.getD (e-2*s) 0) (f.getD (e-s) 0) (f.getD e 0) (f.getD (e+s) 0) q).1).set e (edP (f.getD (e-2*s) 0) (f.getD (e-s) 0) (f.getD e 0) (f.getD (e+s) 0) q).2
def run (q:Int):List (Nat×Nat)→List Int→List Int
 |[],l=>l
 |x::E,l=>run q E (edg q x.1 x.2 l l)
def runF (q:Int) (f:List Int):List (Nat×Nat)→List Int→List Int
 |[],l=>l
 |x::E,l=>runF q f E (edg q x.1 x.2 f l)
theorem edg_len (q:Int) (e s:Nat) (f l:List Int):(edg q e s f l).length=l.length:=by simp [edg]
theorem run_len (q:Int):∀(E:List (Nat×Nat)) (l:List Int),(run q E l).length=l.length
 |[],_=>rfl
 |x::E,l=>by rw [run,run_len q E,edg_len]
theorem run_app (q:Int):∀(E D:List (Nat×Nat)) (l:List Int),run q (E++D) l=run q D (run q E l)
 |[],_,_=>rfl
 |x::E,D,l=>by rw [List.cons_append,run,run,run_app q E D]
def vx (w y j:Nat):List (Nat×Nat):=(List.range j).map fun i=>(y*w+(8*i+8),1)
def vy (w a k:Nat):List (Nat×Nat):=(List.range k).flatMap fun i=>vx w (a+i) (w/8-1)
def hx (w y k:Nat):List (Nat×Nat):=(List.range k).map fun i=>(y*w+i,w)
def hy (w k:Nat):List (Nat×Nat):=(List.range k).flatMap fun i=>hx w (8*i+8) w
theorem vx_succ (w y j:Nat):vx w y (j+1)=vx w y j++[(y*w+(8*j+8),1)]:=by simp [vx,List.range_succ]
theorem vy_succ (w a k:Nat):vy w a (k+1)=vy w a k++vx w (a+k) (w/8-1):=by simp [vy,List.range_succ]
theorem hx_succ (w y k:Nat):hx w y (k+1)=hx w y k++[(y*w+k,w)]:=by simp [hx,List.range_succ]
theorem hy_succ (w k:Nat):hy w (k+1)=hy w k++hx w (8*k+8) w:=by simp [hy,List.range_succ]
def debL (q:Int) (w h:Nat) (p:List Int):List Int:=run q (hy w (h/8-1)) (run q (vy w 0 h) p)
theorem debL_len (q:Int) (w h:Nat) (p:List Int):(debL q w h p).length=p.length:=by rw [debL,run_len,run_len]
theorem edP_in {a b c d q:Int} (hb:0≤b∧b≤255) (hc:0≤c∧c≤255):(0≤(edP a b c d q).1∧(edP a b c d q).1≤255)∧0≤(edP a b c d q).2∧(edP a b c d q).2≤255:=by
 unfold edP;split<;>simp only<;>omega
theorem in_setV {l:List Int} {lo hi v:Int} (h:In l lo hi) (hv:lo≤v∧v≤hi) (i:Nat):In (l.set i v) lo hi:=by
 unfold In at*
 intro x hx
 rcases List.mem_or_eq_of_mem_set hx with h1|h1
 ·exact h x h1
 ·rw [h1];exact hv
theorem in_getZ255 {l:List Int} (h:In l 0 255) (k:Nat):0≤l.getD k 0∧l.getD k 0≤255:=by
 by_cases hk:k<l.length
 ·exact in_get h hk
 ·rw [List.getD_eq_getElem?_getD,List.getElem?_eq_none (by omega)];simp
theorem edg_in {q:Int} {e s:Nat} {f l:List Int} (hf:In f 0 255) (hl:In l 0 255):In (edg q e s f l) 0 255:=by
 have h:=edP_in (a:=f.getD (e-2*s) 0) (d:=f.getD (e+s) 0) (q:=q) (in_getZ255 hf (e-s)) (in_getZ255 hf e)
 exact in_setV (in_setV hl h.1 _) h.2 _
theorem run_rg {q:Int}:∀{E:List (Nat×Nat)} {l:List Int},In l 0 255→In (run q E l) 0 255
 |[],_,h=>h
 |x::E,l,h=>by rw [run];exact run_rg (E:=E) (edg_in h h)
theorem debL_in {q:Int} {w h:Nat} {p:List Int} (hp:In p 0 255):In (debL q w h p) 0 255:=run_rg (run_rg hp)
end Go.Proofs.YtainhhfnnclfiaaGreat


namespace Go.Proofs.YtainhhfnnclfiaaGreat
open Go Go.Abs
attribute [local irreducible] WpA WpL Rnd Blk Abs.Seq Abs.Fin Abs.FinG FnC FnG Only
abbrev NbA (t l:List Int) (c:Int) (a b:Bool):AV:=.agg [IL t,IL l,I c,B a,B b]
abbrev NbO (t l:List Int) (c:Int) (a b:Bool):AObj:=⟨[IL t,IL l,I c,B a,B b],0,0,none⟩
abbrev NbOk (t l:List Int) (c n:Int):Prop:=(n=4∨n=8)∧(t.length:Int)=2*n∧(l.length:Int)=n∧In t 0 255∧In l 0 255∧0≤c∧c≤255
instance NbOk_s:Con 114 (∀ (t l:List Int) (c:Int) (a b:Bool) (n:Int),t.length≤1099511627776∧l.length≤1099511627776→Fn 114 [NbA t l c a b,I n] [] (B (decide (NbOk t l c n)))):=⟨fun t l c a b n hl=>by
 refine FnC.of_body tabOk Tryz.func114 Tryz.ntmps114 rfl (by decide +kernel) (by simp) fun G=>?_
 refine go (r:=?_);and_intros<;>intros<;>try exact True.intro
 all_goals simp_all⟩
instance NbOk_c:Con 109 (∀ (t l:List Int) (c:Int) (a b:Bool) (n:Int),t.length≤1099511627776∧l.length≤1099511627776→Fn 109 [NbA t l c a b,I n] [] (B (decide (NbOk t l c n)))):=⟨fun t l c a b n hl=>by
 refine FnC.of_body tabOk Tryz.func109 Tryz.ntmps109 rfl (by decide +kernel) (by simp) fun G=>?_
 refine go (r:=?_);and_intros<;>intros<;>try exact True.intro
 all_goals simp_all⟩
def bordL (t l:List Int) (c n:Int):List Int:=if NbOk t l c n then l.reverse++[c]++t.take n.toNat else []
theorem bord_len {t l:List Int} {c n:Int} (h:NbOk t l c n):((bordL t l c n).length:Int)=2*n+1:=by
 rw [bordL,if_pos h];obtain ⟨h1,h2,h3,_⟩:=h;simp;omega
instance Border_s:Con 183 (∀ (t l:List Int) (c:Int) (a b:Bool) (n:Int),t.length≤1099511627776∧l.length≤1099511627776→Fn 183 [NbA t l c a b,I n] [XI (bordL t l c n)] (.own 0 0 0 (bordL t l c n).length)):=⟨fun t l c a b n hl=>by
 refine FnC.of_body tabOk Tryz.func183 Tryz.ntmps183 rfl (by decide +kernel) (by simp) fun G=>?_
 refine go (r:=?_);and_intros<;>intros<;>try exact True.intro
 ·rw [bordL,if_neg (by assumption)];rfl
 ·rw [bordL,if_neg (by assumption)]
 have h:NbOk t l c n:=‹_›
 obtain ⟨h1,h2,h3,h4,h5,h6⟩:=id h
 have htk:(t.take n.toNat).length=n.toNat:=by simp;omega
 have hbl:=bord_len h
 refine WpA.loop (fun k:Nat=>⟨[(1,I n),(2,.ptr 0 0 0),(5,.own 1 0 0 k),(6,I (n-1-k))],[NbO t l c a b,XI (l.reverse.take k)]⟩) (fun k=>k≤l.length) (fun k=>l.length-k) 0 (by omega) (go (r:=?_)) (fun k hk=>?_)
 ·simp
 have hlk:(l.reverse.take k).length=k:=by simp;omega
 refine go (r:=?_);and_intros<;>intros<;>try exact True.intro
 ·rw [take_snoc _ k (by simp;omega)];congr 2;rw [show (default:Int)=0 from rfl,rev_get l k (by omega)];congr 1;omega
 all_goals have e:k=l.length:=by omega
 all_goals subst e
 rw [List.take_of_length_le (by simp),bordL,if_pos h]⟩
instance Border_c:Con 244 (∀ (t l:List Int) (c:Int) (a b:Bool) (n:Int),t.length≤1099511627776∧l.length≤1099511627776→Fn 244 [NbA t l c a b,I n] [XI (bordL t l c n)] (.own 0 0 0 (bordL t l c n).length)):=⟨fun t l c a b n hl=>by
 by_cases h:NbOk t l c n
 ·have hbl:=bord_len h
  obtain ⟨h1,h2,h3,h4,h5,h6⟩:=id h
  have htk:(t.take n.toNat).length=n.toNat:=by simp;omega
  have hlr:l.reverse.length=l.length:=List.length_reverse
  refine FnC.of_body tabOk Tryz.func244 Tryz.ntmps244 rfl (by decide +kernel) (by simp) fun G=>?_
  refine go (r:=?_);and_intros<;>intros<;>try exact True.intro
  all_goals first|(exact absurd h ‹¬ NbOk t l c n›)|skip
  rw [bordL,if_pos h]
 ·refine FnC.of_body tabOk Tryz.func244 Tryz.ntmps244 rfl (by decide +kernel) (by simp) fun G=>?_
  refine go (r:=?_);and_intros<;>intros<;>try exact True.intro
  all_goals first|(exact absurd ‹NbOk t l c n› h)|skip
  ·rw [bordL,if_neg h];rfl
  ·rw [bordL,if_neg h]⟩
def meanL (t l:List Int) (c:Int) (a b:Bool) (n:Int):Int:=if NbOk t l c n then (match a,b with
 |true,true=>((t.take n.toNat).sum+l.sum+n)/(2*n)
 |true,false=>((t.take n.toNat).sum+n/2)/n
 |false,true=>(l.sum+n/2)/n
 |false,false=>128) else 0
theorem sum_bd255 {l:List Int} (h:In l 0 255):0≤l.sum∧l.sum≤255*l.length:=by
 have:=psum_bd h l.length (Nat.le_refl _)
 rw [psum_all] at this;exact this
theorem mean_in {t l:List Int} {c n:Int} (a b:Bool) (h:NbOk t l c n):0≤meanL t l c a b n∧meanL t l c a b n≤255:=by
 unfold meanL
 rw [if_pos h]
 obtain ⟨h1,h2,h3,h4,h5,h6⟩:=h
 have htk:(t.take n.toNat).length=n.toNat:=by simp;omega
 have s1:=sum_bd255 (in_take h4 n.toNat)
 have s2:=sum_bd255 h5
 rw [htk] at s1
 rcases h1 with rfl|rfl<;>cases a<;>cases b<;>simp only<;>omega
instance Mean_s:Con 184 (∀ (t l:List Int) (c:Int) (a b:Bool) (n:Int),t.length≤1099511627776∧l.length≤1099511627776→Fn 184 [NbA t l c a b,I n] [] (I (meanL t l c a b n))):=⟨fun t l c a b n hl=>by
 by_cases h:NbOk t l c n
 ·obtain ⟨h1,h2,h3,h4,h5,h6⟩:=id h
  have htk:(t.take n.toNat).length=n.toNat:=by simp;omega
  have s0:=in_take h4 n.toNat
  have s1:=sum_bd255 s0
  have s2:=sum_bd255 h5
  rw [htk] at s1
  cases a<;>cases b
  all_goals refine FnC.of_body tabOk Tryz.func184 Tryz.ntmps184 rfl (by decide +kernel) (by simp) fun G=>?_
  ·refine go (r:=?_);and_intros<;>intros<;>try exact True.intro
   all_goals first|(exact absurd h ‹¬ NbOk t l c n›)|(unfold meanL;rw [if_pos h];done)|(unfold meanL;rw [if_pos h];rfl)
  ·refine go (r:=?_);and_intros<;>intros<;>try exact True.intro
   all_goals first|(exact absurd h ‹¬ NbOk t l c n›)|(unfold meanL;rw [if_pos h];done)|(unfold meanL;rw [if_pos h];rfl)
  ·refine go (r:=?_);and_intros<;>intros<;>try exact True.intro
   all_goals first|(exact absurd h ‹¬ NbOk t l c n›)|(unfold meanL;rw [if_pos h];done)|(unfold meanL;rw [if_pos h];rfl)
  ·refine go (r:=?_);and_intros<;>intros<;>try exact True.intro
   all_goals first|(exact absurd h ‹¬ NbOk t l c n›)|(unfold meanL;rw [if_pos h];done)|(unfold meanL;rw [if_pos h];rfl)
 ·refine FnC.of_body tabOk Tryz.func184 Tryz.ntmps184 rfl (by decide +kernel) (by simp) fun G=>?_
  refine go (r:=?_);and_intros<;>intros<;>try exact True.intro
  all_goals first|(exact absurd ‹NbOk t l c n› h)|skip
  all_goals (unfold meanL;rw [if_neg h])⟩
instance Mean_c:Con 242 (∀ (t l:List Int) (c:Int) (a b:Bool) (n:Int),t.length≤1099511627776∧l.length≤1099511627776→Fn 242 [NbA t l c a b,I n] [] (I (meanL t l c a b n))):=⟨fun t l c a b n hl=>by
 by_cases h:NbOk t l c n
 ·obtain ⟨h1,h2,h3,h4,h5,h6⟩:=id h
  have htk:(t.take n.toNat).length=n.toNat:=by simp;omega
  have s0:=in_take h4 n.toNat
  have s1:=sum_bd255 s0
  have s2:=sum_bd255 h5
  rw [htk] at s1
  cases a<;>cases b
  ·refine FnC.of_body tabOk Tryz.func242 Tryz.ntmps242 rfl (by decide +kernel) (by simp) fun G=>?_
   refine go (r:=?_);and_intros<;>intros<;>try exact True.intro
   all_goals first|(exact absurd h ‹¬ NbOk t l c n›)|skip
   unfold meanL;rw [if_pos h]
  ·refine FnC.of_body tabOk Tryz.func242 Tryz.ntmps242 rfl (by decide +kernel) (by simp) fun G=>?_
   refine go (r:=?_);and_intros<;>intros<;>try exact True.intro
   all_goals first|(exact absurd h ‹¬ NbOk t l c n›)|skip
   refine WpA.loop (fun k:Nat=>⟨[(1,I n),(5,I (psum l k)),(6,I 0),(36,IL l),(37,I l.length),(38,I k)],[NbO t l c false true]⟩) (fun k=>k≤l.length) (fun k=>l.length-k) 0 (by omega) (go (r:=?_)) (fun k hk=>?_)
   ·simp [psum_zero]
   have hb:=psum_bd h5 k hk
   have hg:=fun h=>in_get h5 (k:=k) h
   have hs:=fun h=>psum_succ l k h
   refine go (r:=?_);and_intros<;>intros<;>try exact True.intro
   all_goals have e:k=l.length:=by omega
   all_goals subst e
   all_goals rw [psum_all]
   unfold meanL;rw [if_pos h];rcases h1 with rfl|rfl<;>simp<;>omega
  ·refine FnC.of_body tabOk Tryz.func242 Tryz.ntmps242 rfl (by decide +kernel) (by simp) fun G=>?_
   refine go (r:=?_);and_intros<;>intros<;>try exact True.intro
   all_goals first|(exact absurd h ‹¬ NbOk t l c n›)|skip
   refine WpA.loop (fun k:Nat=>⟨[(1,I n),(2,.ptr 0 0 0),(5,I (psum (t.take n.toNat) k)),(6,I 0),(20,IL (t.take n.toNat)),(21,I (t.take n.toNat).length),(22,I k)],[NbO t l c true false]⟩) (fun k=>k≤(t.take n.toNat).length) (fun k=>(t.take n.toNat).length-k) 0 (by omega) (go (r:=?_)) (fun k hk=>?_)
   ·simp [psum_zero]
   have hb:=psum_bd s0 k hk
   have hg:=fun h=>in_get s0 (k:=k) h
   have hs:=fun h=>psum_succ (t.take n.toNat) k h
   refine go (r:=?_);and_intros<;>intros<;>try exact True.intro
   all_goals have e:k=(t.take n.toNat).length:=by omega
   all_goals subst e
   all_goals rw [psum_all]
   unfold meanL;rw [if_pos h];rcases h1 with rfl|rfl<;>simp<;>omega
  ·refine FnC.of_body tabOk Tryz.func242 Tryz.ntmps242 rfl (by decide +kernel) (by simp) fun G=>?_
   refine go (r:=?_);and_intros<;>intros<;>try exact True.intro
   all_goals first|(exact absurd h ‹¬ NbOk t l c n›)|skip
   refine WpA.loop (fun k:Nat=>⟨[(1,I n),(2,.ptr 0 0 0),(5,I (psum (t.take n.toNat) k)),(6,I 0),(20,IL (t.take n.toNat)),(21,I (t.take n.toNat).length),(22,I k)],[NbO t l c true true]⟩) (fun k=>k≤(t.take n.toNat).length) (fun k=>(t.take n.toNat).length-k) 0 (by omega) (go (r:=?_)) (fun k hk=>?_)
   ·simp [psum_zero]
   have hb:=psum_bd s0 k hk
   have hg:=fun h=>in_get s0 (k:=k) h
   have hs:=fun h=>psum_succ (t.take n.toNat) k h
   refine go (r:=?_);and_intros<;>intros<;>try exact True.intro
   have e:k=(t.take n.toNat).length:=by omega
   subst e
   refine WpA.loop (fun k:Nat=>⟨[(1,I n),(5,I ((t.take n.toNat).sum+psum l k)),(6,I n),(36,IL l),(37,I l.length),(38,I k)],[NbO t l c true true]⟩) (fun k=>k≤l.length) (fun k=>l.length-k) 0 (by omega) (go (r:=?_)) (fun k hk=>?_)
   ·refine ⟨?_,trivial⟩;rw [psum_all,psum_zero];omega
   have hb:=psum_bd h5 k hk
   have hg:=fun h=>in_get h5 (k:=k) h
   have hs:=fun h=>psum_succ l k h
   refine go (r:=?_);and_intros<;>intros<;>try exact True.intro
   all_goals have e:k=l.length:=by omega
   all_goals subst e
   all_goals rw [psum_all]
   unfold meanL;rw [if_pos h];rcases h1 with rfl|rfl<;>simp<;>omega
 ·refine FnC.of_body tabOk Tryz.func242 Tryz.ntmps242 rfl (by decide +kernel) (by simp) fun G=>?_
  refine go (r:=?_);and_intros<;>intros<;>try exact True.intro
  all_goals first|(exact absurd ‹NbOk t l c n› h)|skip
  all_goals (unfold meanL;rw [if_neg h])⟩
end Go.Proofs.YtainhhfnnclfiaaGreat


namespace Go.Proofs.YtainhhfnnclfiaaGreat
open Go Go.Abs
attribute [local irreducible] WpA WpL Rnd Blk Abs.Seq Abs.Fin Abs.FinG FnC FnG Only
theorem in_append {l m:List Int} {lo hi:Int} (h1:In l lo hi) (h2:In m lo hi):In (l++m) lo hi:=by
 unfold In at *;intro v hv
 rcases List.mem_append.1 hv with h|h
 ·exact h1 v h
 ·exact h2 v h
theorem in_one {v lo hi:Int} (h:lo≤v∧v≤hi):In [v] lo hi:=by unfold In;intro x hx;have:x=v:=by simpa using hx
                                                            subst this;exact h
theorem in_rev {l:List Int} {lo hi:Int} (h:In l lo hi):In l.reverse lo hi:=by unfold In at *;intro v hv;exact h v (by simpa using hv)
theorem bord_in {t l:List Int} {c n:Int} (h:NbOk t l c n):In (bordL t l c n) 0 255:=by
 rw [bordL,if_pos h]
 obtain ⟨h1,h2,h3,h4,h5,h6⟩:=h
 exact in_append (in_append (in_rev h5) (in_one h6)) (in_take h4 _)
instance l15Clip_s:Con 185 (∀ v:Int,Fn 185 [I v] [] (I (max 0 (min 255 v)))):=⟨fun v=>by
 refine FnC.of_body tabOk Tryz.func185 Tryz.ntmps185 rfl (by decide +kernel) (by simp) fun G=>?_
 exact go (r:=trivial)⟩
def soft (a b c:Int):Int:=(a+2*b+c+2)/4
instance l15Soft_s:Con 186 (∀ a b c:Int,(0≤a∧a≤255)∧(0≤b∧b≤255)∧0≤c∧c≤255→Fn 186 [I a,I b,I c] [] (I (soft a b c))):=⟨fun a b c h=>by
 refine FnC.of_body tabOk Tryz.func186 Tryz.ntmps186 rfl (by decide +kernel) (by simp) fun G=>?_
 refine go (r:=?_);and_intros<;>intros<;>try exact True.intro
 all_goals rfl⟩
instance smoothed_c:Con 243 (∀ a b c:Int,(0≤a∧a≤255)∧(0≤b∧b≤255)∧0≤c∧c≤255→Fn 243 [I a,I b,I c] [] (I (soft a b c))):=⟨fun a b c h=>by
 refine FnC.of_body tabOk Tryz.func243 Tryz.ntmps243 rfl (by decide +kernel) (by simp) fun G=>?_
 refine go (r:=?_);and_intros<;>intros<;>try exact True.intro
 all_goals rfl⟩
theorem soft_in {a b c:Int} (h:(0≤a∧a≤255)∧(0≤b∧b≤255)∧0≤c∧c≤255):0≤soft a b c∧soft a b c≤255:=by unfold soft;omega
def predL (m:Int) (t l:List Int) (c:Int) (a b:Bool) (n x y:Int):Int:=if NbOk t l c n∧(0≤x∧x≤n-1)∧0≤y∧y≤n-1 then
 (if m=0 then meanL t l c a b n else if m=1 then t.getD x.toNat 0 else if m=2 then l.getD y.toNat 0 else if m=3 then max 0 (min 255 (l.getD y.toNat 0+t.getD x.toNat 0-c))
  else if m=4 then soft (t.getD (x+y).toNat 0) (t.getD (min (2*n-1) (x+y+1)).toNat 0) (t.getD (min (2*n-1) (x+y+2)).toNat 0)
  else if m=5 then soft ((bordL t l c n).getD (x-y+n-1).toNat 0) ((bordL t l c n).getD (x-y+n).toNat 0) ((bordL t l c n).getD (x-y+n+1).toNat 0) else -1) else -1
theorem predL_no {m:Int} {t l:List Int} {c:Int} {a b:Bool} {n x y:Int} (h:¬(NbOk t l c n∧(0≤x∧x≤n-1)∧0≤y∧y≤n-1)):-1=predL m t l c a b n x y:=by unfold predL;rw [if_neg h]
instance PredAt_s:Con 120 (∀ (m:Int) (t l:List Int) (c:Int) (a b:Bool) (n x y:Int),t.length≤1099511627776∧l.length≤1099511627776∧-9223372036854775807≤n→Fn 120 [I m,NbA t l c a b,I n,I x,I y] [] (I (predL m t l c a b n x y))):=⟨fun m t l c a b n x y hl=>by
 by_cases h:NbOk t l c n∧(0≤x∧x≤n-1)∧0≤y∧y≤n-1
 ·obtain ⟨h0,hx,hy⟩:=id h
  obtain ⟨h1,h2,h3,h4,h5,h6⟩:=id h0
  have hbl:=bord_len h0
  have hbi:=bord_in h0
  have g1:=in_get h4 (k:=x.toNat) (by omega)
  have g2:=in_get h5 (k:=y.toNat) (by omega)
  have g3:=in_get h4 (k:=(x+y).toNat) (by omega)
  have g4:=in_get h4 (k:=(min (2*n-1) (x+y+1)).toNat) (by omega)
  have g5:=in_get h4 (k:=(min (2*n-1) (x+y+2)).toNat) (by omega)
  have g6:=in_get hbi (k:=(x-y+n-1).toNat) (by omega)
  have g7:=in_get hbi (k:=(x-y+n).toNat) (by omega)
  have g8:=in_get hbi (k:=(x-y+n+1).toNat) (by omega)
  refine FnC.of_body tabOk Tryz.func120 Tryz.ntmps120 rfl (by decide +kernel) (by simp) fun G=>?_
  refine go (r:=?_);and_intros<;>intros<;>try exact True.intro
  all_goals first|(exact absurd h0 ‹¬ NbOk t l c n›)|(exact absurd hx (by assumption))|(exact absurd hy (by assumption))|skip
  all_goals (unfold predL;rw [if_pos h];first|(subst_vars;rfl)|(simp_all;done))
 ·by_cases h0:NbOk t l c n
  ·by_cases hx:0≤x∧x≤n-1
   ·have hy:¬(0≤y∧y≤n-1):=fun hh=>h ⟨h0,hx,hh⟩
    refine FnC.of_body tabOk Tryz.func120 Tryz.ntmps120 rfl (by decide +kernel) (by simp) fun G=>?_
    refine go (r:=?_);and_intros<;>intros<;>try exact True.intro
    all_goals exact predL_no h
   ·refine FnC.of_body tabOk Tryz.func120 Tryz.ntmps120 rfl (by decide +kernel) (by simp) fun G=>?_
    refine go (r:=?_);and_intros<;>intros<;>try exact True.intro
    all_goals exact predL_no h
  ·refine FnC.of_body tabOk Tryz.func120 Tryz.ntmps120 rfl (by decide +kernel) (by simp) fun G=>?_
   refine go (r:=?_);and_intros<;>intros<;>try exact True.intro
   all_goals exact predL_no h⟩
instance PredAt_c:Con 178 (∀ (m:Int) (t l:List Int) (c:Int) (a b:Bool) (n x y:Int),t.length≤1099511627776∧l.length≤1099511627776∧-9223372036854775807≤n→Fn 178 [I m,NbA t l c a b,I n,I x,I y] [] (I (predL m t l c a b n x y))):=⟨fun m t l c a b n x y hl=>by
 by_cases h:NbOk t l c n∧(0≤x∧x≤n-1)∧0≤y∧y≤n-1
 ·obtain ⟨h0,hx,hy⟩:=id h
  obtain ⟨h1,h2,h3,h4,h5,h6⟩:=id h0
  have hbl:=bord_len h0
  have hbi:=bord_in h0
  have g1:=in_get h4 (k:=x.toNat) (by omega)
  have g2:=in_get h5 (k:=y.toNat) (by omega)
  have g3:=in_get h4 (k:=(x+y).toNat) (by omega)
  have g4:=in_get h4 (k:=(min (x+y+1) (2*n-1)).toNat) (by omega)
  have g5:=in_get h4 (k:=(min (x+y+2) (2*n-1)).toNat) (by omega)
  have g6:=in_get hbi (k:=(x-y+n-1).toNat) (by omega)
  have g7:=in_get hbi (k:=(x-y+n).toNat) (by omega)
  have g8:=in_get hbi (k:=(x-y+n+1).toNat) (by omega)
  refine FnC.of_body tabOk Tryz.func178 Tryz.ntmps178 rfl (by decide +kernel) (by simp) fun G=>?_
  refine go (r:=?_);and_intros<;>intros<;>try exact True.intro
  all_goals (unfold predL;rw [if_pos h];first|(subst_vars;rfl)|(simp_all [Int.min_comm];done))
 ·by_cases h0:NbOk t l c n
  ·by_cases hx:0≤x∧x≤n-1
   ·have hy:¬(0≤y∧y≤n-1):=fun hh=>h ⟨h0,hx,hh⟩
    refine FnC.of_body tabOk Tryz.func178 Tryz.ntmps178 rfl (by decide +kernel) (by simp) fun G=>?_
    refine go (r:=?_);and_intros<;>intros<;>try exact True.intro
    all_goals exact predL_no h
   ·refine FnC.of_body tabOk Tryz.func178 Tryz.ntmps178 rfl (by decide +kernel) (by simp) fun G=>?_
    refine go (r:=?_);and_intros<;>intros<;>try exact True.intro
    all_goals exact predL_no h
  ·refine FnC.of_body tabOk Tryz.func178 Tryz.ntmps178 rfl (by decide +kernel) (by simp) fun G=>?_
   refine go (r:=?_);and_intros<;>intros<;>try exact True.intro
   all_goals exact predL_no h⟩
end Go.Proofs.YtainhhfnnclfiaaGreat
