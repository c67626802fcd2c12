/- Proved in this text: lemmas and contracts of functions that the claim uses (parts: Base, Var, Reel, ReelP, GoR, Cur, CurP, Defs, Draw). No condition. -/
import Derived.Test.YtainhhfnnclfiaaGreatRlM8
import Derived.Test.YtainhhfnnclfiaaGreatRlM7
import Derived.Test.YtainhhfnnclfiaaGreatRlM6
set_option linter.unusedVariables false
set_option linter.unusedSimpArgs false
set_option maxRecDepth 100000
set_option maxHeartbeats 16000000


namespace Go.Proofs.YtainhhfnnclfiaaGreat
open Go Go.Abs
attribute [local irreducible] WpA WpL Rnd Blk Abs.Seq Abs.Fin FnC Only
instance within_c:Con 123 (∀ n lo hi:Int,Fn 123 [I n,I lo,I hi] [] (B (decide (lo≤n∧n≤hi)))):=⟨fun n lo hi=>by
 refine FnC.of_body tabOk Tryz.func123 Tryz.ntmps123 rfl (by decide +kernel) (by simp) fun G=>?_
 refine go (r:=?_);and_intros<;>intros
 all_goals first|exact True.intro|(simp_all;done)|(simp;omega)⟩
instance l1In_c:Con 140 (∀ n lo hi:Int,Fn 140 [I n,I lo,I hi] [] (B (decide (lo≤n∧n≤hi)))):=⟨fun n lo hi=>by
 refine FnC.of_body tabOk Tryz.func140 Tryz.ntmps140 rfl (by decide +kernel) (by simp) fun G=>?_
 refine go (r:=?_);and_intros<;>intros
 all_goals first|exact True.intro|(simp_all;done)|(simp;omega)⟩
instance limited_c:Con 117 (∀ n lo hi:Int,Fn 117 [I n,I lo,I hi] [] (I (max lo (min n hi)))):=⟨fun n lo hi=>by
 refine FnC.of_body tabOk Tryz.func117 Tryz.ntmps117 rfl (by decide +kernel) (by simp) fun G=>?_
 exact go (r:=trivial)⟩
end Go.Proofs.YtainhhfnnclfiaaGreat


namespace Go.Proofs.YtainhhfnnclfiaaGreat
open Go Go.Abs
attribute [local irreducible] WpA WpL Rnd Blk Abs.Seq Abs.Fin Abs.FinG FnC FnG Only
theorem wrap_in (p:Int) (h:-9223372036854775808≤p∧p≤9223372036854775807):IntKind.i64.wrap p=p:=IntWalk.i64_in p h
theorem u8_wrap (v:Int) (h:0≤v∧v≤255):IntKind.u8.wrap v=v:=by
 simp only [IntKind.wrap,IntKind.bits,IntKind.signed];simp;omega
theorem ofInt_nat (k:Nat) (h:k<9223372036854775808):(BitVec.ofInt IntKind.i64.bits (k:Int)).toNat=k:=by
 simp only [IntKind.bits,BitVec.toNat_ofInt];omega
def vb (n:Nat):List Int:=if n<128 then [(n:Int)] else (128+(n:Int)%128)::vb (n/128)
theorem vb_len (j:Nat):∀n,n<128 ^ (j+1)→(vb n).length≤j+1:=by
 induction j with
 |zero=>intro n h;unfold vb;rw [if_pos (by simpa using h)];simp
 |succ j ih=>
  intro n h
  unfold vb
  split
  ·simp
  ·have:=ih (n/128) (by rw [Nat.div_lt_iff_lt_mul (by decide)];rw [Nat.pow_succ] at h;exact h)
   simp;omega
theorem vb_len7 (n:Nat) (h:n≤562949953421311):(vb n).length≤7:=vb_len 6 n (by rw [show (128:Nat) ^ (6+1)=562949953421312 from by decide];omega)
theorem vb_step (n:Nat) (h:128≤n):vb n=(128+(n:Int)%128)::vb (n/128):=by rw [vb,if_neg (by omega)]
theorem vb_end (n:Nat) (h:n<128):vb n=[(n:Int)]:=by rw [vb,if_pos h]
def bytes (l:List Int):List UInt8:=l.map fun v:Int=>UInt8.ofNat v.toNat
def vars (n:Int):List UInt8:=if 0≤n∧n≤562949953421311 then bytes (vb n.toNat) else []
theorem vars_len (n:Int):(vars n).length≤7:=by
 unfold vars
 split
 ·have:=vb_len7 n.toNat (by omega);simpa [bytes] using this
 ·simp
theorem or128:∀r:Fin 128,(r.val ||| 128)=128+r.val:=by decide
theorem low7 (k:Nat) (h:k≤562949953421311):IntKind.i64.wrap ((BitVec.ofInt IntKind.i64.bits (k:Int) &&& BitVec.ofInt IntKind.i64.bits 127).toNat:Nat)=(k:Int)%128:=by
 have e:(BitVec.ofInt IntKind.i64.bits (k:Int) &&& BitVec.ofInt IntKind.i64.bits 127).toNat=k%128:=by
  rw [BitVec.toNat_and,ofInt_nat k (by omega),show (BitVec.ofInt IntKind.i64.bits (127:Int)).toNat=2 ^ 7-1 from ofInt_nat 127 (by decide),Nat.and_two_pow_sub_one_eq_mod]
 rw [e,wrap_in _ (by omega)];omega
theorem hi1 (k:Nat):IntKind.i64.wrap ((BitVec.ofInt IntKind.i64.bits ((k:Int)%128) ||| BitVec.ofInt IntKind.i64.bits 128).toNat:Nat)=128+(k:Int)%128:=by
 have e:(BitVec.ofInt IntKind.i64.bits ((k:Int)%128) ||| BitVec.ofInt IntKind.i64.bits 128).toNat=128+k%128:=by
  rw [BitVec.toNat_or,show ((k:Int)%128)=((k%128:Nat):Int) from by omega,ofInt_nat _ (by omega),show (BitVec.ofInt IntKind.i64.bits (128:Int)).toNat=128 from ofInt_nat 128 (by decide)]
  exact or128 ⟨k%128,by omega⟩
 rw [e,wrap_in _ (by omega)];omega
instance Var_s:Con 124 (∀ n:Int,Fn 124 [I n] [] (Z (vars n))):=⟨fun n=>by
 refine FnC.of_body tabOk Tryz.func124 Tryz.ntmps124 rfl (by decide +kernel) (by simp) fun G=>?_
 refine go (r:=?_);and_intros<;>intros<;>try exact True.intro
 ·rw [vars,if_neg (by assumption)]
 have hn:0≤n∧n≤562949953421311:=by assumption
 have h7:=vb_len7 n.toNat (by omega)
 refine WpA.loop (fun x:List Int×Nat=>⟨[(0,I x.2),(3,.own 0 0 0 x.1.length)],[⟨u8s x.1,0,1,some 5⟩]⟩) (fun x=>x.1++vb x.2=vb n.toNat∧x.2≤562949953421311) (fun x=>x.2) ([],n.toNat) (by simp;omega) (go (r:=trivial)) (fun x hx=>?_)
 obtain ⟨acc,k⟩:=x
 obtain ⟨hx1,hx2⟩:=hx
 simp only at hx1 hx2 ⊢
 have hla:acc.length≤7:=by have:=congrArg List.length hx1;simp at this;omega
 refine go (r:=?_);and_intros<;>intros<;>try exact True.intro
 ·have hk:128≤k:=by omega
  refine Rnd.go (acc++[128+(k:Int)%128],k/128) ⟨by simp only;rw [←hx1,vb_step k hk];simp,by simp only;omega⟩ (by simp only;omega) (go (r:=?_))
  and_intros<;>try exact True.intro
  rw [u8_wrap _ (by omega)]
 ·have e:=vb_end k (by omega)
  rw [vars,if_pos hn,←hx1,e,u8_wrap _ (by omega),bytes]⟩
instance Var_c:Con 59 (∀ n:Int,Fn 59 [I n] [] (Z (vars n))):=⟨fun n=>by
 refine FnC.of_body tabOk Tryz.func59 Tryz.ntmps59 rfl (by decide +kernel) (by simp) fun G=>?_
 refine go (r:=?_);and_intros<;>intros<;>try exact True.intro
 ·rw [vars,if_neg (by assumption)]
 have hn:0≤n∧n≤562949953421311:=by assumption
 have h7:=vb_len7 n.toNat (by omega)
 refine WpA.loop (fun x:List Int×Nat=>⟨[(0,I x.2),(3,.own 0 0 0 x.1.length)],[⟨u8s x.1,0,1,some 5⟩]⟩) (fun x=>x.1++vb x.2=vb n.toNat∧x.2≤562949953421311) (fun x=>x.2) ([],n.toNat) (by simp;omega) (go (r:=trivial)) (fun x hx=>?_)
 obtain ⟨acc,k⟩:=x
 obtain ⟨hx1,hx2⟩:=hx
 simp only at hx1 hx2 ⊢
 have hla:acc.length≤7:=by have:=congrArg List.length hx1;simp at this;omega
 refine go (r:=?_);and_intros<;>intros<;>try exact True.intro
 ·have hk:128≤k:=by omega
  refine Rnd.go (acc++[128+(k:Int)%128],k/128) ⟨by simp only;rw [←hx1,vb_step k hk];simp,by simp only;omega⟩ (by simp only;omega) (go (r:=?_))
  and_intros<;>try exact True.intro
  rw [low7 k hx2,hi1,u8_wrap _ (by omega)]
 ·have e:=vb_end k (by omega)
  rw [vars,if_pos hn,←hx1,e,u8_wrap _ (by omega),bytes]⟩
end Go.Proofs.YtainhhfnnclfiaaGreat


namespace Go.Proofs.YtainhhfnnclfiaaGreat
open Go Go.Abs
attribute [local irreducible] WpA WpL Rnd Blk Abs.Seq Abs.Fin Abs.FinG FnC FnG Only
def num:List UInt8→Int
 |[]=>0
 |b::l=>num l*128+(b.toNat:Int)%128
theorem num_bd:∀l:List UInt8,0≤num l∧num l<128 ^ l.length
 |[]=>by simp [num]
 |b::l=>by
  have:=num_bd l
  rw [num,List.length_cons,Int.pow_succ]
  omega
theorem num_snoc:∀(l:List UInt8) (b:UInt8),num (l++[b])=num l+((b.toNat:Int)%128)*128 ^ l.length
 |[],b=>by simp [num]
 |a::l,b=>by
  rw [List.cons_append,num,num_snoc l b,num,List.length_cons,Int.pow_succ]
  rw [Int.add_mul,Int.mul_assoc];omega
theorem vb_at (n:Nat):∀j,j<(vb n).length→(j+1<(vb n).length→128≤(vb n).getD j 0∧(vb n).getD j 0<256)∧(j+1=(vb n).length→0≤(vb n).getD j 0∧(vb n).getD j 0<128):=by
 induction n using Nat.strongRecOn with
 |_ n ih=>
  intro j hj
  by_cases h:n<128
  ·rw [vb_end n h] at hj ⊢
   have:j=0:=by simpa using hj
   subst this
   simp;omega
  ·rw [vb_step n (by omega)] at hj ⊢
   have hpos:0<(vb (n/128)).length:=by unfold vb;split<;>simp
   cases j with
   |zero=>simp only [List.length_cons,List.getD_cons_zero];omega
   |succ j=>
    have:=ih (n/128) (by omega) j (by simpa using hj)
    simp only [List.length_cons,List.getD_cons_succ] at hj ⊢
    omega
theorem bytes_getD (l:List Int) (j:Nat) (h:j<l.length) (hb:0≤l.getD j 0∧l.getD j 0<256):((bytes l).getD j 0).toNat=(l.getD j 0).toNat:=by
 have e:(bytes l).getD j 0=UInt8.ofNat (l.getD j 0).toNat:=by simp [bytes,h]
 rw [e,UInt8.toNat_ofNat'];omega
theorem vars_at {m:Int} {l:List UInt8} (hv:vars m=l) (hl:l≠[]):∀j,j<l.length→(j+1<l.length→128≤(l.getD j 0).toNat)∧(j+1=l.length→(l.getD j 0).toNat<128):=by
 intro j hj
 unfold vars at hv
 split at hv
 ·have hlen:l.length=(vb m.toNat).length:=by rw [←hv];simp [bytes]
  have h1:=vb_at m.toNat j (by omega)
  rw [←hv]
  constructor
  ·intro h
   have h2:=h1.1 (by rw [hv] at h;omega)
   rw [bytes_getD _ _ (by omega) (by omega)];omega
  ·intro h
   have h2:=h1.2 (by rw [hv] at h;omega)
   rw [bytes_getD _ _ (by omega) (by omega)];omega
 ·exact (hl hv.symm).elim
def fst7 (s:List UInt8):Option Nat:=(List.range (min 7 s.length)).find? fun i=>decide ((s.getD i 0).toNat<128)
theorem fst7_some {s:List UInt8} {i:Nat} (h1:i<7) (h2:i<s.length) (h3:(s.getD i 0).toNat<128) (h4:∀j,j<i→128≤(s.getD j 0).toNat):fst7 s=some i:=by
 unfold fst7
 rw [List.find?_range_eq_some]
 refine ⟨by simpa using h3,by simp;omega,fun j hj=>?_⟩
 have:=h4 j hj
 simp;simpa using this
theorem fst7_none {s:List UInt8} (h:∀j,j<7→j<s.length→128≤(s.getD j 0).toNat):fst7 s=none:=by
 unfold fst7
 rw [List.find?_range_eq_none]
 intro j hj
 have:=h j (by omega) (by omega)
 simp;simpa using this
theorem fst7_inv {s:List UInt8} {i:Nat} (h:fst7 s=some i):i<7∧i<s.length:=by
 unfold fst7 at h
 rw [List.find?_range_eq_some] at h
 have:=h.2.1
 simp at this;omega
def rvOk (s:List UInt8) (k:Nat):Prop:=vars (num (s.take k))=s.take k
instance (s:List UInt8) (k:Nat):Decidable (rvOk s k):=by unfold rvOk;infer_instance
def rv (s:List UInt8):Int×Int:=match fst7 s with
 |some i=>if rvOk s (i+1) then (num (s.take (i+1)),(i:Int)+1) else (0,0)
 |none=>(0,0)
theorem rv_bd (s:List UInt8):0≤(rv s).1∧(rv s).1≤562949953421311∧0≤(rv s).2∧(rv s).2≤7∧(rv s).2≤s.length:=by
 unfold rv
 split
 ·rename_i i hi
  have h1:=fst7_inv hi
  have h2:=num_bd (s.take (i+1))
  have h3:(s.take (i+1)).length=i+1:=by simp;omega
  rw [h3] at h2
  have h4:(128:Int) ^ (i+1)≤128 ^ 7:=by
   have:=Nat.pow_le_pow_right (n:=128) (by decide) (show i+1≤7 from by omega)
   exact_mod_cast this
  split
  ·refine ⟨h2.1,?_,?_,?_,?_⟩<;>simp only<;>omega
  ·simp
 ·simp
theorem rvOk_fst {s:List UInt8} {k:Nat} (h:rvOk s (k+1)) (hk:k<s.length) (h7:k<7):fst7 s=some k:=by
 unfold rvOk at h
 have hl:(s.take (k+1)).length=k+1:=by simp;omega
 have h1:=vars_at h (by intro e;rw [e] at hl;simp at hl)
 have hg:∀j,j<k+1→(s.take (k+1)).getD j 0=s.getD j 0:=fun j hj=>by simp [List.getElem?_take,hj]
 refine fst7_some h7 hk ?_ fun j hj=>?_
 ·have:=(h1 k (by omega)).2 (by omega);rwa [hg k (by omega)] at this
 ·have:=(h1 j (by omega)).1 (by omega);rwa [hg j (by omega)] at this
theorem and127 (x:Nat) (h:x<256):IntKind.u8.wrap ((BitVec.ofInt IntKind.u8.bits (x:Int) &&& BitVec.ofInt IntKind.u8.bits 127).toNat:Nat)=(x:Int)%128:=by
 have e1:(BitVec.ofInt IntKind.u8.bits (x:Int)).toNat=x:=by simp only [IntKind.bits,BitVec.toNat_ofInt];omega
 have e:(BitVec.ofInt IntKind.u8.bits (x:Int) &&& BitVec.ofInt IntKind.u8.bits 127).toNat=x%128:=by
  rw [BitVec.toNat_and,e1,show (BitVec.ofInt IntKind.u8.bits (127:Int)).toNat=2 ^ 7-1 from by decide,Nat.and_two_pow_sub_one_eq_mod]
 rw [e,u8_wrap _ (by omega)];omega
theorem or_shift (a y k:Nat) (ha:a<2 ^ k) (h:a+y*2 ^ k<9223372036854775808):IntKind.i64.wrap ((BitVec.ofInt IntKind.i64.bits (a:Int) ||| BitVec.ofInt IntKind.i64.bits ((y*2 ^ k:Nat):Int)).toNat:Nat)=a+(y:Int)*2 ^ k:=by
 rw [BitVec.toNat_or,ofInt_nat _ (by omega),ofInt_nat _ (by omega),Nat.or_comm,Nat.mul_comm,←Nat.two_pow_add_eq_or_of_lt ha,wrap_in _ (by rw [Nat.mul_comm] at h;omega)]
 rw [Int.natCast_add,Int.natCast_mul,Int.natCast_pow,Int.mul_comm]
 simp only [Int.cast_ofNat_Int]
 omega
theorem step7 (s:List UInt8) (i:Nat) (h7:i<7) (hi:i<s.length):IntKind.i64.wrap (BitVec.ofInt IntKind.i64.bits (num (s.take i)) ||| BitVec.ofInt IntKind.i64.bits (IntKind.i64.wrap (IntKind.i64.wrap (IntKind.u8.wrap ((BitVec.ofInt IntKind.u8.bits ((s.getD i 0).toNat:Int) &&& BitVec.ofInt IntKind.u8.bits 127).toNat:Nat))*2 ^ (7*(i:Int)).toNat))).toNat=num (s.take (i+1)):=by
 have hb:=num_bd (s.take i)
 have hl:(s.take i).length=i:=by simp;omega
 rw [hl] at hb
 have hx:=(s.getD i 0).toNat_lt
 have hp:(128:Int) ^ i=2 ^ (7*i):=by rw [Int.pow_mul];rfl
 have hle:(2:Nat) ^ (7*i)≤2 ^ 42:=Nat.pow_le_pow_right (by decide) (by omega)
 have hm:((s.getD i 0).toNat%128)*2 ^ (7*i)≤127*2 ^ 42:=Nat.mul_le_mul (by omega) hle
 rw [and127 _ hx,show (7*(i:Int)).toNat=7*i from by omega,wrap_in (((s.getD i 0).toNat:Int)%128) (by omega)]
 have e1:(((s.getD i 0).toNat:Int)%128)*2 ^ (7*i)=((((s.getD i 0).toNat%128)*2 ^ (7*i):Nat):Int):=by rw [Int.natCast_mul,Int.natCast_pow];rfl
 have e2:num (s.take i)=((num (s.take i)).toNat:Int):=by omega
 have hn:(num (s.take i)).toNat<2 ^ (7*i):=by
  rw [hp] at hb
  have:((2:Int) ^ (7*i))=((2 ^ (7*i):Nat):Int):=by rw [Int.natCast_pow];rfl
  omega
 rw [e1,wrap_in (((((s.getD i 0).toNat%128)*2 ^ (7*i):Nat):Int)) (by omega),e2,or_shift _ _ _ hn (by omega)]
 rw [List.take_succ_eq_append_getElem hi,num_snoc,hl,hp,←e2]
 have:s.getD i 0=s[i]:=by simp [hi]
 rw [this];rfl
instance ReadVar_c:Con 60 (∀ s:List UInt8,s.length≤1048576→Fn 60 [Z s] [] (.tup [I (rv s).1,I (rv s).2])):=⟨fun s hl=>by
 refine FnC.of_body tabOk Tryz.func60 Tryz.ntmps60 rfl (by decide +kernel) (by simp) fun G=>?_
 refine go (r:=?_);and_intros<;>intros<;>try exact True.intro
 refine WpA.loop (fun i:Nat=>⟨[(0,Z s),(4,I (num (s.take i))),(5,I i)],[]⟩) (fun i=>i≤7∧i≤s.length∧∀j,j<i→128≤(s.getD j 0).toNat) (fun i=>7-i) 0 (by simp) (go (r:=trivial)) (fun i hi=>?_)
 have e:i<s.length→i<7→_:=fun h1 h2=>step7 s i h2 h1
 have hrv:i<s.length→i<7→(s.getD i 0).toNat<128→rv s=if rvOk s (i+1) then (num (s.take (i+1)),(i:Int)+1) else (0,0):=fun h1 h2 h3=>by
  unfold rv;rw [fst7_some h2 h1 h3 hi.2.2]
 have hno:(¬ (i:Int)<s.length∨¬(i:Int)<7)→rv s=(0,0):=fun h=>by
  unfold rv;rw [fst7_none fun j h1 h2=>hi.2.2 j (by omega)]
 refine go (r:=?_);and_intros<;>intros<;>try exact True.intro
 ·rename_i h4
  rw [e (by omega) (by omega)] at h4
  rw [hrv (by omega) (by omega) (by omega),if_neg (show ¬rvOk s (i+1) from h4)]
 ·rename_i h4
  rw [e (by omega) (by omega)] at h4
  rw [hrv (by omega) (by omega) (by omega),if_neg (show ¬rvOk s (i+1) from h4)]
 ·rename_i h4
  rw [e (by omega) (by omega)] at h4
  rw [e (by omega) (by omega),hrv (by omega) (by omega) (by omega),if_pos (show rvOk s (i+1) from h4)]
 ·rename_i h4
  rw [e (by omega) (by omega)] at h4
  rw [hrv (by omega) (by omega) (by omega),if_pos (show rvOk s (i+1) from h4)]
 ·rename_i j hj
  by_cases hji:j=i
  ·subst hji;omega
  ·exact hi.2.2 j (by omega)
 all_goals first|exact e (by omega) (by omega)|rw [hno (by omega)]⟩
theorem num_drop {l:List UInt8} {i:Nat} (h:i<l.length):num (l.drop i)=num (l.drop (i+1))*128+((l.getD i 0).toNat:Int)%128:=by
 rw [List.drop_eq_getElem_cons h,num];simp [h]
instance ReadVar_s:Con 64 (∀ s:List UInt8,s.length≤1048576→Fn 64 [Z s] [] (.tup [I (rv s).1,I (rv s).2])):=⟨fun s hl=>by
 refine FnC.of_body tabOk Tryz.func64 Tryz.ntmps64 rfl (by decide +kernel) (by simp) fun G=>?_
 refine go (r:=?_);and_intros<;>intros<;>try exact True.intro
 refine WpA.loop (fun k:Nat=>⟨[(0,Z s),(4,I k)],[]⟩) (fun k=>1≤k∧k≤8∧k≤s.length+1∧∀j,1≤j→j<k→¬rvOk s j) (fun k=>8-k) 1 (by simp;omega) (go (r:=trivial)) (fun k hk=>?_)
 have hno:(¬ (k:Int)≤7∨¬(k:Int)≤s.length)→rv s=(0,0):=fun h=>by
  unfold rv
  split
  ·rename_i i hi
   have:=fst7_inv hi
   rw [if_neg (hk.2.2.2 (i+1) (by omega) (by omega))]
  ·rfl
 refine go (r:=?_);and_intros<;>intros<;>try exact True.intro
 ·refine WpA.loop (fun q:Nat=>⟨[(0,Z s),(4,I k),(5,I (num ((s.take k).drop (k-q)))),(6,I ((k:Int)-1-q))],[]⟩) (fun q=>q≤k) (fun q=>k-q) 0 (by omega) (go (r:=?_)) (fun q hq=>?_)
  ·have:(s.take k).drop k=[]:=List.drop_eq_nil_of_le (by simp;omega)
   simp [this,num]
  have hb:=num_bd ((s.take k).drop (k-q))
  have hlq:((s.take k).drop (k-q)).length=q:=by simp;omega
  have hle:(128:Int) ^ q≤128 ^ 7:=by
   have:=Nat.pow_le_pow_right (n:=128) (by decide) (show q≤7 from by omega)
   exact_mod_cast this
  rw [hlq] at hb
  refine go (r:=?_);and_intros<;>intros<;>try exact True.intro
  ·have h1:k-q=(k-(q+1))+1:=by omega
   have h2:((k:Int)-1-q).toNat=k-(q+1):=by omega
   rw [num_drop (l:=s.take k) (i:=k-(q+1)) (by simp;omega),h1,h2]
   simp [List.getElem?_take,show k-(q+1)<k from by omega]
  all_goals have hqk:q=k:=by omega
  all_goals subst hqk
  all_goals simp only [Nat.sub_self,List.drop_zero] at*
  ·rename_i h
   obtain ⟨i,rfl⟩:∃i,q=i+1:=⟨q-1,by omega⟩
   unfold rv;rw [rvOk_fst h (by omega) (by omega)];simp only [];rw [if_pos (show rvOk s (i+1) from h)]
  ·rename_i h
   obtain ⟨i,rfl⟩:∃i,q=i+1:=⟨q-1,by omega⟩
   unfold rv;rw [rvOk_fst h (by omega) (by omega)];simp only [];rw [if_pos (show rvOk s (i+1) from h)];simp
  ·rename_i j hj1 hjr h7 hsl hneg hjq hne
   by_cases h:j=q
   ·subst h;exact hne hjr
   ·exact hk.2.2.2 j hj1 (by omega) hjr
 all_goals rw [hno (by omega)]⟩
def unp:Nat→List UInt8→Option (List (List UInt8))
 |_,[]=>some []
 |0,_::_=>none
 |r+1,b::s=>if (rv (b::s)).2=0∨(rv (b::s)).1>(b::s).length-(rv (b::s)).2 then none
  else (unp r ((b::s).drop ((rv (b::s)).2+(rv (b::s)).1).toNat)).map ((((b::s).drop (rv (b::s)).2.toNat).take (rv (b::s)).1.toNat)::·)
theorem unp_nil (r:Nat):unp r []=some []:=by cases r<;>rfl
theorem unp_zero {s:List UInt8} (h:s≠[]):unp 0 s=none:=by
 cases s with
 |nil=>exact (h rfl).elim
 |cons b s=>rfl
theorem unp_bad {r:Nat} {s:List UInt8} (h:s≠[]) (h2:(rv s).2=0∨(rv s).1>s.length-(rv s).2):unp (r+1) s=none:=by
 cases s with
 |nil=>exact (h rfl).elim
 |cons b s=>rw [unp,if_pos h2]
theorem unp_step {r:Nat} {s:List UInt8} (h:s≠[]) (h2:¬((rv s).2=0∨(rv s).1>s.length-(rv s).2)):
 unp (r+1) s=(unp r (s.drop ((rv s).2+(rv s).1).toNat)).map (((s.drop (rv s).2.toNat).take (rv s).1.toNat)::·):=by
 cases s with
 |nil=>exact (h rfl).elim
 |cons b s=>rw [unp,if_neg h2]
def unL (s:List UInt8):List (List UInt8):=(unp 8 s).getD []
def unOk (s:List UInt8):Bool:=(unp 8 s).isSome
abbrev SO (l:List (List UInt8)):AObj:=⟨strs l,0,1,some 9⟩
theorem unp_fail {s t:List UInt8} {l:List (List UInt8)} (hx1:l.length≤8) (hx3:unp 8 s=(unp (8-l.length) t).map (l++·)) (h1:¬t=[]) (h2:(rv t).2=0∨(rv t).1>t.length-(rv t).2∨(l.length:Int)=8):unL s=[]∧unOk s=false:=by
 have:unp (8-l.length) t=none:=by
  by_cases h8:l.length=8
  ·rw [h8];exact unp_zero h1
  ·obtain ⟨r,hr⟩:∃r,8-l.length=r+1:=⟨7-l.length,by omega⟩
   rw [hr];exact unp_bad h1 (by omega)
 rw [this] at hx3
 simp [unL,unOk,hx3]
theorem unp_done {s t:List UInt8} {l:List (List UInt8)} (hx3:unp 8 s=(unp (8-l.length) t).map (l++·)) (h:t=[]):unL s=l∧unOk s=true:=by
 subst h;rw [unp_nil] at hx3;simp [unL,unOk,hx3]
theorem unp_next {s t:List UInt8} {l:List (List UInt8)} (hx1:l.length<8) (hx3:unp 8 s=(unp (8-l.length) t).map (l++·)) (h1:¬t=[]) (h2:¬((rv t).2=0∨(rv t).1>t.length-(rv t).2)):
 unp 8 s=(unp (8-(l++[((t.drop (rv t).2.toNat).take (rv t).1.toNat)]).length) (t.drop ((rv t).2+(rv t).1).toNat)).map ((l++[((t.drop (rv t).2.toNat).take (rv t).1.toNat)])++·):=by
 obtain ⟨r,hr⟩:∃r,8-l.length=r+1:=⟨7-l.length,by omega⟩
 rw [hx3,hr,unp_step h1 h2,show 8-(l++[((t.drop (rv t).2.toNat).take (rv t).1.toNat)]).length=r from by simp;omega]
 cases unp r (t.drop ((rv t).2+(rv t).1).toNat)<;>simp
instance UnpackReel_c:Con 13 (∀ s:List UInt8,s.length≤1048576→Fn 13 [Z s] [SO (unL s)] (.tup [.own 0 0 0 (unL s).length,B (unOk s)])):=⟨fun s hl=>by
 refine FnC.of_body tabOk Tryz.func13 Tryz.ntmps13 rfl (by decide +kernel) (by simp) fun G=>?_
 refine go (r:=?_);and_intros<;>intros<;>try exact True.intro
 refine WpA.loop (fun x:List (List UInt8)×List UInt8=>⟨[(0,Z x.2),(4,.own 0 0 0 x.1.length)],[SO x.1]⟩) (fun x=>x.1.length≤8∧x.2.length≤s.length∧unp 8 s=(unp (8-x.1.length) x.2).map (x.1++·)) (fun x=>x.2.length) ([],s) (by simp) (go (r:=trivial)) (fun x hx=>?_)
 obtain ⟨l,t⟩:=x
 obtain ⟨hx1,hx2,hx3⟩:=hx
 simp only at hx1 hx2 hx3 ⊢
 have hb:=rv_bd t
 refine go (r:=?_);and_intros<;>intros<;>try exact True.intro
 all_goals first|(have:=unp_fail hx1 hx3 ‹_› (by omega);simp [this];done)|(have:=unp_done hx3 ‹_›;simp [this];done)|skip
 have hne:¬t=[]:=‹_›
 refine Rnd.go (l++[((t.drop (rv t).2.toNat).take (rv t).1.toNat)],t.drop ((rv t).2+(rv t).1).toNat) ⟨by simp;omega,by simp;omega,unp_next (by omega) hx3 hne (by omega)⟩ (by have:=List.length_pos_iff.2 hne;simp;omega) (go (r:=?_))
 and_intros<;>try exact True.intro
 rw [List.take_of_length_le (by simp)]⟩
instance UnpackReel_s:Con 16 (∀ s:List UInt8,s.length≤1048576→Fn 16 [Z s] [SO (unL s)] (.tup [.own 0 0 0 (unL s).length,B (unOk s)])):=⟨fun s hl=>by
 refine FnC.of_body tabOk Tryz.func16 Tryz.ntmps16 rfl (by decide +kernel) (by simp) fun G=>?_
 refine go (r:=?_);and_intros<;>intros<;>try exact True.intro
 refine WpA.loop (fun x:List (List UInt8)×Nat=>⟨[(0,Z s),(4,.own 0 0 0 x.1.length),(5,I x.2)],[SO x.1]⟩) (fun x=>x.1.length≤8∧x.2≤s.length∧unp 8 s=(unp (8-x.1.length) (s.drop x.2)).map (x.1++·)) (fun x=>s.length-x.2) ([],0) (by simp) (go (r:=trivial)) (fun x hx=>?_)
 obtain ⟨l,a⟩:=x
 obtain ⟨hx1,hx2,hx3⟩:=hx
 simp only at hx1 hx2 hx3 ⊢
 have hb:=rv_bd (s.drop a)
 have hlen:(s.drop a).length=s.length-a:=by simp
 have hne:a<s.length→¬s.drop a=[]:=fun h e=>by have:=congrArg List.length e;simp at this;omega
 refine go (r:=?_);and_intros<;>intros<;>try exact True.intro
 all_goals first|(have:=unp_fail hx1 hx3 (hne (by omega)) (by omega);simp [this];done)|(have:=unp_done hx3 (List.drop_eq_nil_of_le (by omega));simp [this];done)|skip
 have hn:=unp_next (by omega) hx3 (hne (by omega)) (by omega)
 simp only [List.drop_drop] at hn
 refine Rnd.go (l++[((s.drop (a+(rv (s.drop a)).2.toNat)).take (rv (s.drop a)).1.toNat)],a+((rv (s.drop a)).2+(rv (s.drop a)).1).toNat) ⟨by simp;omega,by simp;omega,hn⟩ (by simp;omega) (go (r:=?_))
 and_intros<;>try exact True.intro
 have e1:((a:Int)+(rv (s.drop a)).2).toNat=a+(rv (s.drop a)).2.toNat:=by omega
 have e2:((a:Int)+(rv (s.drop a)).2+(rv (s.drop a)).1).toNat-(a+(rv (s.drop a)).2.toNat)=(rv (s.drop a)).1.toNat:=by omega
 rw [e1,e2]⟩
end Go.Proofs.YtainhhfnnclfiaaGreat


namespace Go.Proofs.YtainhhfnnclfiaaGreat
open Go Go.Abs
attribute [local irreducible] WpA WpL Rnd Blk Abs.Seq Abs.Fin Abs.FinG FnC FnG Only
def totR (xs:List (List UInt8)):Nat:=(xs.map List.length).sum
theorem totR_snoc (xs:List (List UInt8)) (k:Nat) (h:k<xs.length):totR (xs.take (k+1))=totR (xs.take k)+(xs.getD k []).length:=by
 unfold totR;rw [List.take_succ_eq_append_getElem h,List.map_append,List.sum_append];simp [List.getElem?_eq_getElem h]
theorem totR_take (xs:List (List UInt8)) (k:Nat):totR (xs.take k)≤totR xs:=by
 have:totR xs=totR (xs.take k)+totR (xs.drop k):=by unfold totR;rw [←List.sum_append,←List.map_append,List.take_append_drop]
 omega
theorem totR_get (xs:List (List UInt8)) (k:Nat):(xs.getD k []).length≤totR xs:=by
 by_cases h:k<xs.length
 ·have:=totR_snoc xs k h;have:=totR_take xs (k+1);omega
 ·simp [List.getElem?_eq_none (Nat.le_of_not_lt h)]
def packed (xs:List (List UInt8)):List UInt8:=xs.flatMap fun x=>vars x.length++x
def packs (xs:List (List UInt8)):List UInt8:=if xs.length≤8 then packed xs else []
theorem packed_snoc (xs:List (List UInt8)) (k:Nat) (h:k<xs.length):packed (xs.take (k+1))=packed (xs.take k)++(vars (xs.getD k []).length++xs.getD k []):=by
 unfold packed;rw [List.take_succ_eq_append_getElem h,List.flatMap_append];simp [List.getElem?_eq_getElem h]
theorem packed_len (xs:List (List UInt8)):∀k,k≤xs.length→(packed (xs.take k)).length≤7*k+totR (xs.take k):=by
 intro k
 induction k with
 |zero=>intro _;simp [packed]
 |succ k ih=>
  intro h
  have h1:=ih (by omega)
  have h2:=vars_len (xs.getD k []).length
  have h3:=totR_snoc xs k (by omega)
  rw [packed_snoc _ _ (by omega)]
  simp only [List.length_append]
  omega
theorem packs_len (xs:List (List UInt8)):(packs xs).length≤56+totR xs:=by
 unfold packs
 split
 ·have:=packed_len xs xs.length (Nat.le_refl _)
  rw [List.take_length] at this;omega
 ·simp
theorem num_vb (n:Nat):num (bytes (vb n))=n:=by
 induction n using Nat.strongRecOn with
 |_ n ih=>
  by_cases h:n<128
  ·rw [vb_end n h]
   show num []*128+((UInt8.ofNat (n:Int).toNat).toNat:Int)%128=n
   rw [UInt8.toNat_ofNat',num];omega
  ·rw [vb_step n (by omega)]
   show num (bytes (vb (n/128)))*128+((UInt8.ofNat (128+(n:Int)%128).toNat).toNat:Int)%128=n
   rw [ih (n/128) (by omega),UInt8.toNat_ofNat'];omega
theorem vars_pos {n:Int} (h:0≤n∧n≤562949953421311):0<(vars n).length:=by
 unfold vars
 rw [if_pos h]
 unfold bytes vb
 split<;>simp
theorem num_vars {n:Int} (h:0≤n∧n≤562949953421311):num (vars n)=n:=by
 unfold vars
 rw [if_pos h,num_vb];omega
theorem rv_vars {n:Int} (h:0≤n∧n≤562949953421311) (r:List UInt8):rv (vars n++r)=(n,((vars n).length:Int)):=by
 have h7:=vars_len n
 have hp:=vars_pos h
 obtain ⟨k,hk⟩:∃k,(vars n).length=k+1:=⟨(vars n).length-1,by omega⟩
 have ht:(vars n++r).take (k+1)=vars n:=by rw [←hk,List.take_left]
 have ho:rvOk (vars n++r) (k+1):=by unfold rvOk;rw [ht,num_vars h]
 have hf:=rvOk_fst ho (by rw [List.length_append];omega) (by omega)
 unfold rv
 rw [hf]
 simp only
 rw [if_pos ho,ht,num_vars h,hk];simp
theorem unp_packed:∀(xs:List (List UInt8)) (r:Nat),xs.length≤r→(∀ x∈xs,x.length≤562949953421311)→unp r (packed xs)=some xs
 |[],r,_,_=>by show unp r []=_;exact unp_nil r
 |x::xs,r,hr,hx=>by
  obtain ⟨r,rfl⟩:∃q,r=q+1:=⟨r-1,by simp at hr;omega⟩
  have h1:0≤(x.length:Int)∧(x.length:Int)≤562949953421311:=⟨by omega,by have:=hx x (by simp);omega⟩
  have hp:=vars_pos h1
  have e:packed (x::xs)=vars x.length++(x++packed xs):=by simp [packed]
  have hrv:=rv_vars h1 (x++packed xs)
  rw [←e] at hrv
  have hne:packed (x::xs)≠[]:=by rw [e];intro h;have:=congrArg List.length h;rw [List.length_append,List.length_nil] at this;omega
  have hlen:(packed (x::xs)).length=(vars x.length).length+x.length+(packed xs).length:=by rw [e];simp only [List.length_append];omega
  rw [unp_step hne (by rw [hrv];simp only;omega),hrv]
  simp only
  have e1:(((vars (x.length:Int)).length:Int)+(x.length:Int)).toNat=(vars (x.length:Int)).length+x.length:=by omega
  have e2:(packed (x::xs)).drop ((vars (x.length:Int)).length+x.length)=packed xs:=by
   rw [e,←List.append_assoc]
   exact List.drop_left' (by rw [List.length_append])
  rw [e1,e2,unp_packed xs r (by rw [List.length_cons] at hr;omega) (fun y hy=>hx y (by simp [hy]))]
  rw [e,Int.toNat_natCast,Int.toNat_natCast,List.drop_left,List.take_left]
  rfl
theorem un_packs {xs:List (List UInt8)} (h8:xs.length≤8) (hx:∀x∈xs,x.length≤562949953421311):unL (packs xs)=xs∧unOk (packs xs)=true:=by
 have:=unp_packed xs 8 h8 hx
 unfold packs unL unOk
 rw [if_pos h8,this]
 exact ⟨rfl,rfl⟩
theorem rv_take {s:List UInt8} (h:(rv s).2≠0):vars (rv s).1=s.take (rv s).2.toNat:=by
 unfold rv at h ⊢
 split at h
 ·rename_i i hi
  split at h
  ·rename_i ho
   rw [if_pos ho]
   exact ho
  ·exact absurd rfl h
 ·exact absurd rfl h
theorem packed_unp:∀(r:Nat) (s:List UInt8) (l:List (List UInt8)),unp r s=some l→packed l=s∧l.length≤r:=by
 intro r
 induction r with
 |zero=>
  intro s l h
  cases s with
  |nil=>rw [unp_nil] at h;cases h;exact ⟨rfl,Nat.le_refl _⟩
  |cons b s=>rw [unp_zero (by simp)] at h;cases h
 |succ r ih=>
  intro s l h
  by_cases hs:s=[]
  ·subst hs;rw [unp_nil] at h;cases h;exact ⟨rfl,Nat.zero_le _⟩
  ·by_cases hb:(rv s).2=0∨(rv s).1>s.length-(rv s).2
   ·rw [unp_bad hs hb] at h;cases h
   ·rw [unp_step hs hb] at h
    cases hu:unp r (s.drop ((rv s).2+(rv s).1).toNat) with
    |none=>rw [hu] at h;cases h
    |some l'=>
     rw [hu] at h
     cases h
     have h1:=ih _ _ hu
     have hbd:=rv_bd s
     have ht:=rv_take (s:=s) (by omega)
     have hl:(((s.drop (rv s).2.toNat).take (rv s).1.toNat).length:Int)=(rv s).1:=by rw [List.length_take,List.length_drop];omega
     refine ⟨?_,by simp;exact h1.2⟩
     show vars _++_++packed l'=s
     rw [hl,ht,h1.1,show ((rv s).2+(rv s).1).toNat=(rv s).2.toNat+(rv s).1.toNat by omega,←List.drop_drop,List.append_assoc,List.take_append_drop,List.take_append_drop]
theorem packs_un {s:List UInt8} (h:unOk s=true):packs (unL s)=s∧(unL s).length≤8:=by
 unfold unOk at h
 unfold unL
 cases hu:unp 8 s with
 |none=>rw [hu] at h;cases h
 |some l=>
  have:=packed_unp 8 s l hu
  show packs l=s∧l.length≤8
  unfold packs
  rw [if_pos this.2];exact this
theorem unL_len (s:List UInt8):(unL s).length≤8:=by
 by_cases h:unOk s=true
 ·exact (packs_un h).2
 ·unfold unOk at h;unfold unL
  cases hu:unp 8 s with
  |none=>simp
  |some l=>rw [hu] at h;simp at h
theorem packed_tot (xs:List (List UInt8)):totR xs≤(packed xs).length:=by
 induction xs with
 |nil=>simp [totR]
 |cons x xs ih=>
  have e:packed (x::xs)=vars x.length++(x++packed xs):=by simp [packed]
  have e2:totR (x::xs)=x.length+totR xs:=by simp [totR]
  rw [e,e2];simp only [List.length_append];omega
theorem unL_tot (s:List UInt8):totR (unL s)≤s.length:=by
 by_cases h:unOk s=true
 ·have h1:=packs_un h
  have h2:=packed_tot (unL s)
  unfold packs at h1
  rw [if_pos h1.2] at h1
  rw [h1.1] at h2;exact h2
 ·unfold unOk at h;unfold unL
  cases hu:unp 8 s with
  |none=>simp [totR]
  |some l=>rw [hu] at h;simp at h
instance PackReel_c:Con 12 (∀ xs:List (List UInt8),xs.length≤1048576∧totR xs≤1048576→Fn 12 [.imm 1 xs.length (strs xs)] [] (Z (packs xs))):=⟨fun xs hl=>by
 obtain ⟨hl,ht⟩:=hl
 refine FnC.of_body tabOk Tryz.func12 Tryz.ntmps12 rfl (by decide +kernel) (by simp) fun G=>?_
 refine go (r:=?_);and_intros<;>intros<;>try exact True.intro
 ·rw [packs,if_neg (by omega)]
 refine WpA.loop (fun k:Nat=>⟨[(3,Z (packed (xs.take k))),(9,.imm 1 xs.length (strs xs)),(10,I xs.length),(11,I k)],[]⟩) (fun k=>k≤xs.length) (fun k=>xs.length-k) 0 (by omega) (go (r:=?_)) (fun k hk=>?_)
 ·and_intros<;>first|exact True.intro|rfl
 have h1:=packed_len xs k hk
 have h2:=vars_len (xs.getD k []).length
 have h3:=totR_take xs k
 have h4:=totR_get xs k
 have hs:=packed_snoc xs k
 refine go (r:=?_);and_intros<;>intros<;>try exact True.intro
 all_goals first|contradiction|omega|skip
 ·rw [hs (by omega)];first|done|simp
 ·have:k=xs.length:=by omega
  subst this
  rw [packs,if_pos (by omega),List.take_length]⟩
instance PackReel_s:Con 61 (∀ xs:List (List UInt8),xs.length≤1048576∧totR xs≤1048576→Fn 61 [.imm 1 xs.length (strs xs)] [] (Z (packs xs))):=⟨fun xs hl=>by
 obtain ⟨hl,ht⟩:=hl
 refine FnC.of_body tabOk Tryz.func61 Tryz.ntmps61 rfl (by decide +kernel) (by simp) fun G=>?_
 refine go (r:=?_);and_intros<;>intros<;>try exact True.intro
 refine WpA.loop (fun k:Nat=>⟨[(0,.imm 1 xs.length (strs xs)),(3,Z (packed (xs.take k))),(4,I k)],[]⟩) (fun k=>k≤xs.length∧(8<xs.length→k=0)) (fun k=>xs.length-k) 0 (by omega) (go (r:=?_)) (fun k hk=>?_)
 ·and_intros<;>first|exact True.intro|rfl
 have h1:=packed_len xs k hk.1
 have h2:=vars_len (xs.getD k []).length
 have h3:=totR_take xs k
 have h4:=totR_get xs k
 have hs:=packed_snoc xs k
 refine go (r:=?_);and_intros<;>intros<;>try exact True.intro
 all_goals first|contradiction|omega|skip
 ·rw [hs (by omega)];first|done|simp
 ·obtain rfl:k=0:=hk.2 (by omega)
  rw [packs,if_neg (by omega)];rfl
 ·obtain rfl:k=xs.length:=by omega
  by_cases h8:xs.length≤8
  ·rw [packs,if_pos h8,List.take_length]
  ·have:=hk.2 (by omega)
   omega⟩
end Go.Proofs.YtainhhfnnclfiaaGreat


namespace Go.Proofs.YtainhhfnnclfiaaGreat
open Go Go.Abs
theorem goR {P R:Prop} (h:(Hold R→P)∧IsT R:=by
 refine And.intro ?_ ?_
 ·intro hold
  repeat' (first
  |(refine K.L ?_;first
   |(refine K.mv ?_;refine WpL.move rfl (by decide) ?_)
   |(refine K.asg ?_;refine WpL.assign rfl (by decide) ?_)
   |(refine K.bin ?_;first
    |refine WpL.add rfl rfl (by omega) (by decide) ?_
    |refine WpL.sub rfl rfl (by omega) (by decide) ?_
    |refine WpL.mul rfl rfl (by first|omega|exact mul_in (by omega) (by omega)|assumption) (by decide) ?_
    |refine WpL.quo rfl rfl (by omega) (by decide) ?_
    |refine WpL.rem rfl rfl (by omega) (by decide) ?_
    |refine WpL.bin rfl rfl rfl (by decide) ?_
    |refine WpL.strAdd rfl rfl (by first|omega|(simp only [List.length_append];omega)|(simp;omega)) (by decide) ?_
    |refine WpL.strEq rfl rfl (by decide) ?_
    |refine WpL.strNe rfl rfl (by decide) ?_
    |refine WpL.boolNe (K.tyBool tabOk rfl) rfl rfl (by decide) ?_
    |refine WpL.nilEq (TabOk.slice tabOk rfl).1 rfl rfl (by decide) ?_
    |refine WpL.immEq (TabOk.slice tabOk rfl).1 rfl rfl (by decide) (fun hgo=>?_) ?_
    |refine WpL.ownEq (TabOk.slice tabOk rfl).1 rfl rfl rfl (by first|rfl|omega|(simp;done)|(simp;omega)) rfl (by decide) ?_
    |refine WpL.shl rfl rfl (by first|decide|(simp only [IntKind.bits];omega)) (by decide) ?_
    |refine WpL.shr rfl rfl (by first|decide|(simp only [IntKind.bits];omega)) (by decide) ?_)
   |(refine K.ld ?_;first
    |refine WpL.loadInts tabOk rfl rfl rfl (by first|omega|(simp;omega)) (by decide) ?_
    |refine WpL.loadU8s tabOk rfl rfl rfl (by first|omega|(simp;omega)) (by decide) ?_
    |refine WpL.loadStrs tabOk rfl rfl rfl (by first|omega|(simp;omega)) (by decide) ?_
    |refine WpL.loadRow tabOk rfl rfl (fun _=>rfl) (fun _=>rfl) (by first|rfl|omega|(simp;done)|(simp;omega)) (by decide) rfl ?_
    |refine WpL.loadField tabOk rfl rfl rfl (fun _=>rfl) rfl rfl (by first|rfl|omega|(simp;done)|(simp;omega)) (by decide) ?_
    |refine WpL.loadOwn tabOk rfl rfl rfl rfl (fun _=>rfl) rfl (by first|rfl|omega|(simp;done)|(simp;omega)) (by decide) rfl ?_
    |refine WpL.load1 tabOk rfl rfl rfl rfl rfl (by decide) ?_
    |refine WpL.loadAgg (ds:=[_]) tabOk rfl rfl rfl rfl rfl (by decide) ?_
    |refine WpL.loadAgg (ds:=[_,_]) tabOk rfl rfl rfl rfl rfl (by decide) ?_
    |refine WpL.loadAgg (ds:=[_,_,_]) tabOk rfl rfl rfl rfl rfl (by decide) ?_
    |refine WpL.loadAgg (ds:=[_,_,_,_]) tabOk rfl rfl rfl rfl rfl (by decide) ?_
    |refine WpL.loadAgg (ds:=[_,_,_,_,_]) tabOk rfl rfl rfl rfl rfl (by decide) ?_
    |refine WpL.loadAgg (ds:=[_,_,_,_,_,_]) tabOk rfl rfl rfl rfl rfl (by decide) ?_
    |refine WpL.loadAgg (ds:=[_,_,_,_,_,_,_]) tabOk rfl rfl rfl rfl rfl (by decide) ?_
    |refine WpL.loadAgg (ds:=[_,_,_,_,_,_,_,_]) tabOk rfl rfl rfl rfl rfl (by decide) ?_
    |refine WpL.loadLi tabOk rfl rfl rfl (by first|rfl|omega|(simp;done)|(simp;omega)) (by decide) ?_
    |refine WpL.loadSlot tabOk rfl rfl rfl rfl (by first|rfl|omega|(simp;done)|(simp;omega)) (by first|omega|(simp;omega)|(simp;done)) rfl (by decide) ?_)
   |(refine K.fld ?_;first
    |refine WpL.fieldI tabOk rfl rfl rfl (by decide) ?_
    |refine WpL.fieldP tabOk rfl rfl rfl rfl rfl (by decide) ?_)
   |(refine K.ixa ?_;first
    |refine WpL.idxI1 tabOk rfl rfl rfl (by omega) (by decide) ?_
    |refine WpL.idxIJ tabOk rfl rfl rfl (by omega) (by decide) ?_
    |refine WpL.idxOJ tabOk rfl rfl rfl rfl rfl (by omega) (by decide) ?_
    |refine WpL.idxIN tabOk rfl rfl rfl (by omega) (by decide) ?_
    |refine WpL.idxON tabOk rfl rfl rfl rfl rfl (by omega) (by decide) ?_
    |refine WpL.idxI tabOk rfl rfl rfl (by omega) (by decide) ?_
    |refine WpL.idxO tabOk rfl rfl rfl rfl rfl (by omega) (by decide) ?_)
   |(refine K.call ?_;refine K.con (fun hcon=>?_);first
    |(refine WpL.callF (hcon ?_) snapA locA outA rfl rfl rfl (by decide) ?_<;>clear hcon)
    |(refine WpL.callF (hcon) snapA locA outA rfl rfl rfl (by decide) ?_<;>clear hcon)
    |(refine WpL.callF (hcon _ ?_) snapA locA outA rfl rfl rfl (by decide) ?_<;>clear hcon)
    |(refine WpL.callF (hcon _) snapA locA outA rfl rfl rfl (by decide) ?_<;>clear hcon)
    |(refine WpL.callF (hcon _ _ ?_) snapA locA outA rfl rfl rfl (by decide) ?_<;>clear hcon)
    |(refine WpL.callF (hcon _ _) snapA locA outA rfl rfl rfl (by decide) ?_<;>clear hcon)
    |(refine WpL.callF (hcon _ _ _ ?_) snapA locA outA rfl rfl rfl (by decide) ?_<;>clear hcon)
    |(refine WpL.callF (hcon _ _ _) snapA locA outA rfl rfl rfl (by decide) ?_<;>clear hcon)
    |(refine WpL.callF (hcon _ _ _ _ ?_) snapA locA outA rfl rfl rfl (by decide) ?_<;>clear hcon)
    |(refine WpL.callF (hcon _ _ _ _) snapA locA outA rfl rfl rfl (by decide) ?_<;>clear hcon)
    |(refine WpL.callF (hcon _ _ _ _ _ ?_) snapA locA outA rfl rfl rfl (by decide) ?_<;>clear hcon)
    |(refine WpL.callF (hcon _ _ _ _ _) snapA locA outA rfl rfl rfl (by decide) ?_<;>clear hcon)
    |(refine WpL.callF (hcon _ _ _ _ _ _ ?_) snapA locA outA rfl rfl rfl (by decide) ?_<;>clear hcon)
    |(refine WpL.callF (hcon _ _ _ _ _ _) snapA locA outA rfl rfl rfl (by decide) ?_<;>clear hcon)
    |(refine WpL.callF (hcon _ _ _ _ _ _ _ ?_) snapA locA outA rfl rfl rfl (by decide) ?_<;>clear hcon)
    |(refine WpL.callF (hcon _ _ _ _ _ _ _) snapA locA outA rfl rfl rfl (by decide) ?_<;>clear hcon)
    |(refine WpL.callF (hcon _ _ _ _ _ _ _ _ ?_) snapA locA outA rfl rfl rfl (by decide) ?_<;>clear hcon)
    |(refine WpL.callF (hcon _ _ _ _ _ _ _ _) snapA locA outA rfl rfl rfl (by decide) ?_<;>clear hcon)
    |(refine WpL.callF (hcon _ _ _ _ _ _ _ _ _ ?_) snapA locA outA rfl rfl rfl (by decide) ?_<;>clear hcon)
    |(refine WpL.callF (hcon _ _ _ _ _ _ _ _ _) snapA locA outA rfl rfl rfl (by decide) ?_<;>clear hcon)
    |(refine WpL.callF (hcon _ _ _ _ _ _ _ _ _ _ ?_) snapA locA outA rfl rfl rfl (by decide) ?_<;>clear hcon)
    |(refine WpL.callF (hcon _ _ _ _ _ _ _ _ _ _) snapA locA outA rfl rfl rfl (by decide) ?_<;>clear hcon)
    |(refine WpL.callF (hcon _ _ _ _ _ _ _ _ _ _ _ ?_) snapA locA outA rfl rfl rfl (by decide) ?_<;>clear hcon)
    |(refine WpL.callF (hcon _ _ _ _ _ _ _ _ _ _ _) snapA locA outA rfl rfl rfl (by decide) ?_<;>clear hcon)
    |(refine WpL.callF (hcon _ _ _ _ _ _ _ _ _ _ _ _ ?_) snapA locA outA rfl rfl rfl (by decide) ?_<;>clear hcon)
    |(refine WpL.callF (hcon _ _ _ _ _ _ _ _ _ _ _ _) snapA locA outA rfl rfl rfl (by decide) ?_<;>clear hcon)
    |(refine WpL.callF (hcon _ _ _ _ _ _ _ _ _ _ _ _ _ ?_) snapA locA outA rfl rfl rfl (by decide) ?_<;>clear hcon)
    |(refine WpL.callF (hcon _ _ _ _ _ _ _ _ _ _ _ _ _) snapA locA outA rfl rfl rfl (by decide) ?_<;>clear hcon)
    |(refine WpL.callF (hcon _ _ _ _ _ _ _ _ _ _ _ _ _ _ ?_) snapA locA outA rfl rfl rfl (by decide) ?_<;>clear hcon)
    |(refine WpL.callF (hcon _ _ _ _ _ _ _ _ _ _ _ _ _ _) snapA locA outA rfl rfl rfl (by decide) ?_<;>clear hcon)
    |(refine WpL.callF (hcon _ _ _ _ _ _ _ _ _ _ _ _ _ _ _ ?_) snapA locA outA rfl rfl rfl (by decide) ?_<;>clear hcon)
    |(refine WpL.callF (hcon _ _ _ _ _ _ _ _ _ _ _ _ _ _ _) snapA locA outA rfl rfl rfl (by decide) ?_<;>clear hcon)
    |(refine WpL.callF (hcon _ _ _ _ _ _ _ _ _ _ _ _ _ _ _ _ ?_) snapA locA outA rfl rfl rfl (by decide) ?_<;>clear hcon)
    |(refine WpL.callF (hcon _ _ _ _ _ _ _ _ _ _ _ _ _ _ _ _) snapA locA outA rfl rfl rfl (by decide) ?_<;>clear hcon)
    |(refine WpL.callF (hcon _ _ _ _ _ _ _ _ _ _ _ _ _ _ _ _ _ ?_) snapA locA outA rfl rfl rfl (by decide) ?_<;>clear hcon)
    |(refine WpL.callF (hcon _ _ _ _ _ _ _ _ _ _ _ _ _ _ _ _ _) snapA locA outA rfl rfl rfl (by decide) ?_<;>clear hcon)
    |(refine WpL.callF (hcon _ _ _ _ _ _ _ _ _ _ _ _ _ _ _ _ _ _ ?_) snapA locA outA rfl rfl rfl (by decide) ?_<;>clear hcon)
    |(refine WpL.callF (hcon _ _ _ _ _ _ _ _ _ _ _ _ _ _ _ _ _ _) snapA locA outA rfl rfl rfl (by decide) ?_<;>clear hcon))
   |(refine K.call ?_;refine K.conG (fun hcon=>?_);first
    |(refine WpL.callM (hs:=[_]) (hcon ?_) handA handOA rfl rfl outA outA rfl rfl rfl rfl (by decide) ?_<;>clear hcon)
    |(refine WpL.callM (hs:=[_]) (hcon) handA handOA rfl rfl outA outA rfl rfl rfl rfl (by decide) ?_<;>clear hcon)
    |(refine WpL.callM (hs:=[_]) (hcon _ ?_) handA handOA rfl rfl outA outA rfl rfl rfl rfl (by decide) ?_<;>clear hcon)
    |(refine WpL.callM (hs:=[_]) (hcon _) handA handOA rfl rfl outA outA rfl rfl rfl rfl (by decide) ?_<;>clear hcon)
    |(refine WpL.callM (hs:=[_]) (hcon _ _ ?_) handA handOA rfl rfl outA outA rfl rfl rfl rfl (by decide) ?_<;>clear hcon)
    |(refine WpL.callM (hs:=[_]) (hcon _ _) handA handOA rfl rfl outA outA rfl rfl rfl rfl (by decide) ?_<;>clear hcon)
    |(refine WpL.callM (hs:=[_]) (hcon _ _ _ ?_) handA handOA rfl rfl outA outA rfl rfl rfl rfl (by decide) ?_<;>clear hcon)
    |(refine WpL.callM (hs:=[_]) (hcon _ _ _) handA handOA rfl rfl outA outA rfl rfl rfl rfl (by decide) ?_<;>clear hcon)
    |(refine WpL.callM (hs:=[_]) (hcon _ _ _ _ ?_) handA handOA rfl rfl outA outA rfl rfl rfl rfl (by decide) ?_<;>clear hcon)
    |(refine WpL.callM (hs:=[_]) (hcon _ _ _ _) handA handOA rfl rfl outA outA rfl rfl rfl rfl (by decide) ?_<;>clear hcon)
    |(refine WpL.callM (hs:=[_]) (hcon _ _ _ _ _ ?_) handA handOA rfl rfl outA outA rfl rfl rfl rfl (by decide) ?_<;>clear hcon)
    |(refine WpL.callM (hs:=[_]) (hcon _ _ _ _ _) handA handOA rfl rfl outA outA rfl rfl rfl rfl (by decide) ?_<;>clear hcon)
    |(refine WpL.callM (hs:=[_]) (hcon _ _ _ _ _ _ ?_) handA handOA rfl rfl outA outA rfl rfl rfl rfl (by decide) ?_<;>clear hcon)
    |(refine WpL.callM (hs:=[_]) (hcon _ _ _ _ _ _) handA handOA rfl rfl outA outA rfl rfl rfl rfl (by decide) ?_<;>clear hcon)
    |(refine WpL.callM (hs:=[_]) (hcon _ _ _ _ _ _ _ ?_) handA handOA rfl rfl outA outA rfl rfl rfl rfl (by decide) ?_<;>clear hcon)
    |(refine WpL.callM (hs:=[_]) (hcon _ _ _ _ _ _ _) handA handOA rfl rfl outA outA rfl rfl rfl rfl (by decide) ?_<;>clear hcon)
    |(refine WpL.callM (hs:=[_]) (hcon _ _ _ _ _ _ _ _ ?_) handA handOA rfl rfl outA outA rfl rfl rfl rfl (by decide) ?_<;>clear hcon)
    |(refine WpL.callM (hs:=[_]) (hcon _ _ _ _ _ _ _ _) handA handOA rfl rfl outA outA rfl rfl rfl rfl (by decide) ?_<;>clear hcon)
    |(refine WpL.callM (hs:=[_,_]) (hcon ?_) handA handOA rfl rfl outA outA rfl rfl rfl rfl (by decide) ?_<;>clear hcon)
    |(refine WpL.callM (hs:=[_,_]) (hcon) handA handOA rfl rfl outA outA rfl rfl rfl rfl (by decide) ?_<;>clear hcon)
    |(refine WpL.callM (hs:=[_,_]) (hcon _ ?_) handA handOA rfl rfl outA outA rfl rfl rfl rfl (by decide) ?_<;>clear hcon)
    |(refine WpL.callM (hs:=[_,_]) (hcon _) handA handOA rfl rfl outA outA rfl rfl rfl rfl (by decide) ?_<;>clear hcon)
    |(refine WpL.callM (hs:=[_,_]) (hcon _ _ ?_) handA handOA rfl rfl outA outA rfl rfl rfl rfl (by decide) ?_<;>clear hcon)
    |(refine WpL.callM (hs:=[_,_]) (hcon _ _) handA handOA rfl rfl outA outA rfl rfl rfl rfl (by decide) ?_<;>clear hcon)
    |(refine WpL.callM (hs:=[_,_]) (hcon _ _ _ ?_) handA handOA rfl rfl outA outA rfl rfl rfl rfl (by decide) ?_<;>clear hcon)
    |(refine WpL.callM (hs:=[_,_]) (hcon _ _ _) handA handOA rfl rfl outA outA rfl rfl rfl rfl (by decide) ?_<;>clear hcon)
    |(refine WpL.callM (hs:=[_,_]) (hcon _ _ _ _ ?_) handA handOA rfl rfl outA outA rfl rfl rfl rfl (by decide) ?_<;>clear hcon)
    |(refine WpL.callM (hs:=[_,_]) (hcon _ _ _ _) handA handOA rfl rfl outA outA rfl rfl rfl rfl (by decide) ?_<;>clear hcon)
    |(refine WpL.callM (hs:=[_,_]) (hcon _ _ _ _ _ ?_) handA handOA rfl rfl outA outA rfl rfl rfl rfl (by decide) ?_<;>clear hcon)
    |(refine WpL.callM (hs:=[_,_]) (hcon _ _ _ _ _) handA handOA rfl rfl outA outA rfl rfl rfl rfl (by decide) ?_<;>clear hcon)
    |(refine WpL.callM (hs:=[_,_]) (hcon _ _ _ _ _ _ ?_) handA handOA rfl rfl outA outA rfl rfl rfl rfl (by decide) ?_<;>clear hcon)
    |(refine WpL.callM (hs:=[_,_]) (hcon _ _ _ _ _ _) handA handOA rfl rfl outA outA rfl rfl rfl rfl (by decide) ?_<;>clear hcon)
    |(refine WpL.callM (hs:=[_,_]) (hcon _ _ _ _ _ _ _ ?_) handA handOA rfl rfl outA outA rfl rfl rfl rfl (by decide) ?_<;>clear hcon)
    |(refine WpL.callM (hs:=[_,_]) (hcon _ _ _ _ _ _ _) handA handOA rfl rfl outA outA rfl rfl rfl rfl (by decide) ?_<;>clear hcon)
    |(refine WpL.callM (hs:=[_,_]) (hcon _ _ _ _ _ _ _ _ ?_) handA handOA rfl rfl outA outA rfl rfl rfl rfl (by decide) ?_<;>clear hcon)
    |(refine WpL.callM (hs:=[_,_]) (hcon _ _ _ _ _ _ _ _) handA handOA rfl rfl outA outA rfl rfl rfl rfl (by decide) ?_<;>clear hcon)
    |(refine WpL.callM (hs:=[_,_,_]) (hcon ?_) handA handOA rfl rfl outA outA rfl rfl rfl rfl (by decide) ?_<;>clear hcon)
    |(refine WpL.callM (hs:=[_,_,_]) (hcon) handA handOA rfl rfl outA outA rfl rfl rfl rfl (by decide) ?_<;>clear hcon)
    |(refine WpL.callM (hs:=[_,_,_]) (hcon _ ?_) handA handOA rfl rfl outA outA rfl rfl rfl rfl (by decide) ?_<;>clear hcon)
    |(refine WpL.callM (hs:=[_,_,_]) (hcon _) handA handOA rfl rfl outA outA rfl rfl rfl rfl (by decide) ?_<;>clear hcon)
    |(refine WpL.callM (hs:=[_,_,_]) (hcon _ _ ?_) handA handOA rfl rfl outA outA rfl rfl rfl rfl (by decide) ?_<;>clear hcon)
    |(refine WpL.callM (hs:=[_,_,_]) (hcon _ _) handA handOA rfl rfl outA outA rfl rfl rfl rfl (by decide) ?_<;>clear hcon)
    |(refine WpL.callM (hs:=[_,_,_]) (hcon _ _ _ ?_) handA handOA rfl rfl outA outA rfl rfl rfl rfl (by decide) ?_<;>clear hcon)
    |(refine WpL.callM (hs:=[_,_,_]) (hcon _ _ _) handA handOA rfl rfl outA outA rfl rfl rfl rfl (by decide) ?_<;>clear hcon)
    |(refine WpL.callM (hs:=[_,_,_]) (hcon _ _ _ _ ?_) handA handOA rfl rfl outA outA rfl rfl rfl rfl (by decide) ?_<;>clear hcon)
    |(refine WpL.callM (hs:=[_,_,_]) (hcon _ _ _ _) handA handOA rfl rfl outA outA rfl rfl rfl rfl (by decide) ?_<;>clear hcon)
    |(refine WpL.callM (hs:=[_,_,_]) (hcon _ _ _ _ _ ?_) handA handOA rfl rfl outA outA rfl rfl rfl rfl (by decide) ?_<;>clear hcon)
    |(refine WpL.callM (hs:=[_,_,_]) (hcon _ _ _ _ _) handA handOA rfl rfl outA outA rfl rfl rfl rfl (by decide) ?_<;>clear hcon)
    |(refine WpL.callM (hs:=[_,_,_]) (hcon _ _ _ _ _ _ ?_) handA handOA rfl rfl outA outA rfl rfl rfl rfl (by decide) ?_<;>clear hcon)
    |(refine WpL.callM (hs:=[_,_,_]) (hcon _ _ _ _ _ _) handA handOA rfl rfl outA outA rfl rfl rfl rfl (by decide) ?_<;>clear hcon)
    |(refine WpL.callM (hs:=[_,_,_]) (hcon _ _ _ _ _ _ _ ?_) handA handOA rfl rfl outA outA rfl rfl rfl rfl (by decide) ?_<;>clear hcon)
    |(refine WpL.callM (hs:=[_,_,_]) (hcon _ _ _ _ _ _ _) handA handOA rfl rfl outA outA rfl rfl rfl rfl (by decide) ?_<;>clear hcon)
    |(refine WpL.callM (hs:=[_,_,_]) (hcon _ _ _ _ _ _ _ _ ?_) handA handOA rfl rfl outA outA rfl rfl rfl rfl (by decide) ?_<;>clear hcon)
    |(refine WpL.callM (hs:=[_,_,_]) (hcon _ _ _ _ _ _ _ _) handA handOA rfl rfl outA outA rfl rfl rfl rfl (by decide) ?_<;>clear hcon)
    |(refine WpL.callM (hs:=[_,_,_,_]) (hcon ?_) handA handOA rfl rfl outA outA rfl rfl rfl rfl (by decide) ?_<;>clear hcon)
    |(refine WpL.callM (hs:=[_,_,_,_]) (hcon) handA handOA rfl rfl outA outA rfl rfl rfl rfl (by decide) ?_<;>clear hcon)
    |(refine WpL.callM (hs:=[_,_,_,_]) (hcon _ ?_) handA handOA rfl rfl outA outA rfl rfl rfl rfl (by decide) ?_<;>clear hcon)
    |(refine WpL.callM (hs:=[_,_,_,_]) (hcon _) handA handOA rfl rfl outA outA rfl rfl rfl rfl (by decide) ?_<;>clear hcon)
    |(refine WpL.callM (hs:=[_,_,_,_]) (hcon _ _ ?_) handA handOA rfl rfl outA outA rfl rfl rfl rfl (by decide) ?_<;>clear hcon)
    |(refine WpL.callM (hs:=[_,_,_,_]) (hcon _ _) handA handOA rfl rfl outA outA rfl rfl rfl rfl (by decide) ?_<;>clear hcon)
    |(refine WpL.callM (hs:=[_,_,_,_]) (hcon _ _ _ ?_) handA handOA rfl rfl outA outA rfl rfl rfl rfl (by decide) ?_<;>clear hcon)
    |(refine WpL.callM (hs:=[_,_,_,_]) (hcon _ _ _) handA handOA rfl rfl outA outA rfl rfl rfl rfl (by decide) ?_<;>clear hcon)
    |(refine WpL.callM (hs:=[_,_,_,_]) (hcon _ _ _ _ ?_) handA handOA rfl rfl outA outA rfl rfl rfl rfl (by decide) ?_<;>clear hcon)
    |(refine WpL.callM (hs:=[_,_,_,_]) (hcon _ _ _ _) handA handOA rfl rfl outA outA rfl rfl rfl rfl (by decide) ?_<;>clear hcon)
    |(refine WpL.callM (hs:=[_,_,_,_]) (hcon _ _ _ _ _ ?_) handA handOA rfl rfl outA outA rfl rfl rfl rfl (by decide) ?_<;>clear hcon)
    |(refine WpL.callM (hs:=[_,_,_,_]) (hcon _ _ _ _ _) handA handOA rfl rfl outA outA rfl rfl rfl rfl (by decide) ?_<;>clear hcon)
    |(refine WpL.callM (hs:=[_,_,_,_]) (hcon _ _ _ _ _ _ ?_) handA handOA rfl rfl outA outA rfl rfl rfl rfl (by decide) ?_<;>clear hcon)
    |(refine WpL.callM (hs:=[_,_,_,_]) (hcon _ _ _ _ _ _) handA handOA rfl rfl outA outA rfl rfl rfl rfl (by decide) ?_<;>clear hcon)
    |(refine WpL.callM (hs:=[_,_,_,_]) (hcon _ _ _ _ _ _ _ ?_) handA handOA rfl rfl outA outA rfl rfl rfl rfl (by decide) ?_<;>clear hcon)
    |(refine WpL.callM (hs:=[_,_,_,_]) (hcon _ _ _ _ _ _ _) handA handOA rfl rfl outA outA rfl rfl rfl rfl (by decide) ?_<;>clear hcon)
    |(refine WpL.callM (hs:=[_,_,_,_]) (hcon _ _ _ _ _ _ _ _ ?_) handA handOA rfl rfl outA outA rfl rfl rfl rfl (by decide) ?_<;>clear hcon)
    |(refine WpL.callM (hs:=[_,_,_,_]) (hcon _ _ _ _ _ _ _ _) handA handOA rfl rfl outA outA rfl rfl rfl rfl (by decide) ?_<;>clear hcon))
   |(refine K.call ?_;refine K.conB (fun hcon=>?_);first
    |(refine WpL.callB (hcon ?_) snapA locA outA locA outA rfl rfl rfl rfl rfl (by decide) ?_ ?_<;>clear hcon)
    |(refine WpL.callB (hcon) snapA locA outA locA outA rfl rfl rfl rfl rfl (by decide) ?_ ?_<;>clear hcon)
    |(refine WpL.callB (hcon _ ?_) snapA locA outA locA outA rfl rfl rfl rfl rfl (by decide) ?_ ?_<;>clear hcon)
    |(refine WpL.callB (hcon _) snapA locA outA locA outA rfl rfl rfl rfl rfl (by decide) ?_ ?_<;>clear hcon)
    |(refine WpL.callB (hcon _ _ ?_) snapA locA outA locA outA rfl rfl rfl rfl rfl (by decide) ?_ ?_<;>clear hcon)
    |(refine WpL.callB (hcon _ _) snapA locA outA locA outA rfl rfl rfl rfl rfl (by decide) ?_ ?_<;>clear hcon)
    |(refine WpL.callB (hcon _ _ _ ?_) snapA locA outA locA outA rfl rfl rfl rfl rfl (by decide) ?_ ?_<;>clear hcon)
    |(refine WpL.callB (hcon _ _ _) snapA locA outA locA outA rfl rfl rfl rfl rfl (by decide) ?_ ?_<;>clear hcon)
    |(refine WpL.callB (hcon _ _ _ _ ?_) snapA locA outA locA outA rfl rfl rfl rfl rfl (by decide) ?_ ?_<;>clear hcon)
    |(refine WpL.callB (hcon _ _ _ _) snapA locA outA locA outA rfl rfl rfl rfl rfl (by decide) ?_ ?_<;>clear hcon)
    |(refine WpL.callB (hcon _ _ _ _ _ ?_) snapA locA outA locA outA rfl rfl rfl rfl rfl (by decide) ?_ ?_<;>clear hcon)
    |(refine WpL.callB (hcon _ _ _ _ _) snapA locA outA locA outA rfl rfl rfl rfl rfl (by decide) ?_ ?_<;>clear hcon)
    |(refine WpL.callB (hcon _ _ _ _ _ _ ?_) snapA locA outA locA outA rfl rfl rfl rfl rfl (by decide) ?_ ?_<;>clear hcon)
    |(refine WpL.callB (hcon _ _ _ _ _ _) snapA locA outA locA outA rfl rfl rfl rfl rfl (by decide) ?_ ?_<;>clear hcon)
    |(refine WpL.callB (hcon _ _ _ _ _ _ _ ?_) snapA locA outA locA outA rfl rfl rfl rfl rfl (by decide) ?_ ?_<;>clear hcon)
    |(refine WpL.callB (hcon _ _ _ _ _ _ _) snapA locA outA locA outA rfl rfl rfl rfl rfl (by decide) ?_ ?_<;>clear hcon)
    |(refine WpL.callB (hcon _ _ _ _ _ _ _ _ ?_) snapA locA outA locA outA rfl rfl rfl rfl rfl (by decide) ?_ ?_<;>clear hcon)
    |(refine WpL.callB (hcon _ _ _ _ _ _ _ _) snapA locA outA locA outA rfl rfl rfl rfl rfl (by decide) ?_ ?_<;>clear hcon))
   |(refine K.call ?_;refine K.conP (fun hcon=>?_);first
    |(refine WpL.callP (hs:=[_]) (hcon ?_) (by assumption) handA handOA rfl rfl (.cons rfl (.sc (.sc (.sc .nil))) .nil) outA rfl rfl rfl rfl (by decide) ?_<;>clear hcon)
    |(refine WpL.callP (hs:=[_]) (hcon) (by assumption) handA handOA rfl rfl (.cons rfl (.sc (.sc (.sc .nil))) .nil) outA rfl rfl rfl rfl (by decide) ?_<;>clear hcon)
    |(refine WpL.callP (hs:=[_]) (hcon _ ?_) (by assumption) handA handOA rfl rfl (.cons rfl (.sc (.sc (.sc .nil))) .nil) outA rfl rfl rfl rfl (by decide) ?_<;>clear hcon)
    |(refine WpL.callP (hs:=[_]) (hcon _) (by assumption) handA handOA rfl rfl (.cons rfl (.sc (.sc (.sc .nil))) .nil) outA rfl rfl rfl rfl (by decide) ?_<;>clear hcon)
    |(refine WpL.callP (hs:=[_]) (hcon _ _ ?_) (by assumption) handA handOA rfl rfl (.cons rfl (.sc (.sc (.sc .nil))) .nil) outA rfl rfl rfl rfl (by decide) ?_<;>clear hcon)
    |(refine WpL.callP (hs:=[_]) (hcon _ _) (by assumption) handA handOA rfl rfl (.cons rfl (.sc (.sc (.sc .nil))) .nil) outA rfl rfl rfl rfl (by decide) ?_<;>clear hcon)
    |(refine WpL.callP (hs:=[_]) (hcon _ _ _ ?_) (by assumption) handA handOA rfl rfl (.cons rfl (.sc (.sc (.sc .nil))) .nil) outA rfl rfl rfl rfl (by decide) ?_<;>clear hcon)
    |(refine WpL.callP (hs:=[_]) (hcon _ _ _) (by assumption) handA handOA rfl rfl (.cons rfl (.sc (.sc (.sc .nil))) .nil) outA rfl rfl rfl rfl (by decide) ?_<;>clear hcon)
    |(refine WpL.callP (hs:=[_]) (hcon _ _ _ _ ?_) (by assumption) handA handOA rfl rfl (.cons rfl (.sc (.sc (.sc .nil))) .nil) outA rfl rfl rfl rfl (by decide) ?_<;>clear hcon)
    |(refine WpL.callP (hs:=[_]) (hcon _ _ _ _) (by assumption) handA handOA rfl rfl (.cons rfl (.sc (.sc (.sc .nil))) .nil) outA rfl rfl rfl rfl (by decide) ?_<;>clear hcon)
    |(refine WpL.callP (hs:=[_]) (hcon _ _ _ _ _ ?_) (by assumption) handA handOA rfl rfl (.cons rfl (.sc (.sc (.sc .nil))) .nil) outA rfl rfl rfl rfl (by decide) ?_<;>clear hcon)
    |(refine WpL.callP (hs:=[_]) (hcon _ _ _ _ _) (by assumption) handA handOA rfl rfl (.cons rfl (.sc (.sc (.sc .nil))) .nil) outA rfl rfl rfl rfl (by decide) ?_<;>clear hcon)
    |(refine WpL.callP (hs:=[_]) (hcon _ _ _ _ _ _ ?_) (by assumption) handA handOA rfl rfl (.cons rfl (.sc (.sc (.sc .nil))) .nil) outA rfl rfl rfl rfl (by decide) ?_<;>clear hcon)
    |(refine WpL.callP (hs:=[_]) (hcon _ _ _ _ _ _) (by assumption) handA handOA rfl rfl (.cons rfl (.sc (.sc (.sc .nil))) .nil) outA rfl rfl rfl rfl (by decide) ?_<;>clear hcon)
    |(refine WpL.callP (hs:=[_]) (hcon _ _ _ _ _ _ _ ?_) (by assumption) handA handOA rfl rfl (.cons rfl (.sc (.sc (.sc .nil))) .nil) outA rfl rfl rfl rfl (by decide) ?_<;>clear hcon)
    |(refine WpL.callP (hs:=[_]) (hcon _ _ _ _ _ _ _) (by assumption) handA handOA rfl rfl (.cons rfl (.sc (.sc (.sc .nil))) .nil) outA rfl rfl rfl rfl (by decide) ?_<;>clear hcon)
    |(refine WpL.callP (hs:=[_]) (hcon _ _ _ _ _ _ _ _ ?_) (by assumption) handA handOA rfl rfl (.cons rfl (.sc (.sc (.sc .nil))) .nil) outA rfl rfl rfl rfl (by decide) ?_<;>clear hcon)
    |(refine WpL.callP (hs:=[_]) (hcon _ _ _ _ _ _ _ _) (by assumption) handA handOA rfl rfl (.cons rfl (.sc (.sc (.sc .nil))) .nil) outA rfl rfl rfl rfl (by decide) ?_<;>clear hcon)
    |(refine WpL.callP (hs:=[_]) (hcon _ _ _ _ _ _ _ _ _ ?_) (by assumption) handA handOA rfl rfl (.cons rfl (.sc (.sc (.sc .nil))) .nil) outA rfl rfl rfl rfl (by decide) ?_<;>clear hcon)
    |(refine WpL.callP (hs:=[_]) (hcon _ _ _ _ _ _ _ _ _) (by assumption) handA handOA rfl rfl (.cons rfl (.sc (.sc (.sc .nil))) .nil) outA rfl rfl rfl rfl (by decide) ?_<;>clear hcon)
    |(refine WpL.callP (hs:=[_]) (hcon _ _ _ _ _ _ _ _ _ _ ?_) (by assumption) handA handOA rfl rfl (.cons rfl (.sc (.sc (.sc .nil))) .nil) outA rfl rfl rfl rfl (by decide) ?_<;>clear hcon)
    |(refine WpL.callP (hs:=[_]) (hcon _ _ _ _ _ _ _ _ _ _) (by assumption) handA handOA rfl rfl (.cons rfl (.sc (.sc (.sc .nil))) .nil) outA rfl rfl rfl rfl (by decide) ?_<;>clear hcon))
   |(refine K.callT ?_;refine K.conV rfl (fun hcon=>?_);first
    |(refine WpL.callVF rfl (hcon ?_) rfl snapA locA outA rfl rfl rfl (by decide) ?_<;>clear hcon)
    |(refine WpL.callVF rfl (hcon) rfl snapA locA outA rfl rfl rfl (by decide) ?_<;>clear hcon)
    |(refine WpL.callVF rfl (hcon _ ?_) rfl snapA locA outA rfl rfl rfl (by decide) ?_<;>clear hcon)
    |(refine WpL.callVF rfl (hcon _) rfl snapA locA outA rfl rfl rfl (by decide) ?_<;>clear hcon)
    |(refine WpL.callVF rfl (hcon _ _ ?_) rfl snapA locA outA rfl rfl rfl (by decide) ?_<;>clear hcon)
    |(refine WpL.callVF rfl (hcon _ _) rfl snapA locA outA rfl rfl rfl (by decide) ?_<;>clear hcon)
    |(refine WpL.callVF rfl (hcon _ _ _ ?_) rfl snapA locA outA rfl rfl rfl (by decide) ?_<;>clear hcon)
    |(refine WpL.callVF rfl (hcon _ _ _) rfl snapA locA outA rfl rfl rfl (by decide) ?_<;>clear hcon)
    |(refine WpL.callVF rfl (hcon _ _ _ _ ?_) rfl snapA locA outA rfl rfl rfl (by decide) ?_<;>clear hcon)
    |(refine WpL.callVF rfl (hcon _ _ _ _) rfl snapA locA outA rfl rfl rfl (by decide) ?_<;>clear hcon)
    |(refine WpL.callVF rfl (hcon _ _ _ _ _ ?_) rfl snapA locA outA rfl rfl rfl (by decide) ?_<;>clear hcon)
    |(refine WpL.callVF rfl (hcon _ _ _ _ _) rfl snapA locA outA rfl rfl rfl (by decide) ?_<;>clear hcon)
    |(refine WpL.callVF rfl (hcon _ _ _ _ _ _ ?_) rfl snapA locA outA rfl rfl rfl (by decide) ?_<;>clear hcon)
    |(refine WpL.callVF rfl (hcon _ _ _ _ _ _) rfl snapA locA outA rfl rfl rfl (by decide) ?_<;>clear hcon)
    |(refine WpL.callVF rfl (hcon _ _ _ _ _ _ _ ?_) rfl snapA locA outA rfl rfl rfl (by decide) ?_<;>clear hcon)
    |(refine WpL.callVF rfl (hcon _ _ _ _ _ _ _) rfl snapA locA outA rfl rfl rfl (by decide) ?_<;>clear hcon)
    |(refine WpL.callVF rfl (hcon _ _ _ _ _ _ _ _ ?_) rfl snapA locA outA rfl rfl rfl (by decide) ?_<;>clear hcon)
    |(refine WpL.callVF rfl (hcon _ _ _ _ _ _ _ _) rfl snapA locA outA rfl rfl rfl (by decide) ?_<;>clear hcon)
    |(refine WpL.callVF rfl (hcon _ _ _ _ _ _ _ _ _ ?_) rfl snapA locA outA rfl rfl rfl (by decide) ?_<;>clear hcon)
    |(refine WpL.callVF rfl (hcon _ _ _ _ _ _ _ _ _) rfl snapA locA outA rfl rfl rfl (by decide) ?_<;>clear hcon)
    |(refine WpL.callVF rfl (hcon _ _ _ _ _ _ _ _ _ _ ?_) rfl snapA locA outA rfl rfl rfl (by decide) ?_<;>clear hcon)
    |(refine WpL.callVF rfl (hcon _ _ _ _ _ _ _ _ _ _) rfl snapA locA outA rfl rfl rfl (by decide) ?_<;>clear hcon)
    |(refine WpL.callVF rfl (hcon _ _ _ _ _ _ _ _ _ _ _ ?_) rfl snapA locA outA rfl rfl rfl (by decide) ?_<;>clear hcon)
    |(refine WpL.callVF rfl (hcon _ _ _ _ _ _ _ _ _ _ _) rfl snapA locA outA rfl rfl rfl (by decide) ?_<;>clear hcon)
    |(refine WpL.callVF rfl (hcon _ _ _ _ _ _ _ _ _ _ _ _ ?_) rfl snapA locA outA rfl rfl rfl (by decide) ?_<;>clear hcon)
    |(refine WpL.callVF rfl (hcon _ _ _ _ _ _ _ _ _ _ _ _) rfl snapA locA outA rfl rfl rfl (by decide) ?_<;>clear hcon))
   |(refine K.mkF ?_;refine WpL.makeFunc rfl (by decide) ?_)
   |(refine K.ix ?_;first
    |refine WpL.idxStr1 tabOk rfl rfl rfl (by omega) (by decide) (fun hgo=>?_)
    |refine WpL.idxStrB tabOk rfl rfl rfl (by omega) (by decide) (fun hgo=>?_))
   |(refine K.bi ?_;first
    |(refine K.blen ?_;first
     |refine WpL.lenImm (TabOk.slice tabOk rfl).1 rfl (by decide) ?_
     |refine WpL.lenOwn (TabOk.slice tabOk rfl).1 rfl rfl rfl (by decide) ?_
     |refine WpL.lenStr (K.tyStr tabOk rfl) rfl (by decide) ?_)
    |(refine K.bapp ?_;first
     |refine WpL.app1Ints tabOk rfl rfl rfl (by first|exact Nat.zero_le _|exact Nat.le_of_ble_eq_true rfl) rfl rfl (by first|rfl|omega|(simp;done)|(simp;omega)) (by omega) (by decide) ?_
     |refine WpL.appInts tabOk rfl rfl rfl (by first|exact Nat.zero_le _|exact Nat.le_of_ble_eq_true rfl) rfl rfl (by first|rfl|omega|(simp;done)|(simp;omega)) (by first|rfl|omega|(simp;done)|(simp;omega)) (by omega) (by decide) ?_
     |refine WpL.nil1Ints tabOk rfl rfl rfl rfl (by omega) rfl (by decide) ?_
     |refine WpL.app1U8s tabOk rfl rfl rfl (by first|exact Nat.zero_le _|exact Nat.le_of_ble_eq_true rfl) rfl rfl (by first|rfl|omega|(simp;done)|(simp;omega)) (by omega) (by decide) ?_
     |refine WpL.app1Strs tabOk rfl rfl rfl (by first|exact Nat.zero_le _|exact Nat.le_of_ble_eq_true rfl) rfl rfl (by first|rfl|omega|(simp;done)|(simp;omega)) (by omega) (by decide) ?_
     |refine WpL.appRow (f:=prF) (v:=(_,_)) tabOk rfl rfl rfl (by first|exact Nat.zero_le _|exact Nat.le_of_ble_eq_true rfl) rfl rfl (fun _=>rfl) rfl rfl (by first|rfl|omega|(simp;done)|(simp;omega)) (by omega) (by decide) ?_
     |refine WpL.appRow (f:=plF) (v:=(_,_,_)) tabOk rfl rfl rfl (by first|exact Nat.zero_le _|exact Nat.le_of_ble_eq_true rfl) rfl rfl (fun _=>rfl) rfl rfl (by first|rfl|omega|(simp;done)|(simp;omega)) (by omega) (by decide) ?_
     |refine WpL.appBlk tabOk rfl rfl rfl (by first|exact Nat.zero_le _|exact Nat.le_of_ble_eq_true rfl) rfl rfl rfl rfl rfl (by first|exact Nat.zero_le _|exact Nat.le_of_ble_eq_true rfl) (by first|rfl|omega|(simp;done)|(simp;omega)) (by first|rfl|omega|(simp;done)|(simp;omega)) (by omega) (by decide) ?_
     |refine WpL.appMb tabOk rfl rfl rfl (by first|exact Nat.zero_le _|exact Nat.le_of_ble_eq_true rfl) rfl rfl rfl rfl rfl (by first|exact Nat.zero_le _|exact Nat.le_of_ble_eq_true rfl) (by first|rfl|omega|(simp;done)|(simp;omega)) (by first|rfl|omega|(simp;done)|(simp;omega)) (by omega) (by decide) ?_
     |refine WpL.appOwn tabOk rfl rfl rfl rfl rfl rfl (by simp) (by first|exact Nat.zero_le _|exact Nat.le_of_ble_eq_true rfl) rfl rfl (by simp) (by simp [all_ints,all_u8s,all_strs,oneB,Value.oneCell']) (by omega) (by decide) ?_
     |refine WpL.appNil tabOk rfl rfl rfl rfl (by simp) (by simp [all_ints,all_u8s,all_strs,oneB,Value.oneCell']) (by omega) rfl (by decide) ?_)
    |refine WpL.min2 rfl rfl (by decide) ?_
    |refine WpL.max2 rfl rfl (by decide) ?_)
   |(refine K.un ?_;first
    |refine WpL.not rfl (by decide) ?_
    |refine WpL.neg rfl (by omega) (by decide) ?_)
   |(refine K.pick ?_;first
    |refine WpL.pickT rfl rfl (by decide) ?_
    |refine WpL.pickF rfl rfl (by decide) ?_)
   |(refine K.bld ?_;refine WpL.build tabOk rfl rfl (by kernel_rfl) (by decide) ?_)
   |(refine K.ext ?_;refine WpL.extract rfl rfl (by first|decide|simp [AV.shL]) (by decide) ?_)
   |(refine K.cv ?_;first
    |refine WpL.convI (P:=Tryz.prog) (by rfl) (K.tyInt tabOk rfl) rfl (by omega) (by decide) ?_
    |refine WpL.conv (P:=Tryz.prog) (by rfl) (K.tyInt tabOk rfl) rfl (by decide) ?_
    |refine WpL.toBytes tabOk rfl rfl rfl rfl (by omega) rfl (by decide) ?_
    |refine WpL.ofBytes tabOk rfl rfl rfl rfl rfl (by simp) (by decide) ?_)
   |(refine K.lit ?_;first
    |refine WpL.lit0U8s tabOk rfl rfl rfl (by decide) ?_
    |refine WpL.lit0Ints tabOk rfl rfl rfl (by decide) ?_
    |refine WpL.lit0Strs tabOk rfl rfl rfl (by decide) ?_
    |refine WpL.litInts tabOk rfl rfl rfl rfl rfl (by decide) rfl (by decide) ?_
    |refine WpL.litU8s tabOk rfl rfl rfl rfl rfl (by decide) rfl (by decide) ?_
    |refine WpL.litStrs tabOk rfl rfl rfl rfl rfl (by decide) rfl (by decide) ?_
    |(apply WpL.litLis tabOk
      ·exact rfl
      ·exact rfl
      ·exact rfl
      ·exact rfl
      ·decide
      ·exact rfl
      ·exact rfl
      ·exact rfl
      ·decide
      ·repeat' (first
        |exact NestC.nil
        |(apply NestC.cons
          ·exact rfl
          ·exact rfl
          ·exact rfl
          ·exact rfl
          ·first|exact Nat.zero_le _|exact Nat.le_of_ble_eq_true rfl
          ·exact rfl
          ·first|rfl|exact still_ints _
          ·first|rfl|simp
          ·exact rfl))
      ·exact rfl
      ·exact rfl)
    |refine WpL.litF tabOk rfl rfl rfl rfl (by decide) rfl (by decide) ?_)
   |(refine K.ms ?_;first
    |refine WpL.makeInts tabOk rfl rfl rfl (by omega) (by omega) rfl (by decide) ?_)
   |(refine K.st ?_;first
    |refine WpL.storeInts tabOk rfl rfl rfl rfl rfl (by first|omega|(simp;omega)) ?_
    |refine WpL.storeU8s tabOk rfl rfl rfl rfl rfl (by first|omega|(simp;omega)) ?_
    |refine WpL.storeSlot tabOk rfl rfl rfl rfl rfl rfl (by first|rfl|omega|(simp;done)|(simp;omega)) (by first|omega|(simp;omega)|(simp;done)) ?_
    |refine WpL.storeS tabOk rfl rfl rfl rfl rfl rfl rfl rfl (by first|decide|omega|(simp;omega)|(simp;done)) (by first|(simp only [Go.Abs.setL,List.set_cons_zero,List.set_cons_succ,Nat.zero_add,Nat.reduceAdd];exact rfl)|exact rfl) ?_)
   |(refine K.all ?_;first
    |refine WpL.allocStruct tabOk rfl rfl (by decide) ?_
    |refine WpL.allocPlain tabOk rfl rfl rfl (by decide) ?_)
   |(refine K.box ?_;refine WpL.box rfl rfl rfl (by decide) ?_)
   |(refine K.nc ?_;first
    |refine WpL.nilCheckP rfl rfl rfl (by decide) ?_)
   |(refine K.sl ?_;first
    |refine WpL.subStrLo tabOk rfl rfl rfl (by omega) (by decide) ?_
    |refine WpL.subStrHi tabOk rfl rfl rfl (by omega) (by decide) ?_
    |refine WpL.subStrHi1 tabOk rfl rfl rfl (by omega) (by decide) ?_
    |refine WpL.subStr tabOk rfl rfl (by first|exact .inl ⟨rfl,rfl⟩|exact .inr ⟨_,_,rfl,rfl⟩) (by first|exact .inl ⟨rfl,rfl⟩|exact .inr ⟨_,_,rfl,rfl⟩) (by omega) (by decide) ?_
    |refine WpL.subIntsHi tabOk rfl rfl rfl (by first|rfl|omega|(simp;done)|(simp;omega)) (by omega) (by decide) ?_
    |refine WpL.subInts tabOk rfl rfl rfl rfl (by first|rfl|omega|(simp;done)|(simp;omega)) (by omega) (by decide) ?_
    |refine WpL.subImm tabOk rfl rfl (by first|exact .inl ⟨rfl,rfl⟩|exact .inr ⟨_,_,rfl,rfl⟩) (by first|exact .inl ⟨rfl,rfl⟩|exact .inr ⟨_,_,rfl,rfl⟩) (by omega) (by decide) ?_)
   |(refine K.gd ?_;first
    |refine K.gT rfl (by decide) rfl ?_
    |refine K.gF rfl (by decide) rfl ?_
    |(refine K.gD rfl rfl (fun hgo=>?_) (fun hgo=>?_)<;>(try (first|contradiction|(exfalso;omega))))
    |(refine K.gN rfl rfl (fun hgo=>?_) (fun hgo=>?_)<;>(try (first|contradiction|(exfalso;omega)))))
   |((repeat (revert hgo));(repeat ((fail_if_success with_reducible apply Hold.h hold);replace hold:=Hold.t hold));with_reducible apply Hold.h hold))
  |refine WpL.nil ?_
  |refine Abs.Seq.n ?_
  |(refine K.A ?_;first
   |refine WpA.seq ?_
   |refine WpA.regionF rfl ?_
   |(refine K.cond ?_;first
    |refine WpA.condT rfl ?_
    |refine WpA.condF rfl ?_
    |(refine WpA.condD rfl (fun hgo=>?_) (fun hgo=>?_)<;>(try (first|contradiction|(exfalso;omega))))
    |(refine WpA.condN rfl (fun hgo=>?_) (fun hgo=>?_)<;>(try (first|contradiction|(exfalso;omega))))
    |(refine WpA.condS rfl (fun hgo=>?_) (fun hgo=>?_)<;>(try (first|contradiction|(exfalso;omega)))))
   |refine WpA.block ?_
   |refine WpA.ret ?_
   |refine WpA.exit ?_
   |refine WpA.skip ?_
   |(refine K.loop ?_;((repeat (revert hgo));(repeat ((fail_if_success with_reducible apply Hold.h hold);replace hold:=Hold.t hold));with_reducible apply Hold.h hold))
   |((repeat (revert hgo));(repeat ((fail_if_success with_reducible apply Hold.h hold);replace hold:=Hold.t hold));with_reducible apply Hold.h hold))
  |(refine K.RT ?_;first
   |exact ReT.nil
   |refine ReT.same rfl rfl ?_
   |refine ReT.own rfl rfl rfl rfl rfl rfl (by first|rfl|omega|(simp;done)|(simp;omega)) ?_
   |refine ReT.i rfl ?_ ?_
   |refine ReT.z rfl ?_ ?_
   |refine ReT.ptr rfl rfl rfl rfl rfl ?_
   |refine ReT.gen ?_ ?_)
  |(refine TrueB.mk ?_;kernel_rfl)
  |(apply K.eq;first|exact rfl|omega|assumption|(simp;done)|(simp;omega)|(exact absurd (by simp;done) ‹¬ _›)|((repeat (revert hgo));(repeat ((fail_if_success with_reducible apply Hold.h hold);replace hold:=Hold.t hold));with_reducible apply Hold.h hold))
  |(refine K.le ?_;first|omega|(simp;omega)|assumption|((repeat (revert hgo));(repeat ((fail_if_success with_reducible apply Hold.h hold);replace hold:=Hold.t hold));with_reducible apply Hold.h hold))
  |(refine K.lt ?_;first|omega|(simp;omega)|assumption|((repeat (revert hgo));(repeat ((fail_if_success with_reducible apply Hold.h hold);replace hold:=Hold.t hold));with_reducible apply Hold.h hold))
  |refine And.intro ?_ ?_
  |(refine K.RO ?_;first
   |exact ReO.nil
   |refine ReO.ints ?_ (by first|exact .inl rfl|exact .inr rfl) ?_
   |refine ReO.u8s ?_ (by first|exact .inl rfl|exact .inr rfl) ?_
   |refine ReO.strs ?_ (by first|exact .inl rfl|exact .inr rfl) ?_
   |refine ReO.rows (fun _=>rfl) ?_ (by first|exact .inl rfl|exact .inr rfl) ?_
   |refine ReO.cons (Re.same rfl rfl) (by first|exact .inl rfl|exact .inr rfl) ?_
   |refine ReO.cons ?_ (by first|exact .inl rfl|exact .inr rfl) ?_)
  |(refine K.W ?_;first
   |refine Weak.mk ?_ ?_ (by first|exact Nat.zero_le _|exact Nat.le_of_ble_eq_true rfl))
  |refine Abs.Seq.ret ?_
  |refine Abs.Seq.exit ?_
  |refine Blk.n ?_
  |refine Blk.ret ?_
  |refine Blk.exitHere ?_
  |(refine K.R ?_;first
   |refine Rnd.ret ?_
   |refine Rnd.exit ?_
   |refine Rnd.succ ?_ ?_ ?_
   |((repeat (revert hgo));(repeat ((fail_if_success with_reducible apply Hold.h hold);replace hold:=Hold.t hold));with_reducible apply Hold.h hold))
  |(refine K.F ?_;first
   |apply Fin.one0
   |apply Fin.one1
   |apply Fin.one2
   |apply Fin.one3
   |apply Fin.two0
   |apply Fin.two1
   |apply Fin.two2
   |apply Fin.two3
   |apply Fin.three0
   |apply Fin.three1
   |apply Fin.three2
   |apply Fin.three3
   |((repeat (revert hgo));(repeat ((fail_if_success with_reducible apply Hold.h hold);replace hold:=Hold.t hold));with_reducible apply Hold.h hold))
  |(refine K.FG ?_;first
   |apply FinG.o10
   |apply FinG.o11
   |apply FinG.o20
   |apply FinG.o21
   |apply FinG.o30
   |apply FinG.o31
   |apply FinG.o40
   |apply FinG.o41
   |apply FinG.z10
   |apply FinG.z11
   |apply FinG.z20
   |apply FinG.z21
   |apply FinG.z30
   |apply FinG.z31
   |apply FinG.z40
   |apply FinG.z41
   |apply FinG.t10
   |apply FinG.t11
   |apply FinG.t20
   |apply FinG.t21
   |apply FinG.t30
   |apply FinG.t31
   |apply FinG.t40
   |apply FinG.t41
   |((repeat (revert hgo));(repeat ((fail_if_success with_reducible apply Hold.h hold);replace hold:=Hold.t hold));with_reducible apply Hold.h hold))
  |exact ResV.tmp rfl
  |exact ResV.cellP rfl rfl rfl rfl rfl
  |exact ResV.cell (ds:=[_]) rfl rfl rfl rfl rfl
  |exact ResV.cell (ds:=[_,_]) rfl rfl rfl rfl rfl
  |exact ResV.cell (ds:=[_,_,_]) rfl rfl rfl rfl rfl
  |exact ResV.cell (ds:=[_,_,_,_]) rfl rfl rfl rfl rfl
  |exact ResV.cell (ds:=[_,_,_,_,_]) rfl rfl rfl rfl rfl
  |exact ResV.cell (ds:=[_,_,_,_,_,_]) rfl rfl rfl rfl rfl
  |exact ResV.cell (ds:=[_,_,_,_,_,_,_]) rfl rfl rfl rfl rfl
  |exact ResV.cell (ds:=[_,_,_,_,_,_,_,_]) rfl rfl rfl rfl rfl
  |(refine K.E ?_;first
   |exact Ex.nil
   |refine Ex.keep rfl rfl rfl ?_
   |refine Ex.own rfl rfl rfl rfl ?_
   |refine Ex.own rfl rfl rfl ?_ ?_
   |refine Ex.nilO rfl ?_
   |refine Ex.nilO' rfl ?_ ?_
   |refine Ex.agg ?_ ?_
   |refine Ex.tup ?_ ?_
   |refine Ex.i ?_ ?_
   |refine Ex.b ?_ ?_
   |refine Ex.z ?_ ?_)
  |(refine K.NE ?_;first
   |exact NEx.nil
   |refine NEx.ints rfl ?_ ?_
   |refine NEx.strs rfl ?_ ?_
   |refine NEx.noInts ?_ ?_
   |refine NEx.noStrs ?_ ?_
   |refine NEx.intsN rfl ?_ ?_
   |refine NEx.rows (fun _=>rfl) rfl ?_ ?_
   |refine NEx.noRows ?_ ?_
   |refine NEx.gone ?_ rfl ?_
   |refine NEx.obj rfl ?_ rfl rfl rfl (.inr rfl) ?_)
  |exact Re.nil
  |refine Re.keep rfl rfl ?_
  |refine Re.fn rfl ?_
  |refine Re.own rfl rfl rfl rfl rfl (by first|rfl|omega|(simp;done)|(simp;omega)) ?_
  |refine Re.ptr rfl rfl rfl rfl ?_
  |refine Re.agg ?_ ?_
  |refine Re.tup ?_ ?_
  |refine Re.i ?_ ?_
  |exact rfl
  |omega
  |(refine fun hgo=>?_)
  |(simp;done)
  |(simp;omega)
  |((repeat (revert hgo));(repeat ((fail_if_success with_reducible apply Hold.h hold);replace hold:=Hold.t hold));with_reducible apply Hold.h hold))
  all_goals (try ((repeat (revert hgo));(repeat ((fail_if_success with_reducible apply Hold.h hold);replace hold:=Hold.t hold));with_reducible apply Hold.h hold))
  all_goals exact True
 ·first|exact IsT.t|exact IsT.any
 ) (r:R):P:=h.1 ⟨r⟩
end Go.Proofs.YtainhhfnnclfiaaGreat


namespace Go.Proofs.YtainhhfnnclfiaaGreat
open Go Go.Abs
attribute [local irreducible] WpA WpL Rnd Blk Abs.Seq Abs.Fin Abs.FinG FnC FnG FnX FinX Only
abbrev CurO (v:Value) (c:Int×Int):AObj:=⟨[.sc v,I c.1,I c.2],0,0,none⟩
abbrev CurOk (l:List Int) (c:Int×Int):Prop:=0≤c.1∧c.1≤l.length
abbrev CodA (l:List Int):AV:=.imm 1 l.length (u8s l)
theorem and255 (y:Int):0≤IntKind.i64.wrap ((BitVec.ofInt IntKind.i64.bits y &&& BitVec.ofInt IntKind.i64.bits 255).toNat:Nat)∧IntKind.i64.wrap ((BitVec.ofInt IntKind.i64.bits y &&& BitVec.ofInt IntKind.i64.bits 255).toNat:Nat)≤255:=by
 have h:(BitVec.ofInt IntKind.i64.bits y &&& BitVec.ofInt IntKind.i64.bits 255).toNat≤255:=by
  rw [BitVec.toNat_and]
  exact Nat.le_trans Nat.and_le_right (by decide)
 rw [IntWalk.i64_in _ (by omega)]
 omega
section
attribute [local irreducible] IntKind.wrap
end
end Go.Proofs.YtainhhfnnclfiaaGreat


namespace Go.Proofs.YtainhhfnnclfiaaGreat
open Go Go.Abs
attribute [local irreducible] WpA WpL Rnd Blk Abs.Seq Abs.Fin Abs.FinG FnC FnG FnX FnP FinX Only
abbrev Cr:=Int×Int
abbrev Pn (f:Nat) (v:Value) (l:List Int) (c:Cr) (args:List AV) (c':Cr) (N:List AObj) (r:AV):Prop:=FnP Tryz.prog f (.ptr 0 0 0::args) [CurO v c] [v] [CodA l] [CurO v c'] N r
abbrev CrOk (l:List Int) (c:Cr):Prop:=l.length≤1048576∧CurOk l c
def hD (h:Int):Int:=IntKind.i64.wrap (IntKind.i64.wrap (h*6364136223846793005)+1442695040888963407)
def mixD (y:Int):Int:=IntKind.i64.wrap ((BitVec.ofInt IntKind.i64.bits (IntKind.i64.wrap ((BitVec.ofInt IntKind.i64.bits (y/2 ^ Int.toNat 33) ^^^ BitVec.ofInt IntKind.i64.bits (y/2 ^ Int.toNat 45)).toNat:Nat)) &&& BitVec.ofInt IntKind.i64.bits 255).toNat:Nat)
def byD (l:List Int) (c:Cr):Cr×Int:=
 if c.1<l.length then ((c.1+1,hD c.2),IntKind.i64.wrap ((BitVec.ofInt IntKind.i64.bits (IntKind.i64.wrap (mixD (hD c.2)+IntKind.i64.wrap (l.getD c.1.toNat 0))) &&& BitVec.ofInt IntKind.i64.bits 255).toNat:Nat))
 else ((c.1,hD c.2),mixD (hD c.2))
theorem byD_ok {l:List Int} {c:Cr} (h:CrOk l c):CrOk l (byD l c).1∧0≤(byD l c).2∧(byD l c).2≤255:=by
 have h1:=h.2.1
 have h2:=h.2.2
 unfold byD;split
 ·exact ⟨⟨h.1,by show 0≤c.1+1;omega,by show c.1+1≤_;omega⟩,and255 _⟩
 ·exact ⟨⟨h.1,h1,h2⟩,and255 _⟩
section
attribute [local irreducible] IntKind.wrap
instance l1Byte_p:ConP 125 (∀ (v:Value) (l:List Int) (c:Cr),CrOk l c→Pn 125 v l c [] (byD l c).1 [] (I (byD l c).2)):=⟨fun v l c h=>by
 have hl:=h.1
 have hc1:=h.2.1
 have hc2:=h.2.2
 by_cases hlt:c.1<l.length
 ·rw [byD,if_pos hlt]
  refine FnP.of_body tabOk Tryz.func125 Tryz.ntmps125 rfl (by decide +kernel) (by simp) rfl rfl rfl fun G hp=>?_
  refine go (r:=?_);and_intros<;>intros<;>try exact True.intro
  refine WpL.pin (d:=32) hp rfl ?_
  refine go (r:=?_);and_intros<;>intros<;>try exact True.intro
  all_goals first|contradiction|omega|skip
  refine WpL.pin (d:=39) hp rfl ?_
  refine go (r:=?_);and_intros<;>intros<;>try exact True.intro
 ·rw [byD,if_neg hlt]
  refine FnP.of_body tabOk Tryz.func125 Tryz.ntmps125 rfl (by decide +kernel) (by simp) rfl rfl rfl fun G hp=>?_
  refine go (r:=?_);and_intros<;>intros<;>try exact True.intro
  refine WpL.pin (d:=32) hp rfl ?_
  refine go (r:=?_);and_intros<;>intros<;>try exact True.intro
  all_goals first|contradiction|omega|skip⟩
end
def belowD (l:List Int) (c:Cr) (n:Int):Cr×Int:=
 if n≤0 then (c,0) else if n≤256 then ((byD l c).1,(byD l c).2%n) else
  ((byD l (byD l (byD l (byD l c).1).1).1).1,((byD l c).2*16777216+(byD l (byD l c).1).2*65536+(byD l (byD l (byD l c).1).1).2*256+(byD l (byD l (byD l (byD l c).1).1).1).2)%n)
theorem belowD_ok {l:List Int} {c:Cr} (n:Int) (h:CrOk l c):CrOk l (belowD l c n).1∧0≤(belowD l c n).2∧(0<n→(belowD l c n).2<n)∧(n≤0→(belowD l c n).2=0):=by
 have h1:=byD_ok h
 have h2:=byD_ok h1.1
 have h3:=byD_ok h2.1
 have h4:=byD_ok h3.1
 unfold belowD
 split
 ·exact ⟨h,Int.le_refl 0,fun h=>by omega,fun _=>rfl⟩
 ·split
  ·exact ⟨h1.1,Int.emod_nonneg _ (by omega),fun h=>Int.emod_lt_of_pos _ h,fun h=>by omega⟩
  ·exact ⟨h4.1,Int.emod_nonneg _ (by omega),fun h=>Int.emod_lt_of_pos _ h,fun h=>by omega⟩
instance l1Below_p:ConP 62 (∀ (v:Value) (l:List Int) (c:Cr) (n:Int),CrOk l c→Pn 62 v l c [I n] (belowD l c n).1 [] (I (belowD l c n).2)):=⟨fun v l c n h=>by
 have h1:=byD_ok h
 have h2:=byD_ok h1.1
 have h3:=byD_ok h2.1
 have h4:=byD_ok h3.1
 unfold belowD
 by_cases h0:n≤0
 ·rw [if_pos h0]
  refine FnP.of_body tabOk Tryz.func62 Tryz.ntmps62 rfl (by decide +kernel) (by simp) rfl rfl rfl fun G hp=>?_
  refine go (r:=?_);and_intros<;>intros<;>try exact True.intro
  all_goals trace_state
 ·rw [if_neg h0]
  by_cases h256:n≤256
  ·rw [if_pos h256]
   refine FnP.of_body tabOk Tryz.func62 Tryz.ntmps62 rfl (by decide +kernel) (by simp) rfl rfl rfl fun G hp=>?_
   refine go (r:=?_);and_intros<;>intros<;>try exact True.intro
   all_goals trace_state
  ·rw [if_neg h256]
   refine FnP.of_body tabOk Tryz.func62 Tryz.ntmps62 rfl (by decide +kernel) (by simp) rfl rfl rfl fun G hp=>?_
   refine go (r:=?_);and_intros<;>intros<;>try exact True.intro
   all_goals trace_state⟩
end Go.Proofs.YtainhhfnnclfiaaGreat


namespace Go.Proofs.YtainhhfnnclfiaaGreat
open Go Go.Abs
theorem eq_all {α:Type} (z:α) {xs ys:List α} (hl:xs.length=ys.length) (h:∀j<xs.length,xs.getD j z=ys.getD j z):xs=ys:=by
 apply List.ext_getElem hl
 intro i h1 h2
 have:=h i h1
 simpa [h1,h2] using this
abbrev IN (l:List Int):AObj:=⟨ints l,0,1,none⟩
abbrev HdA (w h q:Int) (b d:Bool) (l:List Int):AV:=.agg [I w,I h,I q,B b,B d,IL l]
abbrev StA (w h q:Int) (b d:Bool) (l:List Int) (M:List Mbk):AV:=.agg [I w,I h,I q,B b,B d,IL l,.imm 2 M.length (rows mbI M)]
abbrev BkL (l:List Blok):AV:=.imm 2 l.length (rows blkI l)
abbrev MbL (l:List Mbk):AV:=.imm 2 l.length (rows mbI l)
abbrev BkO (l:List Blok):AObj:=⟨rows blkF l,0,2,some 84⟩
abbrev MbO (l:List Mbk):AObj:=⟨rows mbF l,0,2,some 82⟩
def bn (b:Blok):Nat:=b.2.length
def bw (l:List Blok):Nat:=l.length+(l.map bn).sum
def mn (m:Mbk):Nat:=bw m.2
def mw (l:List Mbk):Nat:=l.length+(l.map mn).sum
@[irreducible] def SmB (c:Nat) (l:List Blok):Prop:=∀b∈l,b.2.length≤c
@[irreducible] def SmM (c:Nat) (l:List Mbk):Prop:=∀m∈l,m.2.length≤c∧SmB c m.2
theorem smB_get {c:Nat} {l:List Blok} (h:SmB c l) {k:Nat} (hk:k<l.length):(l.getD k default).2.length≤c:=by
 unfold SmB at h;exact h _ (by simp [hk])
theorem smM_get {c:Nat} {l:List Mbk} (h:SmM c l) {k:Nat} (hk:k<l.length):(l.getD k default).2.length≤c∧SmB c (l.getD k default).2:=by
 unfold SmM at h;exact h _ (by simp [hk])
theorem sum_mem {α:Type} (f:α→Nat) {l:List α} {a:α} (h:a∈l):f a≤(l.map f).sum:=by
 induction l with
 |nil=>cases h
 |cons b l ih=>
  rw [List.map_cons,List.sum_cons]
  rcases List.mem_cons.1 h with rfl|h
  ·omega
  ·have:=ih h;omega
theorem smB_of {c:Nat} {l:List Blok} (h:bw l≤c):SmB c l:=by
 unfold SmB bw at*
 intro b hb
 have:bn b≤_:=sum_mem bn hb
 unfold bn at this;unfold bn at h;omega
theorem smM_of {c:Nat} {l:List Mbk} (h:mw l≤c):SmM c l:=by
 unfold SmM mw at*
 intro m hm
 have h1:mn m≤_:=sum_mem mn hm
 have h2:bw m.2≤c:=by unfold mn at *;omega
 exact ⟨by unfold bw at h2;omega,smB_of h2⟩
theorem take_snoc {α:Type} [Inhabited α] (l:List α) (i:Nat) (h:i<l.length):l.take (i+1)=l.take i++[l.getD i default]:=by
 rw [List.take_succ_eq_append_getElem h];simp [h]
abbrev XI (l:List Int):AObj:=⟨ints l,0,1,some 3⟩
end Go.Proofs.YtainhhfnnclfiaaGreat


namespace Go.Proofs.YtainhhfnnclfiaaGreat
open Go Go.Abs
attribute [local irreducible] WpA WpL Rnd Blk Abs.Seq Abs.Fin Abs.FinG FnC FnG FnX FnP FinX Only
def onceD (l:List Int) (c:Cr) (n:Int):Cr×Bool:=((belowD l c n).1,decide ((belowD l c n).2=0))
theorem onceD_ok {l:List Int} {c:Cr} (n:Int) (h:CrOk l c):CrOk l (onceD l c n).1:=(belowD_ok n h).1
def pickD (l:List Int) (c:Cr) (xs:List Int):Cr×Int:=((belowD l c xs.length).1,xs.getD (belowD l c xs.length).2.toNat 0)
theorem pickD_ok {l:List Int} {c:Cr} {xs:List Int} (h:CrOk l c) (hx:0<xs.length):CrOk l (pickD l c xs).1∧(pickD l c xs).2∈xs:=by
 have hb:=belowD_ok (xs.length:Int) h
 refine ⟨hb.1,?_⟩
 have h1:=hb.2.2.1 (by omega)
 have h2:=hb.2.1
 have:(belowD l c xs.length).2.toNat<xs.length:=by omega
 simp [pickD,this]
attribute [local irreducible] belowD
instance l1Once_p:ConP 107 (∀ (v:Value) (l:List Int) (c:Cr) (n:Int),CrOk l c→Pn 107 v l c [I n] (onceD l c n).1 [] (B (onceD l c n).2)):=⟨fun v l c n h=>by
 unfold onceD
 refine FnP.of_body tabOk Tryz.func107 Tryz.ntmps107 rfl (by decide +kernel) (by simp) rfl rfl rfl fun G hp=>?_
 refine go (r:=?_);and_intros<;>intros<;>try exact True.intro⟩
instance l1PickInt_p:ConP 172 (∀ (v:Value) (l:List Int) (c:Cr) (xs:List Int),CrOk l c∧0<xs.length∧xs.length≤1048576→Pn 172 v l c [IL xs] (pickD l c xs).1 [] (I (pickD l c xs).2)):=⟨fun v l c xs h=>by
 have hc:=h.1
 have hb:=belowD_ok (xs.length:Int) hc
 have h1:=hb.2.1
 have h2:=hb.2.2.1 (by omega)
 unfold pickD
 refine FnP.of_body tabOk Tryz.func172 Tryz.ntmps172 rfl (by decide +kernel) (by simp) rfl rfl rfl fun G hp=>?_
 refine go (r:=?_);and_intros<;>intros<;>try exact True.intro
 all_goals trace_state⟩
attribute [local irreducible] onceD pickD
abbrev mode14:List Int:=[0,1,2,3,4,5,0,1,2,3,4,5,-1,6]
def modeD (l:List Int) (c:Cr):Cr×Int:=pickD l c mode14
def lens7:List (List Int):=[[1,2,3,4,5,5],[3,3,3,3,2,2],[2,2,2,3,4,4],[1,1,0,0,0,0],[0,2,2,2,2,0],[5,5,4,3,2,1],[4,4,4,4,2,1]]
def l8D (l:List Int) (c:Cr):Cr×List Int:=
 let y:=belowD l c 7
 let b:=lens7.getD y.2.toNat []
 let o:=onceD l y.1 2
 if o.2=true then
  let i:=belowD l o.1 6
  let k:=belowD l i.1 6
  (k.1,(b.set i.2.toNat (b.getD k.2.toNat 0)).set k.2.toNat (b.getD i.2.toNat 0))
 else (o.1,b)
theorem lens7_6:∀k,k<7→(lens7.getD k []).length=6:=by decide
theorem l8D_yes {l:List Int} {c:Cr} (h:(onceD l (belowD l c 7).1 2).2=true):l8D l c=((belowD l (belowD l (onceD l (belowD l c 7).1 2).1 6).1 6).1,((lens7.getD (belowD l c 7).2.toNat []).set (belowD l (onceD l (belowD l c 7).1 2).1 6).2.toNat ((lens7.getD (belowD l c 7).2.toNat []).getD (belowD l (belowD l (onceD l (belowD l c 7).1 2).1 6).1 6).2.toNat 0)).set (belowD l (belowD l (onceD l (belowD l c 7).1 2).1 6).1 6).2.toNat ((lens7.getD (belowD l c 7).2.toNat []).getD (belowD l (onceD l (belowD l c 7).1 2).1 6).2.toNat 0)):=by
 unfold l8D;simp only;rw [if_pos h]
theorem l8D_no {l:List Int} {c:Cr} (h:¬(onceD l (belowD l c 7).1 2).2=true):l8D l c=((onceD l (belowD l c 7).1 2).1,lens7.getD (belowD l c 7).2.toNat []):=by
 unfold l8D;simp only;rw [if_neg h]
theorem l8D_ok {l:List Int} {c:Cr} (h:CrOk l c):CrOk l (l8D l c).1∧(l8D l c).2.length=6:=by
 have hb:=belowD_ok 7 h
 have ho:=onceD_ok 2 hb.1
 have h6:=lens7_6 (belowD l c 7).2.toNat (by have:=hb.2.1;have:=hb.2.2.1 (by decide);omega)
 by_cases hc:(onceD l (belowD l c 7).1 2).2=true
 ·rw [l8D_yes hc]
  exact ⟨(belowD_ok 6 (belowD_ok 6 ho).1).1,by simp only [List.length_set];exact h6⟩
 ·rw [l8D_no hc];exact ⟨ho,h6⟩
instance l8Lens_p:ConP 174 (∀ (v:Value) (l:List Int) (c:Cr),CrOk l c→Pn 174 v l c [] (l8D l c).1 [XI (l8D l c).2] (.own 1 0 0 (l8D l c).2.length)):=⟨fun v l c h=>by
 have hb:=belowD_ok 7 h
 have h70:=hb.2.1
 have h71:=hb.2.2.1 (by decide)
 have hlt:(belowD l c 7).2.toNat<lens7.length:=by show _<7;omega
 have h6:=lens7_6 (belowD l c 7).2.toNat (by omega)
 have h6':(lens7.getD (belowD l c 7).2.toNat default).length=6:=h6
 have ho:=onceD_ok 2 hb.1
 have hi:=belowD_ok 6 ho
 have hk:=belowD_ok 6 hi.1
 have hi1:=hi.2.2.1 (by decide)
 have hk1:=hk.2.2.1 (by decide)
 by_cases hc:(onceD l (belowD l c 7).1 2).2=true
 ·rw [l8D_yes hc]
  refine FnP.of_body tabOk Tryz.func174 Tryz.ntmps174 rfl (by decide +kernel) (by simp) rfl rfl rfl fun G hp=>?_
  refine go (r:=?_);and_intros<;>intros<;>try exact True.intro
  refine K.ld ?_
  refine WpL.loadOwnLi (M:=lens7) tabOk rfl rfl rfl rfl hlt (by decide) rfl ?_
  refine WpL.appInts tabOk rfl rfl rfl (Nat.le_refl 1) rfl rfl rfl rfl (by omega) (by decide) ?_
  rw [List.nil_append]
  refine WpL.weak (σ':=⟨[(0,.ptr 0 0 0),(20,.own 1 0 0 6)],[CurO v (belowD l c 7).1,XI (lens7.getD (belowD l c 7).2.toNat [])]⟩) (Weak.mk (.cons (.ptr rfl rfl rfl rfl .nil) (.cons (.own rfl rfl rfl rfl rfl (by omega) .nil) .nil)) (.cons (Re.same rfl rfl) (.inr rfl) (.cons (Re.same rfl (still_ints _)) (.inr rfl) .nil)) (Nat.le_of_ble_eq_true rfl)) ?_
  generalize lens7.getD (belowD l c 7).2.toNat []=b at h6 ⊢
  refine go (r:=?_);and_intros<;>intros<;>try exact True.intro
  all_goals first|(rename_i hg;rw [hc] at hg;cases hg;done)
 ·rw [l8D_no hc]
  refine FnP.of_body tabOk Tryz.func174 Tryz.ntmps174 rfl (by decide +kernel) (by simp) rfl rfl rfl fun G hp=>?_
  refine go (r:=?_);and_intros<;>intros<;>try exact True.intro
  refine K.ld ?_
  refine WpL.loadOwnLi (M:=lens7) tabOk rfl rfl rfl rfl hlt (by decide) rfl ?_
  refine WpL.appInts tabOk rfl rfl rfl (Nat.le_refl 1) rfl rfl rfl rfl (by omega) (by decide) ?_
  rw [List.nil_append]
  refine WpL.weak (σ':=⟨[(0,.ptr 0 0 0),(20,.own 1 0 0 6)],[CurO v (belowD l c 7).1,XI (lens7.getD (belowD l c 7).2.toNat [])]⟩) (Weak.mk (.cons (.ptr rfl rfl rfl rfl .nil) (.cons (.own rfl rfl rfl rfl rfl (by omega) .nil) .nil)) (.cons (Re.same rfl rfl) (.inr rfl) (.cons (Re.same rfl (still_ints _)) (.inr rfl) .nil)) (Nat.le_of_ble_eq_true rfl)) ?_
  generalize lens7.getD (belowD l c 7).2.toNat []=b at h6 ⊢
  refine go (r:=?_);and_intros<;>intros<;>try exact True.intro
  all_goals first|(rename_i hg;exact absurd hg hc)⟩
end Go.Proofs.YtainhhfnnclfiaaGreat
