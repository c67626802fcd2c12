/- Proved in this text: lemmas and contracts of functions that the claim uses (parts: RdW, Back, Back2, RdHs, RdP, RdK, Cnv, Same, Cache, AbsEq, AbsAz, Ent, UeT, Stop, SameI). No condition. -/
import Derived.Test.YtndflfipaddfoaaGreatStM12
import Derived.Test.YtndflfipaddfoaaGreatStM11
import Derived.Test.YtndflfipaddfoaaGreatStM7
import Derived.Laws.StructEq
import Derived.Lib.AppendZeros
import Derived.Test.YtndflfipaddfoaaGreatStM10
set_option linter.unusedVariables false
set_option linter.unusedSimpArgs false
set_option maxRecDepth 100000
set_option maxHeartbeats 4000000


namespace Go.Proofs.YtndflfipaddfoaaGreat
open Go Go.Abs
attribute [local irreducible] WpA WpL Rnd Blk Abs.Seq Abs.Fin Abs.FinG FnC FnG Only
def pvC (p:List UInt8) (s room:Int):Int:=fuC p (fuA p s 0 (kR room)) (fuC p s 0 (kR room)) kL
def pvA (p:List UInt8) (s room:Int):Int:=fuA p (fuA p s 0 (kR room)) (fuC p s 0 (kR room)) kL
def pvR (p:List UInt8) (s room:Int):Int:=if pvC p s room=0 then fuV p s 0 (kR room) else 0
def pvL (p:List UInt8) (s room:Int):Int:=if pvC p s room=0 then lvOf (fuV p (fuA p s 0 (kR room)) (fuC p s 0 (kR room)) kL) else 0
theorem fu_bad {p:List UInt8} {s:Int} {k:Int→Int} (h:ueC p s≠0):fuC p s 0 k=ueC p s∧fuA p s 0 k=s:=by
 have e:fuC p s 0 k=ueC p s:=by rw [fuC,if_pos rfl,if_neg h]
 exact ⟨e,by rw [fuA,if_neg (by rw [e];exact h)]⟩
theorem fu_chk {p:List UInt8} {s c:Int} {k:Int→Int} (h:ueC p s=0) (hk:k (ueV p s)=c) (hc:c≠0):fuC p s 0 k=c∧fuA p s 0 k=s:=by
 have e:fuC p s 0 k=c:=by rw [fuC,if_pos rfl,if_pos h,hk]
 exact ⟨e,by rw [fuA,if_neg (by rw [e];exact hc)]⟩
theorem fu_yes {p:List UInt8} {s:Int} {k:Int→Int} (h:ueC p s=0) (hk:k (ueV p s)=0):fuC p s 0 k=0∧fuA p s 0 k=ueA p s∧fuV p s 0 k=ueV p s:=by
 have e:fuC p s 0 k=0:=by rw [fuC,if_pos rfl,if_pos h,hk]
 exact ⟨e,by rw [fuA,if_pos e],by rw [fuV,if_pos e]⟩
theorem pv_5 {p:List UInt8} {s room:Int} (h:ueC p s=0) (h2:ueV p s<room) (h3:ueC p (ueA p s)=0) (h4:-16383≤lvOf (ueV p (ueA p s))∧lvOf (ueV p (ueA p s))≤16383):pvA p s room=ueA p (ueA p s)∧pvC p s room=0∧pvR p s room=ueV p s∧pvL p s room=lvOf (ueV p (ueA p s)):=by
 have e:=fu_yes (k:=kR room) h (ifE_yes h2)
 have f:=fu_yes (k:=kL) h3 (ifE_yes h4)
 have e2:pvC p s room=0:=by rw [pvC,e.1,e.2.1,f.1]
 exact ⟨by rw [pvA,e.1,e.2.1,f.2.1],e2,by rw [pvR,if_pos e2,e.2.2],by rw [pvL,if_pos e2,e.1,e.2.1,f.2.2]⟩
theorem lvStep_pv0 {p:List UInt8} {nn:Int} {x:LvS} (hc:x.c=0) (h:pvC p x.a (nn-x.at_)=0):lvStep p nn x=⟨pvA p x.a (nn-x.at_),0,x.at_+pvR p x.a (nn-x.at_)+1,x.out.set (x.at_+pvR p x.a (nn-x.at_)).toNat (pvL p x.a (nn-x.at_))⟩:=by
 have h':=h
 rw [pvC] at h'
 have e3:pvR p x.a (nn-x.at_)=fuV p x.a 0 (kR (nn-x.at_)):=by rw [pvR,if_pos h]
 have e4:pvL p x.a (nn-x.at_)=lvOf (fuV p (fuA p x.a 0 (kR (nn-x.at_))) (fuC p x.a 0 (kR (nn-x.at_))) kL):=by rw [pvL,if_pos h]
 rw [lvStep_yes hc,if_pos h',e3,e4,h'];rfl
theorem lvStep_pv1 {p:List UInt8} {nn:Int} {x:LvS} (hc:x.c=0) (h:pvC p x.a (nn-x.at_)≠0):(lvStep p nn x).a=pvA p x.a (nn-x.at_)∧(lvStep p nn x).c=pvC p x.a (nn-x.at_)∧(lvStep p nn x).out=x.out:=by
 have h':=h
 rw [pvC] at h'
 rw [lvStep_yes hc,if_neg h'];exact ⟨rfl,rfl,rfl⟩
section
attribute [local irreducible] ueA ueV ueC pvC pvA pvR pvL lvOf
end
theorem lv_1 {p:List UInt8} {s n:Int} (h:¬RbOk p s 1):lvS p s n=⟨s,1,0,List.replicate (n*n).toNat 0⟩:=by
 have e1:fbC p s 0 1 k0C=1:=by rw [fbC,if_pos rfl,if_neg h]
 have e2:fbA p s 0 1 k0C=s:=by rw [fbA,if_neg (by rw [e1];decide)]
 rw [lvS_no (by rw [fbV,if_neg (by rw [e1];decide)]),e1,e2]
theorem k0_ok {p:List UInt8} {s:Int} (h:RbOk p s 1):fbC p s 0 1 k0C=0∧fbA p s 0 1 k0C=rbA p s 1∧fbV p s 0 1 k0C=rbV p s 1:=by
 have e1:fbC p s 0 1 k0C=0:=by rw [fbC,if_pos rfl,if_pos h]
 exact ⟨e1,by rw [fbA,if_pos ⟨rfl,e1⟩],by rw [fbV,if_pos e1]⟩
theorem lv_2 {p:List UInt8} {s n:Int} (h:RbOk p s 1) (hv:rbV p s 1=0):lvS p s n=⟨rbA p s 1,0,0,List.replicate (n*n).toNat 0⟩:=by
 obtain ⟨e1,e2,e3⟩:=k0_ok h
 rw [lvS_no (by rw [e3];exact hv),e1,e2]
theorem lvRun_c {p:List UInt8} {nn:Int} {x:LvS} (h:x.c≠0) (j:Nat):lvRun p nn x j=x:=lvRun_stop (k:=0) h j (Nat.zero_le _)
theorem lv_3 {p:List UInt8} {s n:Int} (h:RbOk p s 1) (hv:rbV p s 1≠0) (hu:ueC p (rbA p s 1)≠0):lvS p s n=⟨rbA p s 1,ueC p (rbA p s 1),0,List.replicate (n*n).toNat 0⟩:=by
 obtain ⟨e1,e2,e3⟩:=k0_ok h
 have f:=fu_bad (k:=kR (n*n)) hu
 rw [lvS_yes (by rw [e3];exact hv),e1,e2,f.1,f.2,lvRun_c hu]
theorem lv_4 {p:List UInt8} {s n:Int} (h:RbOk p s 1) (hv:rbV p s 1≠0) (hu:ueC p (rbA p s 1)=0) (h2:¬ueV p (rbA p s 1)<n*n):lvS p s n=⟨rbA p s 1,5,0,List.replicate (n*n).toNat 0⟩:=by
 obtain ⟨e1,e2,e3⟩:=k0_ok h
 have f:=fu_chk (k:=kR (n*n)) hu (ifE_no h2) (by decide)
 rw [lvS_yes (by rw [e3];exact hv),e1,e2,f.1,f.2,lvRun_c (show (5:Int)≠0 by decide)]
theorem lv_5 {p:List UInt8} {s n:Int} (h:RbOk p s 1) (hv:rbV p s 1≠0) (hu:ueC p (rbA p s 1)=0) (h2:ueV p (rbA p s 1)<n*n):lvS p s n=lvRun p (n*n) ⟨ueA p (rbA p s 1),0,0,List.replicate (n*n).toNat 0⟩ (1+ueV p (rbA p s 1)).toNat:=by
 obtain ⟨e1,e2,e3⟩:=k0_ok h
 have f:=fu_yes (k:=kR (n*n)) hu (ifE_yes h2)
 rw [lvS_yes (by rw [e3];exact hv),e1,e2,f.1,f.2.1,f.2.2]
section
attribute [local irreducible] rbA rbV ueA ueV ueC pvC pvA pvR pvL lvOf lvS lvRun
end
section
attribute [local irreducible] lvS smA smV smC blS
end
section
attribute [local irreducible] rbA rbV blS mbS mbRun sz8 nm8
end
end Go.Proofs.YtndflfipaddfoaaGreat


namespace Go.Proofs.YtndflfipaddfoaaGreat
open Go Go.Abs
def Holds (p:List UInt8) (s:Int) (b:List Int):Prop:=0≤s∧s+b.length≤8*(p.length:Int)∧∀k<b.length,btA p (s+(k:Nat))=b.getD k 0
theorem holds_left {p:List UInt8} {s:Int} {a b:List Int} (h:Holds p s (a++b)):Holds p s a:=by
 obtain ⟨h0,h1,h2⟩:=h
 rw [List.length_append] at h1
 refine ⟨h0,by omega,fun k hk=>?_⟩
 rw [h2 k (by rw [List.length_append];omega)]
 simp [List.getD_eq_getElem?_getD,List.getElem?_append_left hk]
theorem holds_right {p:List UInt8} {s:Int} {a b:List Int} (h:Holds p s (a++b)):Holds p (s+a.length) b:=by
 obtain ⟨h0,h1,h2⟩:=h
 rw [List.length_append] at h1
 refine ⟨by omega,by omega,fun k hk=>?_⟩
 have:=h2 (a.length+k) (by rw [List.length_append];omega)
 rw [show s+(a.length:Int)+(k:Nat)=s+((a.length+k:Nat):Int) by omega,this]
 simp [List.getD_eq_getElem?_getD,List.getElem?_append_right]
theorem holds_rd {p:List UInt8} {s:Int} {b:List Int} (h:Holds p s b):RdOk p s:=⟨h.1,by have:=h.2.1;omega⟩
theorem holds_lft {p:List UInt8} {s:Int} {b:List Int} (h:Holds p s b):(b.length:Int)≤lft p s:=by
 rw [lft_ok (holds_rd h)];have:=h.2.1;omega
theorem holds_rb {p:List UInt8} {s:Int} {b:List Int} (h:Holds p s b) {n:Int} (h0:0≤n) (h1:n≤b.length) (h2:n≤32):RbOk p s n:=⟨holds_rd h,⟨h0,h2⟩,by have:=holds_lft h;omega⟩
theorem numS_bit {l:List Int} (h:Bit01 l) (hl:l.length=8) (j:Nat) (hj:j<8):numS l 8/2 ^ (7-j)%2=l.getD j 0:=by
 match l,hl with
 |[a,b,c,d,e,f,g,i],_=>
  have ha:0≤a∧a≤1:=by rcases h a (by simp) with e|e<;>omega
  have hb:0≤b∧b≤1:=by rcases h b (by simp) with e|e<;>omega
  have hc:0≤c∧c≤1:=by rcases h c (by simp) with e|e<;>omega
  have hd:0≤d∧d≤1:=by rcases h d (by simp) with e|e<;>omega
  have he:0≤e∧e≤1:=by rcases h e (by simp) with e|e<;>omega
  have hf:0≤f∧f≤1:=by rcases h f (by simp) with e|e<;>omega
  have hg:0≤g∧g≤1:=by rcases h g (by simp) with e|e<;>omega
  have hi:0≤i∧i≤1:=by rcases h i (by simp) with e|e<;>omega
  have hj2:j=0∨j=1∨j=2∨j=3∨j=4∨j=5∨j=6∨j=7:=by omega
  have e8:numS [a,b,c,d,e,f,g,i] 8=((((((((0*2+a)*2+b)*2+c)*2+d)*2+e)*2+f)*2+g)*2+i):=rfl
  rw [e8]
  rcases hj2 with rfl|rfl|rfl|rfl|rfl|rfl|rfl|rfl
  ·show _/(128:Int)%2=a;omega
  ·show _/(64:Int)%2=b;omega
  ·show _/(32:Int)%2=c;omega
  ·show _/(16:Int)%2=d;omega
  ·show _/(8:Int)%2=e;omega
  ·show _/(4:Int)%2=f;omega
  ·show _/(2:Int)%2=g;omega
  ·show _/(1:Int)%2=i;omega
theorem bit1_eq {y:Int} (h:0≤y∧y≤255):bit1 y=y%2:=low1 y ⟨h.1,by omega⟩
theorem str_bit {x:List Int} (h:Bit01 x) (i:Nat) (hi:i<8*(x.length/8)):btA (strS x) (i:Nat)=x.getD i 0:=by
 have hl:=strS_len x
 unfold btA
 rw [if_neg (by omega)]
 have e1:((i:Int)/8).toNat=i/8:=by omega
 have e2:((7:Int)-(i:Int)%8).toNat=7-i%8:=by omega
 have hb:=numS_256 (b01_mid h (8*(i/8))) (Nat.le_refl 8)
 have e3:((strS x).getD (i/8) 0).toNat=(numS ((x.drop (8*(i/8))).take 8) 8).toNat:=by
  unfold strS byI
  have hlt:i/8<x.length/8:=by omega
  simp only [List.getD_eq_getElem?_getD,List.getElem?_map,List.getElem?_range hlt,Option.map_some,Option.getD_some]
  rw [UInt8.toNat_ofNat']
  omega
 rw [e1,e2,e3]
 have e4:(((numS ((x.drop (8*(i/8))).take 8) 8).toNat:Nat):Int)=numS ((x.drop (8*(i/8))).take 8) 8:=by omega
 rw [e4]
 have hq:=shr_bd (numS ((x.drop (8*(i/8))).take 8) 8) (7-i%8) hb.1
 rw [bit1_eq ⟨hq.1,by omega⟩,numS_bit (b01_mid h _) (by rw [List.length_take,List.length_drop];omega) (i%8) (by omega)]
 simp only [List.getD_eq_getElem?_getD,List.getElem?_take,List.getElem?_drop]
 rw [if_pos (by omega),show 8*(i/8)+i%8=i by omega]
theorem pad_mult (n:Nat):(n+1+padN n)%8=0:=by unfold padN;omega
theorem stop_holds {b:List Int} (h:Bit01 b):Holds (stopS b) 0 (padL b (padN b.length)):=by
 have hl:=padL_len b (padN b.length)
 have hm:=pad_mult b.length
 have hs:=strS_len (padL b (padN b.length))
 refine ⟨by omega,by unfold stopS;omega,fun k hk=>?_⟩
 rw [Int.zero_add]
 exact str_bit (b01_pad h _) k (by omega)
theorem num_of {p:List UInt8} {s n:Int} {w:Nat} (hn:0≤n) (h:∀j<w,btA p (s+(j:Nat))=n/2 ^ (w-1-j)%2):∀k,k≤w→numB p s k=n/2 ^ (w-k)%2 ^ k
 |0,_=>by simp [numB]
 |k+1,hk=>by
  rw [numB,num_of hn h k (by omega),bv,h k (by omega)]
  have e1:w-k=(w-(k+1))+1:=by omega
  have e2:w-1-k=w-(k+1):=by omega
  rw [e2,e1]
  have e3:(2:Int) ^ (w-(k+1)+1)=2 ^ (w-(k+1))*2:=Int.pow_succ ..
  have e4:(2:Int) ^ (k+1)=2*2 ^ k:=by rw [Int.pow_succ,Int.mul_comm]
  rw [e3,←Int.ediv_ediv_of_nonneg (Int.le_of_lt (Int.pow_pos (by decide))),e4]
  generalize n/2 ^ (w-(k+1))=y
  have e5:y%(2*2 ^ k)=y%2+2*(y/2%2 ^ k):=by
   have:=Int.emod_emod_of_dvd y (Int.dvd_mul_right 2 (2 ^ k))
   have h1:=Int.mul_ediv_add_emod y 2
   have h2:=Int.mul_ediv_add_emod (y/2) (2 ^ k)
   have hp:(0:Int)<2 ^ k:=Int.pow_pos (by decide)
   have h3:=Int.emod_nonneg (y/2) (Int.ne_of_gt hp)
   have h4:=Int.emod_lt_of_pos (y/2) hp
   have e6:y=(2*2 ^ k)*(y/2/2 ^ k)+(y%2+2*(y/2%2 ^ k)):=by
    have:(2:Int)*2 ^ k*(y/2/2 ^ k)=2*(2 ^ k*(y/2/2 ^ k)):=by rw [Int.mul_assoc]
    omega
   conv=>lhs;rw [e6]
   rw [Int.mul_add_emod_self_left,Int.emod_eq_of_lt (by omega) (by omega)]
  omega
theorem holds_num {p:List UInt8} {s n w:Int} (hb:bitOk n w) (h:Holds p s (bitsL n w)):numB p s w.toNat=n:=by
 unfold bitsL at h
 rw [if_pos hb] at h
 obtain ⟨⟨hw0,hw1⟩,hn,hz⟩:=hb
 obtain ⟨h0,h1,h2⟩:=h
 rw [bitsR_len] at h2
 rw [num_of (w:=w.toNat) hn (fun j hj=>by
  rw [h2 j hj]
  simp [bitsR,List.getD_eq_getElem?_getD,hj]) w.toNat (Nat.le_refl _)]
 rw [Nat.sub_self,Int.pow_zero,Int.ediv_one]
 have hp:(0:Int)<2 ^ w.toNat:=Int.pow_pos (by decide)
 have:=Int.mul_ediv_add_emod n (2 ^ w.toNat)
 rw [hz] at this
 omega
theorem bits_len {n w:Int} (hb:bitOk n w):((bitsL n w).length:Int)=w:=by
 unfold bitsL
 rw [if_pos hb,bitsR_len]
 have:=hb.1.1
 omega
theorem holds_bits {p:List UInt8} {s n w:Int} (hb:bitOk n w) (hw:w≤32) (h:Holds p s (bitsL n w)):RbOk p s w∧rbA p s w=s+w∧rbV p s w=n:=by
 have hr:=holds_rb h hb.1.1 (by rw [bits_len hb];omega) hw
 have:=rb_yes hr
 exact ⟨hr,this.1,this.2.trans (holds_num hb h)⟩
theorem holds_ue {p:List UInt8} {s n:Int} (hn:0≤n∧n≤65534) (h:Holds p s (ueL n)):ueC p s=0∧ueA p s=s+(ueL n).length∧ueV p s=n:=by
 obtain ⟨m,rfl⟩:∃m:Nat,n=m:=⟨n.toNat,by omega⟩
 have hm:m≤65534:=by omega
 have hz:=lg_16 (x:=m+1) (by omega) (by omega)
 have hw:=ueL_wide hm
 have hb:=bitOk_ue (n:=m) (2*Nat.log2 (m+1)+1) hm (by omega) (by omega)
 have hlen:=bits_len hb
 rw [hw] at hlen
 have hsh:ueL (m:Int)=List.replicate (Nat.log2 (m+1)) 0++bitsL ((m:Int)+1) ((Nat.log2 (m+1)+1:Nat):Int):=by
  rw [ueL,if_pos hn];simp
 have hzr:zrs p s=Nat.log2 (m+1):=by
  refine zrs_eq (by have:=holds_lft h;omega) (fun j hj=>?_) (.inr ?_)
  ·have h1:=holds_left (hsh▸h)
   rw [h1.2.2 j (by simpa using hj)]
   simp [List.getD_eq_getElem?_getD,List.getElem?_replicate,hj]
  ·have h1:=holds_right (hsh▸h)
   have hb2:=bitOk_ue (n:=m) (Nat.log2 (m+1)+1) hm (by omega) (by omega)
   have h2:=h1.2.2 0 (by have:=bits_len hb2;omega)
   rw [List.length_replicate] at h2
   rw [show s+((Nat.log2 (m+1):Nat):Int)=s+((Nat.log2 (m+1):Nat):Int)+((0:Nat):Int) by omega,h2]
   unfold bitsL
   rw [if_pos hb2]
   have e1:(((Nat.log2 (m+1)+1:Nat):Int)).toNat=Nat.log2 (m+1)+1:=by omega
   rw [e1]
   have e2:(bitsR ((m:Int)+1) (Nat.log2 (m+1)+1) (Nat.log2 (m+1)+1)).getD 0 0=((m:Int)+1)/2 ^ Nat.log2 (m+1)%2:=by
    simp [bitsR,List.getD_eq_getElem?_getD]
   rw [e2]
   have hlo:=lg_lo (m+1) (by omega)
   have hhi:=lg_hi (m+1)
   have e3:((m:Int)+1)/2 ^ Nat.log2 (m+1)=1:=by
    have:(m+1)/2 ^ Nat.log2 (m+1)=1:=by
     rw [Nat.pow_succ] at hhi
     exact Nat.div_eq_of_lt_le (by omega) (by omega)
    exact_mod_cast this
   rw [e3];decide
 have hrb:RbOk p s (2*(zrs p s:Int)+1):=holds_rb h (by omega) (by omega) (by omega)
 have hy:=ue_yes (p:=p) (s:=s) (by omega) hrb
 refine ⟨hy.2.1,by rw [hy.1,hzr];omega,?_⟩
 rw [hy.2.2,hzr]
 have:=holds_num hb (hw.symm▸h)
 rw [show ((2*Nat.log2 (m+1)+1:Nat):Int).toNat=(2*((Nat.log2 (m+1):Nat):Int)+1).toNat by omega] at this
 omega
theorem holds_sym {p:List UInt8} {s m:Int} {l:List Int} (hc:HasC l m) (h:Holds p s (symL l m)):smC p s l=0∧smA p s l=s+(symL l m).length∧smV p s l=m:=by
 have hf:=sym_fit hc
 have hlen:=symL_len l m
 rw [if_pos hc] at hlen
 unfold symL at h
 rw [if_pos hc] at h
 have hb:=holds_bits hf.2.2.2 (by omega) h
 have hm:=hc.2.1
 have ha:SymAt p s l m.toNat:=⟨by omega,hb.1,holds_num hf.2.2.2 h⟩
 have hy:=sm_yes hc.1 (by omega) ha
 exact ⟨hy.2.2,by omega,by omega⟩
theorem lv_nol {v:Int} (h:v≠0):lvOf (nolL v)=v:=by unfold lvOf nolL;split<;>(try split)<;>(try split)<;>omega
theorem holds_pair {p:List UInt8} {s room r v:Int} (hr:0≤r∧r<room) (hr2:r≤65534) (hv:v≠0∧-16383≤v∧v≤16383) (h:Holds p s (prB (r,v))):pvC p s room=0∧pvA p s room=s+(prB (r,v)).length∧pvR p s room=r∧pvL p s room=v:=by
 have h1:=holds_ue ⟨hr.1,hr2⟩ (holds_left h)
 have hn:=nolL_in hv
 have h2:=holds_ue hn (holds_right h)
 have e:=lv_nol hv.1
 simp only at h1 h2
 rw [←h1.2.1] at h2
 have h5:=pv_5 (p:=p) (s:=s) (room:=room) h1.1 (by omega) h2.1 (by rw [h2.2.2,e];omega)
 refine ⟨h5.2.1,?_,by rw [h5.2.2.1];exact h1.2.2,by rw [h5.2.2.2,h2.2.2,e]⟩
 rw [h5.1,h2.2.1,h1.2.1]
 unfold prB
 simp only [List.length_append]
 omega
theorem set_next (l:List Int) (k:Nat) (h:k<l.length) (n:Nat) (hn:n=l.length):(l.take k++List.replicate (n-k) 0).set k (l.getD k 0)=l.take (k+1)++List.replicate (n-(k+1)) 0:=by
 subst hn
 have e1:(l.take k).length=k:=by simp;omega
 have e2:l.length-k=(l.length-(k+1))+1:=by omega
 rw [List.set_append,if_neg (by omega),e1,Nat.sub_self,e2,List.replicate_succ,List.set_cons_zero,List.take_succ_eq_append_getElem h,List.append_assoc]
 simp [h]
theorem keep_next (l:List Int) (k:Nat) (h:k<l.length) (h0:l.getD k 0=0):l.take k++List.replicate (l.length-k) 0=l.take (k+1)++List.replicate (l.length-(k+1)) 0:=by
 rw [←set_next l k h _ rfl,h0]
 have e1:(l.take k).length=k:=by simp;omega
 have e2:l.length-k=(l.length-(k+1))+1:=by omega
 rw [List.set_append,if_neg (by omega),e1,Nat.sub_self,e2,List.replicate_succ,List.set_cons_zero]
theorem holds_run {p:List UInt8} {s:Int} {l:List Int} (hl:LvOk l):∀k,k≤l.length→Holds p s ((pk l k).1.flatMap prB)→
 lvRun p l.length ⟨s,0,0,List.replicate l.length 0⟩ (pk l k).1.length=⟨s+((pk l k).1.flatMap prB).length,0,k-(pk l k).2,l.take k++List.replicate (l.length-k) 0⟩
 |0,_,_=>by simp [pk,lvRun]
 |k+1,hk,h=>by
  have hb:=pk_bd l k
  have h64:l.length≤64:=by have:=hl.2;omega
  rw [pk] at h ⊢
  split at h
  ·rename_i h0
   rw [if_pos h0]
   have ih:=holds_run hl k (by omega) h
   simp only
   rw [ih,keep_next l k (by omega) h0]
   congr 1
   omega
  ·rename_i h0
   rw [if_neg h0]
   simp only [List.flatMap_append,List.flatMap_cons,List.flatMap_nil,List.append_nil,List.length_append,List.length_singleton] at h ⊢
   have ih:=holds_run hl k (by omega) (holds_left h)
   have hin:=in_get hl.1 (k:=k) (by omega)
   have hp:=holds_pair (room:=l.length-(k-(pk l k).2)) (by omega) (by omega) ⟨h0,hin⟩ (holds_right h)
   rw [lvRun,ih,lvStep_pv0 rfl hp.1]
   simp only
   rw [hp.2.1,hp.2.2.1,hp.2.2.2,show ((k:Int)-(pk l k).2+(pk l k).2).toNat=k by omega,set_next l k (by omega) _ rfl]
   congr 1<;>omega
end Go.Proofs.YtndflfipaddfoaaGreat


namespace Go.Proofs.YtndflfipaddfoaaGreat
open Go Go.Abs
theorem one_bit {p:List UInt8} {s x:Int} (hx:x=0∨x=1) (h:Holds p s [x]):RbOk p s 1∧rbA p s 1=s+1∧rbV p s 1=x:=by
 rcases hx with rfl|rfl
 ·exact holds_bits (n:=0) (w:=1) (by decide) (by decide) h
 ·exact holds_bits (n:=1) (w:=1) (by decide) (by decide) h
theorem nn_len {l:List Int} {n:Int} (hn:(l.length:Int)=n*n):(n*n).toNat=l.length:=by omega
theorem holds_lv0 {p:List UInt8} {s n:Int} {l:List Int} (hl:LvOk l) (hn:(l.length:Int)=n*n) (h0:(prsL l).length=0) (h:Holds p s [0]):(lvS p s n).a=s+1∧(lvS p s n).c=0∧(lvS p s n).out=l:=by
 have h1:=one_bit (.inl rfl) h
 rw [lv_2 h1.1 h1.2.2,nn_len hn]
 refine ⟨h1.2.1,rfl,?_⟩
 have e:(pk l l.length).1=[]:=by
  unfold prsL at h0;rw [if_pos hl] at h0;exact List.length_eq_zero_iff.1 h0
 have hh:Holds [] 0 ((pk l l.length).1.flatMap prB):=by rw [e];exact ⟨by decide,by decide,fun k hk=>by cases hk⟩
 have hr:=holds_run hl l.length (Nat.le_refl _) hh
 rw [e] at hr
 have:=congrArg LvS.out hr
 simpa [lvRun] using this
theorem holds_lv1 {p:List UInt8} {s n:Int} {l:List Int} (hl:LvOk l) (hn:(l.length:Int)=n*n) (h0:(prsL l).length≠0) (h:Holds p s ([1]++ueL ((prsL l).length-1)++(prsL l).flatMap prB)):(lvS p s n).a=s+([1]++ueL ((prsL l).length-1)++(prsL l).flatMap prB).length∧(lvS p s n).c=0∧(lvS p s n).out=l:=by
 have e:prsL l=(pk l l.length).1:=by unfold prsL;rw [if_pos hl]
 have hb:=(pk_bd l l.length).1
 rw [←e] at hb
 have h64:l.length≤64:=by have:=hl.2;omega
 have h1:=one_bit (.inr rfl) (holds_left (holds_left h))
 have h2:=holds_ue (n:=((prsL l).length:Int)-1) (by omega) (holds_right (holds_left h))
 rw [show s+(([1]:List Int).length:Int)=rbA p s 1 by rw [h1.2.1];rfl] at h2
 have h3:=holds_right h
 rw [lv_5 h1.1 (by rw [h1.2.2];decide) h2.1 (by rw [h2.2.2];omega),h2.2.2,nn_len hn,←hn,show (1+(((prsL l).length:Int)-1)).toNat=(prsL l).length by omega]
 rw [List.length_append,show s+((([1]:List Int).length+(ueL ((prsL l).length-1)).length:Nat):Int)=ueA p (rbA p s 1) by rw [h2.2.1,h1.2.1,Int.natCast_add];simp only [List.length_singleton];omega] at h3
 rw [e] at h3 ⊢
 rw [holds_run hl l.length (Nat.le_refl _) h3]
 refine ⟨?_,rfl,by simp⟩
 simp only [List.length_append,List.length_singleton]
 rw [←e,h2.2.1,h1.2.1]
 omega
theorem holds_blk {p:List UInt8} {s m n:Int} {lv lens:List Int} (hk:BlkOk m lv lens n) (h:Holds p s (bkL m lv lens n)):blS p s lens n=⟨s+(bkL m lv lens n).length,0,m,lv⟩:=by
 have hk2:=hk
 obtain ⟨hn,hc,hl,hv⟩:=hk
 unfold bkL at h ⊢
 rw [if_pos hk2] at h ⊢
 split at h
 ·rename_i h0
  rw [if_pos h0]
  have h1:=holds_sym hc (holds_left h)
  have h2:=holds_right h
  rw [←h1.2.1] at h2
  have h3:=holds_lv0 (n:=n) hv hl h0 h2
  rw [blS_1 hn h1.1 h3.2.1,h3.1,h3.2.2,h1.2.2,h1.2.1,List.length_append,List.length_singleton]
  congr 1
  omega
 ·rename_i h0
  rw [if_neg h0]
  have e:bkK m lv lens (prsL lv).length=symL lens m++([1]++ueL ((prsL lv).length-1)++(prsL lv).flatMap prB):=by
   unfold bkK;rw [List.take_length];simp only [List.append_assoc]
  rw [e] at h ⊢
  have h1:=holds_sym hc (holds_left h)
  have h2:=holds_right h
  rw [←h1.2.1] at h2
  have h3:=holds_lv1 (n:=n) hv hl h0 h2
  rw [blS_1 hn h1.1 h3.2.1,h3.1,h3.2.2,h1.2.2,h1.2.1]
  simp only [List.length_append]
  congr 1
  omega
theorem holds_take {α:Type} [Inhabited α] {p:List UInt8} {s:Int} (f:α→List Int) (l:List α) {k:Nat} (hk:k<l.length) (h:Holds p s ((l.take (k+1)).flatMap f)):Holds p s ((l.take k).flatMap f)∧Holds p (s+((l.take k).flatMap f).length) (f (l.getD k default)):=by
 rw [fm_snoc f l k hk] at h
 exact ⟨holds_left h,holds_right h⟩
theorem take_d {α:Type} [Inhabited α] (l:List α) {k:Nat} (hk:k<l.length):l.take (k+1)=l.take k++[l.getD k default]:=by
 rw [List.take_succ_eq_append_getElem hk];simp [hk]
theorem holds_mbr {p:List UInt8} {s:Int} {lens:List Int} {e:Bool} {bs:List Blok} (hm:MbkOk e bs lens):∀k,k≤bs.length→Holds p s ((bs.take k).flatMap fun b=>bkL b.1 b.2 lens (sz8 e))→
 mbRun p s lens (sz8 e) k=⟨s+((bs.take k).flatMap fun b=>bkL b.1 b.2 lens (sz8 e)).length,0,bs.take k⟩
 |0,_,_=>by simp [mbRun]
 |k+1,hk,h=>by
  have ht:=holds_take _ bs (by omega) h
  have ih:=holds_mbr hm k (by omega) ht.1
  have hb:=holds_blk (ok_lv hm (k:=k) (by omega)) ht.2
  have e1:=congrArg MbS.a ih
  simp only at e1
  rw [mbRun_next (by rw [ih]) (by rw [e1,hb]),e1,hb,ih]
  simp only
  rw [fm_snoc _ bs k (by omega),take_d bs (by omega),List.length_append]
  congr 1
  omega
theorem holds_mb {p:List UInt8} {s:Int} {lens:List Int} {e:Bool} {bs:List Blok} (hm:MbkOk e bs lens) (h:Holds p s (mbbL e bs lens)):mbS p s lens=(⟨s+(mbbL e bs lens).length,0,bs⟩,e):=by
 unfold mbbL at h ⊢
 rw [if_pos hm] at h ⊢
 unfold mbK at h ⊢
 have h1:=one_bit (by cases e<;>simp) (holds_left h)
 have h2:=holds_right h
 rw [mbS_yes (E:=e) h1.1 (by rw [h1.2.2];cases e<;>rfl)]
 have hl:(nm8 e).toNat=bs.length:=by have:=hm.1;omega
 rw [hl,show s+1=s+(([bif e then (1:Int) else 0]:List Int).length:Int) by simp,holds_mbr hm bs.length (Nat.le_refl _) h2]
 simp only [List.take_length,List.length_append,List.length_singleton,decide_true,cond_true]
 congr 2
 omega
theorem holds_mbs {p:List UInt8} {s w h q:Int} {l:List Int} {M:List Mbk} (hs:StOk w h q l M):∀k,k≤M.length→Holds p s ((M.take k).flatMap (mbF l))→
 stRun p s l k=⟨s+((M.take k).flatMap (mbF l)).length,0,M.take k⟩
 |0,_,_=>by simp [stRun]
 |k+1,hk,hh=>by
  have ht:=holds_take _ M (by omega) hh
  have ih:=holds_mbs hs k (by omega) ht.1
  have hb:=holds_mb (ok_blk hs (i:=k) (by omega)) ht.2
  rw [stRun,ih]
  simp only [if_true]
  rw [hb]
  simp only [if_true]
  rw [fm_snoc _ M k (by omega),take_d M (by omega),List.length_append]
  have:(mbF l (M.getD k default)).length=(mbbL (M.getD k default).1 (M.getD k default).2 l).length:=rfl
  congr 1
  omega
def lnum (l:List Int):Int:=((((l.getD 0 0*8+l.getD 1 0)*8+l.getD 2 0)*8+l.getD 3 0)*8+l.getD 4 0)*8+l.getD 5 0
theorem six_of {l:List Int} (h:CodeOk l):∃a b c d e f,l=[a,b,c,d,e,f]∧(0≤a∧a≤7)∧(0≤b∧b≤7)∧(0≤c∧c≤7)∧(0≤d∧d≤7)∧(0≤e∧e≤7)∧(0≤f∧f≤7):=by
 have h0:=code_in h (m:=0) (by decide)
 have h1:=code_in h (m:=1) (by decide)
 have h2:=code_in h (m:=2) (by decide)
 have h3:=code_in h (m:=3) (by decide)
 have h4:=code_in h (m:=4) (by decide)
 have h5:=code_in h (m:=5) (by decide)
 match l,h.2.1 with
 |[a,b,c,d,e,f],_=>exact ⟨a,b,c,d,e,f,rfl,h0,h1,h2,h3,h4,h5⟩
theorem bits3 {n:Int} (h:0≤n∧n≤7):bitsL n 3=[n/4%2,n/2%2,n/1%2]:=by
 have hb:bitOk n 3:=⟨by decide,h.1,by show n/8=0;omega⟩
 unfold bitsL
 rw [if_pos hb]
 rfl
theorem bits18 {n:Int} (h:0≤n∧n≤262143):bitsL n 18=[n/131072%2,n/65536%2,n/32768%2,n/16384%2,n/8192%2,n/4096%2,n/2048%2,n/1024%2,n/512%2,n/256%2,n/128%2,n/64%2,n/32%2,n/16%2,n/8%2,n/4%2,n/2%2,n/1%2]:=by
 have hb:bitOk n 18:=⟨by decide,h.1,by show n/262144=0;omega⟩
 unfold bitsL
 rw [if_pos hb]
 rfl
theorem lens_bits {l:List Int} (h:CodeOk l):(0≤lnum l∧lnum l≤262143)∧l.flatMap (fun n=>bitsL n 3)=bitsL (lnum l) 18∧lensV (lnum l)=l:=by
 obtain ⟨a,b,c,d,e,f,rfl,ha,hb,hc,hd,he,hf⟩:=six_of h
 have en:lnum [a,b,c,d,e,f]=((((a*8+b)*8+c)*8+d)*8+e)*8+f:=rfl
 rw [en]
 refine ⟨by omega,?_,?_⟩
 ·rw [bits18 (by omega)]
  simp only [List.flatMap_cons,List.flatMap_nil,bits3 ha,bits3 hb,bits3 hc,bits3 hd,bits3 he,bits3 hf,List.cons_append,List.nil_append]
  simp only [List.cons.injEq,and_true]
  and_intros<;>omega
 ·show [_/(32768:Int)%8,_/(4096:Int)%8,_/(512:Int)%8,_/(64:Int)%8,_/(8:Int)%8,_/(1:Int)%8]=_
  simp only [List.cons.injEq,and_true]
  and_intros<;>omega
theorem two_bits (b d:Bool):[bif b then (1:Int) else 0,bif d then 1 else 0]=bitsL (2*(bif b then 1 else 0)+(bif d then 1 else 0)) 2∧bitOk (2*(bif b then 1 else 0)+(bif d then 1 else 0)) 2:=by cases b<;>cases d<;>decide
theorem fb_yes {p:List UInt8} {s n:Int} {k:Int→Int} (h:RbOk p s n) (hk:k (rbV p s n)=0):fbC p s 0 n k=0∧fbA p s 0 n k=rbA p s n∧fbV p s 0 n k=rbV p s n:=by
 have e1:fbC p s 0 n k=0:=by rw [fbC,if_pos rfl,if_pos h,hk]
 exact ⟨e1,by rw [fbA,if_pos ⟨rfl,e1⟩],by rw [fbV,if_pos e1]⟩
theorem hdL_parts {w h q:Int} {b d:Bool} {l:List Int} (hh:HdOk w h q l):hdL w h q b d l=bitsL 183 8++(ueL (w/8-1)++(ueL (h/8-1)++(bitsL q 6++(bitsL (2*(bif b then 1 else 0)+(bif d then 1 else 0)) 2++bitsL (lnum l) 18)))):=by
 unfold hdL
 rw [if_pos hh]
 unfold hdK hdB
 rw [List.take_length,(lens_bits hh.2.2).2.1,(two_bits b d).1]
 simp only [List.append_assoc]
theorem holds_hd {p:List UInt8} {s w h q:Int} {b d:Bool} {l:List Int} (hh:HdOk w h q l) (hp:Holds p s (hdL w h q b d l)):(hdS p s).a=s+(hdL w h q b d l).length∧(hdS p s).c=0∧(hdS p s).W=w∧(hdS p s).H=h∧(hdS p s).Q=q∧(hdS p s).B=b∧(hdS p s).D=d∧(hdS p s).L=l:=by
 have hw:=hd_ws hh.1
 have hs:=hh.1
 have hq:=hh.2.1
 have hlb:=lens_bits hh.2.2
 have hc:=hh.2.2
 have b6:bitOk q 6:=⟨by decide,hq.1,by show q/64=0;omega⟩
 have b18:bitOk (lnum l) 18:=⟨by decide,hlb.1.1,by show lnum l/262144=0;omega⟩
 rw [hdL_parts hh] at hp ⊢
 have h1:=holds_bits (by decide) (by decide) (holds_left hp)
 have p1:=holds_right hp
 rw [bits_len (by decide),←h1.2.1] at p1
 have h2:=holds_ue hw.1 (holds_left p1)
 have p2:=holds_right p1
 rw [←h2.2.1] at p2
 have h3:=holds_ue hw.2 (holds_left p2)
 have p3:=holds_right p2
 rw [←h3.2.1] at p3
 have h4:=holds_bits b6 (by decide) (holds_left p3)
 have p4:=holds_right p3
 rw [bits_len b6,←h4.2.1] at p4
 have h5:=holds_bits (two_bits b d).2 (by decide) (holds_left p4)
 have p5:=holds_right p4
 rw [bits_len (two_bits b d).2,←h5.2.1] at p5
 have h6:=holds_bits b18 (by decide) p5
 have f1:=fb_yes (k:=hk1) h1.1 (ifE_yes h1.2.2)
 have f2:=fu_yes (k:=hk2) h2.1 (ifE_yes (by rw [h2.2.2];omega))
 have f3:=fu_yes (k:=hk2) h3.1 (ifE_yes (by rw [h3.2.2];omega))
 have f4:=fb_yes (k:=hk3) h4.1 (ifE_yes (by rw [h4.2.2];omega))
 have f5:=fb_yes (k:=hk4) h5.1 rfl
 have f6:=fb_yes (k:=hk5) h6.1 (ifE_yes (by rw [h6.2.2,hlb.2.2];exact hc))
 have e:hdS p s=⟨rbA p (rbA p (rbA p (ueA p (ueA p (rbA p s 8))) 6) 2) 18,0,w/8-1,h/8-1,q,2*(bif b then 1 else 0)+(bif d then 1 else 0),lnum l⟩:=by
  unfold hdS
  simp only
  rw [f1.1,f1.2.1,f2.1,f2.2.1,f3.1,f3.2.1,f4.1,f4.2.1,f5.1,f5.2.1,f6.1,f6.2.1,f2.2.2,f3.2.2,f4.2.2,f5.2.2,f6.2.2,h2.2.2,h3.2.2,h4.2.2,h5.2.2,h6.2.2]
 rw [e]
 refine ⟨?_,rfl,?_,?_,?_,?_,?_,?_⟩
 ·simp only [List.length_append]
  have l1:=bits_len (n:=183) (w:=8) (by decide)
  have l2:=bits_len b6
  have l3:=bits_len (two_bits b d).2
  have l4:=bits_len b18
  omega
 ·show (if (0:Int)=0 then 8*(w/8-1+1) else 0)=w
  rw [if_pos rfl];omega
 ·show (if (0:Int)=0 then 8*(h/8-1+1) else 0)=h
  rw [if_pos rfl];omega
 ·rfl
 ·cases b<;>cases d<;>rfl
 ·cases b<;>cases d<;>rfl
 ·show (if (0:Int)=0 then lensV (lnum l) else [])=l
  rw [if_pos rfl,hlb.2.2]
theorem pad_end {b:List Int} (h:Bit01 b):endC (stopS b) b.length=0:=by
 have hh:=stop_holds h
 have hl:=padL_len b (padN b.length)
 have hm:=pad_mult b.length
 have hs:(stopS b).length=(padL b (padN b.length)).length/8:=strS_len _
 have h7:padN b.length≤7:=by unfold padN;omega
 have e:padL b (padN b.length)=b++([1]++List.replicate (padN b.length) 0):=by unfold padL;rw [List.append_assoc]
 have hr:=holds_right (e▸hh)
 rw [Int.zero_add] at hr
 have h1:=holds_left hr
 have h2:Holds (stopS b) ((b.length:Int)+1) (List.replicate (padN b.length) 0):=holds_right hr
 have hlf:=lft_ok (holds_rd h1)
 have hlf2:=lft_ok (holds_rd h2)
 unfold endC
 rw [if_neg (by omega),if_pos]
 refine ⟨by omega,(end_iff (holds_rd h1) (by omega)).2 ⟨?_,?_⟩⟩
 ·have:=h1.2.2 0 (by decide)
  simpa using this
 ·rw [zrs_eq (k:=padN b.length) (by omega) (fun j hj=>?_) (.inl (by omega))]
  ·omega
  ·have:=h2.2.2 j (by simpa using hj)
   rw [this]
   simp [List.getD_eq_getElem?_getD,List.getElem?_replicate,hj]
theorem parse_unp {w h q:Int} {b d:Bool} {l:List Int} {M:List Mbk} (hs:StOk w h q l M):prS (unpS w h q b d l M)=⟨w,h,q,b,d,l,M,(stK w h q b d l M M.length).length,0⟩:=by
 unfold unpS
 rw [if_pos hs]
 have hb:=b01_st w h q b d l M M.length
 have hh:=stop_holds hb
 unfold padL at hh
 have h0:=holds_left (holds_left hh)
 have he:=pad_end hb
 generalize hk:stK w h q b d l M M.length=x at*
 generalize hp:stopS x=p at*
 have e:x=hdL w h q b d l++M.flatMap (mbF l):=by rw [←hk];unfold stK;rw [List.take_length]
 rw [e] at h0
 have h1:=holds_hd hs.1 (holds_left h0)
 have h2:=holds_right h0
 have h3:=holds_mbs hs M.length (Nat.le_refl _) (by rw [List.take_length];exact h2)
 rw [List.take_length] at h3
 unfold prS
 simp only
 rw [if_pos h1.2.1,h1.1,h1.2.2.1,h1.2.2.2.1,h1.2.2.2.2.1,h1.2.2.2.2.2.1,h1.2.2.2.2.2.2.1,h1.2.2.2.2.2.2.2,show (cntM w h).toNat=M.length by have:=hs.2.1;omega,h3]
 simp only [if_true]
 have e2:(0:Int)+(hdL w h q b d l).length+(M.flatMap (mbF l)).length=x.length:=by rw [e,List.length_append];omega
 rw [e2,if_pos he]
end Go.Proofs.YtndflfipaddfoaaGreat


namespace Go.Proofs.YtndflfipaddfoaaGreat
open Go Go.Abs
attribute [local irreducible] WpA WpL Rnd Blk Abs.Seq Abs.Fin Abs.FinG FnC FnG Only
def sdV (p:List UInt8) (s:Int):Int:=if ueC p s=0∧ueV p s>3 then 0 else 8*ueV p s+8
def lnL (p:List UInt8) (s:Int):List Int:=if RbOk p s 18 then lensV (rbV p s 18) else []
attribute [local irreducible] rbA rbV ueA ueV ueC fuA fuC fuV fbA fbC fbV sdV lnL zrs numB lft hdS lensV
end Go.Proofs.YtndflfipaddfoaaGreat


namespace Go.Proofs.YtndflfipaddfoaaGreat
open Go Go.Abs
attribute [local irreducible] WpA WpL Rnd Blk Abs.Seq Abs.Fin Abs.FinG FnC FnG Only
theorem hdSL_len (x:HdS):x.L.length≤6:=by
 unfold HdS.L;split
 ·exact Nat.le_refl 6
 ·exact Nat.zero_le _
abbrev StV (x:PrS):AV:=.agg [I x.W,I x.H,I x.Q,B x.B,B x.D,.own 0 0 0 x.L.length,.own 1 0 0 x.ms.length]
def PrN (a c:Int):PrS:=⟨0,0,0,false,false,[],[],a,c⟩
theorem prS_1 {p:List UInt8} (h:(hdS p 0).c≠0):prS p=PrN (hdS p 0).a (hdS p 0).c:=by unfold prS;simp only;rw [if_neg h];rfl
theorem prS_2 {p:List UInt8} (h:(hdS p 0).c=0) (h2:(stRun p (hdS p 0).a (hdS p 0).L (cntM (hdS p 0).W (hdS p 0).H).toNat).c≠0):prS p=PrN (stRun p (hdS p 0).a (hdS p 0).L (cntM (hdS p 0).W (hdS p 0).H).toNat).a (stRun p (hdS p 0).a (hdS p 0).L (cntM (hdS p 0).W (hdS p 0).H).toNat).c:=by
 unfold prS;simp only;rw [if_pos h,if_neg h2];rfl
theorem prS_3 {p:List UInt8} (h:(hdS p 0).c=0) (h2:(stRun p (hdS p 0).a (hdS p 0).L (cntM (hdS p 0).W (hdS p 0).H).toNat).c=0) (h3:endC p (stRun p (hdS p 0).a (hdS p 0).L (cntM (hdS p 0).W (hdS p 0).H).toNat).a≠0):prS p=PrN (stRun p (hdS p 0).a (hdS p 0).L (cntM (hdS p 0).W (hdS p 0).H).toNat).a (endC p (stRun p (hdS p 0).a (hdS p 0).L (cntM (hdS p 0).W (hdS p 0).H).toNat).a):=by
 unfold prS;simp only;rw [if_pos h,if_pos h2,if_neg h3];rfl
theorem prS_4 {p:List UInt8} (h:(hdS p 0).c=0) (h2:(stRun p (hdS p 0).a (hdS p 0).L (cntM (hdS p 0).W (hdS p 0).H).toNat).c=0) (h3:endC p (stRun p (hdS p 0).a (hdS p 0).L (cntM (hdS p 0).W (hdS p 0).H).toNat).a=0):prS p=⟨(hdS p 0).W,(hdS p 0).H,(hdS p 0).Q,(hdS p 0).B,(hdS p 0).D,(hdS p 0).L,(stRun p (hdS p 0).a (hdS p 0).L (cntM (hdS p 0).W (hdS p 0).H).toNat).ms,(stRun p (hdS p 0).a (hdS p 0).L (cntM (hdS p 0).W (hdS p 0).H).toNat).a,0⟩:=by
 unfold prS;simp only;rw [if_pos h,if_pos h2,if_pos h3]
theorem stRun_next {p:List UInt8} {s:Int} {lens:List Int} {k:Nat} (h:(stRun p s lens k).c=0) (hb:(mbS p (stRun p s lens k).a lens).1.c=0):stRun p s lens (k+1)=⟨(mbS p (stRun p s lens k).a lens).1.a,0,(stRun p s lens k).ms++[((mbS p (stRun p s lens k).a lens).2,(mbS p (stRun p s lens k).a lens).1.bs)]⟩:=by
 rw [stRun];simp only;rw [if_pos h,if_pos hb]
theorem stRun_bad {p:List UInt8} {s:Int} {lens:List Int} {k:Nat} (h:(stRun p s lens k).c=0) (hb:(mbS p (stRun p s lens k).a lens).1.c≠0):∀j,k<j→stRun p s lens j=⟨(mbS p (stRun p s lens k).a lens).1.a,(mbS p (stRun p s lens k).a lens).1.c,[]⟩:=by
 intro j hj
 have e:stRun p s lens (k+1)=⟨(mbS p (stRun p s lens k).a lens).1.a,(mbS p (stRun p s lens k).a lens).1.c,[]⟩:=by
  rw [stRun];simp only;rw [if_pos h,if_neg hb]
 rw [stRun_stop (k:=k+1) (by rw [e];exact hb) j hj,e]
section
attribute [local irreducible] hdS stRun mbS endC cntM
instance Parse_c:Con 35 (∀ (p:List UInt8),p.length≤1099511627776→Fn 35 [Z p] [XI (prS p).L,MbO (prS p).ms] (.tup [StV (prS p),I (prS p).a,I (prS p).c])):=⟨fun p hl=>by
 have hr0:RdOk p 0:=⟨by omega,by omega⟩
 have hok:=hdS_ok hr0
 refine FnC.of_body tabOk Tryz.func35 Tryz.ntmps35 rfl (by decide +kernel) (by simp) fun G=>?_
 by_cases hc:(hdS p 0).c=0
 ·have hs:=hdS_sides hc
  have hL:=hdSL_len (hdS p 0)
  have e2:=prS_2 hc
  have e3:=prS_3 hc
  have e4:=prS_4 hc
  have hbd:=cntM_bd hs
  refine go (r:=?_);and_intros<;>intros<;>try exact True.intro
  all_goals first|contradiction|skip
  generalize hx:hdS p 0=x at hc hs hL e2 e3 e4 hbd hok ⊢
  have hz:stRun p x.a x.L 0=⟨x.a,0,[]⟩:=by rw [stRun]
  have hln:=fun k h=>stRun_len p x.a x.L k h
  have hok:=fun k=>stRun_ok (lens:=x.L) hok k
  have hnx:=fun k h hb=>stRun_next (p:=p) (s:=x.a) (lens:=x.L) (k:=k) h hb
  have hbd2:=fun k h hb j hj=>stRun_bad (p:=p) (s:=x.a) (lens:=x.L) (k:=k) h hb j hj
  generalize hN:cntM x.W x.H=N at hbd e2 e3 e4 ⊢
  generalize stRun p x.a x.L=X at hz hln hnx hbd2 hok e2 e3 e4 ⊢
  refine WpA.loop (fun k:Nat=>⟨[(2,.ptr 0 0 0),(5,.ptr 2 0 0),(6,.ptr 3 0 0),(8,.ptr 4 0 0),(29,I N),(30,I k)],[⟨[I 0,I 0,I 0,B false,B false,.nilS,.nilS],0,0,none⟩,XI x.L,⟨[Z p,I (X k).a],0,0,none⟩,⟨[I x.W,I x.H,I x.Q,B x.B,B x.D,.own 1 0 0 x.L.length],0,0,none⟩,⟨[I x.W,I x.H,I x.Q,B x.B,B x.D,.own 1 0 0 x.L.length,.own 5 0 0 k],0,0,none⟩,MbO (X k).ms]⟩) (fun k=>(k:Int)≤N∧(X k).c=0) (fun k=>N.toNat-k) 0 (by rw [hz];exact ⟨by omega,rfl⟩) ?_ (fun k hk=>?_)
  ·rw [hz];exact Weak.nil1 (by first|(show 0≤_;exact Nat.zero_le _)|(repeat' (first|exact RzT.nil|refine RzT.cons ?_ ?_|exact Rz.nil|refine Rz.keep rfl rfl ?_|refine Rz.own rfl rfl rfl rfl rfl (by first|rfl|omega|(simp;done)) ?_|refine Rz.ptr rfl rfl rfl rfl ?_|refine Rz.nilO rfl rfl rfl (by first|rfl|omega|(simp;done)) ?_|refine Rz.agg ?_ ?_|exact RzO.last rfl|(refine RzO.cons ?_ (.inr rfl) ?_)|exact Rz.same rfl (still_ints _)|exact Rz.same rfl (still_rows (fun _=>rfl) _)))) (by first|(show 0≤_;exact Nat.zero_le _)|(repeat' (first|exact RzT.nil|refine RzT.cons ?_ ?_|exact Rz.nil|refine Rz.keep rfl rfl ?_|refine Rz.own rfl rfl rfl rfl rfl (by first|rfl|omega|(simp;done)) ?_|refine Rz.ptr rfl rfl rfl rfl ?_|refine Rz.nilO rfl rfl rfl (by first|rfl|omega|(simp;done)) ?_|refine Rz.agg ?_ ?_|exact RzO.last rfl|(refine RzO.cons ?_ (.inr rfl) ?_)|exact Rz.same rfl (still_ints _)|exact Rz.same rfl (still_rows (fun _=>rfl) _)))) (Nat.zero_le _)
  have hln:=hln k hk.2
  have hnx:=hnx k hk.2
  have hbd2:=hbd2 k hk.2
  have hok:=hok k
  have hfin:¬(k:Int)<N→X N.toNat=X k:=fun h=>by rw [show N.toNat=k by omega]
  generalize hy:X k=y at hk hln hnx hbd2 hfin hok ⊢
  have hln:y.ms.length=k:=hln
  by_cases hlt:(k:Int)<N
  ·by_cases hb:(mbS p y.a x.L).1.c=0
   ·have hnx:=hnx hb
    clear hbd2 e2 e3 e4
    refine go (r:=?_);and_intros<;>intros<;>try exact True.intro
    all_goals first|contradiction|(rw [hnx];done)
   ·have hbd2:=hbd2 hb
    have e:=hbd2 N.toNat (by omega)
    rw [e2 (by rw [e];exact hb),e]
    clear hnx hbd2 e2 e3 e4
    refine go (r:=?_);and_intros<;>intros<;>try exact True.intro
    all_goals first|contradiction
  ·have hfin:=hfin hlt
   have hc2:(X N.toNat).c=0:=by rw [hfin];exact hk.2
   by_cases he:endC p y.a=0
   ·rw [e4 hc2 (by rw [hfin];exact he),hfin]
    clear e2 e3 e4 hnx hbd2
    refine go (r:=?_);and_intros<;>intros<;>try exact True.intro
    all_goals first|contradiction|exact hok
   ·rw [e3 hc2 (by rw [hfin];exact he),hfin]
    clear e2 e3 e4 hnx hbd2
    refine go (r:=?_);and_intros<;>intros<;>try exact True.intro
    all_goals first|contradiction|exact hok
 ·rw [prS_1 hc]
  refine goR (r:=?_);and_intros<;>intros<;>try exact True.intro
  refine WpA.weak (σ':=⟨[(2,.ptr 0 0 0),(5,.ptr 2 0 0),(7,I (hdS p 0).c)],[⟨[I 0,I 0,I 0,B false,B false,.nilS,.nilS],0,0,none⟩,XI (hdS p 0).L,⟨[Z p,I (hdS p 0).a],0,0,none⟩]⟩) (Weak.mk (by repeat (first|exact ReT.nil|refine ReT.cons (.keep rfl rfl .nil) ?_|refine ReT.cons (.own rfl rfl rfl rfl rfl rfl .nil) ?_|refine ReT.cons (.ptr rfl rfl rfl rfl .nil) ?_|refine ReT.cons (.keep (congrArg (fun z=>AV.sc (Value.int .i64 z)) (by first|omega|(skip))) rfl .nil) ?_|refine ReT.cons (.keep (congrArg (fun z:List UInt8=>AV.sc (Value.string ⟨z.toArray⟩)) (by skip)) rfl .nil) ?_|refine ReT.cons (.own rfl rfl rfl rfl rfl (by first|omega|(simp;done)|(simp;omega)) .nil) ?_)) (by repeat (first|exact ReO.nil|refine ReO.cons (Re.same rfl (still_ints _)) (by simp) ?_|refine ReO.cons (Re.same rfl rfl) (by simp) ?_)) (Nat.zero_le _)) ?_
  refine go (r:=?_);and_intros<;>intros<;>try exact True.intro
  all_goals first|contradiction⟩
end
end Go.Proofs.YtndflfipaddfoaaGreat


namespace Go.Proofs.YtndflfipaddfoaaGreat
open Go Go.Abs
theorem ifE_of {b:Prop} [Decidable b] {e:Int} (he:e≠0) (h:ifE b e=0):b:=by
 refine Decidable.byContradiction fun hn=>?_
 rw [ifE_no hn] at h;exact he h
theorem fuC_0 {p:List UInt8} {s c:Int} {k:Int→Int} (h:fuC p s c k=0):c=0∧k (ueV p s)=0∧fuV p s c k=ueV p s:=by
 have hv:fuV p s c k=ueV p s:=by unfold fuV;rw [if_pos h]
 unfold fuC at h
 split at h
 ·rename_i hc
  split at h
  ·exact ⟨hc,h,hv⟩
  ·rename_i hu;exact absurd h hu
 ·rename_i hc;exact absurd h hc
theorem fbC_0 {p:List UInt8} {s c n:Int} {k:Int→Int} (h:fbC p s c n k=0):c=0∧k (rbV p s n)=0∧fbV p s c n k=rbV p s n:=by
 have hv:fbV p s c n k=rbV p s n:=by unfold fbV;rw [if_pos h]
 unfold fbC at h
 split at h
 ·rename_i hc
  split at h
  ·exact ⟨hc,h,hv⟩
  ·exact absurd h (by decide)
 ·rename_i hc;exact absurd h hc
theorem lvStep_in {p:List UInt8} {nn:Int} {x:LvS} (h:In x.out (-16383) 16383):In (lvStep p nn x).out (-16383) 16383:=by
 unfold lvStep;split
 ·simp only
  split
  ·rename_i hc
   have h2:=fuC_0 hc
   have h3:=ifE_of (by decide) h2.2.1
   unfold In at h ⊢
   intro v hv
   rcases List.mem_or_eq_of_mem_set hv with h4|h4
   ·exact h v h4
   ·rw [h4,h2.2.2];exact h3
  ·exact h
 ·exact h
theorem lvRun_in {p:List UInt8} {nn:Int} {x:LvS} (h:In x.out (-16383) 16383):∀k,In (lvRun p nn x k).out (-16383) 16383
 |0=>h
 |k+1=>by rw [lvRun];exact lvStep_in (lvRun_in h k)
theorem lvS_in (p:List UInt8) (s n:Int):In (lvS p s n).out (-16383) 16383:=by
 have hz:In (List.replicate (n*n).toNat (0:Int)) (-16383) 16383:=by
  unfold In
  intro v hv
  rw [List.eq_of_mem_replicate hv];decide
 unfold lvS;simp only;split
 ·exact hz
 ·exact lvRun_in hz _
theorem blS_good {p:List UInt8} {s:Int} {lens:List Int} {n:Int} (h:(blS p s lens n).c=0):BlkOk (blS p s lens n).m (blS p s lens n).l lens n:=by
 unfold blS at h ⊢
 split at h
 ·rename_i hn
  rw [if_pos hn]
  split at h
  ·rename_i hc
   rw [if_pos hc]
   simp only at h ⊢
   split at h
   ·rename_i hx
    rw [if_pos hx]
    have hcd:CodeOk lens∧symM p s lens<6:=by
     have h0:=hc
     unfold smC at h0
     split at h0
     ·rename_i h1
      split at h0
      ·exact ⟨h1,by assumption⟩
      ·exact absurd h0 (by decide)
     ·exact absurd h0 (by decide)
    have hs:=symM_lt hcd.2
    have hl:=lvS_len p (smA p s lens) n
    refine ⟨hn,⟨hcd.1,?_,?_⟩,?_,lvS_in _ _ _,?_⟩
    ·show 0≤smV p s lens∧smV p s lens≤5
     rw [smV,if_pos hc];omega
    ·show lens.getD (smV p s lens).toNat 0≠0
     rw [smV,if_pos hc,Int.toNat_natCast]
     have:=hs.1;omega
    ·show ((lvS p (smA p s lens) n).out.length:Int)=n*n
     rw [hl];rcases hn with rfl|rfl<;>decide
    ·show (lvS p (smA p s lens) n).out.length=16∨(lvS p (smA p s lens) n).out.length=64
     rw [hl];rcases hn with rfl|rfl<;>decide
   ·rename_i hx;exact absurd h hx
  ·rename_i hc;exact absurd h hc
 ·exact absurd (show (5:Int)=0 from h) (by decide)
theorem mbRun_good {p:List UInt8} {s:Int} {lens:List Int} {n:Int}:∀k,(mbRun p s lens n k).c=0→(mbRun p s lens n k).bs.length=k∧∀b∈(mbRun p s lens n k).bs,BlkOk b.1 b.2 lens n
 |0,_=>⟨rfl,fun b hb=>by simp [mbRun] at hb⟩
 |k+1,h=>by
  have ih:=mbRun_good (p:=p) (s:=s) (lens:=lens) (n:=n) k
  rw [mbRun] at h ⊢
  simp only at h ⊢
  split at h
  ·rename_i hx
   rw [if_pos hx]
   have ih:=ih hx
   split at h
   ·rename_i hb
    rw [if_pos hb]
    refine ⟨by simp [ih.1],fun b hm=>?_⟩
    simp only [List.mem_append,List.mem_singleton] at hm
    rcases hm with hm|hm
    ·exact ih.2 b hm
    ·rw [hm];exact blS_good hb
   ·rename_i hb;exact absurd h hb
  ·rename_i hx;exact absurd h hx
theorem mbS_good {p:List UInt8} {s:Int} {lens:List Int} (h:(mbS p s lens).1.c=0):MbkOk (mbS p s lens).2 (mbS p s lens).1.bs lens:=by
 unfold mbS at h ⊢
 split at h
 ·rename_i ho
  rw [if_pos ho]
  simp only at h ⊢
  have hg:=mbRun_good _ h
  rw [decide_eq_true h]
  show MbkOk (decide (rbV p s 1=1)) _ lens
  generalize decide (rbV p s 1=1)=e at*
  refine ⟨?_,?_⟩
  ·rw [hg.1];cases e<;>rfl
  ·rw [List.any_eq_false]
   intro b hb
   have:=hg.2 b hb
   unfold badB
   simp only [decide_eq_true_eq,Decidable.not_not]
   cases e<;>exact this
 ·exact absurd (show (1:Int)=0 from h) (by decide)
theorem stRun_good {p:List UInt8} {s:Int} {lens:List Int}:∀k,(stRun p s lens k).c=0→∀m∈(stRun p s lens k).ms,MbkOk m.1 m.2 lens
 |0,_,m,hm=>by simp [stRun] at hm
 |k+1,h,m,hm=>by
  have ih:=stRun_good (p:=p) (s:=s) (lens:=lens) k
  rw [stRun] at h hm
  simp only at h hm
  split at h
  ·rename_i hx
   rw [if_pos hx] at hm
   split at h
   ·rename_i hb
    rw [if_pos hb] at hm
    simp only [List.mem_append,List.mem_singleton] at hm
    rcases hm with hm|hm
    ·exact ih hx m hm
    ·rw [hm];exact mbS_good hb
   ·rename_i hb;exact absurd h hb
  ·rename_i hx;exact absurd h hx
theorem hdS_good {p:List UInt8} {s:Int} (h:(hdS p s).c=0):HdOk (hdS p s).W (hdS p s).H (hdS p s).Q (hdS p s).L:=by
 refine ⟨hdS_sides h,?_,?_⟩
 ·rw [HdS.Q,if_pos h]
  have h0:0≤(hdS p s).q:=by unfold hdS;exact (fbV_bd _ _ _ _ _).1
  refine ⟨h0,?_⟩
  unfold hdS at h ⊢
  simp only at h ⊢
  have h6:=fbC_0 h
  have h5:=fbC_0 h6.1
  have h4:=fbC_0 h5.1
  rw [h4.2.2]
  exact ifE_of (by decide) h4.2.1
 ·rw [HdS.L,if_pos h]
  unfold hdS at h ⊢
  simp only at h ⊢
  have h6:=fbC_0 h
  rw [h6.2.2]
  exact ifE_of (by decide) h6.2.1
theorem prS_good {p:List UInt8} (h:(prS p).c=0):StOk (prS p).W (prS p).H (prS p).Q (prS p).L (prS p).ms:=by
 by_cases h1:(hdS p 0).c=0
 ·by_cases h2:(stRun p (hdS p 0).a (hdS p 0).L (cntM (hdS p 0).W (hdS p 0).H).toNat).c=0
  ·by_cases h3:endC p (stRun p (hdS p 0).a (hdS p 0).L (cntM (hdS p 0).W (hdS p 0).H).toNat).a=0
   ·have hg:=hdS_good h1
    have hcm:=cntM_bd hg.1
    have hl:=stRun_len p _ _ _ h2
    rw [prS_4 h1 h2 h3]
    refine ⟨hg,?_,?_⟩
    ·show ((stRun p (hdS p 0).a (hdS p 0).L (cntM (hdS p 0).W (hdS p 0).H).toNat).ms.length:Int)=cntM (hdS p 0).W (hdS p 0).H
     rw [hl];omega
    ·rw [List.any_eq_false]
     intro m hm
     have:=stRun_good _ h2 m hm
     unfold badM
     simp only [decide_eq_true_eq,Decidable.not_not]
     exact this
   ·rw [prS_3 h1 h2 h3] at h;exact absurd h h3
  ·rw [prS_2 h1 h2] at h;exact absurd h h2
 ·rw [prS_1 h1] at h;exact absurd h h1
end Go.Proofs.YtndflfipaddfoaaGreat


namespace Go.Proofs.YtndflfipaddfoaaGreat
open Go Go.Abs
theorem holds_app {p:List UInt8} {s:Int} {a b:List Int} (h1:Holds p s a) (h2:Holds p (s+a.length) b):Holds p s (a++b):=by
 refine ⟨h1.1,?_,fun k hk=>?_⟩
 ·rw [List.length_append];have:=h2.2.1;omega
 ·rcases Nat.lt_or_ge k a.length with hk2|hk2
  ·rw [h1.2.2 k hk2];simp [List.getD_eq_getElem?_getD,List.getElem?_append_left hk2]
  ·have h3:=h2.2.2 (k-a.length) (by rw [List.length_append] at hk;omega)
   rw [show s+(a.length:Int)+((k-a.length:Nat):Int)=s+(k:Nat) by omega] at h3
   rw [h3];simp [List.getD_eq_getElem?_getD,List.getElem?_append_right hk2]
theorem holds_0 {p:List UInt8} {s:Int} (h:RdOk p s):Holds p s []:=⟨h.1,by have:=h.2;simp;omega,fun k hk=>by cases hk⟩
theorem bt_num {p:List UInt8} {s:Int} {w:Nat} (h0:0≤s) (hl:s+w≤8*(p.length:Int)) (j:Nat) (hj:j<w):numB p s w/2 ^ (w-1-j)%2=btA p (s+(j:Nat)):=by
 obtain ⟨r,hr⟩:∃r,w=(j+1)+r:=⟨w-(j+1),by omega⟩
 have e1:w-1-j=r:=by omega
 rw [e1,hr,numB_add p s (j+1) r]
 have hb:=numB_bd p (s+((j+1:Nat):Int)) r
 have hp:(0:Int)<2 ^ r:=Int.pow_pos (by decide)
 rw [Int.add_comm,Int.add_mul_ediv_right _ _ (Int.ne_of_gt hp),Int.ediv_eq_zero_of_lt hb.1 hb.2,Int.zero_add,numB]
 have h1:=btA_out p (s+(j:Nat))
 have h2:=btA_bd p (s+(j:Nat))
 unfold bv
 omega
theorem num_ok {p:List UInt8} {s:Int} {w:Nat} (hw:w≤48):bitOk (numB p s w) (w:Int):=by
 have hb:=numB_bd p s w
 refine ⟨⟨by omega,by omega⟩,hb.1,?_⟩
 rw [Int.toNat_natCast]
 exact Int.ediv_eq_zero_of_lt hb.1 hb.2
theorem num_holds {p:List UInt8} {s:Int} {w:Nat} (hw:w≤48) (h0:0≤s) (hl:s+w≤8*(p.length:Int)):Holds p s (bitsL (numB p s w) (w:Int)):=by
 have ho:=num_ok (p:=p) (s:=s) hw
 have hlen:=bits_len ho
 refine ⟨h0,by omega,fun k hk=>?_⟩
 have hk2:k<w:=by omega
 rw [bitsL,if_pos ho,Int.toNat_natCast]
 rw [←bt_num h0 hl k hk2]
 simp [bitsR,List.getD_eq_getElem?_getD,hk2]
theorem rb_holds {p:List UInt8} {s n:Int} (h:RbOk p s n):Holds p s (bitsL (rbV p s n) n)∧rbA p s n=s+(bitsL (rbV p s n) n).length∧bitOk (rbV p s n) n:=by
 obtain ⟨w,rfl⟩:∃w:Nat,n=w:=⟨n.toNat,by have:=h.2.1;omega⟩
 have hl:=lft_ok h.1
 have h2:=h.2
 have e:=rb_yes h
 rw [Int.toNat_natCast] at e
 rw [e.1,e.2]
 have ho:=num_ok (p:=p) (s:=s) (w:=w) (by omega)
 exact ⟨num_holds (by omega) h.1.1 (by omega),by rw [bits_len ho],ho⟩
theorem ue_holds {p:List UInt8} {s:Int} (h:ueC p s=0):Holds p s (ueL (ueV p s))∧ueA p s=s+(ueL (ueV p s)).length∧0≤ueV p s∧ueV p s≤65534:=by
 have h15:zrs p s≤15:=by
  refine Decidable.byContradiction fun hn=>?_
  rw [(ue_code hn).2.1] at h;cases h
 have hok:RbOk p s (2*(zrs p s:Int)+1):=by
  refine Decidable.byContradiction fun hn=>?_
  rw [(ue_short h15 hn).2.1] at h;cases h
 have hy:=ue_yes h15 hok
 have hlo:=lft_ok hok.1
 have hst:=zrs_stop p s
 have hz0:=fun j hj=>zrs_zero (p:=p) (s:=s) (j:=j) hj
 generalize hz:zrs p s=z at*
 have hbo:=btA_out p (s+(z:Nat))
 have hbd:=btA_bd p (s+(z:Nat))
 have hb1:btA p (s+(z:Nat))=1:=by
  rcases hst with h|h
  ·have:=hok.2.2;omega
  ·have:=hok.2.2;have:=hok.1.1;omega
 have e:numB p s (z+1+z)=numB p s (z+1)*2 ^ z+numB p (s+((z+1:Nat):Int)) z:=numB_add p s (z+1) z
 have h1:=numB_bd p (s+((z+1:Nat):Int)) z
 have h3:numB p s (z+1)=numB p s z*2+bv p (s+(z:Nat)):=rfl
 have h4:bv p (s+(z:Nat))=1:=by unfold bv;omega
 have h5:numB p s z=0:=(numB_zero p s z).2 fun j hj=>by have:=hz0 j hj;unfold bv;omega
 have h6:numB p s (z+1+z)=2 ^ z+numB p (s+((z+1:Nat):Int)) z:=by rw [e,h3,h4,h5];omega
 have e7:(2*(z:Int)+1).toNat=z+1+z:=by omega
 rw [e7] at hy
 obtain ⟨m,hm⟩:∃m:Nat,numB p (s+((z+1:Nat):Int)) z=m:=⟨(numB p (s+((z+1:Nat):Int)) z).toNat,by omega⟩
 obtain ⟨q,hq⟩:∃q:Nat,2 ^ z=q:=⟨_,rfl⟩
 have hq2:(2:Int) ^ z=(q:Int):=by rw [←hq];simp
 rw [hm,hq2] at h1 h6
 have hq1:1≤q:=by rw [←hq];exact Nat.pow_pos (by decide)
 have hV:ueV p s=((q+m-1:Nat):Int):=by rw [hy.2.2,h6];omega
 have hlog:Nat.log2 (q+m-1+1)=z:=by
  have:(Nat.log2 (q+m-1+1)=z):=(Nat.log2_eq_iff (by omega)).2 ⟨by rw [hq];omega,by rw [Nat.pow_succ,hq];omega⟩
  exact this
 have hq15:q≤32768:=by rw [←hq];exact Nat.pow_le_pow_right (by decide) (show z≤15 by omega)
 have hm2:q+m-1≤65534:=by omega
 have hw:=ueL_wide hm2
 rw [hlog] at hw
 have hh:=num_holds (p:=p) (s:=s) (w:=z+1+z) (by omega) hok.1.1 (by have:=hok.2.2;omega)
 have ho:=num_ok (p:=p) (s:=s) (w:=z+1+z) (by omega)
 have hlen:=bits_len ho
 rw [h6] at hh hlen
 rw [show ((z+1+z:Nat):Int)=((2*z+1:Nat):Int) by omega,show (q:Int)+(m:Int)=((q+m-1:Nat):Int)+1 by omega,hw,←hV] at hh hlen
 exact ⟨hh,by rw [hy.1];omega,by rw [hV];omega,by rw [hV];omega⟩
theorem fuC_ue {p:List UInt8} {s c:Int} {k:Int→Int} (h:fuC p s c k=0):ueC p s=0∧fuA p s c k=ueA p s:=by
 have ha:fuA p s c k=ueA p s:=by rw [fuA,if_pos h]
 unfold fuC at h
 split at h
 ·split at h
  ·exact ⟨by assumption,ha⟩
  ·exact ⟨h,ha⟩
 ·rename_i hc;exact absurd h hc
theorem fbC_rb {p:List UInt8} {s c n:Int} {k:Int→Int} (h:fbC p s c n k=0):RbOk p s n∧fbA p s c n k=rbA p s n:=by
 have h0:=(fbC_0 h).1
 have ha:fbA p s c n k=rbA p s n:=by rw [fbA,if_pos ⟨h0,h⟩]
 rw [fbC,if_pos h0] at h
 split at h
 ·exact ⟨by assumption,ha⟩
 ·exact absurd h (by decide)
theorem sym_holds {p:List UInt8} {s:Int} {l:List Int} (h:smC p s l=0):HasC l (smV p s l)∧Holds p s (symL l (smV p s l))∧smA p s l=s+(symL l (smV p s l)).length:=by
 have hcd:CodeOk l∧symM p s l<6:=by
  have h0:=h
  unfold smC at h0
  split at h0
  ·rename_i h1
   split at h0
   ·exact ⟨h1,by assumption⟩
   ·exact absurd h0 (by decide)
  ·exact absurd h0 (by decide)
 have hs:=symM_lt hcd.2
 have hv:smV p s l=symM p s l:=by rw [smV,if_pos h]
 have hH:HasC l (smV p s l):=⟨hcd.1,by rw [hv];omega,by rw [hv,Int.toNat_natCast];have:=hs.1;omega⟩
 have hrb:=rb_holds hs.2.1
 have hlen:=symL_len l (smV p s l)
 rw [if_pos hH] at hlen
 have e:symL l (smV p s l)=bitsL (rbV p s (l.getD (symM p s l) 0)) (l.getD (symM p s l) 0):=by
  rw [symL,if_pos hH,hv,Int.toNat_natCast,(rb_yes hs.2.1).2,hs.2.2]
 refine ⟨hH,by rw [e];exact hrb.1,?_⟩
 rw [smA,if_pos h,hlen,hv,Int.toNat_natCast]
theorem nol_lv {u:Int} (h:0≤u):nolL (lvOf u)=u∧lvOf u≠0:=by unfold lvOf nolL;constructor<;>split<;>(try split)<;>(try split)<;>omega
theorem pair_holds {p:List UInt8} {s room:Int} (h:pvC p s room=0):Holds p s (prB (pvR p s room,pvL p s room))∧pvA p s room=s+(prB (pvR p s room,pvL p s room)).length∧(0≤pvR p s room∧pvR p s room<room)∧pvL p s room≠0:=by
 have h':=h
 unfold pvC at h'
 have a1:=fuC_0 h'
 have a2:=fuC_ue h'
 have b1:=fuC_0 a1.1
 have b2:=fuC_ue a1.1
 rw [b2.2] at a1 a2
 have u1:=ue_holds b2.1
 have u2:=ue_holds a2.1
 have r1:ueV p s<room:=ifE_of (e:=5) (by decide) b1.2.1
 have r2:-16383≤lvOf (ueV p (ueA p s))∧lvOf (ueV p (ueA p s))≤16383:=ifE_of (e:=5) (by decide) a1.2.1
 have h5:=pv_5 b2.1 r1 a2.1 r2
 have hn:=nol_lv u2.2.2.1
 rw [h5.1,h5.2.2.1,h5.2.2.2]
 unfold prB
 simp only
 rw [hn.1]
 refine ⟨holds_app u1.1 (by rw [←u1.2.1];exact u2.1),?_,⟨u1.2.2.1,r1⟩,hn.2⟩
 rw [u2.2.1,u1.2.1,List.length_append];omega
theorem pk_same {a b:List Int}:∀k,(∀ j<k,a.getD j 0=b.getD j 0)→pk a k=pk b k
 |0,_=>rfl
 |k+1,h=>by rw [pk,pk,pk_same k fun j hj=>h j (by omega),h k (by omega)]
theorem pk_zero {a:List Int} {k:Nat}:∀r,(∀ j<r,a.getD (k+j) 0=0)→pk a (k+r)=((pk a k).1,(pk a k).2+r)
 |0,_=>by simp
 |r+1,h=>by
  rw [←Nat.add_assoc,pk,if_pos (h r (by omega)),pk_zero r fun j hj=>h j (by omega)]
  simp only [Prod.mk.injEq,true_and];omega
theorem getD_set_ne' {l:List Int} {i j:Nat} {v:Int} (h:i≠j):(l.set i v).getD j 0=l.getD j 0:=by
 simp [List.getD_eq_getElem?_getD,List.getElem?_set_ne h]
theorem getD_set_eq' {l:List Int} {i:Nat} {v:Int} (h:i<l.length):(l.set i v).getD i 0=v:=by
 simp [List.getD_eq_getElem?_getD,h]
theorem getD_rep0 (n j:Nat):(List.replicate n (0:Int)).getD j 0=0:=by
 rw [List.getD_eq_getElem?_getD,List.getElem?_replicate];split<;>rfl
theorem run_holds {p:List UInt8} {s:Int} {nn:Nat} (hr:RdOk p s):∀k,(lvRun p nn ⟨s,0,0,List.replicate nn 0⟩ k).c=0→
 let x:=lvRun p nn ⟨s,0,0,List.replicate nn 0⟩ k
 (∀ j,x.at_≤(j:Nat)→x.out.getD j 0=0)∧(pk x.out x.at_.toNat).2=0∧Holds p s ((pk x.out x.at_.toNat).1.flatMap prB)∧x.a=s+((pk x.out x.at_.toNat).1.flatMap prB).length∧(pk x.out x.at_.toNat).1.length=k
 |0,_=>by
  simp only [lvRun]
  exact ⟨fun j _=>getD_rep0 nn j,rfl,holds_0 hr,by simp [pk],rfl⟩
 |k+1,h=>by
  have ih:=run_holds (nn:=nn) hr k
  have hat:=lvRun_at (p:=p) (nn:=nn) (x:=⟨s,0,0,List.replicate nn 0⟩) ⟨by simp,by simp⟩ k
  have hln:=lvRun_len p nn ⟨s,0,0,List.replicate nn 0⟩ k
  rw [List.length_replicate] at hln
  rw [lvRun] at h ⊢
  generalize lvRun p nn ⟨s,0,0,List.replicate nn 0⟩ k=x at*
  obtain ⟨xa,xc,xat,xo⟩:=x
  replace hat:0≤xat∧xat≤(nn:Int):=hat
  replace hln:xo.length=nn:=hln
  by_cases hc:xc=0
  ·have ih:=ih hc
   simp only at ih
   obtain ⟨i1,i2,i3,i4,i5⟩:=ih
   by_cases hp:pvC p xa (nn-xat)=0
   ·have hq:=pair_holds hp
    rw [lvStep_pv0 hc hp] at h ⊢
    simp only
    generalize pvR p xa (nn-xat)=r at*
    generalize pvL p xa (nn-xat)=v at*
    obtain ⟨a,rfl⟩:∃a:Nat,xat=a:=⟨xat.toNat,by omega⟩
    obtain ⟨r',hr'⟩:∃r':Nat,r=r':=⟨r.toNat,by omega⟩
    subst hr'
    have e1:((a:Int)+(r':Int)+1).toNat=a+r'+1:=by omega
    have e2:((a:Int)+(r':Int)).toNat=a+r':=by omega
    rw [e1,e2]
    rw [Int.toNat_natCast] at i2 i3 i4 i5
    have hlt:a+r'<xo.length:=by omega
    have hz:=pk_zero (a:=xo) (k:=a) r' fun j _=>i1 (a+j) (by omega)
    have hs:=pk_same (a:=xo.set (a+r') v) (b:=xo) (a+r') fun j hj=>getD_set_ne' (by omega)
    have he:pk (xo.set (a+r') v) (a+r'+1)=((pk xo a).1++[((r':Int),v)],0):=by
     rw [pk,getD_set_eq' hlt,if_neg hq.2.2.2,hs,hz,i2];simp
    rw [he]
    simp only [List.flatMap_append,List.flatMap_cons,List.flatMap_nil,List.append_nil,List.length_append,List.length_singleton]
    refine ⟨fun j hj=>?_,trivial,holds_app i3 (by rw [←i4];exact hq.1),?_,by omega⟩
    ·rw [getD_set_ne' (by omega)];exact i1 j (by omega)
    ·rw [hq.2.1,i4];omega
   ·rw [(lvStep_pv1 hc hp).2.1] at h;exact absurd h hp
  ·rw [lvStep_no hc] at h;exact absurd h hc
theorem rb1 {p:List UInt8} {s:Int} (h:RbOk p s 1):(rbV p s 1=0∨rbV p s 1=1)∧Holds p s [rbV p s 1]∧rbA p s 1=s+1:=by
 have hb:=rb_holds h
 have e:=(rb_yes h).2
 have hb2:=numB_bd p s 1
 have e1:(1:Int).toNat=1:=rfl
 rw [e1] at e
 have hv:rbV p s 1=0∨rbV p s 1=1:=by omega
 refine ⟨hv,?_,(rb_yes h).1⟩
 have e2:bitsL (rbV p s 1) 1=[rbV p s 1]:=by rcases hv with h|h<;>rw [h]<;>rfl
 rw [←e2];exact hb.1
def lvBt (l:List Int):List Int:=if (prsL l).length=0 then [0] else [1]++ueL ((prsL l).length-1)++(prsL l).flatMap prB
theorem lv_holds {p:List UInt8} {s n:Int} (hn:n=4∨n=8) (hr:RdOk p s) (h:(lvS p s n).c=0):Holds p s (lvBt (lvS p s n).out)∧(lvS p s n).a=s+(lvBt (lvS p s n).out).length:=by
 have hlk:LvOk (lvS p s n).out:=by
  refine ⟨lvS_in _ _ _,?_⟩
  rw [lvS_len p s n];rcases hn with rfl|rfl<;>decide
 have hps:prsL (lvS p s n).out=(pk (lvS p s n).out (lvS p s n).out.length).1:=by unfold prsL;rw [if_pos hlk]
 have hln:=lvS_len p s n
 obtain ⟨nn,hnn⟩:∃nn:Nat,n*n=nn:=⟨(n*n).toNat,by rcases hn with rfl|rfl<;>rfl⟩
 by_cases h1:RbOk p s 1
 ·have hb:=rb1 h1
  by_cases h2:rbV p s 1=0
  ·have e:=lv_2 (n:=n) h1 h2
   rw [e] at hps ⊢
   simp only at hps ⊢
   have hz:prsL (List.replicate (n*n).toNat 0)=[]:=by
    rw [hps,List.length_replicate]
    have:=pk_zero (a:=List.replicate (n*n).toNat 0) (k:=0) (n*n).toNat fun j _=>getD_rep0 _ _
    rw [Nat.zero_add] at this
    rw [this];rfl
   unfold lvBt
   rw [hz,if_pos (List.length_nil (α:=Int×Int))]
   rw [h2] at hb
   exact ⟨hb.2.1,hb.2.2⟩
  ·by_cases h3:ueC p (rbA p s 1)=0
   ·by_cases h4:ueV p (rbA p s 1)<n*n
    ·have e:=lv_5 h1 h2 h3 h4
     have hu:=ue_holds h3
     rw [e] at h hps hln ⊢
     simp only [hnn,Int.toNat_natCast] at h hps hln ⊢
     have hh:=run_holds (nn:=nn) ((by rw [hu.2.1];exact ⟨by have:=hu.1.1;omega,hu.1.2.1⟩:RdOk p (ueA p (rbA p s 1)))) _ h
     have hat:=lvRun_at (p:=p) (nn:=nn) (x:=⟨ueA p (rbA p s 1),0,0,List.replicate nn 0⟩) ⟨by simp,by simp⟩ (1+ueV p (rbA p s 1)).toNat
     generalize lvRun p nn ⟨ueA p (rbA p s 1),0,0,List.replicate nn 0⟩ (1+ueV p (rbA p s 1)).toNat=x at*
     simp only at hh
     obtain ⟨i1,i2,i3,i4,i5⟩:=hh
     have e2:prsL x.out=(pk x.out x.at_.toNat).1:=by
      rw [hps,hln,show nn=x.at_.toNat+(nn-x.at_.toNat) by omega,pk_zero _ fun j _=>i1 _ (by omega)]
     rw [←e2] at i3 i4 i5
     have hv1:rbV p s 1=1:=by rcases hb.1 with h|h;exact absurd h h2;exact h
     rw [hv1] at hb
     unfold lvBt
     rw [if_neg (by omega),show ((prsL x.out).length:Int)-1=ueV p (rbA p s 1) by omega]
     refine ⟨holds_app (holds_app hb.2.1 (by rw [show s+(([1]:List Int).length:Int)=rbA p s 1 by rw [hb.2.2];rfl];exact hu.1)) (by rw [List.length_append,show s+((([1]:List Int).length+(ueL (ueV p (rbA p s 1))).length:Nat):Int)=ueA p (rbA p s 1) by rw [hu.2.1,hb.2.2];simp only [List.length_singleton];omega];exact i3),?_⟩
     rw [i4,hu.2.1,hb.2.2]
     simp only [List.length_append,List.length_singleton]
     omega
    ·rw [lv_4 h1 h2 h3 h4] at h;cases h
   ·rw [lv_3 h1 h2 h3] at h;exact absurd h h3
 ·rw [lv_1 h1] at h;cases h
theorem bkL_eq {m n:Int} {lv lens:List Int} (h:BlkOk m lv lens n):bkL m lv lens n=symL lens m++lvBt lv:=by
 unfold bkL lvBt
 rw [if_pos h]
 split
 ·rfl
 ·unfold bkK;rw [List.take_length];simp only [List.append_assoc]
theorem blk_holds {p:List UInt8} {s n:Int} {lens:List Int} (hr:RdOk p s) (h:(blS p s lens n).c=0):Holds p s (bkL (blS p s lens n).m (blS p s lens n).l lens n)∧(blS p s lens n).a=s+(bkL (blS p s lens n).m (blS p s lens n).l lens n).length:=by
 have hg:=blS_good h
 rw [bkL_eq hg]
 unfold blS at h ⊢
 rw [if_pos hg.1] at h ⊢
 split at h
 ·rename_i hc
  rw [if_pos hc]
  simp only at h ⊢
  split at h
  ·rename_i hx
   rw [if_pos hx]
   have h1:=sym_holds hc
   have h2:=lv_holds hg.1 (smA_ok hr) hx
   refine ⟨holds_app h1.2.1 (by rw [←h1.2.2];exact h2.1),?_⟩
   have e1:=h2.2
   have e2:=h1.2.2
   simp only [List.length_append]
   omega
  ·rename_i hx;exact absurd h hx
 ·rename_i hc;exact absurd h hc
theorem mbr_holds {p:List UInt8} {s:Int} {lens:List Int} {n:Int} (hr:RdOk p s):∀k,(mbRun p s lens n k).c=0→Holds p s ((mbRun p s lens n k).bs.flatMap fun b=>bkL b.1 b.2 lens n)∧(mbRun p s lens n k).a=s+((mbRun p s lens n k).bs.flatMap fun b=>bkL b.1 b.2 lens n).length
 |0,_=>⟨holds_0 hr,by simp [mbRun]⟩
 |k+1,h=>by
  have ih:=mbr_holds (lens:=lens) (n:=n) hr k
  have hrk:=mbRun_ok (lens:=lens) (n:=n) hr k
  rw [mbRun] at h ⊢
  simp only at h ⊢
  split at h
  ·rename_i hx
   rw [if_pos hx]
   have ih:=ih hx
   split at h
   ·rename_i hb
    rw [if_pos hb]
    have hk:=blk_holds hrk hb
    simp only [List.flatMap_append,List.flatMap_cons,List.flatMap_nil,List.append_nil,List.length_append]
    refine ⟨holds_app ih.1 (by rw [←ih.2];exact hk.1),?_⟩
    rw [hk.2,ih.2];omega
   ·rename_i hb;exact absurd h hb
  ·rename_i hx;exact absurd h hx
theorem mb_holds {p:List UInt8} {s:Int} {lens:List Int} (hr:RdOk p s) (h:(mbS p s lens).1.c=0):Holds p s (mbbL (mbS p s lens).2 (mbS p s lens).1.bs lens)∧(mbS p s lens).1.a=s+(mbbL (mbS p s lens).2 (mbS p s lens).1.bs lens).length:=by
 have hg:=mbS_good h
 unfold mbbL
 rw [if_pos hg]
 unfold mbK
 rw [List.take_length]
 clear hg
 unfold mbS at h ⊢
 split at h
 ·rename_i ho
  rw [if_pos ho]
  simp only at h ⊢
  have hb:=rb1 ho
  have hr1:RdOk p (s+1):=by have:=rbA_ok (n:=1) hr;rwa [hb.2.2] at this
  have hm:=mbr_holds hr1 _ h
  rw [decide_eq_true h]
  simp only [cond_true]
  have e:rbV p s 1=bif decide (rbV p s 1=1) then 1 else 0:=by rcases hb.1 with h|h<;>rw [h]<;>rfl
  rw [e] at hb
  generalize decide (rbV p s 1=1)=e at*
  refine ⟨holds_app hb.2.1 ?_,?_⟩
  ·rw [List.length_singleton]
   exact hm.1
  ·rw [hm.2,List.length_append,List.length_singleton]
   show s+1+_=s+((1+_:Nat):Int)
   unfold sz8
   omega
 ·exact absurd (show (1:Int)=0 from h) (by decide)
theorem st_holds {p:List UInt8} {s:Int} {lens:List Int} (hr:RdOk p s):∀k,(stRun p s lens k).c=0→Holds p s ((stRun p s lens k).ms.flatMap (mbF lens))∧(stRun p s lens k).a=s+((stRun p s lens k).ms.flatMap (mbF lens)).length
 |0,_=>⟨holds_0 hr,by simp [stRun]⟩
 |k+1,h=>by
  have ih:=st_holds (lens:=lens) hr k
  have hrk:=stRun_ok (lens:=lens) hr k
  rw [stRun] at h ⊢
  simp only at h ⊢
  split at h
  ·rename_i hx
   rw [if_pos hx]
   have ih:=ih hx
   split at h
   ·rename_i hb
    rw [if_pos hb]
    have hk:=mb_holds hrk hb
    simp only [List.flatMap_append,List.flatMap_cons,List.flatMap_nil,List.append_nil,List.length_append]
    refine ⟨holds_app ih.1 (by rw [←ih.2];exact hk.1),?_⟩
    have e1:=hk.2
    have e2:=ih.2
    have e3:(mbF lens ((mbS p (stRun p s lens k).a lens).2,(mbS p (stRun p s lens k).a lens).1.bs)).length=(mbbL (mbS p (stRun p s lens k).a lens).2 (mbS p (stRun p s lens k).a lens).1.bs lens).length:=rfl
    omega
   ·rename_i hb;exact absurd h hb
  ·rename_i hx;exact absurd h hx
theorem lnum_lens {v:Int} (h:0≤v∧v<262144):lnum (lensV v)=v:=by
 show ((((_/(32768:Int)%8*8+_/(4096:Int)%8)*8+_/(512:Int)%8)*8+_/(64:Int)%8)*8+_/(8:Int)%8)*8+_/(1:Int)%8=v
 omega
theorem hd_holds {p:List UInt8} (h:(hdS p 0).c=0):Holds p 0 (hdL (hdS p 0).W (hdS p 0).H (hdS p 0).Q (hdS p 0).B (hdS p 0).D (hdS p 0).L)∧(hdS p 0).a=(hdL (hdS p 0).W (hdS p 0).H (hdS p 0).Q (hdS p 0).B (hdS p 0).D (hdS p 0).L).length:=by
 rw [hdL_parts (hdS_good h)]
 have h':=h
 unfold hdS at h
 simp only at h
 have f6:=fbC_0 h
 have g6:=fbC_rb h
 have f5:=fbC_0 f6.1
 have g5:=fbC_rb f6.1
 have f4:=fbC_0 f5.1
 have g4:=fbC_rb f5.1
 have f3:=fuC_0 f4.1
 have g3:=fuC_ue f4.1
 have f2:=fuC_0 f3.1
 have g2:=fuC_ue f3.1
 have f1:=fbC_0 f2.1
 have g1:=fbC_rb f2.1
 have E:hdS p 0=⟨rbA p (rbA p (rbA p (ueA p (ueA p (rbA p 0 8))) 6) 2) 18,0,ueV p (rbA p 0 8),ueV p (ueA p (rbA p 0 8)),rbV p (ueA p (ueA p (rbA p 0 8))) 6,rbV p (rbA p (ueA p (ueA p (rbA p 0 8))) 6) 2,rbV p (rbA p (rbA p (ueA p (ueA p (rbA p 0 8))) 6) 2) 18⟩:=by
  unfold hdS
  simp only
  rw [h,f6.2.2,f5.2.2,f4.2.2,f3.2.2,f2.2.2,g6.2,g5.2,g4.2,g3.2,g2.2,g1.2]
 rw [g5.2,g4.2,g3.2,g2.2,g1.2] at g6
 rw [g4.2,g3.2,g2.2,g1.2] at g5
 rw [g3.2,g2.2,g1.2] at g4
 rw [g2.2,g1.2] at g3
 rw [g1.2] at g2
 unfold HdS.W HdS.H HdS.Q HdS.B HdS.D HdS.L
 rw [if_pos h',if_pos h',if_pos h',if_pos h']
 simp only [h',true_and]
 rw [E]
 simp only
 clear E h h' f6 f5 f4 f3 f2
 have r1:=rb_holds g1.1
 have r2:=ue_holds g2.1
 have r3:=ue_holds g3.1
 have r4:=rb_holds g4.1
 have r5:=rb_holds g5.1
 have r6:=rb_holds g6.1
 clear g1 g2 g3 g4 g5 g6
 have h183:rbV p 0 8=183:=ifE_of (e:=2) (by decide) f1.2.1
 clear f1
 generalize rbA p 0 8=a1 at*
 generalize ueA p a1=a2 at*
 generalize ueA p a2=a3 at*
 generalize rbA p a3 6=a4 at*
 generalize rbA p a4 2=a5 at*
 have b5:=r5.2.2
 have b6:=r6.2.2
 rw [h183] at r1
 generalize ueV p a1=w at*
 generalize ueV p a2=hh at*
 generalize rbV p a3 6=q at*
 generalize rbV p a4 2=f at*
 generalize rbV p a5 18=v at*
 have hf:0≤f∧f≤3:=by
  obtain ⟨_,h0,hz⟩:=b5
  have hz:f/4=0:=hz
  omega
 have hv:0≤v∧v<262144:=by
  obtain ⟨_,h0,hz⟩:=b6
  have hz:v/262144=0:=hz
  omega
 rw [lnum_lens hv,show 8*(w+1)/8-1=w by omega,show 8*(hh+1)/8-1=hh by omega]
 have e2:(2*(bif decide (f≥2) then 1 else 0)+(bif decide (f%2=1) then 1 else 0):Int)=f:=by
  rcases (by omega:f=0∨f=1∨f=2∨f=3) with rfl|rfl|rfl|rfl<;>rfl
 rw [e2]
 have l1:=r1.2.1
 have l2:=r2.2.1
 have l3:=r3.2.1
 have l4:=r4.2.1
 have l5:=r5.2.1
 refine ⟨holds_app r1.1 (holds_app (by rw [←l1];exact r2.1) (holds_app (by rw [←l1,←l2];exact r3.1) (holds_app (by rw [←l1,←l2,←l3];exact r4.1) (holds_app (by rw [←l1,←l2,←l3,←l4];exact r5.1) (by rw [←l1,←l2,←l3,←l4,←l5];exact r6.1))))),?_⟩
 rw [r6.2.1,l5,l4,l3,l2,l1]
 simp only [List.length_append]
 omega
theorem num8 {v:Int} (h:0≤v∧v≤255):numS [v/128%2,v/64%2,v/32%2,v/16%2,v/8%2,v/4%2,v/2%2,v/1%2] 8=v:=by
 show ((((((((0*2+v/128%2)*2+v/64%2)*2+v/32%2)*2+v/16%2)*2+v/8%2)*2+v/4%2)*2+v/2%2)*2+v/1%2)=v
 omega
theorem bt_at {p:List UInt8} {i j:Nat} (hi:i<p.length) (hj:j<8):btA p (((8*i+j:Nat):Int))=((p.getD i 0).toNat:Int)/2 ^ (7-j)%2:=by
 unfold btA
 rw [if_neg (by omega)]
 have e1:(((8*i+j:Nat):Int)/8).toNat=i:=by omega
 have e2:((7:Int)-((8*i+j:Nat):Int)%8).toNat=7-j:=by omega
 rw [e1,e2]
 have hb:(p.getD i 0).toNat<256:=UInt8.toNat_lt _
 have hq:=shr_bd ((p.getD i 0).toNat:Int) (7-j) (by omega)
 exact bit1_eq ⟨hq.1,by omega⟩
theorem str_of {p:List UInt8} {b:List Int} (h:Holds p 0 b) (hl:b.length=8*p.length):strS b=p:=by
 have hs:=strS_len b
 refine List.ext_getElem (by omega) fun i h1 h2=>?_
 have hb:=fun k hk=>h.2.2 k hk
 have e0:(strS b)[i]=UInt8.ofNat (numS ((b.drop (8*i)).take 8) 8).toNat:=by
  have:(strS b)[i]?=some (UInt8.ofNat (numS ((b.drop (8*i)).take 8) 8).toNat):=by
   unfold strS byI
   rw [List.getElem?_map,List.getElem?_map,List.getElem?_range (by omega)];rfl
  rw [List.getElem?_eq_getElem h1] at this
  exact Option.some.inj this
 rw [e0]
 have e:(b.drop (8*i)).take 8=[((p.getD i 0).toNat:Int)/128%2,((p.getD i 0).toNat:Int)/64%2,((p.getD i 0).toNat:Int)/32%2,((p.getD i 0).toNat:Int)/16%2,((p.getD i 0).toNat:Int)/8%2,((p.getD i 0).toNat:Int)/4%2,((p.getD i 0).toNat:Int)/2%2,((p.getD i 0).toNat:Int)/1%2]:=by
  have hg:∀j<8,b.getD (8*i+j) 0=((p.getD i 0).toNat:Int)/2 ^ (7-j)%2:=fun j hj=>by
   have:=hb (8*i+j) (by omega)
   rw [Int.zero_add] at this
   rw [←this,bt_at h2 hj]
  refine List.ext_getElem (by simp;omega) fun j g1 g2=>?_
  have hj:j<8:=by simpa using g2
  have g:=hg j hj
  rw [List.getD_eq_getElem?_getD,List.getElem?_eq_getElem (by omega),Option.getD_some] at g
  rw [List.getElem_take,List.getElem_drop,g]
  rcases (by omega:j=0∨j=1∨j=2∨j=3∨j=4∨j=5∨j=6∨j=7) with rfl|rfl|rfl|rfl|rfl|rfl|rfl|rfl<;>rfl
 rw [e,num8 ⟨by omega,by have:(p.getD i 0).toNat<256:=UInt8.toNat_lt _;omega⟩,Int.toNat_natCast]
 have:p.getD i 0=p[i]:=by rw [List.getD_eq_getElem?_getD,List.getElem?_eq_getElem h2];rfl
 rw [this]
 simp
theorem end_holds {p:List UInt8} {b:List Int} (h:Holds p 0 b) (he:endC p b.length=0):stopS b=p:=by
 have hr:RdOk p b.length:=⟨by omega,by have:=h.2.1;omega⟩
 have hl:=lft_ok hr
 unfold endC at he
 split at he
 ·cases he
 ·rename_i h0
  split at he
  ·rename_i h1
   have h2:=(end_iff hr (by have:=lft_bd p b.length;omega)).1 h1.2
   have hr2:RdOk p ((b.length:Int)+1):=⟨by omega,by have:=lft_bd p b.length;omega⟩
   have hl2:=lft_ok hr2
   have hp:(padN b.length:Int)=lft p b.length-1:=by unfold padN;omega
   have hpl:=padL_len b (padN b.length)
   refine str_of (b:=padL b (padN b.length)) (holds_app (holds_app h ?_) ?_) (by omega)
   ·rw [Int.zero_add]
    exact ⟨by omega,by simp;omega,fun k hk=>by
     have:k=0:=by simpa using hk
     subst this
     simpa using h2.1⟩
   ·rw [Int.zero_add,List.length_append,List.length_singleton]
    refine ⟨by omega,by rw [List.length_replicate];omega,fun k hk=>?_⟩
    rw [List.length_replicate] at hk
    have:=zrs_zero (p:=p) (s:=(b.length:Int)+1) (j:=k) (by omega)
    rw [getD_rep0,←this]
    congr 1
  ·cases he
theorem prS_unp {p:List UInt8} (h:(prS p).c=0):unpS (prS p).W (prS p).H (prS p).Q (prS p).B (prS p).D (prS p).L (prS p).ms=p:=by
 have hg:=prS_good h
 unfold unpS
 rw [if_pos hg]
 clear hg
 by_cases h1:(hdS p 0).c=0
 ·by_cases h2:(stRun p (hdS p 0).a (hdS p 0).L (cntM (hdS p 0).W (hdS p 0).H).toNat).c=0
  ·by_cases h3:endC p (stRun p (hdS p 0).a (hdS p 0).L (cntM (hdS p 0).W (hdS p 0).H).toNat).a=0
   ·rw [prS_4 h1 h2 h3]
    have a1:=hd_holds h1
    have a2:=st_holds (by rw [a1.2];exact ⟨by omega,by have:=a1.1.2.1;omega⟩) _ h2
    unfold stK
    simp only [List.take_length]
    refine end_holds (holds_app a1.1 (by rw [Int.zero_add,←a1.2];exact a2.1)) ?_
    rw [List.length_append,Int.natCast_add,←a1.2,←a2.2]
    exact h3
   ·rw [prS_3 h1 h2 h3] at h;exact absurd h h3
  ·rw [prS_2 h1 h2] at h;exact absurd h h2
 ·rw [prS_1 h1] at h;exact absurd h h1
end Go.Proofs.YtndflfipaddfoaaGreat


namespace Go.Proofs.YtndflfipaddfoaaGreat
open Go Go.Abs
attribute [local irreducible] WpA WpL Rnd Blk Abs.Seq Abs.Fin Abs.FinG FnC FnG Only
instance l23SameInts_s:Con 99 (∀ a:List Int,a.length≤1099511627776→Fn 99 [IL a,IL a] [] (B true)):=⟨fun a hl=>by
 refine FnC.of_body tabOk Tryz.func99 Tryz.ntmps99 rfl (by decide +kernel) (by simp) fun G=>?_
 refine go (r:=?_);and_intros<;>intros<;>try exact True.intro
 refine WpA.loop (fun k:Nat=>⟨[(0,IL a),(1,IL a),(5,I k)],[]⟩) (fun k=>k≤a.length) (fun k=>a.length-k) 0 (by simp) (go (r:=trivial)) (fun k hk=>?_)
 refine go (r:=?_);and_intros<;>intros<;>try exact True.intro
 all_goals first|contradiction|omega⟩
instance SameMb_s:Con 52 (∀ (e:Bool) (bs:List Blok),bs.length≤1099511627776∧SmB 1099511627776 bs→Fn 52 [.agg [B e,BkL bs],.agg [B e,BkL bs]] [] (B true)):=⟨fun e bs hl=>by
 refine FnC.of_body tabOk Tryz.func52 Tryz.ntmps52 rfl (by decide +kernel) (by simp) fun G=>?_
 refine go (r:=?_);and_intros<;>intros<;>try exact True.intro
 all_goals first|contradiction|(simp_all;done)|skip
 refine WpA.loop (fun k:Nat=>⟨[(2,.ptr 0 0 0),(3,.ptr 1 0 0),(5,I k)],[⟨[B e,BkL bs],0,0,none⟩,⟨[B e,BkL bs],0,0,none⟩]⟩) (fun k=>k≤bs.length) (fun k=>bs.length-k) 0 (by simp) (go (r:=?_)) (fun k hk=>?_)
 ·and_intros<;>first|exact True.intro
 have hg:=fun h=>smB_get hl.2 (k:=k) h
 refine go (r:=?_);and_intros<;>intros<;>try exact True.intro
 all_goals first|contradiction|omega|(simp_all;done)⟩
instance SameStream_s:Con 44 (∀ (w h q:Int) (b d:Bool) (l:List Int) (M:List Mbk),l.length≤1099511627776∧M.length≤1099511627776∧SmM 1099511627776 M→Fn 44 [StA w h q b d l M,StA w h q b d l M] [] (B true)):=⟨fun w h q b d l M hl=>by
 refine FnC.of_body tabOk Tryz.func44 Tryz.ntmps44 rfl (by decide +kernel) (by simp) fun G=>?_
 refine go (r:=?_);and_intros<;>intros<;>try exact True.intro
 all_goals first|contradiction|(simp_all;done)|skip
 refine WpA.loop (fun i:Nat=>⟨[(2,.ptr 0 0 0),(3,.ptr 1 0 0),(5,I i)],[⟨StC w h q b d l M,0,0,none⟩,⟨StC w h q b d l M,0,0,none⟩]⟩) (fun i=>i≤M.length) (fun i=>M.length-i) 0 (by simp) (go (r:=?_)) (fun i hi=>?_)
 ·and_intros<;>first|exact True.intro
 by_cases hi2:i<M.length
 ·obtain ⟨hg1,hg2⟩:=smM_get hl.2.2 hi2
  refine go (r:=?_);and_intros<;>intros<;>try exact True.intro
  all_goals first|contradiction|omega|(simp_all;done)
 ·refine go (r:=?_);and_intros<;>intros<;>try exact True.intro
  all_goals first|contradiction|omega|(simp_all;done)⟩
end Go.Proofs.YtndflfipaddfoaaGreat


namespace Go.Proofs.YtndflfipaddfoaaGreat
open Go Go.Abs
attribute [local irreducible] WpA WpL Rnd Blk Abs.Seq Abs.Fin Abs.FinG FnC FnG Only
end Go.Proofs.YtndflfipaddfoaaGreat


namespace Go.Abs
open Go
theorem run_eq_pr {P:Program} {t:TypeId} {f1 f2:Field} (hu:P.underlying t=some (.struct #[f1,f2])) (h1:f1.name≠ "_") (h2:f2.name≠ "_") (o1:f1.offset=0) (o2:f2.offset=1)
 (hi1:P.underlying f1.type=some (.int .i64)) (hi2:P.underlying f2.type=some (.int .i64)) (hp:P.stoodInHeld t=false) (w:World) (a b c d:Int):
 (Op.equalIn 10000 t (.agg #[.int .i64 a,.int .i64 b]) (.agg #[.int .i64 c,.int .i64 d])).run P w=.ok (decide (a=c∧b=d)) w:=by
 have hf:P.fieldsOf t=#[f1,f2]:=by unfold Program.fieldsOf;rw [hu]
 have h:=run_equalIn_struct (P:=P) w 9999 t #[.int .i64 a,.int .i64 b] #[.int .i64 c,.int .i64 d] (by rw [hf];exact hu) hp
 rw [hf] at h
 show (Op.equalIn (9999+1) _ _ _).run P w=_
 rw [h]
 have p1:∀(i:Nat) (x y:Int),(part f1.type #[.int .i64 x,.int .i64 y] 0).run P w=.ok (.int .i64 x) w:=fun i x y=>by
  simp [part,isAgg,Sem.run_bind,run_underlying hi1]
 have p2:∀(x y:Int),(part f2.type #[.int .i64 x,.int .i64 y] 1).run P w=.ok (.int .i64 y) w:=fun x y=>by
  simp [part,isAgg,Sem.run_bind,run_underlying hi2]
 have q1:=fun x y=>run_equalIn_int (P:=P) w 9998 f1.type .i64 .i64 x y hi1
 have q2:=fun x y=>run_equalIn_int (P:=P) w 9998 f2.type .i64 .i64 x y hi2
 simp only [Op.eqFields,h1,h2,o1,o2,ne_eq,not_false_eq_true,if_true,Sem.run_bind,p1 0,Result.andThen_ok,q1]
 by_cases e1:a=c
 ·by_cases e2:b=d
  ·simp [e1,e2,Sem.run_bind,p2,q2]
  ·simp [e1,e2,Sem.run_bind,p2,q2]
 ·simp [e1]
class EqPr (P:Program) (t:TypeId):Prop where
 eq:∀(w:World) (a b c d:Int),(Op.equalIn 10000 t (.agg #[.int .i64 a,.int .i64 b]) (.agg #[.int .i64 c,.int .i64 d])).run P w=.ok (decide (a=c∧b=d)) w
 gd:P.eqGuardType P.depth t=false
section
variable {P:Program} {n m:Nat} {G:Ctx} {T:List (Nat×AV)} {O:List AObj} {Q:Exit→St→Prop} {md:Bool} {ops:Array Oper} {l:List Oper} {d:Nat} {tt:TypeId} {pos:String} {after:Array Edge}
end
end Go.Abs


namespace Go.Abs
open Go
section
variable {P:Program} (w:World)
end
section
variable {P:Program} {n m:Nat} {G:Ctx} {T:List (Nat×AV)} {O:List AObj} {Q:Exit→St→Prop} {ops:Array Oper} {l:List Oper} {d:Nat} {tt:TypeId} {pos:String} {after:Array Edge} {tab:List (Nat×Ty)}
end
end Go.Abs


namespace Go.Proofs.YtndflfipaddfoaaGreat
open Go Go.Abs
attribute [local irreducible] WpA WpL Rnd Blk Abs.Seq Abs.Fin Abs.FinG FnC FnG Only
instance eqEnt:EqPr Tryz.prog 141:=⟨run_eq_pr Tryz.underlying141 (by decide) (by decide) rfl rfl Tryz.underlying3 Tryz.underlying3 Tryz.stoodInHeld141,Tryz.eqGuardType141⟩
end Go.Proofs.YtndflfipaddfoaaGreat


namespace Go.Proofs.YtndflfipaddfoaaGreat
open Go Go.Abs
attribute [local irreducible] WpA WpL Rnd Blk Abs.Seq Abs.Fin Abs.FinG FnC FnG Only
def Bits (l:List Int):Prop:=∀x∈l,x=0∨x=1
instance areBits_c:Con 255 (∀ l:List Int,l.length≤1099511627776∧Bits l→Fn 255 [IL l] [] (B true)):=⟨fun l hl=>by
 refine FnC.of_body tabOk Tryz.func255 Tryz.ntmps255 rfl (by decide +kernel) (by simp) fun G=>?_
 refine go (r:=?_);and_intros<;>intros<;>try exact True.intro
 refine WpA.loop (fun k:Nat=>⟨[(5,IL l),(6,I l.length),(7,I k)],[]⟩) (fun k=>k≤l.length) (fun k=>l.length-k) 0 (by omega) (go (r:=?_)) (fun k hk=>?_)
 ·trivial
 have hb:k<l.length→l.getD k 0=0∨l.getD k 0=1:=fun h=>hl.2 _ (by simp [h])
 refine go (r:=?_);and_intros<;>intros<;>try exact True.intro
 all_goals first|(have:=hb (by omega);omega)⟩
def byB (l:List Int):Nat→List Int
 |0=>List.replicate (l.length/8) 0
 |k+1=>(byB l k).set (k/8) (IntKind.u8.wrap ((BitVec.ofInt IntKind.u8.bits ((byB l k).getD (k/8) 0) ||| BitVec.ofInt IntKind.u8.bits (IntKind.u8.wrap (IntKind.i64.wrap (l.getD k 0*2 ^ (7-k%8))))).toNat:Nat))
theorem byB_len (l:List Int):∀k,(byB l k).length=l.length/8
 |0=>by simp [byB]
 |k+1=>by rw [byB,List.length_set,byB_len l k]
def strB (l:List Int):List UInt8:=(byB l l.length).map fun n:Int=>UInt8.ofNat n.toNat
instance BytesOf_c:Con 168 (∀ l:List Int,l.length≤1099511627776∧Bits l∧l.length%8=0→Fn 168 [IL l] [] (.tup [Z (strB l),B true])):=⟨fun l hl=>by
 refine FnC.of_body tabOk Tryz.func168 Tryz.ntmps168 rfl (by decide +kernel) (by simp) fun G=>?_
 refine go (r:=?_);and_intros<;>intros<;>try exact True.intro
 all_goals first|exact hl.2.1|exact hl.2.1 _ (by assumption)|omega|skip
 refine WpA.loop (fun k:Nat=>⟨[(4,.own 0 0 0 (l.length/8)),(20,IL l),(21,I l.length),(22,I k)],[⟨u8s (byB l k),0,1,some 5⟩]⟩) (fun k=>k≤l.length) (fun k=>l.length-k) 0 (by omega) (go (r:=?_)) (fun k hk=>?_)
 ·and_intros<;>first|exact True.intro|rfl
 have hb:k<l.length→l.getD k 0=0∨l.getD k 0=1:=fun h=>hl.2.1 _ (by simp [h])
 have hln:=byB_len l k
 refine go (r:=?_);and_intros<;>intros<;>try exact True.intro
 ·rw [show ((k:Int)/8).toNat=k/8 by omega,show (7-(k:Int)%8).toNat=7-k%8 by omega];rfl
 ·obtain rfl:k=l.length:=by omega
  refine K.cv ?_
  refine WpL.ofBytes tabOk rfl rfl rfl rfl rfl (by simp [u8s,hln]) (by decide) ?_
  refine go (r:=?_);and_intros<;>intros<;>try exact True.intro
  all_goals trace_state⟩
end Go.Proofs.YtndflfipaddfoaaGreat


namespace Go.Proofs.YtndflfipaddfoaaGreat
open Go Go.Abs
attribute [local irreducible] WpA WpL Rnd Blk Abs.Seq Abs.Fin Abs.FinG FnC FnG Only
theorem orb:∀a:Fin 256,∀j:Fin 8,∀x:Fin 2,((a.val:Int)/2 ^ (7-j.val)%2=0)→IntKind.u8.wrap ((BitVec.ofInt IntKind.u8.bits (a.val:Int) ||| BitVec.ofInt IntKind.u8.bits (IntKind.u8.wrap (IntKind.i64.wrap ((x.val:Int)*2 ^ (7-j.val))))).toNat:Nat)=(a.val:Int)+(x.val:Int)*2 ^ (7-j.val):=by decide +kernel
theorem orb' {a x:Int} {j:Nat} (ha:0≤a∧a<256) (hj:j<8) (hx:x=0∨x=1) (h:a/2 ^ (7-j)%2=0):IntKind.u8.wrap ((BitVec.ofInt IntKind.u8.bits a ||| BitVec.ofInt IntKind.u8.bits (IntKind.u8.wrap (IntKind.i64.wrap (x*2 ^ (7-j))))).toNat:Nat)=a+x*2 ^ (7-j):=by
 obtain ⟨n,rfl⟩:∃n:Nat,a=n:=⟨a.toNat,by omega⟩
 obtain ⟨m,rfl⟩:∃m:Nat,x=m:=⟨x.toNat,by omega⟩
 exact orb ⟨n,by omega⟩ ⟨j,hj⟩ ⟨m,by omega⟩ h
theorem numS_set {l:List Int} (hl:l.length=8) (j:Nat) (hj:j<8) (x:Int) (h0:l.getD j 0=0):numS (l.set j x) 8=numS l 8+x*2 ^ (7-j):=by
 match l,hl with
 |[a,b,c,d,e,f,g,i],_=>
  have e8:∀a b c d e f g i:Int,numS [a,b,c,d,e,f,g,i] 8=((((((((0*2+a)*2+b)*2+c)*2+d)*2+e)*2+f)*2+g)*2+i):=fun _ _ _ _ _ _ _ _=>rfl
  have hj2:j=0∨j=1∨j=2∨j=3∨j=4∨j=5∨j=6∨j=7:=by omega
  rcases hj2 with rfl|rfl|rfl|rfl|rfl|rfl|rfl|rfl
  ·have h0:a=0:=h0
   show numS [x,b,c,d,e,f,g,i] 8=_+x*(128:Int);rw [e8,e8];omega
  ·have h0:b=0:=h0
   show numS [a,x,c,d,e,f,g,i] 8=_+x*(64:Int);rw [e8,e8];omega
  ·have h0:c=0:=h0
   show numS [a,b,x,d,e,f,g,i] 8=_+x*(32:Int);rw [e8,e8];omega
  ·have h0:d=0:=h0
   show numS [a,b,c,x,e,f,g,i] 8=_+x*(16:Int);rw [e8,e8];omega
  ·have h0:e=0:=h0
   show numS [a,b,c,d,x,f,g,i] 8=_+x*(8:Int);rw [e8,e8];omega
  ·have h0:f=0:=h0
   show numS [a,b,c,d,e,x,g,i] 8=_+x*(4:Int);rw [e8,e8];omega
  ·have h0:g=0:=h0
   show numS [a,b,c,d,e,f,x,i] 8=_+x*(2:Int);rw [e8,e8];omega
  ·have h0:i=0:=h0
   show numS [a,b,c,d,e,f,g,x] 8=_+x*(1:Int);rw [e8,e8];omega
def cutB (l:List Int) (k:Nat):List Int:=l.take k++List.replicate (l.length-k) 0
theorem cutB_len (l:List Int) (k:Nat) (h:k≤l.length):(cutB l k).length=l.length:=by simp [cutB];omega
theorem cutB_01 {l:List Int} (h:Bit01 l) (k:Nat):Bit01 (cutB l k):=b01_app (fun x hx=>h x (List.mem_of_mem_take hx)) (b01_rep _)
theorem cutB_succ (l:List Int) (k:Nat) (h:k<l.length):cutB l (k+1)=(cutB l k).set k (l.getD k 0):=(set_next l k h _ rfl).symm
theorem byB_eq {l:List Int} (h:Bit01 l) (h8:l.length%8=0):∀k,k≤l.length→byB l k=byI (cutB l k) (l.length/8)
 |0,_=>by
  apply List.ext_getElem
  ·rw [byB_len,byI_len]
  ·intro i h1 h2
   have hz:((cutB l 0).drop (8*i)).take 8=List.replicate (min 8 (l.length-8*i)) 0:=by simp [cutB]
   rw [byI_len] at h2
   simp only [byI,List.getElem_map,List.getElem_range,hz]
   have hm:min 8 (l.length-8*i)=8:=by omega
   rw [hm]
   simp [byB,numS]
 |k+1,hk=>by
  have ih:=byB_eq h h8 k (by omega)
  have hlen:=cutB_len l k (by omega)
  have hw:(((cutB l k).drop (8*(k/8))).take 8).length=8:=by rw [List.length_take,List.length_drop];omega
  have hgk:(cutB l k).getD k 0=0:=by
   unfold cutB
   rw [List.getD_eq_getElem?_getD,List.getElem?_append_right (by simp;omega)]
   simp only [List.length_take]
   rw [List.getElem?_replicate]
   split<;>rfl
  have hwj:(((cutB l k).drop (8*(k/8))).take 8).getD (k%8) 0=0:=by
   simp only [List.getD_eq_getElem?_getD,List.getElem?_take,List.getElem?_drop] at hgk ⊢
   rw [if_pos (by omega),show 8*(k/8)+k%8=k by omega,hgk]
  have hb:=numS_256 (b01_mid (cutB_01 h k) (8*(k/8))) (Nat.le_refl 8)
  have hbit:=numS_bit (b01_mid (cutB_01 h k) (8*(k/8))) hw (k%8) (by omega)
  rw [hwj] at hbit
  have hd:(byI (cutB l k) (l.length/8)).getD (k/8) 0=numS (((cutB l k).drop (8*(k/8))).take 8) 8:=by
   have hlt:k/8<l.length/8:=by omega
   simp [byI,List.getD_eq_getElem?_getD,List.getElem?_range hlt]
  rw [byB,ih,hd,orb' hb (by omega) (b01_get h k) hbit,←numS_set hw (k%8) (by omega) _ hwj]
  apply List.ext_getElem
  ·rw [List.length_set,byI_len,byI_len]
  ·intro i h1 h2
   rw [byI_len] at h2
   rw [List.getElem_set]
   have hget:∀x,(byI x (l.length/8))[i]'(by rw [byI_len];exact h2)=numS ((x.drop (8*i)).take 8) 8:=fun x=>by simp [byI]
   rw [hget,hget,cutB_succ l k (by omega)]
   split
   ·rename_i e
    subst e
    congr 1
    apply List.ext_getElem?
    intro q
    simp only [List.getElem?_set,List.getElem?_take,List.getElem?_drop]
    rw [hw]
    by_cases hq:k%8=q
    ·subst hq
     rw [if_pos rfl,if_pos (by omega),if_pos (by omega),if_pos (by omega),if_pos (by omega)]
    ·rw [if_neg hq]
     by_cases hq8:q<8
     ·rw [if_pos hq8,if_pos hq8,if_neg (by omega)]
     ·rw [if_neg hq8,if_neg hq8]
   ·rename_i e
    congr 1
    apply List.ext_getElem?
    intro q
    simp only [List.getElem?_set,List.getElem?_take,List.getElem?_drop]
    by_cases hq:q<8
    ·rw [if_pos hq,if_pos hq,if_neg (by omega)]
    ·rw [if_neg hq,if_neg hq]
theorem strB_eq {l:List Int} (h:Bit01 l) (h8:l.length%8=0):strB l=strS l:=by
 unfold strB strS
 rw [byB_eq h h8 l.length (Nat.le_refl _)]
 simp [cutB]
instance Stopped_c:Con 81 (∀ b:List Int,b.length≤1073741824∧Bit01 b→Fn 81 [IL b] [] (Z (stopS b))):=⟨fun b hl=>by
 have h0:=hl.1
 refine FnC.of_body tabOk Tryz.func81 Tryz.ntmps81 rfl (by decide +kernel) (by simp) fun G=>?_
 refine go (r:=?_);and_intros<;>intros<;>try exact True.intro
 all_goals first|contradiction|omega|skip
 refine WpA.loop (fun j:Nat=>⟨[(3,.own 0 0 0 (b.length+1+j))],[XI (padL b j)]⟩) (fun j=>j≤padN b.length) (fun j=>padN b.length-j) 0 (Nat.zero_le _) ?_ (fun j hj=>?_)
 ·exact Weak.mk (by repeat (first|exact ReT.nil|refine ReT.cons (.keep rfl rfl .nil) ?_|refine ReT.cons (.own rfl rfl rfl rfl rfl rfl .nil) ?_|refine ReT.cons (.ptr rfl rfl rfl rfl .nil) ?_|refine ReT.cons (.keep (congrArg (fun z=>AV.sc (Value.int .i64 z)) (by first|omega|(skip))) rfl .nil) ?_|refine ReT.cons (.keep (congrArg (fun z:List UInt8=>AV.sc (Value.string ⟨z.toArray⟩)) (by skip)) rfl .nil) ?_|refine ReT.cons (.own rfl rfl rfl rfl rfl (by first|omega|(simp;done)|(simp;omega)) .nil) ?_)) (by exact ReO.cons (Re.same (by simp [padL]) (still_ints _)) (.inr rfl) .nil) (Nat.zero_le _)
 have hpl:=padL_len b j
 have hps:=padL_succ b j
 have hcond:j<padN b.length↔(b.length+1+j)%8≠0:=by unfold padN at hj ⊢;omega
 have hp8:padN b.length≤7:=by unfold padN;omega
 by_cases hlt:j<padN b.length
 ·have hc:=hcond.1 hlt
  refine go (r:=?_);and_intros<;>intros<;>try exact True.intro
  all_goals first|contradiction|omega|exact hps.symm
 ·obtain rfl:j=padN b.length:=by omega
  have hc:(b.length+1+padN b.length)%8=0:=Decidable.byContradiction fun h=>hlt (hcond.2 h)
  have hb:=b01_pad hl.2 (padN b.length)
  have hse:=strB_eq hb (by omega)
  unfold stopS
  rw [←hse]
  refine go (r:=?_);and_intros<;>intros<;>try exact True.intro
  all_goals first|contradiction|omega|exact hb|exact hb _ (by assumption)⟩
end Go.Proofs.YtndflfipaddfoaaGreat


namespace Go.Proofs.YtndflfipaddfoaaGreat
open Go Go.Abs
attribute [local irreducible] WpA WpL Rnd Blk Abs.Seq Abs.Fin Abs.FinG FnC FnG Only
instance EqualI_c:Con 104 (∀ a:List Int,a.length≤1099511627776→Fn 104 [IL a,IL a] [] (B true)):=⟨fun a hl=>by
 refine FnC.of_body tabOk Tryz.func104 Tryz.ntmps104 rfl (by decide +kernel) (by simp) fun G=>?_
 refine go (r:=?_);and_intros<;>intros<;>try exact True.intro
 all_goals first|contradiction|(simp_all;done)|skip
 refine WpA.loop (fun k:Nat=>⟨[(0,IL a),(1,IL a),(12,I a.length),(13,I k)],[]⟩) (fun k=>k≤a.length) (fun k=>a.length-k) 0 (by simp) (go (r:=?_)) (fun k hk=>?_)
 ·and_intros<;>first|exact True.intro
 refine go (r:=?_);and_intros<;>intros<;>try exact True.intro
 all_goals first|contradiction|omega|(simp_all;done)⟩
abbrev fSM:AV:=.fn 196 []
instance SameMb1_c:Con 196 (∀ (m:Int) (lv:List Int),lv.length≤1099511627776→Fn 196 [.agg [I m,IL lv],.agg [I m,IL lv]] [] (B true)):=⟨fun m lv hl=>by
 refine FnC.of_body tabOk Tryz.func196 Tryz.ntmps196 rfl (by decide +kernel) (by simp) fun G=>?_
 refine go (r:=?_);and_intros<;>intros<;>try exact True.intro
 all_goals first|contradiction|(simp_all;done)⟩
instance EqualFunc_c:Con 195 (∀ bs:List Blok,bs.length≤1099511627776∧SmB 1099511627776 bs→Fn 195 [BkL bs,BkL bs,fSM] [] (B true)):=⟨fun bs hl=>by
 refine FnC.of_body tabOk Tryz.func195 Tryz.ntmps195 rfl (by decide +kernel) (by simp) fun G=>?_
 refine go (r:=?_);and_intros<;>intros<;>try exact True.intro
 all_goals first|contradiction|(simp_all;done)|skip
 refine WpA.loop (fun k:Nat=>⟨[(1,BkL bs),(2,fSM),(15,BkL bs),(16,I bs.length),(17,I k)],[]⟩) (fun k=>k≤bs.length) (fun k=>bs.length-k) 0 (by simp) (go (r:=?_)) (fun k hk=>?_)
 ·and_intros<;>first|exact True.intro
 have hg:=fun h=>smB_get hl.2 (k:=k) h
 refine go (r:=?_);and_intros<;>intros<;>try exact True.intro
 all_goals first|contradiction|omega|(simp_all;done)⟩
instance SameMb_c:Con 106 (∀ (e:Bool) (bs:List Blok),bs.length≤1099511627776∧SmB 1099511627776 bs→Fn 106 [.agg [B e,BkL bs],.agg [B e,BkL bs]] [] (B true)):=⟨fun e bs hl=>by
 refine FnC.of_body tabOk Tryz.func106 Tryz.ntmps106 rfl (by decide +kernel) (by simp) fun G=>?_
 refine go (r:=?_);and_intros<;>intros<;>try exact True.intro
 all_goals first|contradiction|(simp_all;done)⟩
end Go.Proofs.YtndflfipaddfoaaGreat
