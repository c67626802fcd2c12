/- Proved in this text: lemmas and contracts of functions that the claim uses (parts: FasL, Fas, Fas2, Fas3, Fas4, FpdL, Fpd, Put, FrN, Spt, RdK). No condition. -/
import Derived.Test.YtndflfipaddfoaaGreatFdM10
import Derived.Test.YtndflfipaddfoaaGreatFdM14
import Derived.Test.YtndflfipaddfoaaGreatFdM11
import Derived.Test.YtndflfipaddfoaaGreatFdM16
import Derived.Test.YtndflfipaddfoaaGreatFdM13
import Derived.Test.YtndflfipaddfoaaGreatFdM15
set_option linter.unusedVariables false
set_option linter.unusedSimpArgs false
set_option maxRecDepth 100000
set_option maxHeartbeats 16000000


namespace Go.Proofs.YtndflfipaddfoaaGreat
open Go Go.Abs
def lift4 (a:List Int):List Int:=[a.getD 0 0+a.getD 2 0+(2*a.getD 1 0+a.getD 3 0),a.getD 0 0-a.getD 2 0+(a.getD 1 0-2*a.getD 3 0),a.getD 0 0-a.getD 2 0-(a.getD 1 0-2*a.getD 3 0),a.getD 0 0+a.getD 2 0-(2*a.getD 1 0+a.getD 3 0)]
def bst (w i:Nat) (x:List Int):List Int:=if i &&& w=0 then (x.set i (x.getD i 0+x.getD (i+w) 0)).set (i+w) (x.getD i 0-x.getD (i+w) 0) else x
def bK (w:Nat) (x:List Int):Nat→List Int
 |0=>x
 |i+1=>bst w i (bK w x i)
def lift8 (a:List Int):List Int:=bK 4 (bK 2 (bK 1 a 8) 8) 8
theorem bst_len (w i:Nat) (x:List Int):(bst w i x).length=x.length:=by unfold bst;split<;>simp
theorem bK_len (w:Nat) (x:List Int):∀i,(bK w x i).length=x.length
 |0=>rfl
 |i+1=>by rw [bK,bst_len,bK_len w x i]
theorem bst_in {w i:Nat} {x:List Int} {c:Int} (hc:0≤c) (h:In x (-c) c):In (bst w i x) (-(2*c)) (2*c):=by
 have h0:=in_getZ h hc i
 have h1:=in_getZ h hc (i+w)
 have h2:In x (-(2*c)) (2*c):=by
  unfold In at*
  intro v hv
  have:=h v hv;omega
 unfold bst
 split
 ·unfold In at*
  intro v hv
  rcases List.mem_or_eq_of_mem_set hv with hv|hv
  ·rcases List.mem_or_eq_of_mem_set hv with hv|hv
   ·exact h2 v hv
   ·omega
  ·omega
 ·exact h2
theorem bK_in {w:Nat} {x:List Int} {c:Int} (hc:0≤c) (h:In x (-c) c):∀i,In (bK w x i) (-(2 ^ i*c)) (2 ^ i*c)
 |0=>by simpa [bK] using h
 |i+1=>by
  have h2:(0:Int)≤2 ^ i*c:=Int.mul_nonneg (Int.pow_nonneg (by decide)) hc
  have:=bst_in (w:=w) (i:=i) h2 (bK_in (w:=w) hc h i)
  rw [bK,Int.pow_succ,Int.mul_comm (2 ^ i) 2,Int.mul_assoc];exact this
theorem pw_le8 {c:Int} (hc:0≤c) {i:Nat} (hi:i≤8):(2:Int) ^ i*c≤256*c:=by
 have h:i=0∨i=1∨i=2∨i=3∨i=4∨i=5∨i=6∨i=7∨i=8:=by omega
 rcases h with rfl|rfl|rfl|rfl|rfl|rfl|rfl|rfl|rfl<;>(simp only [Int.reducePow];omega)
theorem bK_bd {w:Nat} {x:List Int} {c:Int} (hc:0≤c) (h:In x (-c) c) {i:Nat} (hi:i≤8):In (bK w x i) (-(256*c)) (256*c):=by
 have h1:=bK_in (w:=w) hc h i
 have h2:=pw_le8 hc hi
 unfold In at*
 intro v hv
 have:=h1 v hv;omega
def liftN (n:Nat) (a:List Int):List Int:=if n=4 then lift4 a else lift8 a
theorem b1_0 (a0 a1 a2 a3 a4 a5 a6 a7:Int):bst 1 0 [a0,a1,a2,a3,a4,a5,a6,a7]=[a0+a1,a0-a1,a2,a3,a4,a5,a6,a7]:=rfl
theorem b1_1 (a0 a1 a2 a3 a4 a5 a6 a7:Int):bst 1 1 [a0,a1,a2,a3,a4,a5,a6,a7]=[a0,a1,a2,a3,a4,a5,a6,a7]:=rfl
theorem b1_2 (a0 a1 a2 a3 a4 a5 a6 a7:Int):bst 1 2 [a0,a1,a2,a3,a4,a5,a6,a7]=[a0,a1,a2+a3,a2-a3,a4,a5,a6,a7]:=rfl
theorem b1_3 (a0 a1 a2 a3 a4 a5 a6 a7:Int):bst 1 3 [a0,a1,a2,a3,a4,a5,a6,a7]=[a0,a1,a2,a3,a4,a5,a6,a7]:=rfl
theorem b1_4 (a0 a1 a2 a3 a4 a5 a6 a7:Int):bst 1 4 [a0,a1,a2,a3,a4,a5,a6,a7]=[a0,a1,a2,a3,a4+a5,a4-a5,a6,a7]:=rfl
theorem b1_5 (a0 a1 a2 a3 a4 a5 a6 a7:Int):bst 1 5 [a0,a1,a2,a3,a4,a5,a6,a7]=[a0,a1,a2,a3,a4,a5,a6,a7]:=rfl
theorem b1_6 (a0 a1 a2 a3 a4 a5 a6 a7:Int):bst 1 6 [a0,a1,a2,a3,a4,a5,a6,a7]=[a0,a1,a2,a3,a4,a5,a6+a7,a6-a7]:=rfl
theorem b1_7 (a0 a1 a2 a3 a4 a5 a6 a7:Int):bst 1 7 [a0,a1,a2,a3,a4,a5,a6,a7]=[a0,a1,a2,a3,a4,a5,a6,a7]:=rfl
theorem b2_0 (a0 a1 a2 a3 a4 a5 a6 a7:Int):bst 2 0 [a0,a1,a2,a3,a4,a5,a6,a7]=[a0+a2,a1,a0-a2,a3,a4,a5,a6,a7]:=rfl
theorem b2_1 (a0 a1 a2 a3 a4 a5 a6 a7:Int):bst 2 1 [a0,a1,a2,a3,a4,a5,a6,a7]=[a0,a1+a3,a2,a1-a3,a4,a5,a6,a7]:=rfl
theorem b2_2 (a0 a1 a2 a3 a4 a5 a6 a7:Int):bst 2 2 [a0,a1,a2,a3,a4,a5,a6,a7]=[a0,a1,a2,a3,a4,a5,a6,a7]:=rfl
theorem b2_3 (a0 a1 a2 a3 a4 a5 a6 a7:Int):bst 2 3 [a0,a1,a2,a3,a4,a5,a6,a7]=[a0,a1,a2,a3,a4,a5,a6,a7]:=rfl
theorem b2_4 (a0 a1 a2 a3 a4 a5 a6 a7:Int):bst 2 4 [a0,a1,a2,a3,a4,a5,a6,a7]=[a0,a1,a2,a3,a4+a6,a5,a4-a6,a7]:=rfl
theorem b2_5 (a0 a1 a2 a3 a4 a5 a6 a7:Int):bst 2 5 [a0,a1,a2,a3,a4,a5,a6,a7]=[a0,a1,a2,a3,a4,a5+a7,a6,a5-a7]:=rfl
theorem b2_6 (a0 a1 a2 a3 a4 a5 a6 a7:Int):bst 2 6 [a0,a1,a2,a3,a4,a5,a6,a7]=[a0,a1,a2,a3,a4,a5,a6,a7]:=rfl
theorem b2_7 (a0 a1 a2 a3 a4 a5 a6 a7:Int):bst 2 7 [a0,a1,a2,a3,a4,a5,a6,a7]=[a0,a1,a2,a3,a4,a5,a6,a7]:=rfl
theorem b4_0 (a0 a1 a2 a3 a4 a5 a6 a7:Int):bst 4 0 [a0,a1,a2,a3,a4,a5,a6,a7]=[a0+a4,a1,a2,a3,a0-a4,a5,a6,a7]:=rfl
theorem b4_1 (a0 a1 a2 a3 a4 a5 a6 a7:Int):bst 4 1 [a0,a1,a2,a3,a4,a5,a6,a7]=[a0,a1+a5,a2,a3,a4,a1-a5,a6,a7]:=rfl
theorem b4_2 (a0 a1 a2 a3 a4 a5 a6 a7:Int):bst 4 2 [a0,a1,a2,a3,a4,a5,a6,a7]=[a0,a1,a2+a6,a3,a4,a5,a2-a6,a7]:=rfl
theorem b4_3 (a0 a1 a2 a3 a4 a5 a6 a7:Int):bst 4 3 [a0,a1,a2,a3,a4,a5,a6,a7]=[a0,a1,a2,a3+a7,a4,a5,a6,a3-a7]:=rfl
theorem b4_4 (a0 a1 a2 a3 a4 a5 a6 a7:Int):bst 4 4 [a0,a1,a2,a3,a4,a5,a6,a7]=[a0,a1,a2,a3,a4,a5,a6,a7]:=rfl
theorem b4_5 (a0 a1 a2 a3 a4 a5 a6 a7:Int):bst 4 5 [a0,a1,a2,a3,a4,a5,a6,a7]=[a0,a1,a2,a3,a4,a5,a6,a7]:=rfl
theorem b4_6 (a0 a1 a2 a3 a4 a5 a6 a7:Int):bst 4 6 [a0,a1,a2,a3,a4,a5,a6,a7]=[a0,a1,a2,a3,a4,a5,a6,a7]:=rfl
theorem b4_7 (a0 a1 a2 a3 a4 a5 a6 a7:Int):bst 4 7 [a0,a1,a2,a3,a4,a5,a6,a7]=[a0,a1,a2,a3,a4,a5,a6,a7]:=rfl
theorem mg4_0_0:mg 4 true 0 0=1:=by decide
theorem mg4_0_1:mg 4 true 0 1=2:=by decide
theorem mg4_0_2:mg 4 true 0 2=1:=by decide
theorem mg4_0_3:mg 4 true 0 3=1:=by decide
theorem mg4_1_0:mg 4 true 1 0=1:=by decide
theorem mg4_1_1:mg 4 true 1 1=1:=by decide
theorem mg4_1_2:mg 4 true 1 2=(-1):=by decide
theorem mg4_1_3:mg 4 true 1 3=(-2):=by decide
theorem mg4_2_0:mg 4 true 2 0=1:=by decide
theorem mg4_2_1:mg 4 true 2 1=(-1):=by decide
theorem mg4_2_2:mg 4 true 2 2=(-1):=by decide
theorem mg4_2_3:mg 4 true 2 3=2:=by decide
theorem mg4_3_0:mg 4 true 3 0=1:=by decide
theorem mg4_3_1:mg 4 true 3 1=(-2):=by decide
theorem mg4_3_2:mg 4 true 3 2=1:=by decide
theorem mg4_3_3:mg 4 true 3 3=(-1):=by decide
theorem mg8_0_0:mg 8 true 0 0=1:=by decide
theorem mg8_0_1:mg 8 true 0 1=1:=by decide
theorem mg8_0_2:mg 8 true 0 2=1:=by decide
theorem mg8_0_3:mg 8 true 0 3=1:=by decide
theorem mg8_0_4:mg 8 true 0 4=1:=by decide
theorem mg8_0_5:mg 8 true 0 5=1:=by decide
theorem mg8_0_6:mg 8 true 0 6=1:=by decide
theorem mg8_0_7:mg 8 true 0 7=1:=by decide
theorem mg8_1_0:mg 8 true 1 0=1:=by decide
theorem mg8_1_1:mg 8 true 1 1=(-1):=by decide
theorem mg8_1_2:mg 8 true 1 2=1:=by decide
theorem mg8_1_3:mg 8 true 1 3=(-1):=by decide
theorem mg8_1_4:mg 8 true 1 4=1:=by decide
theorem mg8_1_5:mg 8 true 1 5=(-1):=by decide
theorem mg8_1_6:mg 8 true 1 6=1:=by decide
theorem mg8_1_7:mg 8 true 1 7=(-1):=by decide
theorem mg8_2_0:mg 8 true 2 0=1:=by decide
theorem mg8_2_1:mg 8 true 2 1=1:=by decide
theorem mg8_2_2:mg 8 true 2 2=(-1):=by decide
theorem mg8_2_3:mg 8 true 2 3=(-1):=by decide
theorem mg8_2_4:mg 8 true 2 4=1:=by decide
theorem mg8_2_5:mg 8 true 2 5=1:=by decide
theorem mg8_2_6:mg 8 true 2 6=(-1):=by decide
theorem mg8_2_7:mg 8 true 2 7=(-1):=by decide
theorem mg8_3_0:mg 8 true 3 0=1:=by decide
theorem mg8_3_1:mg 8 true 3 1=(-1):=by decide
theorem mg8_3_2:mg 8 true 3 2=(-1):=by decide
theorem mg8_3_3:mg 8 true 3 3=1:=by decide
theorem mg8_3_4:mg 8 true 3 4=1:=by decide
theorem mg8_3_5:mg 8 true 3 5=(-1):=by decide
theorem mg8_3_6:mg 8 true 3 6=(-1):=by decide
theorem mg8_3_7:mg 8 true 3 7=1:=by decide
theorem mg8_4_0:mg 8 true 4 0=1:=by decide
theorem mg8_4_1:mg 8 true 4 1=1:=by decide
theorem mg8_4_2:mg 8 true 4 2=1:=by decide
theorem mg8_4_3:mg 8 true 4 3=1:=by decide
theorem mg8_4_4:mg 8 true 4 4=(-1):=by decide
theorem mg8_4_5:mg 8 true 4 5=(-1):=by decide
theorem mg8_4_6:mg 8 true 4 6=(-1):=by decide
theorem mg8_4_7:mg 8 true 4 7=(-1):=by decide
theorem mg8_5_0:mg 8 true 5 0=1:=by decide
theorem mg8_5_1:mg 8 true 5 1=(-1):=by decide
theorem mg8_5_2:mg 8 true 5 2=1:=by decide
theorem mg8_5_3:mg 8 true 5 3=(-1):=by decide
theorem mg8_5_4:mg 8 true 5 4=(-1):=by decide
theorem mg8_5_5:mg 8 true 5 5=1:=by decide
theorem mg8_5_6:mg 8 true 5 6=(-1):=by decide
theorem mg8_5_7:mg 8 true 5 7=1:=by decide
theorem mg8_6_0:mg 8 true 6 0=1:=by decide
theorem mg8_6_1:mg 8 true 6 1=1:=by decide
theorem mg8_6_2:mg 8 true 6 2=(-1):=by decide
theorem mg8_6_3:mg 8 true 6 3=(-1):=by decide
theorem mg8_6_4:mg 8 true 6 4=(-1):=by decide
theorem mg8_6_5:mg 8 true 6 5=(-1):=by decide
theorem mg8_6_6:mg 8 true 6 6=1:=by decide
theorem mg8_6_7:mg 8 true 6 7=1:=by decide
theorem mg8_7_0:mg 8 true 7 0=1:=by decide
theorem mg8_7_1:mg 8 true 7 1=(-1):=by decide
theorem mg8_7_2:mg 8 true 7 2=(-1):=by decide
theorem mg8_7_3:mg 8 true 7 3=1:=by decide
theorem mg8_7_4:mg 8 true 7 4=(-1):=by decide
theorem mg8_7_5:mg 8 true 7 5=1:=by decide
theorem mg8_7_6:mg 8 true 7 6=1:=by decide
theorem mg8_7_7:mg 8 true 7 7=(-1):=by decide
theorem sum4 (f:Nat→Int):sumF f 4=f 0+f 1+f 2+f 3:=by simp only [sumF];omega
theorem sum8 (f:Nat→Int):sumF f 8=f 0+f 1+f 2+f 3+f 4+f 5+f 6+f 7:=by simp only [sumF];omega
theorem lift4_get (a:List Int) {r:Nat} (hr:r<4):(lift4 a).getD r 0=sumF (fun k=>mg 4 true r k*a.getD k 0) 4:=by
 have h:r=0∨r=1∨r=2∨r=3:=by omega
 rw [sum4]
 rcases h with rfl|rfl|rfl|rfl
 ·show (a.getD 0 0+a.getD 2 0+(2*a.getD 1 0+a.getD 3 0):Int)=_
  simp only [mg4_0_0,mg4_0_1,mg4_0_2,mg4_0_3];omega
 ·show (a.getD 0 0-a.getD 2 0+(a.getD 1 0-2*a.getD 3 0):Int)=_
  simp only [mg4_1_0,mg4_1_1,mg4_1_2,mg4_1_3];omega
 ·show (a.getD 0 0-a.getD 2 0-(a.getD 1 0-2*a.getD 3 0):Int)=_
  simp only [mg4_2_0,mg4_2_1,mg4_2_2,mg4_2_3];omega
 ·show (a.getD 0 0+a.getD 2 0-(2*a.getD 1 0+a.getD 3 0):Int)=_
  simp only [mg4_3_0,mg4_3_1,mg4_3_2,mg4_3_3];omega
theorem lift8_eq (a0 a1 a2 a3 a4 a5 a6 a7:Int):lift8 [a0,a1,a2,a3,a4,a5,a6,a7]=[(((a0+a1)+(a2+a3))+((a4+a5)+(a6+a7))),(((a0-a1)+(a2-a3))+((a4-a5)+(a6-a7))),(((a0+a1)-(a2+a3))+((a4+a5)-(a6+a7))),(((a0-a1)-(a2-a3))+((a4-a5)-(a6-a7))),(((a0+a1)+(a2+a3))-((a4+a5)+(a6+a7))),(((a0-a1)+(a2-a3))-((a4-a5)+(a6-a7))),(((a0+a1)-(a2+a3))-((a4+a5)-(a6+a7))),(((a0-a1)-(a2-a3))-((a4-a5)-(a6-a7)))]:=by
 simp only [lift8,bK,b1_0,b1_1,b1_2,b1_3,b1_4,b1_5,b1_6,b1_7,b2_0,b2_1,b2_2,b2_3,b2_4,b2_5,b2_6,b2_7,b4_0,b4_1,b4_2,b4_3,b4_4,b4_5,b4_6,b4_7]
theorem list8 {a:List Int} (ha:a.length=8):∃a0 a1 a2 a3 a4 a5 a6 a7,a=[a0,a1,a2,a3,a4,a5,a6,a7]:=by
 match a,ha with
 |[a0,a1,a2,a3,a4,a5,a6,a7],_=>exact ⟨a0,a1,a2,a3,a4,a5,a6,a7,rfl⟩
section
attribute [local irreducible] lift8
theorem lift8_get {a:List Int} (ha:a.length=8) {r:Nat} (hr:r<8):(lift8 a).getD r 0=sumF (fun k=>mg 8 true r k*a.getD k 0) 8:=by
 obtain ⟨a0,a1,a2,a3,a4,a5,a6,a7,rfl⟩:=list8 ha
 ·clear ha
  rw [lift8_eq,sum8]
  have h:r=0∨r=1∨r=2∨r=3∨r=4∨r=5∨r=6∨r=7:=by omega
  rcases h with rfl|rfl|rfl|rfl|rfl|rfl|rfl|rfl
  ·show ((((a0+a1)+(a2+a3))+((a4+a5)+(a6+a7))):Int)=mg 8 true 0 0*a0+mg 8 true 0 1*a1+mg 8 true 0 2*a2+mg 8 true 0 3*a3+mg 8 true 0 4*a4+mg 8 true 0 5*a5+mg 8 true 0 6*a6+mg 8 true 0 7*a7
   simp only [mg8_0_0,mg8_0_1,mg8_0_2,mg8_0_3,mg8_0_4,mg8_0_5,mg8_0_6,mg8_0_7];omega
  ·show ((((a0-a1)+(a2-a3))+((a4-a5)+(a6-a7))):Int)=mg 8 true 1 0*a0+mg 8 true 1 1*a1+mg 8 true 1 2*a2+mg 8 true 1 3*a3+mg 8 true 1 4*a4+mg 8 true 1 5*a5+mg 8 true 1 6*a6+mg 8 true 1 7*a7
   simp only [mg8_1_0,mg8_1_1,mg8_1_2,mg8_1_3,mg8_1_4,mg8_1_5,mg8_1_6,mg8_1_7];omega
  ·show ((((a0+a1)-(a2+a3))+((a4+a5)-(a6+a7))):Int)=mg 8 true 2 0*a0+mg 8 true 2 1*a1+mg 8 true 2 2*a2+mg 8 true 2 3*a3+mg 8 true 2 4*a4+mg 8 true 2 5*a5+mg 8 true 2 6*a6+mg 8 true 2 7*a7
   simp only [mg8_2_0,mg8_2_1,mg8_2_2,mg8_2_3,mg8_2_4,mg8_2_5,mg8_2_6,mg8_2_7];omega
  ·show ((((a0-a1)-(a2-a3))+((a4-a5)-(a6-a7))):Int)=mg 8 true 3 0*a0+mg 8 true 3 1*a1+mg 8 true 3 2*a2+mg 8 true 3 3*a3+mg 8 true 3 4*a4+mg 8 true 3 5*a5+mg 8 true 3 6*a6+mg 8 true 3 7*a7
   simp only [mg8_3_0,mg8_3_1,mg8_3_2,mg8_3_3,mg8_3_4,mg8_3_5,mg8_3_6,mg8_3_7];omega
  ·show ((((a0+a1)+(a2+a3))-((a4+a5)+(a6+a7))):Int)=mg 8 true 4 0*a0+mg 8 true 4 1*a1+mg 8 true 4 2*a2+mg 8 true 4 3*a3+mg 8 true 4 4*a4+mg 8 true 4 5*a5+mg 8 true 4 6*a6+mg 8 true 4 7*a7
   simp only [mg8_4_0,mg8_4_1,mg8_4_2,mg8_4_3,mg8_4_4,mg8_4_5,mg8_4_6,mg8_4_7];omega
  ·show ((((a0-a1)+(a2-a3))-((a4-a5)+(a6-a7))):Int)=mg 8 true 5 0*a0+mg 8 true 5 1*a1+mg 8 true 5 2*a2+mg 8 true 5 3*a3+mg 8 true 5 4*a4+mg 8 true 5 5*a5+mg 8 true 5 6*a6+mg 8 true 5 7*a7
   simp only [mg8_5_0,mg8_5_1,mg8_5_2,mg8_5_3,mg8_5_4,mg8_5_5,mg8_5_6,mg8_5_7];omega
  ·show ((((a0+a1)-(a2+a3))-((a4+a5)-(a6+a7))):Int)=mg 8 true 6 0*a0+mg 8 true 6 1*a1+mg 8 true 6 2*a2+mg 8 true 6 3*a3+mg 8 true 6 4*a4+mg 8 true 6 5*a5+mg 8 true 6 6*a6+mg 8 true 6 7*a7
   simp only [mg8_6_0,mg8_6_1,mg8_6_2,mg8_6_3,mg8_6_4,mg8_6_5,mg8_6_6,mg8_6_7];omega
  ·show ((((a0-a1)-(a2-a3))-((a4-a5)-(a6-a7))):Int)=mg 8 true 7 0*a0+mg 8 true 7 1*a1+mg 8 true 7 2*a2+mg 8 true 7 3*a3+mg 8 true 7 4*a4+mg 8 true 7 5*a5+mg 8 true 7 6*a6+mg 8 true 7 7*a7
   simp only [mg8_7_0,mg8_7_1,mg8_7_2,mg8_7_3,mg8_7_4,mg8_7_5,mg8_7_6,mg8_7_7];omega
end
theorem lift4_len (a:List Int):(lift4 a).length=4:=rfl
theorem lift8_len (a:List Int):(lift8 a).length=a.length:=by unfold lift8;rw [bK_len,bK_len,bK_len]
theorem liftN_4 (a:List Int):liftN 4 a=lift4 a:=by unfold liftN;rw [if_pos rfl]
theorem liftN_8 (a:List Int):liftN 8 a=lift8 a:=by unfold liftN;rw [if_neg (by decide)]
theorem liftN_len {n:Nat} (hn:n=4∨n=8) {a:List Int} (ha:a.length=n):(liftN n a).length=n:=by
 rcases hn with rfl|rfl
 ·rw [liftN_4];exact lift4_len a
 ·rw [liftN_8,lift8_len];exact ha
theorem liftN_get {n:Nat} (hn:n=4∨n=8) {a:List Int} (ha:a.length=n) {r:Nat} (hr:r<n):(liftN n a).getD r 0=sumF (fun k=>mg n true r k*a.getD k 0) n:=by
 rcases hn with rfl|rfl
 ·rw [liftN_4];exact lift4_get a hr
 ·rw [liftN_8];exact lift8_get ha hr
def rowF (n:Nat) (l:List Int) (q:Nat):Int:=sumF (fun k=>mg n true (q%n) k*l.getD (q/n*n+k) 0) n
def rowL (n:Nat) (l:List Int):List Int:=tabL (rowF n l) (n*n)
def colF (n:Nat) (l:List Int) (q:Nat):Int:=l.getD (q%n*n+q/n) 0
def colL (n:Nat) (l:List Int):List Int:=tabL (colF n l) (n*n)
def bothL (n:Nat) (l:List Int):List Int:=colL n (rowL n (colL n (rowL n l)))
theorem sumF_cong2 {f g:Nat→Int}:∀n,(∀ i,i<n→f i=g i)→sumF f n=sumF g n
 |0,_=>rfl
 |n+1,h=>by rw [sumF,sumF,sumF_cong2 n fun i hi=>h i (by omega),h n (by omega)]
theorem sumF_add (f g:Nat→Int):∀n,sumF (fun i=>f i+g i) n=sumF f n+sumF g n
 |0=>rfl
 |n+1=>by simp only [sumF,sumF_add f g n];omega
theorem sumF_mulA (c:Int) (f:Nat→Int):∀n,c*sumF f n=sumF (fun i=>c*f i) n
 |0=>by simp [sumF]
 |n+1=>by simp only [sumF,Int.mul_add,sumF_mulA c f n]
theorem sumF_mulr (c:Int) (f:Nat→Int):∀n,sumF f n*c=sumF (fun i=>f i*c) n
 |0=>by simp [sumF]
 |n+1=>by simp only [sumF,Int.add_mul,sumF_mulr c f n]
theorem sumF_swapA (f:Nat→Nat→Int) (m:Nat):∀n,sumF (fun j=>sumF (fun i=>f j i) m) n=sumF (fun i=>sumF (fun j=>f j i) n) m
 |0=>by
  show (0:Int)=_
  have:∀k,sumF (fun _=>(0:Int)) k=0:=fun k=>by induction k with
   |zero=>rfl
   |succ k ih=>rw [sumF,ih];rfl
  exact (this m).symm
 |n+1=>by
  rw [sumF,sumF_swapA f m n,←sumF_add];rfl
theorem dm {n r k:Nat} (hk:k<n):(r*n+k)/n=r∧(r*n+k)%n=k:=by
 have hn:0<n:=by omega
 rw [Nat.mul_comm r n]
 exact ⟨by rw [Nat.mul_add_div hn,Nat.div_eq_of_lt hk,Nat.add_zero],by rw [Nat.mul_add_mod,Nat.mod_eq_of_lt hk]⟩
theorem lt_sq {n r k:Nat} (hr:r<n) (hk:k<n):r*n+k<n*n:=by
 have:=Nat.mul_le_mul_right n (show r+1≤n by omega)
 rw [Nat.add_mul,Nat.one_mul] at this;omega
theorem rowL_at {n:Nat} {l:List Int} {r k:Nat} (hr:r<n) (hk:k<n):(rowL n l).getD (r*n+k) 0=sumF (fun i=>mg n true k i*l.getD (r*n+i) 0) n:=by
 unfold rowL
 rw [tabL_get (lt_sq hr hk),rowF,(dm hk).1,(dm hk).2]
theorem colL_at {n:Nat} {l:List Int} {r k:Nat} (hr:r<n) (hk:k<n):(colL n l).getD (r*n+k) 0=l.getD (k*n+r) 0:=by
 unfold colL
 rw [tabL_get (lt_sq hr hk),colF,(dm hk).1,(dm hk).2]
theorem both_mul (n:Nat) (l:List Int):bothL n l=mulM n (mg n true) l:=by
 refine list_ext (N:=n*n) (tabL_len ..) (tabL_len ..) fun q hq=>?_
 have hn:0<n:=by rcases Nat.eq_zero_or_pos n with rfl|h0
                 ·simp at hq
                 ·exact h0
 obtain ⟨r,k,hr,hk,rfl⟩:∃r k,r<n∧k<n∧q=r*n+k:=⟨q/n,q%n,Nat.div_lt_of_lt_mul hq,Nat.mod_lt _ hn,by rw [Nat.mul_comm,Nat.div_add_mod]⟩
 have e1:(bothL n l).getD (r*n+k) 0=sumF (fun j=>mg n true r j*sumF (fun i=>mg n true k i*l.getD (j*n+i) 0) n) n:=by
  unfold bothL
  rw [colL_at hr hk,rowL_at hk hr]
  refine sumF_cong2 n fun j hj=>?_
  rw [colL_at hk hj,rowL_at hj hk]
 have e2:(mulM n (mg n true) l).getD (r*n+k) 0=sumF (fun i=>sumF (fun j=>mg n true r j*l.getD (j*n+i) 0) n*mg n true k i) n:=by
  unfold mulM
  rw [tabL_get (lt_sq hr hk),(dm hk).1,(dm hk).2];rfl
 rw [e1,e2]
 have e3:(fun j=>mg n true r j*sumF (fun i=>mg n true k i*l.getD (j*n+i) 0) n)=fun j=>sumF (fun i=>mg n true r j*(mg n true k i*l.getD (j*n+i) 0)) n:=funext fun j=>sumF_mulA _ _ _
 have e4:(fun i=>sumF (fun j=>mg n true r j*l.getD (j*n+i) 0) n*mg n true k i)=fun i=>sumF (fun j=>mg n true r j*l.getD (j*n+i) 0*mg n true k i) n:=funext fun i=>sumF_mulr _ _ _
 rw [e3,e4,sumF_swapA]
 refine sumF_cong2 n fun i hi=>sumF_cong2 n fun j hj=>?_
 rw [Int.mul_assoc,Int.mul_comm (mg n true k i)]
theorem rowF_bd {n:Nat} (hn:n=4∨n=8) {l:List Int} {c:Int} (hc:0≤c) (h:In l (-c) c) (q:Nat):-(16*c)≤rowF n l q∧rowF n l q≤16*c:=by
 have h1:=sumF_bd (f:=fun k=>mg n true (q%n) k*l.getD (q/n*n+k) 0) (c:=2*c) (by omega) n fun i _=>mul2 (mg_val n true (q%n) i) (in_getZ h hc _) hc
 unfold rowF
 rcases hn with rfl|rfl<;>omega
theorem tab_inB {f:Nat→Int} {lo hi:Int} {N:Nat} (h:∀i,i<N→lo≤f i∧f i≤hi):In (tabL f N) lo hi:=by
 unfold In tabL
 intro v hv
 obtain ⟨i,hi,rfl⟩:=List.mem_map.1 hv
 exact h i (by simpa using hi)
theorem rowL_in {n:Nat} (hn:n=4∨n=8) {l:List Int} {c:Int} (hc:0≤c) (h:In l (-c) c):In (rowL n l) (-(16*c)) (16*c):=tab_inB fun i _=>rowF_bd hn hc h i
theorem colL_in {n:Nat} {l:List Int} {c:Int} (hc:0≤c) (h:In l (-c) c):In (colL n l) (-c) c:=tab_inB fun i _=>in_getZ h hc _
theorem rows_snoc {n:Nat} (hn:n=4∨n=8) {l:List Int} (hl:l.length=n*n) {y:Nat} (hy:y<n):tabL (rowF n l) (y*n)++liftN n ((l.drop (y*n)).take n)=tabL (rowF n l) ((y+1)*n):=by
 have hs:=lt_sq hy (show n-1<n by omega)
 have ha:((l.drop (y*n)).take n).length=n:=by simp;omega
 refine list_ext (N:=(y+1)*n) ?_ (tabL_len ..) fun j hj=>?_
 ·rw [List.length_append,tabL_len,liftN_len hn ha,Nat.add_mul,Nat.one_mul]
 ·rw [Nat.add_mul,Nat.one_mul] at hj
  rw [tabL_get (by rw [Nat.add_mul,Nat.one_mul];exact hj)]
  rcases Nat.lt_or_ge j (y*n) with h|h
  ·rw [List.getD_eq_getElem?_getD,List.getElem?_append_left (by rw [tabL_len];exact h),←List.getD_eq_getElem?_getD,tabL_get h]
  ·obtain ⟨k,rfl⟩:∃k,j=y*n+k:=⟨j-y*n,by omega⟩
   have hk:k<n:=by omega
   rw [List.getD_eq_getElem?_getD,List.getElem?_append_right (by rw [tabL_len];omega),tabL_len,Nat.add_sub_cancel_left,←List.getD_eq_getElem?_getD,liftN_get hn ha hk,rowF,(dm hk).1,(dm hk).2]
   refine sumF_cong2 n fun i hi=>?_
   congr 1
   rw [List.getD_eq_getElem?_getD,List.getD_eq_getElem?_getD,List.getElem?_take,if_pos (by omega),List.getElem?_drop]
theorem fast_tr {n:Nat} {l:List Int}:(if l.length=n*n∧In l (-1000000000) 1000000000 then bothL n l else [])=prodL n (mg n true) l:=by
 unfold prodL;split
 ·exact both_mul n l
 ·rfl
end Go.Proofs.YtndflfipaddfoaaGreat


namespace Go.Proofs.YtndflfipaddfoaaGreat
open Go Go.Abs
attribute [local irreducible] WpA WpL Rnd Blk Abs.Seq Abs.Fin Abs.FinG FnC FnG Only
instance Lift4_s:Con 312 (∀ a:List Int,a.length=4∧In a (-100000000000) 100000000000→Fn 312 [IL a] [XI (lift4 a)] (.own 0 0 0 4)):=⟨fun a hl=>by
 obtain ⟨h1,h2⟩:=hl
 have g0:=in_getZ h2 (by decide) (Int.toNat 0)
 have g1:=in_getZ h2 (by decide) (Int.toNat 1)
 have g2:=in_getZ h2 (by decide) (Int.toNat 2)
 have g3:=in_getZ h2 (by decide) (Int.toNat 3)
 refine FnC.of_body tabOk Tryz.func312 Tryz.ntmps312 rfl (by decide +kernel) (by simp) fun G=>?_
 refine go (r:=?_);and_intros<;>intros<;>try exact True.intro
 all_goals first|contradiction|omega|rfl⟩
theorem bst_yes {w i:Nat} {x:List Int} (h:i &&& w=0):bst w i x=(x.set i (x.getD i 0+x.getD (i+w) 0)).set (i+w) (x.getD i 0-x.getD (i+w) 0):=if_pos h
theorem bst_no {w i:Nat} {x:List Int} (h:¬i &&& w=0):bst w i x=x:=if_neg h
theorem iw_lt {w i:Nat} (hw:w=1∨w=2∨w=4) (hi:i<8) (h:i &&& w=0):i+w<8:=by
 have k1:∀i:Fin 8,i.val &&& 1=0→i.val+1<8:=by decide
 have k2:∀i:Fin 8,i.val &&& 2=0→i.val+2<8:=by decide
 have k4:∀i:Fin 8,i.val &&& 4=0→i.val+4<8:=by decide
 rcases hw with rfl|rfl|rfl
 ·exact k1 ⟨i,hi⟩ h
 ·exact k2 ⟨i,hi⟩ h
 ·exact k4 ⟨i,hi⟩ h
theorem bK_succ (w:Nat) (x:List Int) (i:Nat):bK w x (i+1)=bst w i (bK w x i):=rfl
theorem bK_zero (w:Nat) (x:List Int):bK w x 0=x:=rfl
def phase (a:List Int) (w:Nat):List Int:=if w=1 then a else if w=2 then bK 1 a 8 else if w=4 then bK 2 (bK 1 a 8) 8 else lift8 a
theorem phase_in {a:List Int} {c:Int} (hc:0≤c) (h:In a (-c) c) {w:Nat} (hw:w=1∨w=2∨w=4):In (phase a w) (-(65536*c)) (65536*c):=by
 have h1:=bK_bd (w:=1) hc h (Nat.le_refl 8)
 have h2:=bK_bd (w:=2) (by omega) h1 (Nat.le_refl 8)
 unfold In at*
 intro v hv
 rcases hw with rfl|rfl|rfl
 ·have:=h v hv;omega
 ·have:=h1 v hv;omega
 ·have:=h2 v hv;omega
theorem phase_len (a:List Int) (w:Nat):(phase a w).length=a.length:=by
 unfold phase lift8;split
 ·rfl
 ·split
  ·exact bK_len ..
  ·split
   ·rw [bK_len,bK_len]
   ·rw [bK_len,bK_len,bK_len]
theorem phase_next {a:List Int} {w:Nat} (hw:w=1∨w=2∨w=4):bK w (phase a w) 8=phase a (w*2):=by
 rcases hw with rfl|rfl|rfl
 ·rw [phase,phase,if_pos rfl,if_neg (by decide),if_pos rfl]
 ·rw [phase,phase,if_neg (by decide),if_pos rfl,if_neg (by decide),if_neg (by decide),if_pos rfl]
 ·rw [phase,phase,if_neg (by decide),if_neg (by decide),if_pos rfl,if_neg (by decide),if_neg (by decide),if_neg (by decide)];rfl
theorem phase_1 (a:List Int):phase a 1=a:=if_pos rfl
theorem phase_8 (a:List Int):phase a 8=lift8 a:=by rw [phase,if_neg (by decide),if_neg (by decide),if_neg (by decide)]
attribute [local irreducible] phase lift8 bK
instance Lift8_s:Con 313 (∀ a:List Int,a.length=8∧In a (-100000000000) 100000000000→Fn 313 [IL a] [XI (lift8 a)] (.own 0 0 0 8)):=⟨fun a hl=>by
 obtain ⟨h1,h2⟩:=hl
 have h8:=lift8_len a
 refine FnC.of_body tabOk Tryz.func313 Tryz.ntmps313 rfl (by decide +kernel) (by simp) fun G=>?_
 refine go (r:=?_);and_intros<;>intros<;>try exact True.intro
 all_goals first|contradiction|omega|skip
 refine WpA.loop (fun j:Nat=>⟨[(3,.own 0 0 0 8),(4,I ((2 ^ j:Nat):Int))],[XI (phase a (2 ^ j))]⟩) (fun j=>j≤3) (fun j=>3-j) 0 (by omega) (go (r:=?_)) (fun j hj=>?_)
 ·and_intros<;>first|exact True.intro|rfl|exact h1.symm|exact h1|exact phase_1 a|exact (phase_1 a).symm|(rw [Nat.pow_zero,phase_1];done)
 by_cases hj3:j=3
 ·subst hj3
  have e8:(2:Nat) ^ 3=8:=rfl
  rw [e8,phase_8]
  refine go (r:=?_);and_intros<;>intros<;>try exact True.intro
  all_goals first|contradiction|omega|rfl
 ·obtain ⟨w,hw⟩:∃w,2 ^ j=w:=⟨_,rfl⟩
  have hw4:w=1∨w=2∨w=4:=by
   have:j=0∨j=1∨j=2:=by omega
   rcases this with rfl|rfl|rfl
   ·exact .inl hw.symm
   ·exact .inr (.inl hw.symm)
   ·exact .inr (.inr hw.symm)
  have hpl:=phase_len a w
  have hpi:=phase_in (by decide) h2 hw4
  have hnx:=phase_next (a:=a) hw4
  have hws:(2:Nat) ^ (j+1)=w*2:=by rw [Nat.pow_succ,hw]
  rw [hw]
  refine go (r:=?_);and_intros<;>intros<;>try exact True.intro
  all_goals first|contradiction|omega|skip
  refine WpA.loop (fun i:Nat=>⟨[(3,.own 0 0 0 8),(4,I w),(5,I i)],[XI (bK w (phase a w) i)]⟩) (fun i=>i≤8) (fun i=>8-i) 0 (by omega) (go (r:=?_)) (fun i hi=>?_)
  ·and_intros<;>first|exact True.intro|rfl|exact bK_zero w (phase a w)|exact (bK_zero w (phase a w)).symm|(rw [bK_zero];done)
  have hbl:=bK_len w (phase a w) i
  have hbi:=bK_bd (w:=w) (by decide) hpi hi
  by_cases hlt:i<8
  ·have ga:=in_getZ hbi (by decide) (i:Int).toNat
   have gb:=in_getZ hbi (by decide) ((i:Int)+(w:Int)).toNat
   have hand:=andw i w (by omega) (by omega)
   have hst:=bK_succ w (phase a w) i
   have e1:(i:Int).toNat=i:=Int.toNat_natCast i
   have e2:((i:Int)+(w:Int)).toNat=i+w:=by omega
   by_cases hz:i &&& w=0
   ·have hlt2:=iw_lt hw4 hlt hz
    have hst2:=bst_yes (x:=bK w (phase a w) i) hz
    rw [hz] at hand
    rw [hst2] at hst
    refine go (r:=?_);and_intros<;>intros<;>try exact True.intro
    all_goals first|contradiction|omega|skip
    all_goals (rw [hst,e1,e2];done)
   ·have hst2:=bst_no (x:=bK w (phase a w) i) hz
    rw [hst2] at hst
    generalize i &&& w=b at hand hz
    refine go (r:=?_);and_intros<;>intros<;>try exact True.intro
    all_goals first|contradiction|omega|exact hst.symm
  ·obtain rfl:i=8:=by omega
   refine go (r:=?_);and_intros<;>intros<;>try exact True.intro
   all_goals first|contradiction|omega|(rw [hws];omega)|(rw [hws];exact hnx)⟩
end Go.Proofs.YtndflfipaddfoaaGreat


namespace Go.Proofs.YtndflfipaddfoaaGreat
open Go Go.Abs
attribute [local irreducible] WpA WpL Rnd Blk Abs.Seq Abs.Fin Abs.FinG FnC FnG Only
theorem Columns_4 (l:List Int) (h:l.length=16):Fn 300 [IL l] [XI (colL 4 l)] (.own 0 0 0 16):=by
 have hsd:side l.length=4:=by rw [h];rfl
 refine FnC.of_body tabOk Tryz.func300 Tryz.ntmps300 rfl (by decide +kernel) (by simp) fun G=>?_
 refine go (r:=?_);and_intros<;>intros<;>try exact True.intro
 all_goals first|contradiction|omega|skip
 refine WpA.loop (fun x:Nat=>⟨[(0,IL l),(3,I 4),(4,.own 0 0 0 (x*4)),(5,I x)],[XI (tabL (colF 4 l) (x*4))]⟩) (fun x=>x≤4) (fun x=>4-x) 0 (by omega) (go (r:=?_)) (fun x hx=>?_)
 ·and_intros<;>first|exact True.intro|rfl|exact hsd
 have hxl:=tabL_len (colF 4 l) (x*4)
 by_cases hlt:x<4
 ·refine go (r:=?_);and_intros<;>intros<;>try exact True.intro
  all_goals first|contradiction|omega|skip
  refine WpA.loop (fun y:Nat=>⟨[(0,IL l),(3,I 4),(4,.own 0 0 0 (x*4+y)),(5,I x),(6,I y)],[XI (tabL (colF 4 l) (x*4+y))]⟩) (fun y=>y≤4) (fun y=>4-y) 0 (by omega) (go (r:=?_)) (fun y hy=>?_)
  ·and_intros<;>first|exact True.intro|rfl
  have hyl:=tabL_len (colF 4 l) (x*4+y)
  by_cases hlt2:y<4
  ·have hsn:=tabL_snoc (colF 4 l) (x*4+y)
   have e1:((y:Int)*4+(x:Int)).toNat=y*4+x:=by omega
   have e2:colF 4 l (x*4+y)=l.getD (y*4+x) 0:=by unfold colF;rw [(dm hlt2).1,(dm hlt2).2]
   rw [e2] at hsn
   refine go (r:=?_);and_intros<;>intros<;>try exact True.intro
   all_goals first|contradiction|omega|(rw [e1];exact hsn.symm)
  ·obtain rfl:y=4:=by omega
   have e3:x*4+4=(x+1)*4:=by omega
   refine go (r:=?_);and_intros<;>intros<;>try exact True.intro
   all_goals first|contradiction|omega|(rw [e3];done)
 ·obtain rfl:x=4:=by omega
  refine go (r:=?_);and_intros<;>intros<;>try exact True.intro
  all_goals first|contradiction|omega|rfl
theorem Columns_8 (l:List Int) (h:l.length=64):Fn 300 [IL l] [XI (colL 8 l)] (.own 0 0 0 64):=by
 have hsd:side l.length=8:=by rw [h];rfl
 refine FnC.of_body tabOk Tryz.func300 Tryz.ntmps300 rfl (by decide +kernel) (by simp) fun G=>?_
 refine go (r:=?_);and_intros<;>intros<;>try exact True.intro
 all_goals first|contradiction|omega|skip
 refine WpA.loop (fun x:Nat=>⟨[(0,IL l),(3,I 8),(4,.own 0 0 0 (x*8)),(5,I x)],[XI (tabL (colF 8 l) (x*8))]⟩) (fun x=>x≤8) (fun x=>8-x) 0 (by omega) (go (r:=?_)) (fun x hx=>?_)
 ·and_intros<;>first|exact True.intro|rfl|exact hsd
 have hxl:=tabL_len (colF 8 l) (x*8)
 by_cases hlt:x<8
 ·refine go (r:=?_);and_intros<;>intros<;>try exact True.intro
  all_goals first|contradiction|omega|skip
  refine WpA.loop (fun y:Nat=>⟨[(0,IL l),(3,I 8),(4,.own 0 0 0 (x*8+y)),(5,I x),(6,I y)],[XI (tabL (colF 8 l) (x*8+y))]⟩) (fun y=>y≤8) (fun y=>8-y) 0 (by omega) (go (r:=?_)) (fun y hy=>?_)
  ·and_intros<;>first|exact True.intro|rfl
  have hyl:=tabL_len (colF 8 l) (x*8+y)
  by_cases hlt2:y<8
  ·have hsn:=tabL_snoc (colF 8 l) (x*8+y)
   have e1:((y:Int)*8+(x:Int)).toNat=y*8+x:=by omega
   have e2:colF 8 l (x*8+y)=l.getD (y*8+x) 0:=by unfold colF;rw [(dm hlt2).1,(dm hlt2).2]
   rw [e2] at hsn
   refine go (r:=?_);and_intros<;>intros<;>try exact True.intro
   all_goals first|contradiction|omega|(rw [e1];exact hsn.symm)
  ·obtain rfl:y=8:=by omega
   have e3:x*8+8=(x+1)*8:=by omega
   refine go (r:=?_);and_intros<;>intros<;>try exact True.intro
   all_goals first|contradiction|omega|(rw [e3];done)
 ·obtain rfl:x=8:=by omega
  refine go (r:=?_);and_intros<;>intros<;>try exact True.intro
  all_goals first|contradiction|omega|rfl
end Go.Proofs.YtndflfipaddfoaaGreat


namespace Go.Proofs.YtndflfipaddfoaaGreat
open Go Go.Abs
attribute [local irreducible] WpA WpL Rnd Blk Abs.Seq Abs.Fin Abs.FinG FnC FnG Only
theorem rowL_tab (n:Nat) (l:List Int):tabL (rowF n l) (n*n)=rowL n l:=rfl
attribute [local irreducible] lift4 lift8 liftN bK rowF
theorem l13Rows_4 (l:List Int) (h:l.length=16∧In l (-100000000000) 100000000000):Fn 301 [IL l,I 4] [XI (rowL 4 l)] (.own 0 0 0 16):=by
 obtain ⟨h1,h2⟩:=h
 refine FnC.of_body tabOk Tryz.func301 Tryz.ntmps301 rfl (by decide +kernel) (by simp) fun G=>?_
 refine go (r:=?_);and_intros<;>intros<;>try exact True.intro
 all_goals first|contradiction|omega|skip
 refine WpA.loop (fun y:Nat=>⟨[(0,IL l),(1,I 4),(5,.own 0 0 0 (y*4)),(6,I y)],[XI (tabL (rowF 4 l) (y*4))]⟩) (fun y=>y≤4) (fun y=>4-y) 0 (by omega) (go (r:=?_)) (fun y hy=>?_)
 ·and_intros<;>first|exact True.intro|rfl
 have hyl:=tabL_len (rowF 4 l) (y*4)
 by_cases hlt:y<4
 ·have hsn:=rows_snoc (n:=4) (by decide) (l:=l) h1 hlt
  rw [liftN_4] at hsn
  have e1:((y:Int)*4).toNat=y*4:=by omega
  have e2:((y:Int)*4+4).toNat-((y:Int)*4).toNat=4:=by omega
  have hl1:((l.drop ((y:Int)*4).toNat).take (((y:Int)*4+4).toNat-((y:Int)*4).toNat)).length=4:=by rw [e2,e1,List.length_take,List.length_drop];omega
  have hin:In ((l.drop ((y:Int)*4).toNat).take (((y:Int)*4+4).toNat-((y:Int)*4).toNat)) (-100000000000) 100000000000:=by
   unfold In at*
   intro v hv
   exact h2 v (List.mem_of_mem_drop (List.mem_of_mem_take hv))
  have hl4:=lift4_len ((l.drop ((y:Int)*4).toNat).take (((y:Int)*4+4).toNat-((y:Int)*4).toNat))
  have hl8:=lift8_len ((l.drop ((y:Int)*4).toNat).take (((y:Int)*4+4).toNat-((y:Int)*4).toNat))
  refine go (r:=?_);and_intros<;>intros<;>try exact True.intro
  all_goals first|contradiction|omega|exact hin|(rw [e2,e1];exact hsn)
 ·obtain rfl:y=4:=by omega
  refine go (r:=?_);and_intros<;>intros<;>try exact True.intro
  all_goals first|contradiction|omega|exact rowL_tab _ l|exact (rowL_tab _ l).symm
theorem l13Rows_8 (l:List Int) (h:l.length=64∧In l (-100000000000) 100000000000):Fn 301 [IL l,I 8] [XI (rowL 8 l)] (.own 0 0 0 64):=by
 obtain ⟨h1,h2⟩:=h
 refine FnC.of_body tabOk Tryz.func301 Tryz.ntmps301 rfl (by decide +kernel) (by simp) fun G=>?_
 refine go (r:=?_);and_intros<;>intros<;>try exact True.intro
 all_goals first|contradiction|omega|skip
 refine WpA.loop (fun y:Nat=>⟨[(0,IL l),(1,I 8),(5,.own 0 0 0 (y*8)),(6,I y)],[XI (tabL (rowF 8 l) (y*8))]⟩) (fun y=>y≤8) (fun y=>8-y) 0 (by omega) (go (r:=?_)) (fun y hy=>?_)
 ·and_intros<;>first|exact True.intro|rfl
 have hyl:=tabL_len (rowF 8 l) (y*8)
 by_cases hlt:y<8
 ·have hsn:=rows_snoc (n:=8) (by decide) (l:=l) h1 hlt
  rw [liftN_8] at hsn
  have e1:((y:Int)*8).toNat=y*8:=by omega
  have e2:((y:Int)*8+8).toNat-((y:Int)*8).toNat=8:=by omega
  have hl1:((l.drop ((y:Int)*8).toNat).take (((y:Int)*8+8).toNat-((y:Int)*8).toNat)).length=8:=by rw [e2,e1,List.length_take,List.length_drop];omega
  have hin:In ((l.drop ((y:Int)*8).toNat).take (((y:Int)*8+8).toNat-((y:Int)*8).toNat)) (-100000000000) 100000000000:=by
   unfold In at*
   intro v hv
   exact h2 v (List.mem_of_mem_drop (List.mem_of_mem_take hv))
  have hl4:=lift4_len ((l.drop ((y:Int)*8).toNat).take (((y:Int)*8+8).toNat-((y:Int)*8).toNat))
  have hl8:=lift8_len ((l.drop ((y:Int)*8).toNat).take (((y:Int)*8+8).toNat-((y:Int)*8).toNat))
  refine go (r:=?_);and_intros<;>intros<;>try exact True.intro
  all_goals first|contradiction|omega|exact hin|(rw [e2,e1];exact hsn)
 ·obtain rfl:y=8:=by omega
  refine go (r:=?_);and_intros<;>intros<;>try exact True.intro
  all_goals first|contradiction|omega|exact rowL_tab _ l|exact (rowL_tab _ l).symm
end Go.Proofs.YtndflfipaddfoaaGreat


namespace Go.Proofs.YtndflfipaddfoaaGreat
open Go Go.Abs
attribute [local irreducible] WpA WpL Rnd Blk Abs.Seq Abs.Fin Abs.FinG FnC FnG Only
theorem in_wideA {l:List Int} {c d:Int} (h:In l (-c) c) (hcd:c≤d):In l (-d) d:=by
 unfold In at*
 intro v hv
 have:=h v hv;omega
def colS (l:List Int):List Int:=colL (side l.length).toNat l
theorem colS_eq {n:Nat} (hn:n=4∨n=8) {l:List Int} (h:l.length=n*n):colS l=colL n l:=by
 rcases hn with rfl|rfl<;>(unfold colS;rw [h];rfl)
theorem rowL_len (n:Nat) (l:List Int):(rowL n l).length=n*n:=tabL_len ..
theorem colL_len (n:Nat) (l:List Int):(colL n l).length=n*n:=tabL_len ..
theorem trL_both {n:Nat} (hn:n=4∨n=8) {l:List Int} (h:l.length=n*n∧In l (-1000000000) 1000000000):trL n true l=colS (rowL n (colS (rowL n l))):=by
 rw [colS_eq hn (rowL_len ..),colS_eq hn (rowL_len ..)]
 show prodL (n:Int).toNat (mg (n:Int).toNat true) l=_
 rw [Int.toNat_natCast,←fast_tr,if_pos h];rfl
instance Columns_s:Con 300 (∀ (l:List Int),l.length=16∨l.length=64→Fn 300 [IL l] [XI (colS l)] (.own 0 0 0 l.length)):=⟨fun l h=>by
 rcases h with h|h
 ·rw [colS_eq (.inl rfl) h,h];exact Columns_4 l h
 ·rw [colS_eq (.inr rfl) h,h];exact Columns_8 l h⟩
instance l13Rows_s:Con 301 (∀ (l:List Int) (n:Nat),(n=4∨n=8)∧l.length=n*n∧In l (-100000000000) 100000000000→Fn 301 [IL l,I n] [XI (rowL n l)] (.own 0 0 0 (n*n))):=⟨fun l n h=>by
 obtain ⟨rfl|rfl,h⟩:=h
 ·exact l13Rows_4 l h
 ·exact l13Rows_8 l h⟩
section
attribute [local irreducible] colL rowL colS
instance l13Both_s:Con 272 (∀ (l:List Int) (n:Nat),(n=4∨n=8)∧l.length≤1099511627776→Fn 272 [IL l,I n] [XI (trL n true l)] (.own 0 0 0 (trL n true l).length)):=⟨fun l n h=>by
 obtain ⟨hn,hl⟩:=h
 by_cases hf:l.length=n*n∧In l (-1000000000) 1000000000
 ·rw [trL_both hn hf]
  have hlr:=rowL_len n l
  have q1:=colS_eq hn hlr
  have hlc:(colS (rowL n l)).length=n*n:=by rw [q1];exact colL_len ..
  have hlr2:=rowL_len n (colS (rowL n l))
  have hlc2:(colS (rowL n (colS (rowL n l)))).length=n*n:=by rw [colS_eq hn hlr2];exact colL_len ..
  have r1:=in_wideA (rowL_in hn (by decide) hf.2) (d:=100000000000) (by decide)
  have c1:In (colS (rowL n l)) (-100000000000) 100000000000:=by rw [q1];exact colL_in (n:=n) (by decide) r1
  have r0:=in_wideA hf.2 (d:=100000000000) (by decide)
  clear q1
  rw [hlc2]
  obtain ⟨h1,h2⟩:=hf
  rcases hn with rfl|rfl
  ·have hfi:FitM l∧(l.length:Int)=4*4:=⟨h2,by omega⟩
   refine FnC.of_body tabOk Tryz.func272 Tryz.ntmps272 rfl (by decide +kernel) (by simp) fun G=>?_
   refine go (r:=?_);and_intros<;>intros<;>try exact True.intro
   all_goals trace_state
  ·have hfi:FitM l∧(l.length:Int)=8*8:=⟨h2,by omega⟩
   refine FnC.of_body tabOk Tryz.func272 Tryz.ntmps272 rfl (by decide +kernel) (by simp) fun G=>?_
   refine go (r:=?_);and_intros<;>intros<;>try exact True.intro
   all_goals trace_state
 ·have hfi:¬(FitM l∧(l.length:Int)=(n:Int)*n):=fun hh=>hf ⟨by rcases hn with rfl|rfl<;>omega,hh.1⟩
  rw [trL_no (by omega) hfi]
  rcases hn with rfl|rfl
  ·refine FnC.of_body tabOk Tryz.func272 Tryz.ntmps272 rfl (by decide +kernel) (by simp) fun G=>?_
   refine go (r:=?_);and_intros<;>intros<;>try exact True.intro
   all_goals trace_state
  ·refine FnC.of_body tabOk Tryz.func272 Tryz.ntmps272 rfl (by decide +kernel) (by simp) fun G=>?_
   refine go (r:=?_);and_intros<;>intros<;>try exact True.intro
   all_goals trace_state⟩
end
instance Fast4_s:Con 227 (∀ (l:List Int),l.length≤1099511627776→Fn 227 [IL l] [XI (trL 4 true l)] (.own 0 0 0 (trL 4 true l).length)):=⟨fun l hl=>by
 have h0:=l13Both_s.ok l 4 ⟨.inl rfl,hl⟩
 refine FnC.of_body tabOk Tryz.func227 Tryz.ntmps227 rfl (by decide +kernel) (by simp) fun G=>?_
 refine go (r:=?_);and_intros<;>intros<;>try exact True.intro
 all_goals trace_state⟩
instance Fast8_s:Con 229 (∀ (l:List Int),l.length≤1099511627776→Fn 229 [IL l] [XI (trL 8 true l)] (.own 0 0 0 (trL 8 true l).length)):=⟨fun l hl=>by
 have h0:=l13Both_s.ok l 8 ⟨.inr rfl,hl⟩
 refine FnC.of_body tabOk Tryz.func229 Tryz.ntmps229 rfl (by decide +kernel) (by simp) fun G=>?_
 refine go (r:=?_);and_intros<;>intros<;>try exact True.intro
 all_goals trace_state⟩
instance FastResidual_s:Con 140 (∀ (w h q:Int) (b d:Bool) (lens l:List Int),l.length≤1099511627776→Fn 140 [HdA w h q b d lens,IL l] [XI (resL b q l)] (.own 0 0 0 (resL b q l).length)):=⟨fun w h q b d lens l hl=>by
 have hsl:=stepL_pos q
 by_cases hok:LvOk l∧0<stepL q
 ·have h1:=hok.1
  have h2:=hok.2
  have hlen:=hok.1.2
  have hp:=plcL_len2 hlen
  have hsc:=scaL_len (plcL l) q
  have hs:(scaL (plcL l) q).length≤64:=by split at hsc<;>omega
  have t4:=trLe4 true (scaL (plcL l) q)
  have t8:=trLe8 true (scaL (plcL l) q)
  cases b with
  |true=>
   rw [resL_b hok]
   refine FnC.of_body tabOk Tryz.func140 Tryz.ntmps140 rfl (by decide +kernel) (by simp) fun G=>?_
   refine go (r:=?_);and_intros<;>intros<;>try exact True.intro
   all_goals trace_state
  |false=>
   rw [resL_t hok]
   rcases hlen with e|e
   ·have e4:side l.length=4:=by rw [e];rfl
    rw [e4]
    refine FnC.of_body tabOk Tryz.func140 Tryz.ntmps140 rfl (by decide +kernel) (by simp) fun G=>?_
    refine go (r:=?_);and_intros<;>intros<;>try exact True.intro
    all_goals trace_state
   ·have e8:side l.length=8:=by rw [e];rfl
    rw [e8]
    refine FnC.of_body tabOk Tryz.func140 Tryz.ntmps140 rfl (by decide +kernel) (by simp) fun G=>?_
    refine go (r:=?_);and_intros<;>intros<;>try exact True.intro
    all_goals trace_state
 ·rw [resL_n hok]
  refine FnC.of_body tabOk Tryz.func140 Tryz.ntmps140 rfl (by decide +kernel) (by simp) fun G=>?_
  have hx:LvOk l→¬0<stepL q:=fun a b=>hok ⟨a,b⟩
  have hsn:¬0<stepL q→stepL q=0:=fun hh=>by have:=(stepL_bd q).1;omega
  by_cases h1:LvOk l
  ·have h2:=hsn (hx h1)
   refine go (r:=?_);and_intros<;>intros<;>try exact True.intro
   all_goals trace_state
  ·refine go (r:=?_);and_intros<;>intros<;>try exact True.intro
   all_goals trace_state⟩
end Go.Proofs.YtndflfipaddfoaaGreat


namespace Go.Proofs.YtndflfipaddfoaaGreat
open Go Go.Abs
def sofF (l:List Int) (i:Nat):Int:=soft (l.getD i 0) (l.getD (i+1) 0) (l.getD (i+2) 0)
def sofL (l:List Int):List Int:=tabL (sofF l) (l.length-2)
theorem sofL_len (l:List Int):(sofL l).length=l.length-2:=tabL_len ..
def sloF (t l:List Int) (c:Int) (y:Nat) (x:Nat):Int:=max 0 (min 255 (t.getD x 0+(l.getD y 0-c)))
def rowP (m:Int) (t l:List Int) (c:Int) (a b:Bool) (n:Int) (y:Nat):List Int:=tabL (fun x=>predL m t l c a b n (x:Nat) (y:Nat)) n.toNat
theorem rowP_len (m:Int) (t l:List Int) (c:Int) (a b:Bool) (n:Int) (y:Nat):(rowP m t l c a b n y).length=n.toNat:=tabL_len ..
theorem pr_row {m:Int} {t l:List Int} {c:Int} {a b:Bool} {n y:Nat} (hn:0<n):prK m t l c a b n (y*n)++rowP m t l c a b n y=prK m t l c a b n ((y+1)*n):=by
 refine list_ext (N:=(y+1)*n) (by rw [List.length_append,prK_len,rowP_len,Int.toNat_natCast,Nat.add_mul,Nat.one_mul]) (prK_len ..) fun j hj=>?_
 have hg:∀K i,i<K→(prK m t l c a b n K).getD i 0=PF m t l c a b n i:=fun K i h=>tabL_get (f:=PF m t l c a b n) h
 rw [hg _ _ hj]
 rcases Nat.lt_or_ge j (y*n) with h|h
 ·rw [List.getD_eq_getElem?_getD,List.getElem?_append_left (by rw [prK_len];exact h),←List.getD_eq_getElem?_getD,hg _ _ h]
 ·obtain ⟨i,rfl⟩:∃i,j=y*n+i:=⟨j-y*n,by omega⟩
  rw [Nat.add_mul,Nat.one_mul] at hj
  have hi:i<n:=by omega
  rw [List.getD_eq_getElem?_getD,List.getElem?_append_right (by rw [prK_len];omega),prK_len,Nat.add_sub_cancel_left,←List.getD_eq_getElem?_getD]
  unfold rowP
  rw [tabL_get (by rw [Int.toNat_natCast];exact hi)]
  have e1:(y*n+i)/n=y:=by rw [Nat.mul_comm,Nat.mul_add_div hn,Nat.div_eq_of_lt hi,Nat.add_zero]
  have e2:(y*n+i)%n=i:=by rw [Nat.mul_comm,Nat.mul_add_mod,Nat.mod_eq_of_lt hi]
  unfold PF
  rw [e1,e2]
theorem row_in {t l:List Int} {c n:Int} (h:NbOk t l c n) {y:Nat} (hy:(y:Int)<n) {x:Nat} (hx:x<n.toNat):NbOk t l c n∧(0≤(x:Int)∧(x:Int)≤n-1)∧0≤(y:Int)∧(y:Int)≤n-1:=⟨h,by omega,by omega⟩
theorem row_0 {t l:List Int} {c n:Int} {a b:Bool} (h:NbOk t l c n) {y:Nat} (hy:(y:Int)<n):rowP 0 t l c a b n y=tabL (fun _=>meanL t l c a b n) n.toNat:=
 list_ext (tabL_len ..) (tabL_len ..) fun j hj=>by
  unfold rowP
  rw [tabL_get hj,tabL_get hj,predL,if_pos (row_in h hy hj),if_pos rfl]
theorem row_1 {t l:List Int} {c n:Int} {a b:Bool} (h:NbOk t l c n) {y:Nat} (hy:(y:Int)<n):rowP 1 t l c a b n y=t.take n.toNat:=by
 have hl:=h.2.1
 have hn:=h.1
 refine list_ext (tabL_len ..) (by rw [List.length_take];omega) fun j hj=>?_
 unfold rowP
 rw [tabL_get hj,predL,if_pos (row_in h hy hj),if_neg (by decide),if_pos rfl,List.getD_eq_getElem?_getD,List.getD_eq_getElem?_getD,List.getElem?_take,if_pos hj,Int.toNat_natCast]
theorem row_2 {t l:List Int} {c n:Int} {a b:Bool} (h:NbOk t l c n) {y:Nat} (hy:(y:Int)<n):rowP 2 t l c a b n y=tabL (fun _=>l.getD y 0) n.toNat:=
 list_ext (tabL_len ..) (tabL_len ..) fun j hj=>by
  unfold rowP
  rw [tabL_get hj,tabL_get hj,predL,if_pos (row_in h hy hj),if_neg (by decide),if_neg (by decide),if_pos rfl,Int.toNat_natCast]
theorem row_3 {t l:List Int} {c n:Int} {a b:Bool} (h:NbOk t l c n) {y:Nat} (hy:(y:Int)<n):rowP 3 t l c a b n y=tabL (sloF t l c y) n.toNat:=
 list_ext (tabL_len ..) (tabL_len ..) fun j hj=>by
  unfold rowP
  rw [tabL_get hj,tabL_get hj,predL,if_pos (row_in h hy hj),if_neg (by decide),if_neg (by decide),if_neg (by decide),if_pos rfl,Int.toNat_natCast,Int.toNat_natCast,sloF]
  congr 2;omega
theorem sub_get (z:List Int) {i k m:Nat} (h:i<m):((z.drop k).take m).getD i 0=z.getD (k+i) 0:=by
 rw [List.getD_eq_getElem?_getD,List.getElem?_take,if_pos h,List.getElem?_drop,←List.getD_eq_getElem?_getD]
theorem row_4 {t l:List Int} {c n:Int} {a b:Bool} (h:NbOk t l c n) {y:Nat} (hy:(y:Int)<n):rowP 4 t l c a b n y=((sofL (t++[t.getD (2*n-1).toNat 0])).drop y).take n.toNat:=by
 have hl:=h.2.1
 have hn:=h.1
 have hsl:=sofL_len (t++[t.getD (2*n-1).toNat 0])
 rw [List.length_append,List.length_singleton] at hsl
 refine list_ext (tabL_len ..) (by rw [List.length_take,List.length_drop];omega) fun j hj=>?_
 unfold rowP
 rw [tabL_get hj,sub_get _ hj,predL,if_pos (row_in h hy hj),if_neg (by decide),if_neg (by decide),if_neg (by decide),if_neg (by decide),if_pos rfl]
 unfold sofL
 rw [tabL_get (by rw [List.length_append,List.length_singleton];omega),sofF]
 have eL:∀i,i<t.length→(t++[t.getD (2*n-1).toNat 0]).getD i 0=t.getD i 0:=fun i hi=>by
  rw [List.getD_eq_getElem?_getD,List.getElem?_append_left hi,←List.getD_eq_getElem?_getD]
 have eE:(t++[t.getD (2*n-1).toNat 0]).getD t.length 0=t.getD (2*n-1).toNat 0:=by
  rw [List.getD_eq_getElem?_getD,List.getElem?_append_right (Nat.le_refl _),Nat.sub_self];rfl
 have e0:((j:Int)+y).toNat=y+j:=by omega
 have e1:(min (2*n-1) ((j:Int)+y+1)).toNat=y+j+1:=by omega
 rw [e0,e1,eL _ (by omega),eL _ (by omega)]
 by_cases h2:y+j+2<t.length
 ·rw [eL _ h2]
  have e2:(min (2*n-1) ((j:Int)+y+2)).toNat=y+j+2:=by omega
  rw [e2]
 ·have e3:y+j+2=t.length:=by omega
  have e2:(min (2*n-1) ((j:Int)+y+2)).toNat=(2*n-1).toNat:=by omega
  rw [e2,e3,eE]
theorem row_5 {t l:List Int} {c n:Int} {a b:Bool} (h:NbOk t l c n) {y:Nat} (hy:(y:Int)<n):rowP 5 t l c a b n y=((sofL (bordL t l c n)).drop (n.toNat-1-y)).take n.toNat:=by
 have hl:=bord_len h
 have hn:=h.1
 have hsl:=sofL_len (bordL t l c n)
 refine list_ext (tabL_len ..) (by rw [List.length_take,List.length_drop];omega) fun j hj=>?_
 unfold rowP
 rw [tabL_get hj,sub_get _ hj,predL,if_pos (row_in h hy hj),if_neg (by decide),if_neg (by decide),if_neg (by decide),if_neg (by decide),if_neg (by decide),if_pos rfl]
 unfold sofL
 rw [tabL_get (by omega),sofF]
 have e0:((j:Int)-y+n-1).toNat=n.toNat-1-y+j:=by omega
 have e1:((j:Int)-y+n).toNat=n.toNat-1-y+j+1:=by omega
 have e2:((j:Int)-y+n+1).toNat=n.toNat-1-y+j+2:=by omega
 rw [e0,e1,e2]
theorem slo_step {t l:List Int} {c n:Int} (h:NbOk t l c n) {y:Nat} (hy:(y:Int)<n) {k:Nat} (hk:4*k+4≤n.toNat):tabL (sloF t l c y) (4*k)++tabL (fun i=>max 0 (min 255 (((t.drop (4*k)).take 4).getD i 0+max (-1023) (min 1023 (([l.getD y 0-c,l.getD y 0-c,l.getD y 0-c,l.getD y 0-c]:List Int).getD i 0))))) 4=tabL (sloF t l c y) (4*(k+1)):=by
 obtain ⟨h1,h2,h3,h4,h5,h6⟩:=h
 refine list_ext (N:=4*(k+1)) (by rw [List.length_append,tabL_len,tabL_len];omega) (tabL_len ..) fun j hj=>?_
 rw [tabL_get hj]
 rcases Nat.lt_or_ge j (4*k) with hj2|hj2
 ·rw [List.getD_eq_getElem?_getD,List.getElem?_append_left (by rw [tabL_len];exact hj2),←List.getD_eq_getElem?_getD,tabL_get hj2]
 ·obtain ⟨i,rfl⟩:∃i,j=4*k+i:=⟨j-4*k,by omega⟩
  have hi:i<4:=by omega
  rw [List.getD_eq_getElem?_getD,List.getElem?_append_right (by rw [tabL_len];omega),tabL_len,Nat.add_sub_cancel_left,←List.getD_eq_getElem?_getD,tabL_get hi,sub_get _ hi]
  have ed:([l.getD y 0-c,l.getD y 0-c,l.getD y 0-c,l.getD y 0-c]:List Int).getD i 0=l.getD y 0-c:=by
   have hc:i=0∨i=1∨i=2∨i=3:=by omega
   rcases hc with rfl|rfl|rfl|rfl<;>rfl
  rw [ed,sloF]
  have g1:=in_get h5 (k:=y) (by omega)
  have g2:=in_get h4 (k:=4*k+i) (by omega)
  omega
end Go.Proofs.YtndflfipaddfoaaGreat


namespace Go.Proofs.YtndflfipaddfoaaGreat
open Go Go.Abs
attribute [local irreducible] WpA WpL Rnd Blk Abs.Seq Abs.Fin Abs.FinG FnC FnG Only
instance Softened_s:Con 233 (∀ l:List Int,In l 0 255∧2≤l.length∧l.length≤1000→Fn 233 [IL l] [XI (sofL l)] (.own 0 0 0 (sofL l).length)):=⟨fun l hl=>by
 obtain ⟨h1,h2,h3⟩:=hl
 have hsl:=sofL_len l
 refine FnC.of_body tabOk Tryz.func233 Tryz.ntmps233 rfl (by decide +kernel) (by simp) fun G=>?_
 refine go (r:=?_);and_intros<;>intros<;>try exact True.intro
 refine WpA.loop (fun k:Nat=>⟨[(0,IL l),(3,.own 0 0 0 k),(4,I ((k:Int)+1))],[XI (tabL (sofF l) k)]⟩) (fun k=>k≤l.length-2) (fun k=>l.length-k) 0 (by omega) (go (r:=?_)) (fun k hk=>?_)
 ·simp [tabL]
 have hkl:=tabL_len (sofF l) k
 have hsn:=tabL_snoc (sofF l) k
 by_cases hlt:k<l.length-2
 ·have g0:=in_get h1 (k:=k) (by omega)
  have g1:=in_get h1 (k:=k+1) (by omega)
  have g2:=in_get h1 (k:=k+2) (by omega)
  have e0:((k:Int)+1-1).toNat=k:=by omega
  have e1:((k:Int)+1).toNat=k+1:=by omega
  have e2:((k:Int)+1+1).toNat=k+2:=by omega
  refine go (r:=?_);and_intros<;>intros<;>try exact True.intro
  all_goals first|contradiction|omega|skip
  rw [e0,e1,e2,hsn]
  unfold sofF
  rw [show max 0 (min 255 (l.getD k 0))=l.getD k 0 by omega,show max 0 (min 255 (l.getD (k+1) 0))=l.getD (k+1) 0 by omega,show max 0 (min 255 (l.getD (k+2) 0))=l.getD (k+2) 0 by omega]
 ·obtain rfl:k=l.length-2:=by omega
  refine go (r:=?_);and_intros<;>intros<;>try exact True.intro
  all_goals first|contradiction|omega|rfl⟩
instance SlopeRow_s:Con 276 (∀ (t l:List Int) (c:Int) (a b:Bool) (n:Int) (y:Nat),NbOk t l c n∧(y:Int)<n→Fn 276 [NbA t l c a b,I n,I y] [XI (tabL (sloF t l c y) n.toNat)] (.own 0 0 0 n.toNat)):=⟨fun t l c a b n y hl=>by
 obtain ⟨h,hy⟩:=hl
 have hd:=decide_eq_true h
 obtain ⟨h1,h2,h3,h4,h5,h6⟩:=id h
 have g1:=in_get h5 (k:=y) (by omega)
 refine FnC.of_body tabOk Tryz.func276 Tryz.ntmps276 rfl (by decide +kernel) (by simp) fun G=>?_
 refine go (r:=?_);and_intros<;>intros<;>try exact True.intro
 all_goals first|contradiction|omega|skip
 refine WpA.loop (fun k:Nat=>⟨[(1,I n),(3,.ptr 0 0 0),(7,.own 1 0 0 (4*k)),(8,I (l.getD y 0-c)),(9,I (4*(k:Int)))],[NbO t l c a b,XI (tabL (sloF t l c y) (4*k))]⟩) (fun k=>4*(k:Int)≤n) (fun k=>n.toNat-k) 0 (by omega) (go (r:=?_)) (fun k hk=>?_)
 ·simp [tabL]
 have hkl:=tabL_len (sloF t l c y) (4*k)
 by_cases hlt:4*(k:Int)<n
 ·have h44:4*k+4≤n.toNat:=by omega
  have hst:=slo_step h hy h44
  have e1:(4*(k:Int)).toNat=4*k:=by omega
  have e2:(4*(k:Int)+4).toNat-(4*(k:Int)).toNat=4:=by omega
  have hl1:((t.drop (4*(k:Int)).toNat).take ((4*(k:Int)+4).toNat-(4*(k:Int)).toNat)).length=4:=by rw [e2,e1,List.length_take,List.length_drop];omega
  have hin:In ((t.drop (4*(k:Int)).toNat).take ((4*(k:Int)+4).toNat-(4*(k:Int)).toNat)) 0 255:=by
   unfold In at*
   intro v hv
   exact h4 v (List.mem_of_mem_drop (List.mem_of_mem_take hv))
  refine go (r:=?_);and_intros<;>intros<;>try exact True.intro
  all_goals first|contradiction|omega|exact hin|(rw [e2,e1];exact hst)
 ·have hke:4*k=n.toNat:=by omega
  refine go (r:=?_);and_intros<;>intros<;>try exact True.intro
  all_goals first|contradiction|omega|(rw [hke];done)⟩
theorem SlopeRow_i (t l:List Int) (c:Int) (a b:Bool) (n:Int) (y:Nat) (h:NbOk t l c n∧(y:Int)<n):Fn 276 [NbA t l c a b,I n,I y] [] (IL (tabL (sloF t l c y) n.toNat)):=by
 have e:IL (tabL (sloF t l c y) n.toNat)=.imm 1 n.toNat (ints (tabL (sloF t l c y) n.toNat)):=by show AV.imm 1 _ _=_;rw [tabL_len]
 rw [e]
 exact FnC.still (SlopeRow_s.ok t l c a b n y h) (.own rfl rfl rfl (by simp [tabL_len]) rfl (Snap.same rfl (still_ints _) (nofre_ints _)) .nil)
def sofS (m:Int) (t l:List Int) (c n:Int):List Int:=if m=4 then sofL (t++[t.getD (2*n-1).toNat 0]) else sofL (bordL t l c n)
section
attribute [-instance] SlopeRow_s
theorem l17Row_k (m:Int) (t l:List Int) (c:Int) (a b:Bool) (n:Int) (y:Nat) (h:NbOk t l c n∧(y:Int)<n∧0≤m∧m≤5):Fn 235 [I m,NbA t l c a b,I n,I y,IL (sofS m t l c n)] [] (IL (rowP m t l c a b n y)):=by
 obtain ⟨h0,hy,hm0,hm5⟩:=h
 obtain ⟨h1,h2,h3,h4,h5,h6⟩:=id h0
 have hm:m=0∨m=1∨m=2∨m=3∨m=4∨m=5:=by omega
 rcases hm with rfl|rfl|rfl|rfl|rfl|rfl
 ·rw [row_0 h0 hy]
  have hme:=mean_in a b h0
  have el:IL (tabL (fun _=>meanL t l c a b n) n.toNat)=.imm 1 n.toNat (ints (tabL (fun _=>meanL t l c a b n) n.toNat)):=by show AV.imm 1 _ _=_;rw [tabL_len]
  rw [el]
  refine FnC.still (N:=[XI (tabL (fun _=>meanL t l c a b n) n.toNat)]) (r:=.own 0 0 0 n.toNat) ?_ (.own rfl rfl rfl (by simp [tabL_len]) rfl (Snap.same rfl (still_ints _) (nofre_ints _)) .nil)
  refine FnC.of_body tabOk Tryz.func235 Tryz.ntmps235 rfl (by decide +kernel) (by simp) fun G=>?_
  refine go (r:=?_);and_intros<;>intros<;>try exact True.intro
  all_goals first|contradiction|omega|skip
  refine WpA.loop (fun k:Nat=>⟨[(2,I n),(11,.own 1 0 0 k),(12,I (meanL t l c a b n)),(13,I k)],[NbO t l c a b,XI (tabL (fun _=>meanL t l c a b n) k)]⟩) (fun k=>(k:Int)≤n) (fun k=>n.toNat-k) 0 (by omega) (go (r:=?_)) (fun k hk=>?_)
  ·simp [tabL]
  have hkl:=tabL_len (fun _=>meanL t l c a b n) k
  have hsn:=tabL_snoc (fun _=>meanL t l c a b n) k
  by_cases hlt:(k:Int)<n
  ·refine go (r:=?_);and_intros<;>intros<;>try exact True.intro
   all_goals first|contradiction|omega|exact hsn.symm
  ·have hke:k=n.toNat:=by omega
   subst hke
   refine go (r:=?_);and_intros<;>intros<;>try exact True.intro
   all_goals first|contradiction|omega
 ·rw [row_1 h0 hy]
  refine FnC.of_body tabOk Tryz.func235 Tryz.ntmps235 rfl (by decide +kernel) (by simp) fun G=>?_
  refine go (r:=?_);and_intros<;>intros<;>try exact True.intro
  all_goals trace_state
 ·rw [row_2 h0 hy]
  have el:IL (tabL (fun _=>l.getD y 0) n.toNat)=.imm 1 n.toNat (ints (tabL (fun _=>l.getD y 0) n.toNat)):=by show AV.imm 1 _ _=_;rw [tabL_len]
  rw [el]
  refine FnC.still (N:=[XI (tabL (fun _=>l.getD y 0) n.toNat)]) (r:=.own 0 0 0 n.toNat) ?_ (.own rfl rfl rfl (by simp [tabL_len]) rfl (Snap.same rfl (still_ints _) (nofre_ints _)) .nil)
  refine FnC.of_body tabOk Tryz.func235 Tryz.ntmps235 rfl (by decide +kernel) (by simp) fun G=>?_
  refine go (r:=?_);and_intros<;>intros<;>try exact True.intro
  all_goals first|contradiction|omega|skip
  refine WpA.loop (fun k:Nat=>⟨[(2,I n),(11,.own 1 0 0 k),(12,I (l.getD y 0)),(13,I k)],[NbO t l c a b,XI (tabL (fun _=>l.getD y 0) k)]⟩) (fun k=>(k:Int)≤n) (fun k=>n.toNat-k) 0 (by omega) (go (r:=?_)) (fun k hk=>?_)
  ·simp [tabL]
  have hkl:=tabL_len (fun _=>l.getD y 0) k
  have hsn:=tabL_snoc (fun _=>l.getD y 0) k
  by_cases hlt:(k:Int)<n
  ·refine go (r:=?_);and_intros<;>intros<;>try exact True.intro
   all_goals first|contradiction|omega|exact hsn.symm
  ·have hke:k=n.toNat:=by omega
   subst hke
   refine go (r:=?_);and_intros<;>intros<;>try exact True.intro
   all_goals first|contradiction|omega
 ·rw [row_3 h0 hy]
  refine FnC.of_body tabOk Tryz.func235 Tryz.ntmps235 rfl (by decide +kernel) (by simp) fun G=>?_
  refine go (r:=?_);and_intros<;>intros<;>try exact True.intro
  refine K.call ?_
  apply WpL.callK (SlopeRow_i t l c a b n y ⟨h0,hy⟩)
  ·exact .agg (.keep rfl rfl (.keep rfl rfl (.keep rfl rfl (.keep rfl rfl (.keep rfl rfl .nil))))) (.keep rfl rfl (.keep rfl rfl .nil))
  ·decide
  refine go (r:=?_);and_intros<;>intros<;>try exact True.intro
  all_goals trace_state
 ·rw [row_4 h0 hy]
  have hsl:=sofL_len (t++[t.getD (2*n-1).toNat 0])
  rw [List.length_append,List.length_singleton] at hsl
  unfold sofS
  rw [if_pos rfl]
  have e1:((y:Int)+n).toNat-(y:Int).toNat=n.toNat:=by omega
  have e2:(y:Int).toNat=y:=by omega
  refine FnC.of_body tabOk Tryz.func235 Tryz.ntmps235 rfl (by decide +kernel) (by simp) fun G=>?_
  refine go (r:=?_);and_intros<;>intros<;>try exact True.intro
  all_goals (rw [e1,e2];exact .keep rfl rfl rfl .nil)
 ·rw [row_5 h0 hy]
  have hsl:=sofL_len (bordL t l c n)
  have hbl:=bord_len h0
  unfold sofS
  rw [if_neg (by decide)]
  have e1:(2*n-1-(y:Int)).toNat-(n-1-(y:Int)).toNat=n.toNat:=by omega
  have e2:(n-1-(y:Int)).toNat=n.toNat-1-y:=by omega
  refine FnC.of_body tabOk Tryz.func235 Tryz.ntmps235 rfl (by decide +kernel) (by simp) fun G=>?_
  refine go (r:=?_);and_intros<;>intros<;>try exact True.intro
  all_goals (rw [e1,e2];exact .keep rfl rfl rfl .nil)
end
theorem sofS_len {t l:List Int} {c n:Int} {m:Int} (h:NbOk t l c n):(sofS m t l c n).length≤16:=by
 have h1:=sofL_len (t++[t.getD (2*n-1).toNat 0])
 have h2:=sofL_len (bordL t l c n)
 have h3:=bord_len h
 rw [List.length_append,List.length_singleton] at h1
 have h4:=h.1
 have h5:=h.2.1
 unfold sofS
 split<;>omega
section
attribute [-instance] Border_s Softened_s
theorem FastPred_o (m:Int) (t l:List Int) (c:Int) (a b:Bool) (n:Nat) (h:NbOk t l c n∧0≤m∧m≤5):Fn 146 [I m,NbA t l c a b,I n] [XI (predS m t l c a b n)] (.own 0 0 0 (predS m t l c a b n).length):=by
 obtain ⟨h0,hm0,hm5⟩:=h
 obtain ⟨h1,h2,h3,h4,h5,h6⟩:=id h0
 have hbl:=bord_len h0
 have hbi:=bord_in h0
 have hd:=decide_eq_true h0
 have hmw:¬modeW m=[]:=fun hh=>(modeW_nil m).1 hh ⟨hm0,hm5⟩
 have hps:predS m t l c a b n=prK m t l c a b n (n*n):=by rw [predS,if_pos ⟨h0,hm0,hm5⟩,Int.toNat_natCast]
 have hsS:=sofS_len (m:=m) h0
 have hpl:=prK_len m t l c a b n (n*n)
 have hn48:n=4∨n=8:=by omega
 have g1:=in_get h4 (k:=(2*(n:Int)-1).toNat) (by omega)
 have hti:In (t++[t.getD (2*(n:Int)-1).toNat 0]) 0 255:=in_append h4 (in_one g1)
 rw [hps,hpl]
 by_cases hm4:m=4
 ·have hss:sofS m t l c n=sofL (t++[t.getD (2*(n:Int)-1).toNat 0]):=by unfold sofS;rw [if_pos hm4]
  rcases hn48 with rfl|rfl
  ·refine FnC.of_body tabOk Tryz.func146 Tryz.ntmps146 rfl (by decide +kernel) (by simp) fun G=>?_
   refine goR (r:=?_);and_intros<;>intros<;>try exact True.intro
   all_goals first|contradiction|omega|skip
   refine K.call ?_
   apply WpL.callI (Border_s.ok t l c a b ((4:Nat):Int) (by omega))
   ·exact snapA
   ·exact locA
   ·exact outA
   ·exact frzA
   ·decide
   refine goR (r:=?_);and_intros<;>intros<;>try exact True.intro
   refine K.call ?_
   apply WpL.callI (Softened_s.ok (bordL t l c ((4:Nat):Int)) ⟨hbi,by omega,by omega⟩)
   ·exact snapA
   ·exact locA
   ·exact outA
   ·exact frzA
   ·decide
   refine goR (r:=?_);and_intros<;>intros<;>try exact True.intro
   all_goals first|contradiction|omega|skip
   try
    refine K.call ?_
    apply WpL.callI (Softened_s.ok (t++[t.getD (2*((4:Nat):Int)-1).toNat 0]) ⟨hti,by simp;omega,by simp;omega⟩)
    ·exact snapA
    ·exact locA
    ·exact outA
    ·exact frzA
    ·decide
    refine goR (r:=?_);and_intros<;>intros<;>try exact True.intro
   rw [←hss]
   refine WpA.loop (fun y:Nat=>⟨[(0,I m),(2,I 4),(4,.ptr 0 0 0),(7,.own 1 0 0 (y*4)),(8,IL (sofS m t l c ((4:Nat):Int))),(10,I y)],[NbO t l c a b,XI (prK m t l c a b 4 (y*4))]⟩) (fun y=>y≤4) (fun y=>4-y) 0 (by omega) (go (r:=?_)) (fun y hy=>?_)
   ·and_intros<;>first|exact True.intro|rfl
   have hkl:=prK_len m t l c a b 4 (y*4)
   by_cases hlt:y<4
   ·have hrw:=pr_row (m:=m) (t:=t) (l:=l) (c:=c) (a:=a) (b:=b) (n:=4) (y:=y) (by decide)
    have hrl:=rowP_len m t l c a b ((4:Nat):Int) y
    refine goR (r:=?_);and_intros<;>intros<;>try exact True.intro
    all_goals first|contradiction|omega|skip
    refine K.call ?_
    apply WpL.callK (l17Row_k m t l c a b ((4:Nat):Int) y ⟨h0,by omega,hm0,hm5⟩)
    ·exact .keep rfl rfl (.agg (.keep rfl rfl (.keep rfl rfl (.keep rfl rfl (.keep rfl rfl (.keep rfl rfl .nil))))) (.keep rfl rfl (.keep rfl rfl (.keep rfl rfl .nil))))
    ·decide
    refine goR (r:=?_);and_intros<;>intros<;>try exact True.intro
    all_goals first|contradiction|omega|exact hrw
   ·obtain rfl:y=4:=by omega
    refine goR (r:=?_);and_intros<;>intros<;>try exact True.intro
    all_goals first|contradiction|omega
  ·refine FnC.of_body tabOk Tryz.func146 Tryz.ntmps146 rfl (by decide +kernel) (by simp) fun G=>?_
   refine goR (r:=?_);and_intros<;>intros<;>try exact True.intro
   all_goals first|contradiction|omega|skip
   refine K.call ?_
   apply WpL.callI (Border_s.ok t l c a b ((8:Nat):Int) (by omega))
   ·exact snapA
   ·exact locA
   ·exact outA
   ·exact frzA
   ·decide
   refine goR (r:=?_);and_intros<;>intros<;>try exact True.intro
   refine K.call ?_
   apply WpL.callI (Softened_s.ok (bordL t l c ((8:Nat):Int)) ⟨hbi,by omega,by omega⟩)
   ·exact snapA
   ·exact locA
   ·exact outA
   ·exact frzA
   ·decide
   refine goR (r:=?_);and_intros<;>intros<;>try exact True.intro
   all_goals first|contradiction|omega|skip
   try
    refine K.call ?_
    apply WpL.callI (Softened_s.ok (t++[t.getD (2*((8:Nat):Int)-1).toNat 0]) ⟨hti,by simp;omega,by simp;omega⟩)
    ·exact snapA
    ·exact locA
    ·exact outA
    ·exact frzA
    ·decide
    refine goR (r:=?_);and_intros<;>intros<;>try exact True.intro
   rw [←hss]
   refine WpA.loop (fun y:Nat=>⟨[(0,I m),(2,I 8),(4,.ptr 0 0 0),(7,.own 1 0 0 (y*8)),(8,IL (sofS m t l c ((8:Nat):Int))),(10,I y)],[NbO t l c a b,XI (prK m t l c a b 8 (y*8))]⟩) (fun y=>y≤8) (fun y=>8-y) 0 (by omega) (go (r:=?_)) (fun y hy=>?_)
   ·and_intros<;>first|exact True.intro|rfl
   have hkl:=prK_len m t l c a b 8 (y*8)
   by_cases hlt:y<8
   ·have hrw:=pr_row (m:=m) (t:=t) (l:=l) (c:=c) (a:=a) (b:=b) (n:=8) (y:=y) (by decide)
    have hrl:=rowP_len m t l c a b ((8:Nat):Int) y
    refine goR (r:=?_);and_intros<;>intros<;>try exact True.intro
    all_goals first|contradiction|omega|skip
    refine K.call ?_
    apply WpL.callK (l17Row_k m t l c a b ((8:Nat):Int) y ⟨h0,by omega,hm0,hm5⟩)
    ·exact .keep rfl rfl (.agg (.keep rfl rfl (.keep rfl rfl (.keep rfl rfl (.keep rfl rfl (.keep rfl rfl .nil))))) (.keep rfl rfl (.keep rfl rfl (.keep rfl rfl .nil))))
    ·decide
    refine goR (r:=?_);and_intros<;>intros<;>try exact True.intro
    all_goals first|contradiction|omega|exact hrw
   ·obtain rfl:y=8:=by omega
    refine goR (r:=?_);and_intros<;>intros<;>try exact True.intro
    all_goals first|contradiction|omega
 ·have hss:sofS m t l c n=sofL (bordL t l c n):=by unfold sofS;rw [if_neg hm4]
  rcases hn48 with rfl|rfl
  ·refine FnC.of_body tabOk Tryz.func146 Tryz.ntmps146 rfl (by decide +kernel) (by simp) fun G=>?_
   refine goR (r:=?_);and_intros<;>intros<;>try exact True.intro
   all_goals first|contradiction|omega|skip
   refine K.call ?_
   apply WpL.callI (Border_s.ok t l c a b ((4:Nat):Int) (by omega))
   ·exact snapA
   ·exact locA
   ·exact outA
   ·exact frzA
   ·decide
   refine goR (r:=?_);and_intros<;>intros<;>try exact True.intro
   refine K.call ?_
   apply WpL.callI (Softened_s.ok (bordL t l c ((4:Nat):Int)) ⟨hbi,by omega,by omega⟩)
   ·exact snapA
   ·exact locA
   ·exact outA
   ·exact frzA
   ·decide
   refine goR (r:=?_);and_intros<;>intros<;>try exact True.intro
   all_goals first|contradiction|omega|skip
   try
    refine K.call ?_
    apply WpL.callI (Softened_s.ok (t++[t.getD (2*((4:Nat):Int)-1).toNat 0]) ⟨hti,by simp;omega,by simp;omega⟩)
    ·exact snapA
    ·exact locA
    ·exact outA
    ·exact frzA
    ·decide
    refine goR (r:=?_);and_intros<;>intros<;>try exact True.intro
   rw [←hss]
   refine WpA.loop (fun y:Nat=>⟨[(0,I m),(2,I 4),(4,.ptr 0 0 0),(7,.own 1 0 0 (y*4)),(8,IL (sofS m t l c ((4:Nat):Int))),(10,I y)],[NbO t l c a b,XI (prK m t l c a b 4 (y*4))]⟩) (fun y=>y≤4) (fun y=>4-y) 0 (by omega) (go (r:=?_)) (fun y hy=>?_)
   ·and_intros<;>first|exact True.intro|rfl
   have hkl:=prK_len m t l c a b 4 (y*4)
   by_cases hlt:y<4
   ·have hrw:=pr_row (m:=m) (t:=t) (l:=l) (c:=c) (a:=a) (b:=b) (n:=4) (y:=y) (by decide)
    have hrl:=rowP_len m t l c a b ((4:Nat):Int) y
    refine goR (r:=?_);and_intros<;>intros<;>try exact True.intro
    all_goals first|contradiction|omega|skip
    refine K.call ?_
    apply WpL.callK (l17Row_k m t l c a b ((4:Nat):Int) y ⟨h0,by omega,hm0,hm5⟩)
    ·exact .keep rfl rfl (.agg (.keep rfl rfl (.keep rfl rfl (.keep rfl rfl (.keep rfl rfl (.keep rfl rfl .nil))))) (.keep rfl rfl (.keep rfl rfl (.keep rfl rfl .nil))))
    ·decide
    refine goR (r:=?_);and_intros<;>intros<;>try exact True.intro
    all_goals first|contradiction|omega|exact hrw
   ·obtain rfl:y=4:=by omega
    refine goR (r:=?_);and_intros<;>intros<;>try exact True.intro
    all_goals first|contradiction|omega
  ·refine FnC.of_body tabOk Tryz.func146 Tryz.ntmps146 rfl (by decide +kernel) (by simp) fun G=>?_
   refine goR (r:=?_);and_intros<;>intros<;>try exact True.intro
   all_goals first|contradiction|omega|skip
   refine K.call ?_
   apply WpL.callI (Border_s.ok t l c a b ((8:Nat):Int) (by omega))
   ·exact snapA
   ·exact locA
   ·exact outA
   ·exact frzA
   ·decide
   refine goR (r:=?_);and_intros<;>intros<;>try exact True.intro
   refine K.call ?_
   apply WpL.callI (Softened_s.ok (bordL t l c ((8:Nat):Int)) ⟨hbi,by omega,by omega⟩)
   ·exact snapA
   ·exact locA
   ·exact outA
   ·exact frzA
   ·decide
   refine goR (r:=?_);and_intros<;>intros<;>try exact True.intro
   all_goals first|contradiction|omega|skip
   try
    refine K.call ?_
    apply WpL.callI (Softened_s.ok (t++[t.getD (2*((8:Nat):Int)-1).toNat 0]) ⟨hti,by simp;omega,by simp;omega⟩)
    ·exact snapA
    ·exact locA
    ·exact outA
    ·exact frzA
    ·decide
    refine goR (r:=?_);and_intros<;>intros<;>try exact True.intro
   rw [←hss]
   refine WpA.loop (fun y:Nat=>⟨[(0,I m),(2,I 8),(4,.ptr 0 0 0),(7,.own 1 0 0 (y*8)),(8,IL (sofS m t l c ((8:Nat):Int))),(10,I y)],[NbO t l c a b,XI (prK m t l c a b 8 (y*8))]⟩) (fun y=>y≤8) (fun y=>8-y) 0 (by omega) (go (r:=?_)) (fun y hy=>?_)
   ·and_intros<;>first|exact True.intro|rfl
   have hkl:=prK_len m t l c a b 8 (y*8)
   by_cases hlt:y<8
   ·have hrw:=pr_row (m:=m) (t:=t) (l:=l) (c:=c) (a:=a) (b:=b) (n:=8) (y:=y) (by decide)
    have hrl:=rowP_len m t l c a b ((8:Nat):Int) y
    refine goR (r:=?_);and_intros<;>intros<;>try exact True.intro
    all_goals first|contradiction|omega|skip
    refine K.call ?_
    apply WpL.callK (l17Row_k m t l c a b ((8:Nat):Int) y ⟨h0,by omega,hm0,hm5⟩)
    ·exact .keep rfl rfl (.agg (.keep rfl rfl (.keep rfl rfl (.keep rfl rfl (.keep rfl rfl (.keep rfl rfl .nil))))) (.keep rfl rfl (.keep rfl rfl (.keep rfl rfl .nil))))
    ·decide
    refine goR (r:=?_);and_intros<;>intros<;>try exact True.intro
    all_goals first|contradiction|omega|exact hrw
   ·obtain rfl:y=8:=by omega
    refine goR (r:=?_);and_intros<;>intros<;>try exact True.intro
    all_goals first|contradiction|omega
end
end Go.Proofs.YtndflfipaddfoaaGreat


namespace Go.Proofs.YtndflfipaddfoaaGreat
open Go Go.Abs
attribute [local irreducible] WpA WpL Rnd Blk Abs.Seq Abs.Fin Abs.FinG FnC FnG Only
instance FastPred_s:Con 146 (∀ (m:Int) (t l:List Int) (c:Int) (a b:Bool) (n:Int),NbOk t l c n∧0≤m∧m≤5→Fn 146 [I m,NbA t l c a b,I n] [XI (predS m t l c a b n)] (.own 0 0 0 (predS m t l c a b n).length)):=⟨fun m t l c a b n h=>by
 obtain ⟨k,rfl⟩:∃k:Nat,n=k:=⟨n.toNat,by have:=h.1.1;omega⟩
 exact FastPred_o m t l c a b k h⟩
section
attribute [-instance] FastResidual_s
instance PutFast_s:Con 67 (∀ (W H:Int) (p:List Int) (w h q:Int) (b d:Bool) (lens:List Int) (x y m:Int) (lv:List Int),p.length≤1099511627776∧lv.length≤1099511627776→Fn 67 [FrA W H p,HdA w h q b d lens,I x,I y,.agg [I m,IL lv]] [XI (putL W H p q b x y m lv)] (.tup [FrOwn 0 W H p.length,B (decide (PutOk W H p q x y m lv))])):=⟨fun W H p w h q b d lens x y m lv hl=>by
 obtain ⟨hpl,hll⟩:=hl
 have hrl:=resL_le b q lv
 have hmw:=modeW_nil m
 by_cases hok:LvOk lv∧0<stepL q
 ·have hrn:=resL_len (b:=b) hok
  have hr0:¬(resL b q lv).length=0:=by have:=hok.1.2;omega
  by_cases hf:Fits W H p x y (side lv.length)
  ·by_cases hm:0≤m∧m≤5
   ·have hp:PutOk W H p q x y m lv:=⟨hf,hok,hm⟩
    have hd:=decide_eq_true hp
    have hds:=decide_eq_true (put_set (b:=b) hp)
    unfold nbP at hds
    have hmw2:¬modeW m=[]:=fun hh=>(hmw.1 hh) hm
    have htw:=put_two (b:=b) hp
    unfold nbP at htw
    obtain ⟨hn1,hn2⟩:=nb_lens hf
    have hn3:=hf.2.1
    have hn4:=nb_ok hf
    have hpr:(predS m (topL W H p x y (side lv.length)) (lefL W H p x y (side lv.length)) (corL W H p x y (side lv.length)) (hasT W H p x y (side lv.length)) (hasE W H p x y (side lv.length)) (side lv.length)).length≤64:=by have:=htw.2;have:=hok.1.2;omega
    have hre:=recL_len (predS m (topL W H p x y (side lv.length)) (lefL W H p x y (side lv.length)) (corL W H p x y (side lv.length)) (hasT W H p x y (side lv.length)) (hasE W H p x y (side lv.length)) (side lv.length)) (resL b q lv)
    have hsl:=setL_len W H p x y (recL (predS m (topL W H p x y (side lv.length)) (lefL W H p x y (side lv.length)) (corL W H p x y (side lv.length)) (hasT W H p x y (side lv.length)) (hasE W H p x y (side lv.length)) (side lv.length)) (resL b q lv))
    rw [if_pos htw.1] at hre
    rw [put_eq hp,hd]
    skip
    refine FnC.of_body tabOk Tryz.func67 Tryz.ntmps67 rfl (by decide +kernel) (by simp) fun G=>?_
    refine goR (r:=?_);and_intros<;>intros<;>try exact True.intro
    all_goals first|contradiction|omega|skip
    refine K.call ?_
    apply WpL.callI (FastResidual_s.ok w h q b d lens lv hll)
    ·exact snapA
    ·exact locA
    ·exact outA
    ·exact frzA
    ·decide
    refine goR (r:=?_);and_intros<;>intros<;>try exact True.intro
    all_goals first|contradiction|omega|skip
    generalize hX:setL W H p x y (recL (predS m (topL W H p x y (side lv.length)) (lefL W H p x y (side lv.length)) (corL W H p x y (side lv.length)) (hasT W H p x y (side lv.length)) (hasE W H p x y (side lv.length)) (side lv.length)) (resL b q lv))=X at hsl ⊢
    try dsimp only [List.append]
    apply WpA.regionRF (O:=[FrO W H p,⟨[I w,I h,I q,B b,B d,IL lens],0,0,none⟩,⟨[I m,IL lv],0,0,none⟩,⟨[I 0,I 0,.nilS],0,0,none⟩]) (Or:=[]) (O1:=[FrO W H p,⟨[I w,I h,I q,B b,B d,IL lens],0,0,none⟩,⟨[I m,IL lv],0,0,none⟩,⟨[I 0,I 0,.nilS],0,0,none⟩,⟨ints X,1,1,some 3⟩,⟨[I W,I H,.own 4 1 0 p.length],1,0,none⟩,deadO,deadO]) 20 2 [] [1] rfl mixed (by decide +kernel)
    ·exact rfl
    ·apply HeadR.consF .none rfl
     ·exact rfl
     ·exact rfl
     ·exact in1
     ·exact rfl
     ·exact rfl
     apply HeadR.consF .none rfl
     ·exact rfl
     ·exact rfl
     ·exact in1
     ·exact rfl
     ·exact rfl
     apply HeadR.consF .none rfl
     ·exact rfl
     ·exact rfl
     ·exact in1
     ·exact rfl
     ·exact rfl
     apply HeadR.consF .none rfl
     ·exact rfl
     ·exact rfl
     ·exact in1
     ·exact rfl
     ·exact rfl
     apply HeadR.consF .none rfl
     ·exact rfl
     ·exact rfl
     ·exact in1
     ·exact rfl
     ·exact rfl
     apply HeadR.consF .none rfl
     ·exact rfl
     ·exact rfl
     ·exact in1
     ·exact rfl
     ·exact rfl
     apply HeadR.consF .none rfl
     ·exact rfl
     ·exact rfl
     ·exact in1
     ·exact rfl
     ·exact rfl
     apply HeadR.consF .none rfl
     ·exact rfl
     ·exact rfl
     ·exact in1
     ·exact rfl
     ·exact rfl
     apply HeadR.consF .none rfl
     ·exact rfl
     ·exact rfl
     ·exact in1
     ·exact rfl
     ·exact rfl
     apply HeadR.consF .none rfl
     ·exact rfl
     ·exact rfl
     ·intro Tv Ov hc2 hp9 hd9 hk9
      refine K.call ?_
      apply WpL.callI (NbAt_s.ok W H p x y (side lv.length) hpl)
      ·exact snapA
      ·exact locA
      ·exact outA
      ·exact frzA
      ·decide
      ·exact WpL.nil (Only.mk rfl)
     ·exact rfl
     ·exact rfl
     apply HeadR.consF .none rfl
     ·exact rfl
     ·exact rfl
     ·exact in1
     ·exact rfl
     ·exact rfl
     apply HeadR.consF .none rfl
     ·exact rfl
     ·exact rfl
     ·intro Tv Ov hc2 hp9 hd9 hk9
      refine K.call ?_
      apply WpL.callI (FastPred_s.ok m (topL W H p x y (side lv.length)) (lefL W H p x y (side lv.length)) (corL W H p x y (side lv.length)) (hasT W H p x y (side lv.length)) (hasE W H p x y (side lv.length)) (side lv.length) ⟨hn4,hm⟩)
      ·exact snapA
      ·exact locA
      ·exact outA
      ·exact frzA
      ·decide
      ·exact WpL.nil (Only.mk rfl)
     ·exact rfl
     ·exact rfl
     apply HeadR.consF .none rfl
     ·exact rfl
     ·exact rfl
     ·exact in1
     ·exact rfl
     ·exact rfl
     apply HeadR.consF .none rfl
     ·exact rfl
     ·exact rfl
     ·intro Tv Ov hc2 hp9 hd9 hk9
      refine K.call ?_
      apply WpL.callI (FastRecon_s.ok (predS m (topL W H p x y (side lv.length)) (lefL W H p x y (side lv.length)) (corL W H p x y (side lv.length)) (hasT W H p x y (side lv.length)) (hasE W H p x y (side lv.length)) (side lv.length)) (resL b q lv) htw.1)
      ·exact snapA
      ·exact locA
      ·exact outA
      ·exact frzA
      ·decide
      ·exact WpL.nil (Only.mk rfl)
     ·exact rfl
     ·exact rfl
     apply HeadR.consF (V:=.tup [.agg [I W,I H,.own 4 1 0 p.length],B true]) (.put 0 ⟨ints X,1,1,some 3⟩) rfl
     ·exact rfl
     ·exact rfl
     ·intro Tv Ov hc2 hp9 hd9 hk9
      subst hX
      refine K.call ?_
      have hcon:=SetBlock_s.ok W H p x y (recL (predS m (topL W H p x y (side lv.length)) (lefL W H p x y (side lv.length)) (corL W H p x y (side lv.length)) (hasT W H p x y (side lv.length)) (hasE W H p x y (side lv.length)) (side lv.length)) (resL b q lv)) ⟨hpl,by omega⟩
      rw [hsl,hds] at hcon
      refine WpL.callF hcon snapA locA outA (cnt_some _ 0) rfl rfl (by decide) ?_
      rw [Nat.zero_add]
      apply WpL.putV (p:=0)
      ·exact .tup (.agg (.keep rfl rfl (.keep rfl rfl (.own (by first|rfl|exact Nat.zero_add _) .nil))) (.keep rfl rfl .nil)) .nil
      ·exact hp9 0 _ rfl
      ·exact Nat.zero_le _
      ·exact rfl
      ·exact still_ints _
     ·exact rfl
     ·exact rfl
     apply HeadR.consF .none rfl
     ·exact rfl
     ·exact rfl
     ·exact in1
     ·exact rfl
     ·exact rfl
     apply HeadR.consF .none rfl
     ·exact rfl
     ·exact rfl
     ·exact in1
     ·exact rfl
     ·exact rfl
     apply HeadR.consF .none rfl
     ·exact rfl
     ·exact rfl
     ·exact in1
     ·exact rfl
     ·exact rfl
     apply HeadR.consF (V:=.ptr 5 1 0) (.put 1 ⟨[I 0,I 0,.nilS],1,0,none⟩) rfl
     ·exact rfl
     ·exact rfl
     ·intro Tv Ov hc2 hp9 hd9 hk9
      refine WpL.allocStruct tabOk rfl (nid_len _ 0) (by decide) ?_
      apply WpL.putV (p:=1)
      ·exact .ptr (by first|rfl|exact Nat.zero_add _) .nil
      ·exact hp9 1 _ rfl
      ·exact Nat.zero_le _
      ·exact rfl
      ·exact rfl
     ·exact rfl
     ·exact rfl
     apply HeadR.consN (.step 1 ⟨[I W,I H,.own 4 1 0 p.length],1,0,none⟩) 1000
     ·exact rfl
     ·exact rfl
     ·intro Tv Ov hc2 hp9 hd9 hk9
      obtain ⟨A0,R0,rfl⟩:=split2 (hp9 1 _ rfl)
      have h0:=hd9 14 _ 0 _ (by decide) rfl rfl rfl
      simp only [List.getElem?_cons_zero,Option.some.injEq] at h0
      subst h0
      refine K.st ?_
      refine WpL.store tabOk rfl rfl rfl rfl rfl rfl rfl rfl (Nat.le_of_ble_eq_true rfl) ?_
      refine WpL.weak (Weak.any1 (d:=1000)) ?_
      exact WpL.nil (Only.mk rfl)
     ·exact rfl
     ·exact rfl
     exact HeadR.nil
    ·exact rfl
    ·exact rfl
    ·exact rfl
    ·exact rfl
    ·exact rfl
    ·exact rfl
    ·exact rfl
    refine go (r:=?_);and_intros<;>intros<;>try exact True.intro
    all_goals first|contradiction|omega|exact hds
   ·have hd:=decide_eq_false (fun hh:PutOk W H p q x y m lv=>hm hh.2.2)
    have hmw2:modeW m=[]:=hmw.2 hm
    rw [put_no (of_decide_eq_false hd),hd]
    refine FnC.of_body tabOk Tryz.func67 Tryz.ntmps67 rfl (by decide +kernel) (by simp) fun G=>?_
    refine goR (r:=?_);and_intros<;>intros<;>try exact True.intro
    all_goals first|contradiction|omega|skip
    refine K.call ?_
    apply WpL.callI (FastResidual_s.ok w h q b d lens lv hll)
    ·exact snapA
    ·exact locA
    ·exact outA
    ·exact frzA
    ·decide
    refine goR (r:=?_);and_intros<;>intros<;>try exact True.intro
    all_goals first|contradiction|omega
  ·have hd:=decide_eq_false (fun hh:PutOk W H p q x y m lv=>hf hh.1)
   rw [put_no (of_decide_eq_false hd),hd]
   skip
   refine FnC.of_body tabOk Tryz.func67 Tryz.ntmps67 rfl (by decide +kernel) (by simp) fun G=>?_
   refine goR (r:=?_);and_intros<;>intros<;>try exact True.intro
   all_goals first|contradiction|omega|skip
   refine K.call ?_
   apply WpL.callI (FastResidual_s.ok w h q b d lens lv hll)
   ·exact snapA
   ·exact locA
   ·exact outA
   ·exact frzA
   ·decide
   refine goR (r:=?_);and_intros<;>intros<;>try exact True.intro
   all_goals first|contradiction|omega
 ·have hd:=decide_eq_false (fun hh:PutOk W H p q x y m lv=>hok hh.2.1)
  have hrn:=resL_n (b:=b) hok
  have hr0:(resL b q lv).length=0:=by rw [hrn];rfl
  have hf0:¬Fits W H p x y (side 0):=fit0
  rw [put_no (of_decide_eq_false hd),hd]
  refine FnC.of_body tabOk Tryz.func67 Tryz.ntmps67 rfl (by decide +kernel) (by simp) fun G=>?_
  refine goR (r:=?_);and_intros<;>intros<;>try exact True.intro
  all_goals first|contradiction|omega|skip
  refine K.call ?_
  apply WpL.callI (FastResidual_s.ok w h q b d lens lv hll)
  ·exact snapA
  ·exact locA
  ·exact outA
  ·exact frzA
  ·decide
  rw [hrn]
  refine goR (r:=?_);and_intros<;>intros<;>try exact True.intro
  all_goals first|contradiction|omega
 ⟩
end
end Go.Proofs.YtndflfipaddfoaaGreat


namespace Go.Proofs.YtndflfipaddfoaaGreat
open Go Go.Abs
attribute [local irreducible] WpA WpL Rnd Blk Abs.Seq Abs.Fin Abs.FinG FnC FnG Only
theorem wh_in {W H:Int} (h:SidesOk W H):64≤W*H∧W*H≤1024:=by
 have h1:8*8≤W*H:=Int.mul_le_mul h.1 h.2.2.1 (by omega) (by have:=h.1;omega)
 have h2:W*H≤32*32:=Int.mul_le_mul h.2.1 h.2.2.2.1 (by have:=h.2.2.1;omega) (by omega)
 omega
instance FrameNew_s:Con 64 (∀ W H:Int,SidesOk W H→Fn 64 [I W,I H] [XI (List.replicate (W*H).toNat 0)] (FrOwn 0 W H (W*H).toNat)):=⟨fun W H h=>by
 have hm:=wh_in h
 refine FnC.of_body tabOk Tryz.func64 Tryz.ntmps64 rfl (by decide +kernel) (by simp) fun G=>?_
 refine go (r:=?_);and_intros<;>intros<;>try exact True.intro
 all_goals first|contradiction⟩
end Go.Proofs.YtndflfipaddfoaaGreat


namespace Go.Proofs.YtndflfipaddfoaaGreat
open Go Go.Abs
attribute [local irreducible] WpA WpL Rnd Blk Abs.Seq Abs.Fin Abs.FinG FnC FnG Only
instance l25Spot_s:Con 65 (∀ (w h q:Int) (b d:Bool) (L:List Int) (k i:Nat) (e:Bool),(8≤w∧w≤1024∧k≤1048576)∧i<manyE e→Fn 65 [HdA w h q b d L,I k,I i,I (sz8 e)] [] (.tup [I (plc1 w (sz8 e) k i).1,I (plc1 w (sz8 e) k i).2.1])):=⟨fun w h q b d L k i e hl=>by
 obtain ⟨⟨hw,hw2,hk⟩,hi⟩:=hl
 have hw8:1≤w/8∧w/8≤128:=by omega
 have e1:w.tdiv 8=w/8:=Int.tdiv_eq_ediv_of_nonneg (by omega)
 have e2:(k:Int).tmod (w/8)=(k:Int)%(w/8):=Int.tmod_eq_emod_of_nonneg (by omega)
 have e3:(k:Int).tdiv (w/8)=(k:Int)/(w/8):=Int.tdiv_eq_ediv_of_nonneg (by omega)
 have hr0:0≤(k:Int)%(w/8)∧(k:Int)%(w/8)≤1048576:=⟨Int.emod_nonneg _ (by omega),by have:=Int.emod_lt_of_pos (k:Int) (show 0<w/8 by omega);omega⟩
 have hr1:0≤(k:Int)/(w/8)∧(k:Int)/(w/8)≤1048576:=⟨Int.ediv_nonneg (by omega) (by omega),by have:=Int.ediv_le_self (w/8) (show 0≤(k:Int) by omega);omega⟩
 unfold plc1
 cases e with
 |true=>
  have hi0:i<1:=hi
  simp only [sz8,cond_true]
  refine FnC.of_body tabOk Tryz.func65 Tryz.ntmps65 rfl (by decide +kernel) (by simp) fun G=>?_
  refine goR (r:=?_);and_intros<;>intros<;>try exact True.intro
  all_goals first|contradiction|omega|skip
  refine WpA.regionTB 17 mixed (by decide +kernel) ?_
  refine goR (r:=?_);and_intros<;>intros<;>try exact True.intro
  all_goals first|contradiction|omega
 |false=>
  have hi4:i<4:=hi
  simp only [sz8,cond_false]
  refine FnC.of_body tabOk Tryz.func65 Tryz.ntmps65 rfl (by decide +kernel) (by simp) fun G=>?_
  refine goR (r:=?_);and_intros<;>intros<;>try exact True.intro
  all_goals first|contradiction|omega|skip
  refine WpA.regionTB 17 mixed (by decide +kernel) ?_
  refine goR (r:=?_);and_intros<;>intros<;>try exact True.intro
  all_goals first|contradiction|omega⟩
end Go.Proofs.YtndflfipaddfoaaGreat


namespace Go.Proofs.YtndflfipaddfoaaGreat
open Go Go.Abs
theorem ifE_of {b:Prop} [Decidable b] {e:Int} (he:e≠0) (h:ifE b e=0):b:=by
 refine Decidable.byContradiction fun hn=>?_
 rw [ifE_no hn] at h;exact he h
theorem fuC_0 {p:List UInt8} {s c:Int} {k:Int→Int} (h:fuC p s c k=0):c=0∧k (ueV p s)=0∧fuV p s c k=ueV p s:=by
 have hv:fuV p s c k=ueV p s:=by unfold fuV;rw [if_pos h]
 unfold fuC at h
 split at h
 ·rename_i hc
  split at h
  ·exact ⟨hc,h,hv⟩
  ·rename_i hu;exact absurd h hu
 ·rename_i hc;exact absurd h hc
theorem fbC_0 {p:List UInt8} {s c n:Int} {k:Int→Int} (h:fbC p s c n k=0):c=0∧k (rbV p s n)=0∧fbV p s c n k=rbV p s n:=by
 have hv:fbV p s c n k=rbV p s n:=by unfold fbV;rw [if_pos h]
 unfold fbC at h
 split at h
 ·rename_i hc
  split at h
  ·exact ⟨hc,h,hv⟩
  ·exact absurd h (by decide)
 ·rename_i hc;exact absurd h hc
theorem lvStep_in {p:List UInt8} {nn:Int} {x:LvS} (h:In x.out (-16383) 16383):In (lvStep p nn x).out (-16383) 16383:=by
 unfold lvStep;split
 ·simp only
  split
  ·rename_i hc
   have h2:=fuC_0 hc
   have h3:=ifE_of (by decide) h2.2.1
   unfold In at h ⊢
   intro v hv
   rcases List.mem_or_eq_of_mem_set hv with h4|h4
   ·exact h v h4
   ·rw [h4,h2.2.2];exact h3
  ·exact h
 ·exact h
theorem lvRun_in {p:List UInt8} {nn:Int} {x:LvS} (h:In x.out (-16383) 16383):∀k,In (lvRun p nn x k).out (-16383) 16383
 |0=>h
 |k+1=>by rw [lvRun];exact lvStep_in (lvRun_in h k)
theorem lvS_in (p:List UInt8) (s n:Int):In (lvS p s n).out (-16383) 16383:=by
 have hz:In (List.replicate (n*n).toNat (0:Int)) (-16383) 16383:=by
  unfold In
  intro v hv
  rw [List.eq_of_mem_replicate hv];decide
 unfold lvS;simp only;split
 ·exact hz
 ·exact lvRun_in hz _
theorem blS_good {p:List UInt8} {s:Int} {lens:List Int} {n:Int} (h:(blS p s lens n).c=0):BlkOk (blS p s lens n).m (blS p s lens n).l lens n:=by
 unfold blS at h ⊢
 split at h
 ·rename_i hn
  rw [if_pos hn]
  split at h
  ·rename_i hc
   rw [if_pos hc]
   simp only at h ⊢
   split at h
   ·rename_i hx
    rw [if_pos hx]
    have hcd:CodeOk lens∧symM p s lens<6:=by
     have h0:=hc
     unfold smC at h0
     split at h0
     ·rename_i h1
      split at h0
      ·exact ⟨h1,by assumption⟩
      ·exact absurd h0 (by decide)
     ·exact absurd h0 (by decide)
    have hs:=symM_lt hcd.2
    have hl:=lvS_len p (smA p s lens) n
    refine ⟨hn,⟨hcd.1,?_,?_⟩,?_,lvS_in _ _ _,?_⟩
    ·show 0≤smV p s lens∧smV p s lens≤5
     rw [smV,if_pos hc];omega
    ·show lens.getD (smV p s lens).toNat 0≠0
     rw [smV,if_pos hc,Int.toNat_natCast]
     have:=hs.1;omega
    ·show ((lvS p (smA p s lens) n).out.length:Int)=n*n
     rw [hl];rcases hn with rfl|rfl<;>decide
    ·show (lvS p (smA p s lens) n).out.length=16∨(lvS p (smA p s lens) n).out.length=64
     rw [hl];rcases hn with rfl|rfl<;>decide
   ·rename_i hx;exact absurd h hx
  ·rename_i hc;exact absurd h hc
 ·exact absurd (show (5:Int)=0 from h) (by decide)
theorem mbRun_good {p:List UInt8} {s:Int} {lens:List Int} {n:Int}:∀k,(mbRun p s lens n k).c=0→(mbRun p s lens n k).bs.length=k∧∀b∈(mbRun p s lens n k).bs,BlkOk b.1 b.2 lens n
 |0,_=>⟨rfl,fun b hb=>by simp [mbRun] at hb⟩
 |k+1,h=>by
  have ih:=mbRun_good (p:=p) (s:=s) (lens:=lens) (n:=n) k
  rw [mbRun] at h ⊢
  simp only at h ⊢
  split at h
  ·rename_i hx
   rw [if_pos hx]
   have ih:=ih hx
   split at h
   ·rename_i hb
    rw [if_pos hb]
    refine ⟨by simp [ih.1],fun b hm=>?_⟩
    simp only [List.mem_append,List.mem_singleton] at hm
    rcases hm with hm|hm
    ·exact ih.2 b hm
    ·rw [hm];exact blS_good hb
   ·rename_i hb;exact absurd h hb
  ·rename_i hx;exact absurd h hx
theorem mbS_good {p:List UInt8} {s:Int} {lens:List Int} (h:(mbS p s lens).1.c=0):MbkOk (mbS p s lens).2 (mbS p s lens).1.bs lens:=by
 unfold mbS at h ⊢
 split at h
 ·rename_i ho
  rw [if_pos ho]
  simp only at h ⊢
  have hg:=mbRun_good _ h
  rw [decide_eq_true h]
  show MbkOk (decide (rbV p s 1=1)) _ lens
  generalize decide (rbV p s 1=1)=e at*
  refine ⟨?_,?_⟩
  ·rw [hg.1];cases e<;>rfl
  ·rw [List.any_eq_false]
   intro b hb
   have:=hg.2 b hb
   unfold badB
   simp only [decide_eq_true_eq,Decidable.not_not]
   cases e<;>exact this
 ·exact absurd (show (1:Int)=0 from h) (by decide)
theorem stRun_good {p:List UInt8} {s:Int} {lens:List Int}:∀k,(stRun p s lens k).c=0→∀m∈(stRun p s lens k).ms,MbkOk m.1 m.2 lens
 |0,_,m,hm=>by simp [stRun] at hm
 |k+1,h,m,hm=>by
  have ih:=stRun_good (p:=p) (s:=s) (lens:=lens) k
  rw [stRun] at h hm
  simp only at h hm
  split at h
  ·rename_i hx
   rw [if_pos hx] at hm
   split at h
   ·rename_i hb
    rw [if_pos hb] at hm
    simp only [List.mem_append,List.mem_singleton] at hm
    rcases hm with hm|hm
    ·exact ih hx m hm
    ·rw [hm];exact mbS_good hb
   ·rename_i hb;exact absurd h hb
  ·rename_i hx;exact absurd h hx
theorem hdS_good {p:List UInt8} {s:Int} (h:(hdS p s).c=0):HdOk (hdS p s).W (hdS p s).H (hdS p s).Q (hdS p s).L:=by
 refine ⟨hdS_sides h,?_,?_⟩
 ·rw [HdS.Q,if_pos h]
  have h0:0≤(hdS p s).q:=by unfold hdS;exact (fbV_bd _ _ _ _ _).1
  refine ⟨h0,?_⟩
  unfold hdS at h ⊢
  simp only at h ⊢
  have h6:=fbC_0 h
  have h5:=fbC_0 h6.1
  have h4:=fbC_0 h5.1
  rw [h4.2.2]
  exact ifE_of (by decide) h4.2.1
 ·rw [HdS.L,if_pos h]
  unfold hdS at h ⊢
  simp only at h ⊢
  have h6:=fbC_0 h
  rw [h6.2.2]
  exact ifE_of (by decide) h6.2.1
theorem prS_good {p:List UInt8} (h:(prS p).c=0):StOk (prS p).W (prS p).H (prS p).Q (prS p).L (prS p).ms:=by
 by_cases h1:(hdS p 0).c=0
 ·by_cases h2:(stRun p (hdS p 0).a (hdS p 0).L (cntM (hdS p 0).W (hdS p 0).H).toNat).c=0
  ·by_cases h3:endC p (stRun p (hdS p 0).a (hdS p 0).L (cntM (hdS p 0).W (hdS p 0).H).toNat).a=0
   ·have hg:=hdS_good h1
    have hcm:=cntM_bd hg.1
    have hl:=stRun_len p _ _ _ h2
    rw [prS_4 h1 h2 h3]
    refine ⟨hg,?_,?_⟩
    ·show ((stRun p (hdS p 0).a (hdS p 0).L (cntM (hdS p 0).W (hdS p 0).H).toNat).ms.length:Int)=cntM (hdS p 0).W (hdS p 0).H
     rw [hl];omega
    ·rw [List.any_eq_false]
     intro m hm
     have:=stRun_good _ h2 m hm
     unfold badM
     simp only [decide_eq_true_eq,Decidable.not_not]
     exact this
   ·rw [prS_3 h1 h2 h3] at h;exact absurd h h3
  ·rw [prS_2 h1 h2] at h;exact absurd h h2
 ·rw [prS_1 h1] at h;exact absurd h h1
end Go.Proofs.YtndflfipaddfoaaGreat
