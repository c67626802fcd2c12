/- Proved in this text: lemmas and contracts of functions that the claim uses (parts: AbsL, AbsM, AbsN, AbsO, AbsP). No condition. -/
import Derived.Test.YtkckmenalehdpaaDoorHdM1
set_option linter.unusedVariables false
set_option linter.unusedSimpArgs false
set_option maxRecDepth 100000
set_option maxHeartbeats 4000000


namespace Go.Abs.K
open Go Go.Abs
variable {P:Program} {n m:Nat} {G:Ctx} {σ:St} {Q:Exit→St→Prop} {md:Bool} {ops:Array Oper} {l:List Oper} {dd:Option Nat} {tt:TypeId} {pos:String} {after:Array Edge}
theorem L {o:Oper} (h:WpL P n m G md ops (o::l) σ Q):WpL P n m G md ops (o::l) σ Q:=h
theorem A {c:Code} (h:WpA P n m G c σ Q):WpA P n m G c σ Q:=h
theorem cond {x:Operand} {c d:Code} (h:WpA P n m G (.cond x c d) σ Q):WpA P n m G (.cond x c d) σ Q:=h
theorem mv {x:Operand} (h:WpL P n m G md ops ({dst:=dd,op:=.move x,type:=tt,pos:=pos,after:=after,guard:=none}::l) σ Q):WpL P n m G md ops ({dst:=dd,op:=.move x,type:=tt,pos:=pos,after:=after,guard:=none}::l) σ Q:=h
theorem asg {x:Operand} (h:WpL P n m G md ops ({dst:=dd,op:=.assign x,type:=tt,pos:=pos,after:=after,guard:=none}::l) σ Q):WpL P n m G md ops ({dst:=dd,op:=.assign x,type:=tt,pos:=pos,after:=after,guard:=none}::l) σ Q:=h
theorem bin {b:BinOp} {t u:TypeId} {x y:Operand} (h:WpL P n m G md ops ({dst:=dd,op:=.binOp b t x y u,type:=tt,pos:=pos,after:=after,guard:=none}::l) σ Q):WpL P n m G md ops ({dst:=dd,op:=.binOp b t x y u,type:=tt,pos:=pos,after:=after,guard:=none}::l) σ Q:=h
theorem un {b:UnOp} {t:TypeId} {x:Operand} (h:WpL P n m G md ops ({dst:=dd,op:=.unOp b t x,type:=tt,pos:=pos,after:=after,guard:=none}::l) σ Q):WpL P n m G md ops ({dst:=dd,op:=.unOp b t x,type:=tt,pos:=pos,after:=after,guard:=none}::l) σ Q:=h
theorem ld {t:TypeId} {x:Operand} (h:WpL P n m G md ops ({dst:=dd,op:=.load t x,type:=tt,pos:=pos,after:=after,guard:=none}::l) σ Q):WpL P n m G md ops ({dst:=dd,op:=.load t x,type:=tt,pos:=pos,after:=after,guard:=none}::l) σ Q:=h
theorem call {x:Operand} {xs:Array Operand} {ats:Array TypeId} (h:WpL P n m G md ops ({dst:=dd,op:=.call {callee:=.value x,args:=xs,argTypes:=ats},type:=tt,pos:=pos,after:=after,guard:=none}::l) σ Q):WpL P n m G md ops ({dst:=dd,op:=.call {callee:=.value x,args:=xs,argTypes:=ats},type:=tt,pos:=pos,after:=after,guard:=none}::l) σ Q:=h
theorem bi {b:Builtin} {xs:Array Operand} {ats:Array TypeId} (h:WpL P n m G md ops ({dst:=dd,op:=.call {callee:=.builtin b,args:=xs,argTypes:=ats},type:=tt,pos:=pos,after:=after,guard:=none}::l) σ Q):WpL P n m G md ops ({dst:=dd,op:=.call {callee:=.builtin b,args:=xs,argTypes:=ats},type:=tt,pos:=pos,after:=after,guard:=none}::l) σ Q:=h
theorem ixa {t:TypeId} {x y:Operand} (h:WpL P n m G md ops ({dst:=dd,op:=.indexAddr t x y,type:=tt,pos:=pos,after:=after,guard:=none}::l) σ Q):WpL P n m G md ops ({dst:=dd,op:=.indexAddr t x y,type:=tt,pos:=pos,after:=after,guard:=none}::l) σ Q:=h
theorem fld {t:TypeId} {x:Operand} {k:Nat} (h:WpL P n m G md ops ({dst:=dd,op:=.fieldAddr t x k,type:=tt,pos:=pos,after:=after,guard:=none}::l) σ Q):WpL P n m G md ops ({dst:=dd,op:=.fieldAddr t x k,type:=tt,pos:=pos,after:=after,guard:=none}::l) σ Q:=h
theorem pick {x y z:Operand} (h:WpL P n m G md ops ({dst:=dd,op:=.pick x y z,type:=tt,pos:=pos,after:=after,guard:=none}::l) σ Q):WpL P n m G md ops ({dst:=dd,op:=.pick x y z,type:=tt,pos:=pos,after:=after,guard:=none}::l) σ Q:=h
theorem ext {x:Operand} {k:Nat} (h:WpL P n m G md ops ({dst:=dd,op:=.extract x k,type:=tt,pos:=pos,after:=after,guard:=none}::l) σ Q):WpL P n m G md ops ({dst:=dd,op:=.extract x k,type:=tt,pos:=pos,after:=after,guard:=none}::l) σ Q:=h
theorem cv {t u:TypeId} {x:Operand} (h:WpL P n m G md ops ({dst:=dd,op:=.convert t u x,type:=tt,pos:=pos,after:=after,guard:=none}::l) σ Q):WpL P n m G md ops ({dst:=dd,op:=.convert t u x,type:=tt,pos:=pos,after:=after,guard:=none}::l) σ Q:=h
theorem all {t:TypeId} (h:WpL P n m G md ops ({dst:=dd,op:=.alloc t,type:=tt,pos:=pos,after:=after,guard:=none}::l) σ Q):WpL P n m G md ops ({dst:=dd,op:=.alloc t,type:=tt,pos:=pos,after:=after,guard:=none}::l) σ Q:=h
theorem box {t:TypeId} {x:Operand} (h:WpL P n m G md ops ({dst:=dd,op:=.box t x,type:=tt,pos:=pos,after:=after,guard:=none}::l) σ Q):WpL P n m G md ops ({dst:=dd,op:=.box t x,type:=tt,pos:=pos,after:=after,guard:=none}::l) σ Q:=h
theorem lit {t:TypeId} {k:Nat} {xs:Array (Nat×Operand)} (h:WpL P n m G md ops ({dst:=dd,op:=.buildSlice t k xs,type:=tt,pos:=pos,after:=after,guard:=none}::l) σ Q):WpL P n m G md ops ({dst:=dd,op:=.buildSlice t k xs,type:=tt,pos:=pos,after:=after,guard:=none}::l) σ Q:=h
theorem ms {t:TypeId} {x y:Operand} (h:WpL P n m G md ops ({dst:=dd,op:=.makeSlice t x y,type:=tt,pos:=pos,after:=after,guard:=none}::l) σ Q):WpL P n m G md ops ({dst:=dd,op:=.makeSlice t x y,type:=tt,pos:=pos,after:=after,guard:=none}::l) σ Q:=h
theorem st {t:TypeId} {x y:Operand} (h:WpL P n m G md ops ({dst:=dd,op:=.store t x y,type:=tt,pos:=pos,after:=after,guard:=none}::l) σ Q):WpL P n m G md ops ({dst:=dd,op:=.store t x y,type:=tt,pos:=pos,after:=after,guard:=none}::l) σ Q:=h
theorem gd {op:Op} {g:Nat×Bool} (h:WpL P n m G md ops ({dst:=dd,op:=op,type:=tt,pos:=pos,after:=after,guard:=some g}::l) σ Q):WpL P n m G md ops ({dst:=dd,op:=op,type:=tt,pos:=pos,after:=after,guard:=some g}::l) σ Q:=h
theorem tyBool {tab:List (Nat×Ty)} (hP:TabOk P tab) {t:Nat} (ht:tlook tab t=some .bool):P.underlying t=some .bool:=(hP.ty ht).1
theorem tyInt {tab:List (Nat×Ty)} (hP:TabOk P tab) {t:Nat} {k:IntKind} (ht:tlook tab t=some (.int k)):P.underlying t=some (.int k):=(hP.ty ht).1
section
variable {T:List (Nat×AV)} {O:List AObj} {op:Op} {j t:Nat} {want:Bool}
theorem gT (hj:((ops[j]?).bind (·.dst))=some t) (htn:t<n) (ht:look T t=.sc (.bool want)) (h:WpL P n m G md ops ({dst:=dd,op:=op,type:=tt,pos:=pos,after:=after,guard:=none}::l) ⟨T,O⟩ Q):
 WpL P n m G md ops ({dst:=dd,op:=op,type:=tt,pos:=pos,after:=after,guard:=some (j,want)}::l) ⟨T,O⟩ Q:=WpL.guardT (σ:=⟨T,O⟩) rfl hj htn ht h
theorem gF {d:Nat} (hj:((ops[j]?).bind (·.dst))=some t) (htn:t<n) (ht:look T t=.sc (.bool !want)) (h:WpL P n m G md ops l ⟨(d,.any)::T,O⟩ Q):
 WpL P n m G md ops ({dst:=some d,op:=op,type:=tt,pos:=pos,after:=after,guard:=some (j,want)}::l) ⟨T,O⟩ Q:=WpL.guardF (σ:=⟨T,O⟩) rfl hj htn ht rfl h
theorem gD {p:Prop} [Decidable p] (hj:((ops[j]?).bind (·.dst))=some t) (ht:look T t=.sc (.bool (decide p)))
 (h1:p→WpL P n m G md ops ({dst:=dd,op:=op,type:=tt,pos:=pos,after:=after,guard:=some (j,want)}::l) ⟨(t,.sc (.bool true))::T,O⟩ Q)
 (h2:¬p→WpL P n m G md ops ({dst:=dd,op:=op,type:=tt,pos:=pos,after:=after,guard:=some (j,want)}::l) ⟨(t,.sc (.bool false))::T,O⟩ Q):
 WpL P n m G md ops ({dst:=dd,op:=op,type:=tt,pos:=pos,after:=after,guard:=some (j,want)}::l) ⟨T,O⟩ Q:=WpL.guardD (σ:=⟨T,O⟩) rfl hj ht h1 h2
end
end Go.Abs.K
namespace Go.Abs
open Go
section
variable {P:Program} {n m:Nat} {G:Ctx} {T:List (Nat×AV)} {O:List AObj} {Q:Exit→St→Prop} {ops:Array Oper} {l:List Oper} {d:Nat} {tt:TypeId} {pos:String} {after:Array Edge} {tab:List (Nat×Ty)}
theorem WpL.storeInts (hP:TabOk P tab) {t:Nat} {ty:Ty} {x y:Operand} {id ep off sz:Nat} {et:Option TypeId} {xs:List Int} {v:Int} (ht:tlook tab t=some ty) (hx:av T x=.ptr id ep off)
 (ho:O[id]?=some ⟨ints xs,ep,sz,et⟩) (hy:av T y=(fun v:Int=>AV.sc (.int .i64 v)) v) (hk:ty.cellsN=some 1) (hle:off<xs.length)
 (h:WpL P n m G false ops l ⟨T,O.set id ⟨ints (xs.set off v),ep,sz,et⟩⟩ Q):
 WpL P n m G false ops ({dst:=none,op:=.store t x y,type:=tt,pos:=pos,after:=after,guard:=none}::l) ⟨T,O⟩ Q:=
 WpL.store hP ht hx ho rfl (V:=(fun v:Int=>AV.sc (.int .i64 v)) v) (Vs:=[(fun v:Int=>AV.sc (.int .i64 v)) v]) (by rw [hy];rfl) rfl hk (by simp [oneB,Value.oneCell']) (by simp;omega) (by
  have e:setL (ints xs) off [(fun v:Int=>AV.sc (.int .i64 v)) v]=ints (xs.set off v):=by simp [setL,ints,List.map_set]
  simp only [e];exact h)
end
end Go.Abs
namespace Go.Abs
open Go
section
variable {P:Program} {n m:Nat} {G:Ctx} {T:List (Nat×AV)} {O:List AObj} {Q:Exit→St→Prop} {ops:Array Oper} {l:List Oper} {d:Nat} {tt:TypeId} {pos:String} {after:Array Edge} {tab:List (Nat×Ty)}
theorem WpL.app1Strs (hP:TabOk P tab) {t e b:Nat} {zs:List AV} {xs:List (List UInt8)} {v:(List UInt8)} {x y:Operand} {id ep len:Nat} {Vy:AV} (ht:tlook tab t=some (.slice e 1 b zs)) (hx:av T x=.own id ep 0 len)
 (ho:O[id]?=some ⟨strs xs,ep,1,some e⟩) (hm:m≤id) (hy:(av T y).force=some Vy) (hs:srcB O Vy=some ([.sc (.string ⟨v.toArray⟩)],1)) (hol:xs.length=len)
 (hb:(len+1)*b≤140737488355328∧len+1≤9223372036854775807) (hn:d<n)
 (h:WpL P n m G false ops l ⟨(d,.own id (ep+1) 0 (len+1))::T,O.set id ⟨strs (xs++[v]),ep+1,1,some e⟩⟩ Q):
 WpL P n m G false ops ({dst:=some d,op:=.call {callee:=.builtin .append,args:=#[x,y],argTypes:=#[t,t]},type:=tt,pos:=pos,after:=after,guard:=none}::l) ⟨T,O⟩ Q:=
 WpL.appOwn hP ht hx ho rfl rfl rfl (by simp [hol]) hm hy hs rfl (by simp [oneB,Value.oneCell']) hb hn (by
  have e2:strs xs++[.sc (.string ⟨v.toArray⟩)]=strs (xs++[v]):=by simp [strs]
  simp only [e2];exact h)
end
end Go.Abs
namespace Go.Abs
open Go
section
variable {P:Program} {n m:Nat} {G:Ctx} {T:List (Nat×AV)} {O:List AObj} {Q:Exit→St→Prop} {ops:Array Oper} {l:List Oper} {d:Nat} {tt:TypeId} {pos:String} {after:Array Edge} {tab:List (Nat×Ty)}
end
end Go.Abs
namespace Go.Abs
open Go
section
variable {P:Program} {n m:Nat} {G:Ctx} {T:List (Nat×AV)} {O:List AObj} {Q:Exit→St→Prop} {ops:Array Oper} {l:List Oper} {d:Nat} {tt:TypeId} {pos:String} {after:Array Edge} {tab:List (Nat×Ty)}
def litC (T:List (Nat×AV)) (O:List AObj) (k:Nat):List Operand→Option (List AV)
 |[]=>some []
 |x::xs=>match (av T x).force with
  |none=>none
  |some V=>match oneB O V&&Nat.beq k 1 with
   |true=>match litC T O k xs with
    |none=>none
    |some cs=>some (V::cs)
   |false=>match cellsV O V with
    |none=>none
    |some ds=>match Nat.beq ds.length k with
     |false=>none
     |true=>match litC T O k xs with
      |none=>none
      |some cs=>some (ds++cs)
theorem litC_lit {k:Nat}:∀{xs:List Operand} {cs:List AV},litC T O k xs=some cs→Lit T O k xs cs
 |[],cs,h=>by simp only [litC,Option.some.injEq] at h;subst h;exact .nil
 |x::xs,cs,h=>by
  simp only [litC] at h
  split at h
  ·simp at h
  ·rename_i V hV
   split at h
   ·rename_i hb
    simp only [Bool.and_eq_true] at hb
    split at h
    ·simp at h
    ·rename_i cs' hc
     simp only [Option.some.injEq] at h;subst h
     exact .one hV hb.1 (Nat.eq_of_beq_eq_true hb.2) (litC_lit hc)
   ·split at h
    ·simp at h
    ·rename_i ds hds
     split at h
     ·simp at h
     ·rename_i hlen
      split at h
      ·simp at h
      ·rename_i cs' hc
       simp only [Option.some.injEq] at h;subst h
       exact .cons hV hds (Nat.eq_of_beq_eq_true hlen) (litC_lit hc)
theorem WpL.litF (hP:TabOk P tab) {t e k b len id:Nat} {zs cs:List AV} {parts:List (Nat×Operand)} (ht:tlook tab t=some (.slice e k b zs)) (hidx:parts.map (·.1)=List.range' 0 parts.length) (hlen:parts.length=len)
 (hlit:litC T O k (parts.map (·.2))=some cs) (hsm:len*k≤16777216) (hid:nid O 0=some id) (hn:d<n)
 (h:WpL P n m G false ops l ⟨(d,.own id 0 0 len)::T,O++[⟨cs,0,k,some e⟩]⟩ Q):
 WpL P n m G false ops ({dst:=some d,op:=.buildSlice t len parts.toArray,type:=tt,pos:=pos,after:=after,guard:=none}::l) ⟨T,O⟩ Q:=
 WpL.lit hP ht hidx hlen (litC_lit hlit) hsm hid hn h
end
end Go.Abs
namespace Go.Abs
open Go
section
variable {P:Program} {n m:Nat} {G:Ctx} {T:List (Nat×AV)} {O:List AObj} {Q:Exit→St→Prop} {ops:Array Oper} {l:List Oper} {d:Nat} {tt:TypeId} {pos:String} {after:Array Edge} {tab:List (Nat×Ty)}
end
end Go.Abs


namespace Go.Abs
open Go
def Only (σ:St):Exit→St→Prop
 |.normal,σ'=>σ'=σ
 |_,_=>False
theorem Only.mk {σ σ':St} (h:σ'=σ):Only σ .normal σ':=h
def deps (fs:List (Nat×AV)) (o:Oper):List (Nat×AV):=o.after.toList.filterMap fun e=>if Region.binds .any e=true then fs[e.on]? else none
inductive HeadJ (P:Program) (n m:Nat) (G:Ctx) (ops:Array Oper) (T0:List (Nat×AV)) (O:List AObj):List (Nat×AV)→List Oper→List (Nat×AV)→Prop
 |nil {fs}:HeadJ P n m G ops T0 O fs [] fs
 |cons {fs out:List (Nat×AV)} {o:Oper} {l:List Oper} {d:Nat} {V:AV} {F:List (Nat×AV)} (hd:o.dst=some d) (hF:deps fs o=F)
   (h:∀Tv,WpL P n m G false ops [o] ⟨F++(T0++Tv),O⟩ (Only ⟨(d,V)::(F++(T0++Tv)),O⟩)) (r:HeadJ P n m G ops T0 O (fs++[(d,V)]) l out):HeadJ P n m G ops T0 O fs (o::l) out
section
variable {P:Program} {n m:Nat} {G:Ctx} {ops:Array Oper} {T0:List (Nat×AV)} {O:List AObj}
theorem HeadJ.pre {fs l out} (h:HeadJ P n m G ops T0 O fs l out):∃r,out=fs++r∧r.length=l.length:=by
 induction h with
 |nil=>exact ⟨[],by simp,rfl⟩
 |@cons fs out o l d V F _ _ _ _ ih=>obtain ⟨r,h1,h2⟩:=ih;exact ⟨(d,V)::r,by rw [h1];simp,by simp [h2]⟩
theorem HeadJ.at {fs l out} (h:HeadJ P n m G ops T0 O fs l out):∀{j:Nat} {o:Oper},l[j]?=some o→∃d V,o.dst=some d∧out[fs.length+j]?=some (d,V)∧
 ∀Tv,WpL P n m G false ops [o] ⟨deps (out.take (fs.length+j)) o++(T0++Tv),O⟩ (Only ⟨(d,V)::(deps (out.take (fs.length+j)) o++(T0++Tv)),O⟩):=by
 induction h with
 |nil=>intro j o h;simp at h
 |@cons fs out o l d V F hd hF h r ih=>
  intro j o' hj
  obtain ⟨r',h1,h2⟩:=r.pre
  cases j with
  |zero=>
   simp only [List.getElem?_cons_zero,Option.some.injEq] at hj
   subst hj
   refine ⟨d,V,hd,by rw [h1];simp,?_⟩
   have:out.take (fs.length+0)=fs:=by rw [h1,Nat.add_zero,List.append_assoc,List.take_left'];rfl
   rw [this,hF];exact h
  |succ j=>
   have:=ih (j:=j) (o:=o') (by simpa using hj)
   rw [List.length_append,List.length_singleton,Nat.add_assoc,Nat.add_comm 1 j] at this
   exact this
def has (A:List (Nat×AV)) (t:Nat):Bool:=A.any fun p=>Nat.beq p.1 t
theorem look_append (A B:List (Nat×AV)) (t:Nat):look (A++B) t=if has A t=true then look A t else look B t:=by
 induction A with
 |nil=>simp [has]
 |cons p A ih=>
  obtain ⟨k,V⟩:=p
  by_cases h:k=t
  ·subst h;simp [has,look_cons_same]
  ·rw [List.cons_append,look_cons_other _ _ _ _ h,look_cons_other _ _ _ _ h,ih]
   have:Nat.beq k t=false:=by rw [←Bool.not_eq_true];intro h';exact h (Nat.eq_of_beq_eq_true h')
   simp only [has,List.any_cons,this,Bool.false_or]
   rfl
theorem has_look {A:List (Nat×AV)} {t:Nat} (h:has A t=true):(t,look A t)∈A:=by
 induction A with
 |nil=>simp [has] at h
 |cons p A ih=>
  obtain ⟨k,V⟩:=p
  by_cases hk:k=t
  ·subst hk;rw [look_cons_same];simp
  ·rw [look_cons_other _ _ _ _ hk]
   refine List.mem_cons_of_mem _ (ih ?_)
   have:Nat.beq k t=false:=by rw [←Bool.not_eq_true];intro h';exact hk (Nat.eq_of_beq_eq_true h')
   simpa [has,this] using h
theorem has_mem {A:List (Nat×AV)} {t:Nat} {V:AV} (h:(t,V)∈A):has A t=true:=by
 simp only [has,List.any_eq_true]
 exact ⟨_,h,by simp⟩
theorem Rel.relook {T T':List (Nat×AV)} {a w} (h:Rel n m G ⟨T,O⟩ a w) (he:∀t,look T' t=look T t):Rel n m G ⟨T',O⟩ a w:=by
 obtain ⟨S,ι,F,hr⟩:=h
 exact ⟨S,ι,F,hr.defers,hr.size,fun t=>by rw [show look (St.mk T' O).T t=look T t from he t];exact hr.tmps t,hr.objs,hr.foot,hr.base,hr.stable,hr.keeps,hr.spots,hr.mle⟩
structure Heads (ops:Array Oper) (T0 out:List (Nat×AV)) (k:Nat):Prop where
 len:out.length=k
 nodup:(out.map (·.1)).Nodup
 fresh:∀p,p∈out→has T0 p.1=false
 back:∀i,i<k→∀o,ops[i]?=some o→∀e∈o.after,Region.binds .any e=true→e.on<i
def Good (n m:Nat) (G:Ctx) (T0 out:List (Nat×AV)) (O:List AObj) (listed:Array Bool) (a:Act) (w:World):Prop:=
 ∃T,Rel n m G ⟨T,O⟩ a w∧(∀ (i d:Nat) (V:AV),out[i]?=some (d,V)→listed.getD i false=true→look T d=V)∧∀t,has out t=false→look T t=look T0 t
theorem out_inj {out:List (Nat×AV)} (h:(out.map (·.1)).Nodup) {i j d:Nat} {V W:AV} (hi:out[i]?=some (d,V)) (hj:out[j]?=some (d,W)):i=j:=by
 have hi':=(List.getElem?_eq_some_iff.1 hi).1
 refine (List.getElem?_inj (l:=out.map (·.1)) (by simpa using hi') h).1 ?_
 simp [hi,hj]
theorem head_step {out:List (Nat×AV)} {k:Nat} (H:Heads ops T0 out k) {Q:Exit→Act→World→Prop} (hJ:∀{j:Nat} {o:Oper},j<k→ops[j]?=some o→∃d V,o.dst=some d∧out[j]?=some (d,V)∧
 ∀Tv,WpL P n m G false ops [o] ⟨deps (out.take j) o++(T0++Tv),O⟩ (Only ⟨(d,V)::(deps (out.take j) o++(T0++Tv)),O⟩))
 {listed:Array Bool} (inv:HeadInv .any ops k listed) {i:Nat} (hi:i∈Region.ready .any ops listed) (hik:i<k) {a w} (hg:Good n m G T0 out O listed a w) {K:Act→World→Prop}
 (hK:∀a' w',Good n m G T0 out O (listed.setIfInBounds i true) a' w'→K a' w'):wpOp P ops Q i K a w:=by
 obtain ⟨hun,o,ho,hall⟩:=mem_ready.1 hi
 obtain ⟨T,hr,h1,h2⟩:=hg
 obtain ⟨d,V,hd,hout,hw⟩:=hJ hik ho
 have hF:∀t U,(t,U)∈deps (out.take i) o→look T t=U:=by
  intro t U hm
  simp only [deps,List.mem_filterMap] at hm
  obtain ⟨e,he,hx⟩:=hm
  split at hx
  ·rename_i hb
   have he':e∈o.after:=by simpa using he
   have hx':out[e.on]?=some (t,U):=by
    rw [List.getElem?_take] at hx
    split at hx
    ·exact hx
    ·simp at hx
   exact h1 _ _ _ hx' (hall e he' hb)
  ·simp at hx
 have same:∀t,look (deps (out.take i) o++(T0++T)) t=look T t:=by
  intro t
  rw [look_append]
  split
  ·rename_i h;exact (hF _ _ (has_look h)).symm
  ·rw [look_append]
   split
   ·rename_i h
    refine (h2 t ?_).symm
    cases hc:has out t with
    |false=>rfl
    |true=>have:=H.fresh _ (has_look hc);simp only at this;rw [this] at h;cases h
   ·rfl
 have hw':=hw T a w (hr.relook same)
 simp only at hw'
 have good:∀a' w',Rel n m G ⟨(d,V)::(deps (out.take i) o++(T0++T)),O⟩ a' w'→Good n m G T0 out O (listed.setIfInBounds i true) a' w':=by
  intro a' w' hr'
  refine ⟨_,hr',fun j d' V' hj hl=>?_,fun t ht=>?_⟩
  ·by_cases hij:i=j
   ·subst hij;rw [hout] at hj;cases hj;exact look_cons_same _ _ _
   ·rw [getD_set_ne false hij] at hl
    have hne:d≠d':=by rintro rfl;exact hij (out_inj H.nodup hout hj)
    rw [look_cons_other _ _ _ _ hne,same]
    exact h1 _ _ _ hj hl
  ·have hne:d≠t:=by
    rintro rfl
    have:=has_mem (List.mem_of_getElem? hout)
    rw [ht] at this;cases this
   rw [look_cons_other _ _ _ _ hne,same];exact h2 t ht
 have only:∀e a' w',(∃ σ',Only ⟨(d,V)::(deps (out.take i) o++(T0++T)),O⟩ e σ'∧Rel n m G σ' a' w')→e=.normal∧K a' w':=by
  rintro e a' w' ⟨σ',hq,hr'⟩
  cases e<;>first|(simp only [Only] at hq;subst hq;exact ⟨rfl,hK _ _ (good _ _ hr')⟩)|exact hq.elim
 unfold wpOp
 simp only [ho]
 change wpList P ops _ [o] a w at hw'
 unfold wpList at hw'
 by_cases hwant:Region.wanted o (yielded ops a.tmps)=true
 ·rw [if_pos hwant] at hw' ⊢
  rcases hw' with hw'|⟨_,a',w',hx⟩
  ·refine .inl ?_
   unfold Oper.wp at hw' ⊢
   generalize (execOp a.eval o).run P w=r at*
   cases r with
   |ok x w1=>
    cases x<;>simp only [Oper.upon] at hw' ⊢
    case value v=>exact (only _ _ _ hw').2
    case skip=>exact (only _ _ _ hw').2
    case defer d=>exact (only _ _ _ hw').2
    case enter f args=>
     refine hw'.mono fun e w2 h2=>?_
     cases e with
     |returned v=>exact (only _ _ _ h2).2
     |panicked c=>exact absurd (only _ _ _ h2).1 (by simp)
     |outgrown=>obtain ⟨_,_,hf⟩:=h2;exact absurd (only _ _ _ hf).1 (by simp)
    case row r ar=>exact hw'.mono fun v w2 h2=>(only _ _ _ h2).2
   |halt x w1=>cases x<;>simp only [Oper.upon] at hw' ⊢<;>first|exact absurd (only _ _ _ hw').1 (by simp)|exact hw'.elim|(obtain ⟨_,_,hf⟩:=hw';exact absurd (only _ _ _ hf).1 (by simp))
  ·exact absurd (only _ _ _ hx).1 (by simp)
 ·rw [if_neg hwant] at hw' ⊢
  exact (only _ _ _ hw').2
theorem head_any {out:List (Nat×AV)} {k g:Nat} (H:Heads ops T0 out k) (hks:k≤ops.size) (hs:k<ops.size→Region.sinkB .any ops k=true∧Region.chainB .any ops k=true)
 (hJ:∀{j:Nat} {o:Oper},j<k→ops[j]?=some o→∃d V,o.dst=some d∧out[j]?=some (d,V)∧
  ∀Tv,WpL P n m G false ops [o] ⟨deps (out.take j) o++(T0++Tv),O⟩ (Only ⟨(d,V)::(deps (out.take j) o++(T0++Tv)),O⟩)) {Q:Exit→Act→World→Prop}
 (hT:∀listed a w,HeadInv .any ops k listed→(∀ i,i<k→listed.getD i false=true)→Good n m G T0 out O listed a w→wpAny P .any ops Q g listed a w):
 ∀(f:Nat) (listed:Array Bool) (a:Act) (w:World),HeadInv .any ops k listed→((List.range k).filter fun i=>!listed.getD i false).length=f→Good n m G T0 out O listed a w→
  wpAny P .any ops Q (f+g) listed a w:=by
 intro f
 induction f with
 |zero=>
  intro listed a w inv hc hg
  rw [Nat.zero_add]
  refine hT listed a w inv (fun i hi=>?_) hg
  have h0:=List.eq_nil_of_length_eq_zero hc
  cases hl:listed.getD i false with
  |true=>rfl
  |false=>
   have:i∈(List.range k).filter fun i=>!listed.getD i false:=by simp [List.mem_filter,hi];simpa using hl
   rw [h0] at this;cases this
 |succ f ih=>
  intro listed a w inv hc hg
  have hgetD:∀i,i<k→listed.getD i false=false→listed.getD i true=false:=fun i hi h=>getD_in (by rw [inv.size];omega) h
  have hex:∃i,i<k∧listed.getD i false=false:=by
   cases hl:(List.range k).filter fun i=>!listed.getD i false with
   |nil=>rw [hl] at hc;simp at hc
   |cons i r=>
    have:i∈(List.range k).filter fun i=>!listed.getD i false:=by rw [hl];simp
    rw [List.mem_filter,List.mem_range] at this
    exact ⟨i,this.1,by simpa using this.2⟩
  obtain ⟨i0,hi0,hl0⟩:=hex
  have least:∀d i,i=d→i<k→listed.getD i false=false→∃j,j<k∧j∈Region.ready .any ops listed:=by
   intro d
   induction d using Nat.strongRecOn with
   |_ d ihd=>
    rintro i rfl hi hl
    by_cases hh:∃j,j<i∧listed.getD j false=false
    ·obtain ⟨j,hj,hjl⟩:=hh
     exact ihd j hj j rfl (by omega) hjl
    ·have hlt:i<ops.size:=by omega
     refine ⟨i,hi,mem_ready.2 ⟨hgetD i hi hl,ops[i],by simp [hlt],fun e he hb=>?_⟩⟩
     have hlt':=H.back i hi _ (by simp [hlt]) e he hb
     cases hx:listed.getD e.on false with
     |true=>rfl
     |false=>exact (hh ⟨_,hlt',hx⟩).elim
  obtain ⟨j0,hj0,hr0⟩:=least i0 i0 rfl hi0 hl0
  rw [show f+1+g=(f+g)+1 by omega]
  refine ⟨fun h=>(by rw [h] at hr0;cases hr0),fun i hi=>?_⟩
  have hik:i<k:=by
   rcases Nat.lt_or_ge i k with h|h
   ·exact h
   ·by_cases hk:k<ops.size
    ·exact absurd hi (tail_waits (hs hk).1 (hs hk).2 hk inv _ i0 rfl hi0 (hgetD i0 hi0 hl0) i h)
    ·obtain ⟨_,o,ho,_⟩:=mem_ready.1 hi
     have:=(Array.getElem?_eq_some_iff.1 ho).1
     omega
  have hiu:listed.getD i false=false:=getD_both (mem_ready.1 hi).1
  refine head_step H hJ inv hi hik hg fun a' w' hg'=>ih _ _ _ (inv.set hi hik) ?_ hg'
  have key:∀(L:List Nat),L.Nodup→i∈L→(L.filter fun j=>!(listed.setIfInBounds i true).getD j false).length+1=(L.filter fun j=>!listed.getD j false).length:=by
   intro L
   have hself:(listed.setIfInBounds i true).getD i false=true:=by
    have:i<listed.size:=by rw [inv.size];omega
    simp [this]
   induction L with
   |nil=>intro _ h;cases h
   |cons x L ihL=>
    intro hnd hm
    rw [List.nodup_cons] at hnd
    by_cases hx:x=i
    ·subst hx
     have hsame:(L.filter fun j=>!(listed.setIfInBounds x true).getD j false)=L.filter fun j=>!listed.getD j false:=by
      refine List.filter_congr fun j hj=>?_
      rw [getD_set_ne false (by rintro rfl;exact hnd.1 hj)]
     rw [List.filter_cons,List.filter_cons,hsame,hself,hiu];simp
    ·have hm':i∈L:=by
      rcases List.mem_cons.1 hm with h|h
      ·exact (hx h.symm).elim
      ·exact h
     have:=ihL hnd.2 hm'
     rw [List.filter_cons,List.filter_cons,getD_set_ne false (Ne.symm hx)]
     split<;>(try simp only [List.length_cons])<;>omega
  have:=key (List.range k) List.nodup_range (List.mem_range.2 hik)
  omega
def nodupB:List Nat→Bool
 |[]=>true
 |x::xs=>!(xs.any fun y=>Nat.beq y x)&&nodupB xs
theorem nodupB_spec {l:List Nat} (h:nodupB l=true):l.Nodup:=by
 induction l with
 |nil=>simp
 |cons x xs ih=>
  simp only [nodupB,Bool.and_eq_true,Bool.not_eq_true',List.any_eq_false] at h
  refine List.nodup_cons.2 ⟨fun hm=>?_,ih h.2⟩
  exact h.1 x hm (by simp)
def mixB (ops:Array Oper) (k:Nat):Bool:=
 decide (k≤ops.size)&&(List.range k).all (fun i=>match ops[i]? with|some o=>o.after.toList.all fun e=>!Region.binds .any e||decide (e.on<i)|none=>true)&&
 (decide (k=ops.size)||(Region.sinkB .any ops k&&Region.chainB .any ops k))&&Region.seqB .any ops (ops.size-k) k ((Array.range ops.size).map fun i=>decide (i<k))
theorem WpA.regionM {l:List Oper} {id:Nat} {out T1:List (Nat×AV)} {Q:Exit→St→Prop} (k:Nat) (hm:P.follows .mixedOrders=true) (hB:mixB l.toArray k=true)
 (hJ:HeadJ P n m G l.toArray T0 O [] (l.take k) out) (hnd:nodupB (out.map (·.1))=true) (hfr:(out.all fun p=>!has T0 p.1)=true)
 (hT1:out++T0=T1) (h:WpL P n m G false l.toArray (l.drop k) ⟨T1,O⟩ Q):WpA P n m G (.region id l.toArray true) ⟨T0,O⟩ Q:=fun a w hr=>by
 subst hT1
 simp only [mixB,Bool.and_eq_true,decide_eq_true_eq,Bool.or_eq_true] at hB
 obtain ⟨⟨⟨hks,hback⟩,hsc⟩,hseq⟩:=hB
 have hkl:k≤l.length:=by simpa using hks
 have htl:(l.take k).length=k:=by simp;omega
 obtain ⟨r,hr1,hr2⟩:=hJ.pre
 have hlen:out.length=k:=by rw [hr1];simp [hr2];omega
 have H:Heads l.toArray T0 out k:=⟨hlen,nodupB_spec hnd,fun p hp=>by have:=List.all_eq_true.1 hfr p hp;simpa using this,fun i hi o ho e he hb=>by
  have h1:=List.all_eq_true.1 hback i (List.mem_range.2 hi)
  rw [ho] at h1
  have h2:=List.all_eq_true.1 h1 e (by simpa using he)
  simp only [Bool.or_eq_true,Bool.not_eq_true',decide_eq_true_eq] at h2
  rcases h2 with h2|h2
  ·rw [hb] at h2;cases h2
  ·exact h2⟩
 have hJ':∀{j:Nat} {o:Oper},j<k→l.toArray[j]?=some o→∃d V,o.dst=some d∧out[j]?=some (d,V)∧
  ∀Tv,WpL P n m G false l.toArray [o] ⟨deps (out.take j) o++(T0++Tv),O⟩ (Only ⟨(d,V)::(deps (out.take j) o++(T0++Tv)),O⟩):=by
  intro j o hj ho
  have ho':(l.take k)[j]?=some o:=by rw [List.getElem?_take,if_pos hj];simpa using ho
  have:=hJ.at ho'
  simpa using this
 have inv0:HeadInv .any l.toArray k (Array.replicate l.toArray.size false):=
  ⟨by simp,fun j oj _ hl=>(by rw [getD_replicate_false] at hl;cases hl),fun t _ ht=>getD_in (by simpa using ht) (getD_replicate_false _ _)⟩
 refine wp_region_any hm ?_
 have fin:=head_any (P:=P) (n:=n) (m:=m) (G:=G) (O:=O) (g:=l.toArray.size-k) (Q:=fun e a' w'=>∃σ',Q e σ'∧Rel n m G σ' a' w') H hks (fun hk=>hsc.resolve_left (by omega)) hJ' (fun listed a w inv hall hg=>by
  obtain ⟨T,hrT,h1,h2⟩:=hg
  have hlist:listed=(Array.range l.toArray.size).map fun i=>decide (i<k):=by
   apply Array.ext
   ·simp [inv.size]
   ·intro i hi1 hi2
    have hi:i<l.toArray.size:=by rw [←inv.size];exact hi1
    by_cases hik:i<k
    ·have:=hall i hik
     simp [hi1] at this
     simp [this,hik]
    ·have:=inv.tail i (by omega) hi
     simp [hi1] at this
     simp [this,hik]
  have hdl:(l.drop k).length=l.toArray.size-k:=by simp
  rw [←hdl]
  refine wpAny_of_seq (l.drop k) k listed a w (fun j=>by simp [List.getElem?_drop]) (by rw [hdl,hlist];exact hseq) ?_
  refine h a w (hrT.relook fun t=>?_)
  rw [look_append]
  split
  ·rename_i hh
   obtain ⟨i,hi,hi2⟩:=List.getElem_of_mem (has_look hh)
   have:out[i]?=some (t,look out t):=by rw [List.getElem?_eq_getElem hi,hi2]
   exact (h1 i _ _ this (hall i (by omega))).symm
  ·rename_i hh
   exact (h2 t (by simpa using hh)).symm) k _ a w.drew inv0 (by
    have:((List.range k).filter fun i=>!(Array.replicate l.toArray.size false).getD i false)=List.range k:=by
     rw [List.filter_eq_self];intro i _;rw [getD_replicate_false];rfl
    rw [this];simp) ⟨T0,hr.drew,⟨fun i d V _ hl=>(by rw [getD_replicate_false] at hl;cases hl),fun _ _=>rfl⟩⟩
 rw [show k+(l.toArray.size-k)=l.toArray.size by omega] at fin
 exact fin
end
end Go.Abs
namespace Go.Abs.K
end Go.Abs.K


namespace Go.Abs
open Go
abbrev Fact:=Nat×AV×Nat
def ndeps (fs:List Fact) (o:Oper):List (Nat×AV):=o.after.toList.filterMap fun e=>if Region.binds .any e=true then (fs[e.on]?).map fun x=>(x.1,x.2.1) else none
def sure (c0:Nat) (fs:List Fact) (o:Oper):Nat:=o.after.toList.foldl (fun c e=>if Region.binds .any e=true then (match fs[e.on]? with|some x=>max c x.2.2|none=>c) else c) c0
inductive HeadN (P:Program) (n m:Nat) (G:Ctx) (ops:Array Oper) (T0:List (Nat×AV)) (c0:Nat):List AObj→List Fact→List Oper→List AObj→List Fact→Prop
 |nil {O fs}:HeadN P n m G ops T0 c0 O fs [] O fs
 |pure {O fs o l O' out d V F c Oc} (hd:o.dst=some d) (hF:ndeps fs o=F) (hc:sure c0 fs o=c) (hO:O.take c=Oc)
   (h:∀Tv Ov,WpL P n m G false ops [o] ⟨F++(T0++Tv),Oc++Ov⟩ (Only ⟨(d,V)::(F++(T0++Tv)),Oc++Ov⟩)) (r:HeadN P n m G ops T0 c0 O (fs++[(d,V,c)]) l O' out):HeadN P n m G ops T0 c0 O fs (o::l) O' out
 |prod {O fs o l O' out d V F N} (hd:o.dst=some d) (hF:ndeps fs o=F) (hc:sure c0 fs o=O.length) (hN:N≠[])
   (h:∀Tv,WpL P n m G false ops [o] ⟨F++(T0++Tv),O⟩ (Only ⟨(d,V)::(F++(T0++Tv)),O++N⟩)) (r:HeadN P n m G ops T0 c0 (O++N) (fs++[(d,V,O.length+N.length)]) l O' out):HeadN P n m G ops T0 c0 O fs (o::l) O' out
section
variable {P:Program} {n m:Nat} {G:Ctx} {ops:Array Oper} {T0:List (Nat×AV)}
theorem foldl_sure_le (fs:List Fact) (q:Nat) (L:List Edge) (hL:∀e∈L,Region.binds .any e=true→∀x,fs[e.on]?=some x→x.2.2≤q):∀c0,c0≤q→
 L.foldl (fun c e=>if Region.binds .any e=true then (match fs[e.on]? with|some x=>max c x.2.2|none=>c) else c) c0≤q:=by
 induction L with
 |nil=>intro c0 h;exact h
 |cons e L ih=>
  intro c0 h
  rw [List.foldl_cons]
  refine ih (fun e' he'=>hL e' (List.mem_cons_of_mem _ he')) _ ?_
  split
  ·rename_i hb
   split
   ·rename_i x hx;exact Nat.max_le.2 ⟨h,hL e (by simp) hb x hx⟩
   ·exact h
  ·exact h
theorem foldl_sure_ge (fs:List Fact) (L:List Edge):∀c0,c0≤L.foldl (fun c e=>if Region.binds .any e=true then (match fs[e.on]? with|some x=>max c x.2.2|none=>c) else c) c0:=by
 induction L with
 |nil=>intro c0;exact Nat.le_refl _
 |cons e L ih=>
  intro c0
  rw [List.foldl_cons]
  refine Nat.le_trans ?_ (ih _)
  split
  ·split
   ·exact Nat.le_max_left _ _
   ·exact Nat.le_refl _
  ·exact Nat.le_refl _
structure Plan (P:Program) (n m:Nat) (G:Ctx) (ops:Array Oper) (T0:List (Nat×AV)) (c0:Nat) (k:Nat) (out:List Fact) (O':List AObj) (isP:Nat→Bool) (p:Nat→Nat):Prop where
 len:out.length=k
 nodup:(out.map (·.1)).Nodup
 fresh:∀x,x∈out→has T0 x.1=false
 back:∀i,i<k→∀o,ops[i]?=some o→∀e∈o.after,Region.binds .any e=true→e.on<i
 pure:∀i o d V c,i<k→isP i=false→ops[i]?=some o→out[i]?=some (d,V,c)→o.dst=some d∧sure c0 (out.take i) o=c∧
  ∀Tv Ov,WpL P n m G false ops [o] ⟨ndeps (out.take i) o++(T0++Tv),O'.take c++Ov⟩ (Only ⟨(d,V)::(ndeps (out.take i) o++(T0++Tv)),O'.take c++Ov⟩)
 prod:∀i o d V c,i<k→isP i=true→ops[i]?=some o→out[i]?=some (d,V,c)→o.dst=some d∧sure c0 (out.take i) o=p i∧p i<c∧c≤O'.length∧
  ∀Tv,WpL P n m G false ops [o] ⟨ndeps (out.take i) o++(T0++Tv),O'.take (p i)⟩ (Only ⟨(d,V)::(ndeps (out.take i) o++(T0++Tv)),O'.take c⟩)
 mono:∀i j d V c,i<j→j<k→isP i=true→isP j=true→out[i]?=some (d,V,c)→c≤p j
 base:c0≤O'.length
 all:∀i,i<k→∃o,ops[i]?=some o
structure GoodN (n m:Nat) (G:Ctx) (T0:List (Nat×AV)) (c0:Nat) (out:List Fact) (O':List AObj) (isP:Nat→Bool) (listed:Array Bool) (a:Act) (w:World) (T:List (Nat×AV)) (q:Nat):Prop where
 rel:Rel n m G ⟨T,O'.take q⟩ a w
 facts:∀i d V c,out[i]?=some (d,V,c)→listed.getD i false=true→look T d=V
 other:∀t,has (out.map fun x=>(x.1,x.2.1)) t=false→look T t=look T0 t
 lo:c0≤q
 hi:q≤O'.length
 le:∀i d V c,out[i]?=some (d,V,c)→listed.getD i false=true→c≤q
 top:q=c0∨∃i d V,out[i]?=some (d,V,q)∧isP i=true∧listed.getD i false=true
 down:∀i j,i<j→isP i=true→isP j=true→listed.getD j false=true→listed.getD i false=true
theorem outN_inj {out:List Fact} (h:(out.map (·.1)).Nodup) {i j d:Nat} {V W:AV×Nat} (hi:out[i]?=some (d,V)) (hj:out[j]?=some (d,W)):i=j:=by
 have hi':=(List.getElem?_eq_some_iff.1 hi).1
 refine (List.getElem?_inj (l:=out.map (·.1)) (by simpa using hi') h).1 ?_
 simp [hi,hj]
theorem wpOp_only {σ0 σ1:St} {i:Nat} {o:Oper} (ho:ops[i]?=some o) (hw:WpL P n m G false ops [o] σ0 (Only σ1)) {a:Act} {w:World} (hr:Rel n m G σ0 a w) {K:Act→World→Prop}
 (hK:∀a' w',Rel n m G σ1 a' w'→K a' w') {Q:Exit→Act→World→Prop}:wpOp P ops Q i K a w:=by
 have hw':=hw a w hr
 simp only at hw'
 have only:∀e a' w',(∃ σ',Only σ1 e σ'∧Rel n m G σ' a' w')→e=.normal∧K a' w':=by
  rintro e a' w' ⟨σ',hq,hr'⟩
  cases e<;>first|(simp only [Only] at hq;subst hq;exact ⟨rfl,hK _ _ hr'⟩)|exact hq.elim
 unfold wpOp
 simp only [ho]
 change wpList P ops _ [o] a w at hw'
 unfold wpList at hw'
 by_cases hwant:Region.wanted o (yielded ops a.tmps)=true
 ·rw [if_pos hwant] at hw' ⊢
  rcases hw' with hw'|⟨_,a',w',hx⟩
  ·refine .inl ?_
   unfold Oper.wp at hw' ⊢
   generalize (execOp a.eval o).run P w=r at*
   cases r with
   |ok x w1=>
    cases x<;>simp only [Oper.upon] at hw' ⊢
    case value v=>exact (only _ _ _ hw').2
    case skip=>exact (only _ _ _ hw').2
    case defer d=>exact (only _ _ _ hw').2
    case enter f args=>
     refine hw'.mono fun e w2 h2=>?_
     cases e with
     |returned v=>exact (only _ _ _ h2).2
     |panicked c=>exact absurd (only _ _ _ h2).1 (by simp)
     |outgrown=>obtain ⟨_,_,hf⟩:=h2;exact absurd (only _ _ _ hf).1 (by simp)
    case row r ar=>exact hw'.mono fun v w2 h2=>(only _ _ _ h2).2
   |halt x w1=>cases x<;>simp only [Oper.upon] at hw' ⊢<;>first|exact absurd (only _ _ _ hw').1 (by simp)|exact hw'.elim|(obtain ⟨_,_,hf⟩:=hw';exact absurd (only _ _ _ hf).1 (by simp))
  ·exact absurd (only _ _ _ hx).1 (by simp)
 ·rw [if_neg hwant] at hw' ⊢
  exact (only _ _ _ hw').2
theorem stepN {c0 k:Nat} {out:List Fact} {O':List AObj} {isP:Nat→Bool} {p:Nat→Nat} (H:Plan P n m G ops T0 c0 k out O' isP p) {listed:Array Bool} (inv:HeadInv .any ops k listed)
 {i:Nat} (hi:i∈Region.ready .any ops listed) (hik:i<k) {a w T q} (hg:GoodN n m G T0 c0 out O' isP listed a w T q) {K:Act→World→Prop}
 (hK:∀a' w' T' q',GoodN n m G T0 c0 out O' isP (listed.setIfInBounds i true) a' w' T' q'→K a' w') {Q:Exit→Act→World→Prop}:wpOp P ops Q i K a w:=by
 obtain ⟨hun,o,ho,hall⟩:=mem_ready.1 hi
 have hunf:listed.getD i false=false:=getD_both hun
 have hil:i<out.length:=by rw [H.len];exact hik
 obtain ⟨⟨d,V,c⟩,hout⟩:∃x,out[i]?=some x:=⟨out[i],by simp [hil]⟩
 have hdep:∀e∈o.after.toList,Region.binds .any e=true→∀x,(out.take i)[e.on]?=some x→out[e.on]?=some x∧listed.getD e.on false=true:=by
  intro e he hb x hx
  rw [List.getElem?_take] at hx
  split at hx
  ·exact ⟨hx,hall e (by simpa using he) hb⟩
  ·simp at hx
 have hF:∀t U,(t,U)∈ndeps (out.take i) o→look T t=U:=by
  intro t U hm
  simp only [ndeps,List.mem_filterMap] at hm
  obtain ⟨e,he,hx⟩:=hm
  split at hx
  ·rename_i hb
   simp only [Option.map_eq_some_iff,Prod.mk.injEq] at hx
   obtain ⟨⟨d',V',c'⟩,hx1,rfl,rfl⟩:=hx
   obtain ⟨h1,h2⟩:=hdep e he hb _ hx1
   exact hg.facts _ _ _ _ h1 h2
  ·simp at hx
 have same:∀t,look (ndeps (out.take i) o++(T0++T)) t=look T t:=by
  intro t
  rw [look_append]
  split
  ·rename_i h;exact (hF _ _ (has_look h)).symm
  ·rw [look_append]
   split
   ·rename_i h
    refine (hg.other t ?_).symm
    cases hc:has (out.map fun x=>(x.1,x.2.1)) t with
    |false=>rfl
    |true=>
     have hm:=has_look hc
     simp only [List.mem_map,Prod.mk.injEq] at hm
     obtain ⟨x,hx,hx1,_⟩:=hm
     have:=H.fresh x hx
     rw [hx1] at this;rw [this] at h;cases h
   ·rfl
 have hsle:sure c0 (out.take i) o≤q:=foldl_sure_le _ q _ (fun e he hb x hx=>by
  obtain ⟨h1,h2⟩:=hdep e he hb x hx
  obtain ⟨d',V',c'⟩:=x
  exact hg.le _ _ _ _ h1 h2) c0 hg.lo
 have hsge:c0≤sure c0 (out.take i) o:=foldl_sure_ge _ _ c0
 have facts':∀(j d':Nat) (V':AV) (c':Nat),out[j]?=some (d',V',c')→(listed.setIfInBounds i true).getD j false=true→look ((d,V)::(ndeps (out.take i) o++(T0++T))) d'=V':=by
  intro j d' V' c' hj hl
  by_cases hij:i=j
  ·subst hij;rw [hout] at hj;cases hj;exact look_cons_same _ _ _
  ·rw [getD_set_ne false hij] at hl
   have hne:d≠d':=by rintro rfl;exact hij (outN_inj H.nodup hout hj)
   rw [look_cons_other _ _ _ _ hne,same]
   exact hg.facts _ _ _ _ hj hl
 have other':∀t,has (out.map fun x=>(x.1,x.2.1)) t=false→look ((d,V)::(ndeps (out.take i) o++(T0++T))) t=look T0 t:=by
  intro t ht
  have hne:d≠t:=by
   rintro rfl
   have:has (out.map fun x=>(x.1,x.2.1)) d=true:=has_mem (V:=V) (List.mem_map.2 ⟨_,List.mem_of_getElem? hout,rfl⟩)
   rw [ht] at this;cases this
  rw [look_cons_other _ _ _ _ hne,same];exact hg.other t ht
 have le':∀q',q≤q'→c≤q'→∀(j d':Nat) (V':AV) (c':Nat),out[j]?=some (d',V',c')→(listed.setIfInBounds i true).getD j false=true→c'≤q':=by
  intro q' h1 h2 j d' V' c' hj hl
  by_cases hij:i=j
  ·subst hij;rw [hout] at hj;cases hj;exact h2
  ·rw [getD_set_ne false hij] at hl;exact Nat.le_trans (hg.le _ _ _ _ hj hl) h1
 have hself:(listed.setIfInBounds i true).getD i false=true:=by
  have hlt:=(Array.getElem?_eq_some_iff.1 ho).1
  have:i<listed.size:=by rw [inv.size];exact hlt
  simp [this]
 cases hp:isP i with
 |false=>
  obtain ⟨hd,hs,hj⟩:=H.pure i o d V c hik hp ho hout
  have hcq:c≤q:=by omega
  have e:O'.take q=O'.take c++(O'.take q).drop c:=by
   rw [←List.take_append_drop c (O'.take q),List.take_take,Nat.min_eq_left hcq,List.drop_append_of_le_length (by simp;have:=hg.hi;omega)]
   simp
  have hr:Rel n m G ⟨ndeps (out.take i) o++(T0++T),O'.take c++(O'.take q).drop c⟩ a w:=by rw [←e];exact hg.rel.relook same
  refine wpOp_only ho (hj T _) hr fun a' w' hr'=>hK a' w' _ q ⟨by rw [e];exact hr',facts',other',hg.lo,hg.hi,le' q (Nat.le_refl _) hcq,?_,?_⟩
  ·rcases hg.top with h|⟨r,d',V',h1,h2,h3⟩
   ·exact .inl h
   ·exact .inr ⟨r,d',V',h1,h2,getD_set_true h3⟩
  ·intro i' j' hlt h1 h2 h3
   have hne:i≠j':=by rintro rfl;rw [hp] at h2;cases h2
   rw [getD_set_ne false hne] at h3
   exact getD_set_true (hg.down _ _ hlt h1 h2 h3)
 |true=>
  obtain ⟨hd,hs,hpc,hcO,hj⟩:=H.prod i o d V c hik hp ho hout
  have hq:q=p i:=by
   have h1:p i≤q:=by omega
   rcases hg.top with h|⟨r,d',V',h2,h3,h4⟩
   ·omega
   ·have hrlt:r<k:=by rw [←H.len];exact (List.getElem?_eq_some_iff.1 h2).1
    have hri:r<i:=by
     rcases Nat.lt_trichotomy r i with h|h|h
     ·exact h
     ·subst h;rw [hunf] at h4;cases h4
     ·have:=hg.down _ _ h hp h3 h4;rw [hunf] at this;cases this
    have:=H.mono r i d' V' q hri hik h3 hp h2
    omega
  subst hq
  refine wpOp_only ho (hj T) (hg.rel.relook same) fun a' w' hr'=>hK a' w' _ c ⟨hr',facts',other',by omega,hcO,le' c (by omega) (Nat.le_refl _),.inr ⟨i,d,V,hout,hp,hself⟩,?_⟩
  intro i' j' hlt h1 h2 h3
  by_cases hij:i=j'
  ·subst hij
   have hi'k:i'<k:=by omega
   obtain ⟨⟨d1,V1,c1⟩,ho1⟩:∃x,out[i']?=some x:=⟨out[i']'(by rw [H.len];exact hi'k),by simp⟩
   obtain ⟨o1,hoo1⟩:=H.all i' hi'k
   obtain ⟨_,hs1,hpc1,_,_⟩:=H.prod i' o1 d1 V1 c1 hi'k h1 hoo1 ho1
   have hm:=H.mono i' i d1 V1 c1 hlt hik h1 hp ho1
   have hb:=foldl_sure_ge (out.take i') o1.after.toList c0
   have hb':c0≤p i':=by rw [←hs1];exact hb
   rcases hg.top with h|⟨r,d',V',h4,h5,h6⟩
   ·omega
   ·rcases Nat.lt_trichotomy r i' with h|h|h
    ·have:=H.mono r i' d' V' _ h hi'k h5 h1 h4;omega
    ·subst h;exact getD_set_true h6
    ·exact getD_set_true (hg.down _ _ h h1 h5 h6)
  ·rw [getD_set_ne false hij] at h3
   exact getD_set_true (hg.down _ _ hlt h1 h2 h3)
theorem anyN {c0 k g:Nat} {out:List Fact} {O':List AObj} {isP:Nat→Bool} {p:Nat→Nat} (H:Plan P n m G ops T0 c0 k out O' isP p) (hks:k≤ops.size) (hs:k<ops.size→Region.sinkB .any ops k=true∧Region.chainB .any ops k=true)
 {Q:Exit→Act→World→Prop}
 (hT:∀listed a w,HeadInv .any ops k listed→(∀ i,i<k→listed.getD i false=true)→(∃ T q,GoodN n m G T0 c0 out O' isP listed a w T q)→wpAny P .any ops Q g listed a w):
 ∀(f:Nat) (listed:Array Bool) (a:Act) (w:World),HeadInv .any ops k listed→((List.range k).filter fun i=>!listed.getD i false).length=f→(∃ T q,GoodN n m G T0 c0 out O' isP listed a w T q)→
  wpAny P .any ops Q (f+g) listed a w:=by
 intro f
 induction f with
 |zero=>
  intro listed a w inv hc hg
  rw [Nat.zero_add]
  refine hT listed a w inv (fun i hi=>?_) hg
  have h0:=List.eq_nil_of_length_eq_zero hc
  cases hl:listed.getD i false with
  |true=>rfl
  |false=>
   have:i∈(List.range k).filter fun i=>!listed.getD i false:=by simp [List.mem_filter,hi];simpa using hl
   rw [h0] at this;cases this
 |succ f ih=>
  intro listed a w inv hc hg
  have hgetD:∀i,i<k→listed.getD i false=false→listed.getD i true=false:=fun i hi h=>getD_in (by rw [inv.size];omega) h
  have hex:∃i,i<k∧listed.getD i false=false:=by
   cases hl:(List.range k).filter fun i=>!listed.getD i false with
   |nil=>rw [hl] at hc;simp at hc
   |cons i r=>
    have:i∈(List.range k).filter fun i=>!listed.getD i false:=by rw [hl];simp
    rw [List.mem_filter,List.mem_range] at this
    exact ⟨i,this.1,by simpa using this.2⟩
  obtain ⟨i0,hi0,hl0⟩:=hex
  have least:∀d i,i=d→i<k→listed.getD i false=false→∃j,j<k∧j∈Region.ready .any ops listed:=by
   intro d
   induction d using Nat.strongRecOn with
   |_ d ihd=>
    rintro i rfl hi hl
    by_cases hh:∃j,j<i∧listed.getD j false=false
    ·obtain ⟨j,hj,hjl⟩:=hh
     exact ihd j hj j rfl (by omega) hjl
    ·have hlt:i<ops.size:=by omega
     refine ⟨i,hi,mem_ready.2 ⟨hgetD i hi hl,ops[i],by simp [hlt],fun e he hb=>?_⟩⟩
     have hlt':=H.back i hi _ (by simp [hlt]) e he hb
     cases hx:listed.getD e.on false with
     |true=>rfl
     |false=>exact (hh ⟨_,hlt',hx⟩).elim
  obtain ⟨j0,hj0,hr0⟩:=least i0 i0 rfl hi0 hl0
  rw [show f+1+g=(f+g)+1 by omega]
  refine ⟨fun h=>(by rw [h] at hr0;cases hr0),fun i hi=>?_⟩
  have hik:i<k:=by
   rcases Nat.lt_or_ge i k with h|h
   ·exact h
   ·by_cases hk:k<ops.size
    ·exact absurd hi (tail_waits (hs hk).1 (hs hk).2 hk inv _ i0 rfl hi0 (hgetD i0 hi0 hl0) i h)
    ·obtain ⟨_,o,ho,_⟩:=mem_ready.1 hi
     have:=(Array.getElem?_eq_some_iff.1 ho).1
     omega
  have hiu:listed.getD i false=false:=getD_both (mem_ready.1 hi).1
  obtain ⟨T,q,hg⟩:=hg
  refine stepN H inv hi hik hg fun a' w' T' q' hg'=>ih _ _ _ (inv.set hi hik) ?_ ⟨T',q',hg'⟩
  have key:∀(L:List Nat),L.Nodup→i∈L→(L.filter fun j=>!(listed.setIfInBounds i true).getD j false).length+1=(L.filter fun j=>!listed.getD j false).length:=by
   intro L
   have hself:(listed.setIfInBounds i true).getD i false=true:=by
    have:i<listed.size:=by rw [inv.size];omega
    simp [this]
   induction L with
   |nil=>intro _ h;cases h
   |cons x L ihL=>
    intro hnd hm
    rw [List.nodup_cons] at hnd
    by_cases hx:x=i
    ·subst hx
     have hsame:(L.filter fun j=>!(listed.setIfInBounds x true).getD j false)=L.filter fun j=>!listed.getD j false:=by
      refine List.filter_congr fun j hj=>?_
      rw [getD_set_ne false (by rintro rfl;exact hnd.1 hj)]
     rw [List.filter_cons,List.filter_cons,hsame,hself,hiu];simp
    ·have hm':i∈L:=by
      rcases List.mem_cons.1 hm with h|h
      ·exact (hx h.symm).elim
      ·exact h
     have:=ihL hnd.2 hm'
     rw [List.filter_cons,List.filter_cons,getD_set_ne false (Ne.symm hx)]
     split<;>(try simp only [List.length_cons])<;>omega
  have:=key (List.range k) List.nodup_range (List.mem_range.2 hik)
  omega
def Said (P:Program) (n m:Nat) (G:Ctx) (ops:Array Oper) (T0:List (Nat×AV)) (c0:Nat) (fs:List Fact) (O':List AObj) (o:Oper) (kd:Option Nat) (d:Nat) (V:AV) (c:Nat):Prop:=
 o.dst=some d∧match kd with
 |none=>sure c0 fs o=c∧∀Tv Ov,WpL P n m G false ops [o] ⟨ndeps fs o++(T0++Tv),O'.take c++Ov⟩ (Only ⟨(d,V)::(ndeps fs o++(T0++Tv)),O'.take c++Ov⟩)
 |some p=>sure c0 fs o=p∧p<c∧c≤O'.length∧∀Tv,WpL P n m G false ops [o] ⟨ndeps fs o++(T0++Tv),O'.take p⟩ (Only ⟨(d,V)::(ndeps fs o++(T0++Tv)),O'.take c⟩)
theorem HeadN.said {c0 O fs l O' out} (h:HeadN P n m G ops T0 c0 O fs l O' out):c0≤O.length→(∀ x∈fs,x.2.2≤O.length)→
 O <+: O'∧∃(r:List Fact) (ks:List (Option Nat)),out=fs++r∧r.length=l.length∧ks.length=l.length∧
   (∀ j o,l[j]?=some o→∃d V c kd,r[j]?=some (d,V,c)∧ks[j]?=some kd∧Said P n m G ops T0 c0 (out.take (fs.length+j)) O' o kd d V c)∧
   (∀ (j:Nat) (p:Nat),ks[j]?=some (some p)→O.length≤p)∧
   (∀ (i j p q d:Nat) (V:AV) (c:Nat),i<j→ks[i]?=some (some p)→ks[j]?=some (some q)→r[i]?=some (d,V,c)→c≤q)∧
   (O'=O∨∃(j p d:Nat) (V:AV),ks[j]?=some (some p)∧r[j]?=some (d,V,O'.length)):=by
 induction h with
 |nil=>intro _ _;exact ⟨List.prefix_refl _,[],[],by simp,rfl,rfl,by simp,by simp,by simp,.inl rfl⟩
 |@pure O fs o l O' out d V F c Oc hd hF hc hO h r ih=>
  intro h0 hfs
  have hcO:c≤O.length:=by rw [←hc];exact foldl_sure_le _ _ _ (fun e _ _ x hx=>hfs x (List.mem_of_getElem? hx)) _ h0
  obtain ⟨hpre,rr,ks,e1,e2,e3,e4,e5,e6,e7⟩:=ih h0 (fun x hx=>by
   rcases List.mem_append.1 hx with hx|hx
   ·exact hfs x hx
   ·have:x=(d,V,c):=by simpa using hx
    subst this;exact hcO)
  have htk:out.take (fs.length+0)=fs:=by rw [e1,Nat.add_zero,List.append_assoc,List.take_left'];rfl
  refine ⟨hpre,(d,V,c)::rr,none::ks,by rw [e1];simp,by simp [e2],by simp [e3],fun j o' hj=>?_,fun j p hj=>?_,fun i j p q d' V' c' hij hi hj hr=>?_,?_⟩
  ·cases j with
   |zero=>
    simp only [List.getElem?_cons_zero,Option.some.injEq] at hj;subst hj
    refine ⟨d,V,c,none,by simp,by simp,hd,?_⟩
    rw [htk]
    refine ⟨hc,?_⟩
    have:O'.take c=Oc:=by rw [←hO];obtain ⟨z,hz⟩:=hpre;rw [←hz,List.take_append_of_le_length hcO]
    rw [this,hF];exact h
   |succ j=>
    obtain ⟨d',V',c',kd,q1,q2,q3⟩:=e4 j o' (by simpa using hj)
    refine ⟨d',V',c',kd,by simpa using q1,by simpa using q2,?_⟩
    rw [List.length_append,List.length_singleton,Nat.add_assoc,Nat.add_comm 1 j] at q3;exact q3
  ·cases j with
   |zero=>simp at hj
   |succ j=>exact e5 j p (by simpa using hj)
  ·cases i with
   |zero=>simp at hi
   |succ i=>cases j with
    |zero=>omega
    |succ j=>exact e6 i j p q d' V' c' (by omega) (by simpa using hi) (by simpa using hj) (by simpa using hr)
  ·rcases e7 with h|⟨j,p,d',V',h1,h2⟩
   ·exact .inl h
   ·exact .inr ⟨j+1,p,d',V',by simpa using h1,by simpa using h2⟩
 |@prod O fs o l O' out d V F N hd hF hc hN h r ih=>
  intro h0 hfs
  have hNl:0<N.length:=List.length_pos_iff.2 hN
  obtain ⟨hpre,rr,ks,e1,e2,e3,e4,e5,e6,e7⟩:=ih (by simp;omega) (fun x hx=>by
   rcases List.mem_append.1 hx with hx|hx
   ·have:=hfs x hx;simp;omega
   ·have:x=(d,V,O.length+N.length):=by simpa using hx
    subst this;simp)
  have htk:out.take (fs.length+0)=fs:=by rw [e1,Nat.add_zero,List.append_assoc,List.take_left'];rfl
  refine ⟨List.IsPrefix.trans (List.prefix_append O N) hpre,(d,V,O.length+N.length)::rr,some O.length::ks,by rw [e1];simp,by simp [e2],by simp [e3],fun j o' hj=>?_,fun j p hj=>?_,fun i j p q d' V' c' hij hi hj hr=>?_,?_⟩
  ·cases j with
   |zero=>
    simp only [List.getElem?_cons_zero,Option.some.injEq] at hj;subst hj
    refine ⟨d,V,O.length+N.length,some O.length,by simp,by simp,hd,?_⟩
    rw [htk]
    obtain ⟨z,hz⟩:=hpre
    have t1:O'.take O.length=O:=by rw [←hz,List.append_assoc];exact List.take_left' rfl
    have t2:O'.take (O.length+N.length)=O++N:=by rw [←hz];exact List.take_left' (by simp)
    refine ⟨hc,by omega,by rw [←hz];simp,?_⟩
    rw [t1,t2,hF];exact h
   |succ j=>
    obtain ⟨d',V',c',kd,q1,q2,q3⟩:=e4 j o' (by simpa using hj)
    refine ⟨d',V',c',kd,by simpa using q1,by simpa using q2,?_⟩
    rw [List.length_append,List.length_singleton,Nat.add_assoc,Nat.add_comm 1 j] at q3;exact q3
  ·cases j with
   |zero=>simp at hj;omega
   |succ j=>have:=e5 j p (by simpa using hj);simp at this;omega
  ·cases j with
   |zero=>omega
   |succ j=>cases i with
    |zero=>
     have h1:=e5 j q (by simpa using hj)
     simp at hr h1
     omega
    |succ i=>exact e6 i j p q d' V' c' (by omega) (by simpa using hi) (by simpa using hj) (by simpa using hr)
  ·rcases e7 with h|⟨j,p,d',V',h1,h2⟩
   ·exact .inr ⟨0,O.length,d,V,by simp,by rw [h];simp⟩
   ·exact .inr ⟨j+1,p,d',V',by simpa using h1,by simpa using h2⟩
theorem WpA.regionN {l:List Oper} {id:Nat} {O O':List AObj} {out:List Fact} {T1:List (Nat×AV)} {Q:Exit→St→Prop} (k:Nat) (hm:P.follows .mixedOrders=true) (hB:mixB l.toArray k=true)
 (hJ:HeadN P n m G l.toArray T0 O.length O [] (l.take k) O' out) (hnd:nodupB (out.map (·.1))=true) (hfr:(out.all fun p=>!has T0 p.1)=true)
 (hT1:(out.map fun x=>(x.1,x.2.1))++T0=T1) (h:WpL P n m G false l.toArray (l.drop k) ⟨T1,O'⟩ Q):WpA P n m G (.region id l.toArray true) ⟨T0,O⟩ Q:=fun a w hr=>by
 subst hT1
 simp only [mixB,Bool.and_eq_true,decide_eq_true_eq,Bool.or_eq_true] at hB
 obtain ⟨⟨⟨hks,hback⟩,hsc⟩,hseq⟩:=hB
 have hkl:k≤l.length:=by simpa using hks
 have htl:(l.take k).length=k:=by simp;omega
 obtain ⟨hpre,r,kds,hr1,hr2,hr3,hsaid,hlow,hmono,hlast⟩:=hJ.said (Nat.le_refl _) (by simp)
 have hro:out=r:=by simpa using hr1
 subst hro
 have hlen:out.length=k:=by rw [hr2,htl]
 have hat:∀i,i<k→∃o d V c kd,l.toArray[i]?=some o∧out[i]?=some (d,V,c)∧kds[i]?=some kd∧Said P n m G l.toArray T0 O.length (out.take i) O' o kd d V c:=by
  intro i hi
  have hil:i<(l.take k).length:=by omega
  obtain ⟨d,V,c,kd,q1,q2,q3⟩:=hsaid i (l.take k)[i] (List.getElem?_eq_getElem hil)
  refine ⟨(l.take k)[i],d,V,c,kd,?_,q1,q2,by simpa using q3⟩
  have:l[i]?=some (l.take k)[i]:=by
   have h1:(l.take k)[i]?=some (l.take k)[i]:=List.getElem?_eq_getElem hil
   rw [List.getElem?_take,if_pos hi] at h1;exact h1
  rw [List.getElem?_toArray];exact this
 have H:Plan P n m G l.toArray T0 O.length k out O' (fun i=>match kds[i]? with|some (some _)=>true|_=>false) (fun i=>match kds[i]? with|some (some p)=>p|_=>0):=by
  refine ⟨hlen,nodupB_spec hnd,fun x hx=>by have:=List.all_eq_true.1 hfr x hx;simpa using this,fun i hi o ho e he hb=>?_,fun i o d V c hi hP ho hout=>?_,fun i o d V c hi hP ho hout=>?_,fun i j d V c hij hjk hP hP' hout=>?_,hpre.length_le,fun i hi=>?_⟩
  ·have h1:=List.all_eq_true.1 hback i (List.mem_range.2 hi)
   rw [ho] at h1
   have h2:=List.all_eq_true.1 h1 e (by simpa using he)
   simp only [Bool.or_eq_true,Bool.not_eq_true',decide_eq_true_eq] at h2
   rcases h2 with h2|h2
   ·rw [hb] at h2;cases h2
   ·exact h2
  ·obtain ⟨o1,d1,V1,c1,kd,q1,q2,q3,q4⟩:=hat i hi
   rw [ho] at q1;cases q1
   rw [hout] at q2;cases q2
   simp only [q3] at hP
   cases kd with
   |some p=>simp at hP
   |none=>exact ⟨q4.1,q4.2.1,q4.2.2⟩
  ·obtain ⟨o1,d1,V1,c1,kd,q1,q2,q3,q4⟩:=hat i hi
   rw [ho] at q1;cases q1
   rw [hout] at q2;cases q2
   simp only [q3] at hP ⊢
   cases kd with
   |none=>simp at hP
   |some p=>exact ⟨q4.1,q4.2.1,q4.2.2.1,q4.2.2.2.1,q4.2.2.2.2⟩
  ·obtain ⟨_,_,_,_,k1,_,_,q3,_⟩:=hat i (by omega)
   obtain ⟨_,_,_,_,k2,_,_,q3',_⟩:=hat j hjk
   simp only [q3] at hP
   simp only [q3'] at hP' ⊢
   cases k1 with
   |none=>simp at hP
   |some p=>cases k2 with
    |none=>simp at hP'
    |some q=>exact hmono i j p q d V c hij q3 q3' hout
  ·obtain ⟨o,_,_,_,_,q1,_⟩:=hat i hi;exact ⟨o,q1⟩
 have inv0:HeadInv .any l.toArray k (Array.replicate l.toArray.size false):=
  ⟨by simp,fun j oj _ hl=>(by rw [getD_replicate_false] at hl;cases hl),fun t _ ht=>getD_in (by simpa using ht) (getD_replicate_false _ _)⟩
 refine wp_region_any hm ?_
 have fin:=anyN (P:=P) (n:=n) (m:=m) (G:=G) (g:=l.toArray.size-k) (Q:=fun e a' w'=>∃σ',Q e σ'∧Rel n m G σ' a' w') H hks (fun hk=>hsc.resolve_left (by omega)) (fun listed a w inv hall hg=>by
  obtain ⟨T,q,hg⟩:=hg
  have hq:q=O'.length:=by
   rcases hlast with hl|⟨j,p,d,V,h1,h2⟩
   ·have:=hg.lo;have:=hg.hi;rw [hl] at this ⊢;omega
   ·have hjk:j<k:=by rw [←hlen];exact (List.getElem?_eq_some_iff.1 h2).1
    have:=hg.le j d V _ h2 (hall j hjk);have:=hg.hi;omega
  have hrT:=hg.rel
  rw [hq,List.take_length] at hrT
  have hlist:listed=(Array.range l.toArray.size).map fun i=>decide (i<k):=by
   apply Array.ext
   ·simp [inv.size]
   ·intro i hi1 hi2
    have hi:i<l.toArray.size:=by rw [←inv.size];exact hi1
    by_cases hik:i<k
    ·have:=hall i hik
     simp [hi1] at this
     simp [this,hik]
    ·have:=inv.tail i (by omega) hi
     simp [hi1] at this
     simp [this,hik]
  have hdl:(l.drop k).length=l.toArray.size-k:=by simp
  rw [←hdl]
  refine wpAny_of_seq (l.drop k) k listed a w (fun j=>by simp [List.getElem?_drop]) (by rw [hdl,hlist];exact hseq) ?_
  refine h a w (hrT.relook fun t=>?_)
  rw [look_append]
  split
  ·rename_i hh
   obtain ⟨⟨d,V,c⟩,hx,hx2⟩:=List.mem_map.1 (has_look hh)
   obtain ⟨i,hi⟩:=List.getElem?_of_mem hx
   simp only [Prod.mk.injEq] at hx2
   obtain ⟨rfl,hx2⟩:=hx2
   rw [←hx2]
   exact (hg.facts i _ _ _ hi (hall i (by rw [←hlen];exact (List.getElem?_eq_some_iff.1 hi).1))).symm
  ·rename_i hh
   exact (hg.other t (by simpa using hh)).symm) k _ a w.drew inv0 (by
    have:((List.range k).filter fun i=>!(Array.replicate l.toArray.size false).getD i false)=List.range k:=by
     rw [List.filter_eq_self];intro i _;rw [getD_replicate_false];rfl
    rw [this];simp) ⟨T0,O.length,⟨by obtain ⟨z,hz⟩:=hpre;rw [←hz,List.take_left' rfl];exact hr.drew,fun i d V c _ hl=>(by rw [getD_replicate_false] at hl;cases hl),fun _ _=>rfl,Nat.le_refl _,hpre.length_le,fun i d V c _ hl=>(by rw [getD_replicate_false] at hl;cases hl),.inl rfl,fun i j _ _ _ hl=>(by rw [getD_replicate_false] at hl;cases hl)⟩⟩
 rw [show k+(l.toArray.size-k)=l.toArray.size by omega] at fin
 exact fin
end
end Go.Abs


namespace Go.Abs
open Go
abbrev I (n:Int):AV:=.sc (.int .i64 n)
abbrev B (b:Bool):AV:=.sc (.bool b)
abbrev Z (p:List UInt8):AV:=.sc (.string ⟨p.toArray⟩)
abbrev U (n:Int):AV:=.sc (.int .u8 n)
abbrev IL (xs:List Int):AV:=.imm 1 xs.length (ints xs)
def cnt:Nat→Nat→Option Nat
 |0,k=>some k
 |n+1,k=>cnt n (k+1)
theorem cnt_eq:∀{n k c:Nat},cnt n k=some c→n+k=c
 |0,k,c,h=>by simp [cnt] at h;omega
 |n+1,k,c,h=>by rw [cnt] at h;have:=cnt_eq h;omega
structure Hold (R:Prop):Prop where
 out:R
theorem Hold.h {A B:Prop} (h:Hold (A∧B)):A:=h.out.1
structure IsT (R:Prop):Prop where
 a:True
theorem IsT.t:IsT True:=⟨trivial⟩
theorem IsT.any {R:Prop}:IsT R:=⟨trivial⟩
theorem Hold.t {A B:Prop} (h:Hold (A∧B)):Hold B:=⟨h.out.2⟩
section
variable {P:Program} {n m:Nat} {G:Ctx} {T:List (Nat×AV)} {O:List AObj} {Q:Exit→St→Prop} {ops:Array Oper} {l:List Oper} {d:Nat} {tt:TypeId} {pos:String} {after:Array Edge} {tab:List (Nat×Ty)}
mutual
def AV.flat:AV→Bool
 |.own _ _ _ _=>false
 |.agg ds=>AV.flatL ds
 |.tup ds=>AV.flatL ds
 |V=>V.still
def AV.flatL:List AV→Bool
 |[]=>true
 |V::Vs=>V.flat&&AV.flatL Vs
end
mutual
theorem AV.flat_sh (k:Nat):∀(V:AV),V.flat=true→V.shOk=true∧V.sh k=V
 |.own _ _ _ _,h=>by simp [AV.flat] at h
 |.agg ds,h=>by have:=AV.flatL_sh k ds (by simpa [AV.flat] using h);simp [AV.shOk,AV.sh,this]
 |.tup ds,h=>by have:=AV.flatL_sh k ds (by simpa [AV.flat] using h);simp [AV.shOk,AV.sh,this]
 |.any,h=>by simp [AV.shOk,AV.sh,AV.still]
 |.sc _,h=>by simp [AV.shOk,AV.sh,AV.still]
 |.nilS,h=>by simp [AV.shOk,AV.sh,AV.still]
 |.imm _ _ _,h=>by simp [AV.shOk,AV.sh,AV.still]
 |.fre _ _ _,h=>by simp [AV.shOk,AV.sh,AV.still]
 |.ptr _ _ _,h=>by simp [AV.flat,AV.still] at h
 |.iptr _ _,h=>by simp [AV.shOk,AV.sh,AV.still]
 |.fn _ _,h=>by simp [AV.flat] at h;simp [AV.shOk,AV.sh,h]
 |.ifc _ _,h=>by simp [AV.flat] at h;simp [AV.shOk,AV.sh,h]
theorem AV.flatL_sh (k:Nat):∀(Vs:List AV),AV.flatL Vs=true→AV.shOkL Vs=true∧AV.shL k Vs=Vs
 |[],_=>by simp [AV.shOkL,AV.shL]
 |V::Vs,h=>by
  simp only [AV.flatL,Bool.and_eq_true] at h
  have h1:=AV.flat_sh k V h.1
  have h2:=AV.flatL_sh k Vs h.2
  simp [AV.shOkL,AV.shL,h1,h2]
end
theorem nid_len:∀(O:List AObj) (k:Nat),nid O k=some (k+O.length)
 |[],k=>by simp [nid]
 |_::O,k=>by rw [nid,nid_len O (k+1)];simp;omega
mutual
def AV.shF (k:Nat):AV→Option AV
 |.own id ep off len=>some (.own (id+k) ep off len)
 |.agg ds=>match AV.shFL k ds with
  |some r=>some (.agg r)
  |none=>none
 |.tup ds=>match AV.shFL k ds with
  |some r=>some (.tup r)
  |none=>none
 |.any=>some .any
 |.sc v=>some (.sc v)
 |.nilS=>some .nilS
 |.imm s l ds=>some (.imm s l ds)
 |.fre s l ds=>some (.fre s l ds)
 |.ptr id ep off=>some (.ptr id ep off)
 |.iptr ds off=>some (.iptr ds off)
 |.fn f ds=>some (.fn f ds)
 |.ifc t v=>some (.ifc t v)
def AV.shFL (k:Nat):List AV→Option (List AV)
 |[]=>some []
 |V::Vs=>match AV.shF k V with
  |none=>none
  |some W=>match AV.shFL k Vs with
   |some r=>some (W::r)
   |none=>none
end
mutual
theorem AV.shF_eq (k:Nat):∀(V W:AV),AV.shF k V=some W→V.sh k=W
 |.own id ep off len,W,h=>by rw [AV.shF] at h;rw [AV.sh];exact Option.some.inj h
 |.agg ds,W,h=>by
  rw [AV.shF] at h;rw [AV.sh]
  cases hr:AV.shFL k ds with
  |none=>rw [hr] at h;cases h
  |some r=>rw [hr] at h;rw [AV.shFL_eq k ds r hr];exact Option.some.inj h
 |.tup ds,W,h=>by
  rw [AV.shF] at h;rw [AV.sh]
  cases hr:AV.shFL k ds with
  |none=>rw [hr] at h;cases h
  |some r=>rw [hr] at h;rw [AV.shFL_eq k ds r hr];exact Option.some.inj h
 |.any,W,h=>by rw [AV.shF] at h;rw [AV.sh];exact Option.some.inj h
 |.sc _,W,h=>by rw [AV.shF] at h;rw [AV.sh];exact Option.some.inj h
 |.nilS,W,h=>by rw [AV.shF] at h;rw [AV.sh];exact Option.some.inj h
 |.imm _ _ _,W,h=>by rw [AV.shF] at h;rw [AV.sh];exact Option.some.inj h
 |.fre _ _ _,W,h=>by rw [AV.shF] at h;rw [AV.sh];exact Option.some.inj h
 |.ptr _ _ _,W,h=>by rw [AV.shF] at h;rw [AV.sh];exact Option.some.inj h
 |.iptr _ _,W,h=>by rw [AV.shF] at h;rw [AV.sh];exact Option.some.inj h
 |.fn _ _,W,h=>by rw [AV.shF] at h;rw [AV.sh];exact Option.some.inj h
 |.ifc _ _,W,h=>by rw [AV.shF] at h;rw [AV.sh];exact Option.some.inj h
theorem AV.shFL_eq (k:Nat):∀(Vs Ws:List AV),AV.shFL k Vs=some Ws→AV.shL k Vs=Ws
 |[],Ws,h=>by rw [AV.shFL] at h;rw [AV.shL];exact Option.some.inj h
 |V::Vs,Ws,h=>by
  rw [AV.shFL] at h;rw [AV.shL]
  cases hv:AV.shF k V with
  |none=>rw [hv] at h;cases h
  |some W=>
   rw [hv] at h
   cases hr:AV.shFL k Vs with
   |none=>simp only [hr] at h;cases h
   |some r=>simp only [hr] at h;rw [AV.shF_eq k V W hv,AV.shFL_eq k Vs r hr];exact Option.some.inj h
end
theorem AV.force_some (V:AV):V.force=some V:=by cases V<;>rfl
theorem WpL.callF {f:FuncId} {xs:List Operand} {ats:Array TypeId} {As:List AV} {N:List AObj} {r r':AV} {id:Nat} (hc:FnC P f As N r) (hs:Snap O (xs.map (av T)) As) (hloc:Loc [r]) (hN:Out N)
 (hid:cnt O.length 0=some id) (hok:r.shOk=true) (hre:r.shF id=some r') (hn:d<n) (h:WpL P n m G false ops l ⟨(d,r')::T,O++N⟩ Q):
 WpL P n m G false ops ({dst:=some d,op:=.call {callee:=.value (.func f),args:=xs.toArray,argTypes:=ats},type:=tt,pos:=pos,after:=after,guard:=none}::l) ⟨T,O⟩ Q:=by
 have e:id=O.length:=by have:=cnt_eq hid;omega
 subst e
 exact WpL.call hc hs hloc hN (id:=O.length) (by rw [nid_len,Nat.zero_add]) hok (by rw [AV.shF_eq _ _ _ hre];exact AV.force_some _) hn h
theorem WpL.call0 {f:FuncId} {xs:List Operand} {ats:Array TypeId} {As:List AV} {r r':AV} (hc:FnC P f As [] r) (hs:Snap O (xs.map (av T)) As) (hloc:Loc [r])
 (hok:r.flat=true) (hre:r.force=some r') (hn:d<n) (h:WpL P n m G false ops l ⟨(d,r')::T,O⟩ Q):
 WpL P n m G false ops ({dst:=some d,op:=.call {callee:=.value (.func f),args:=xs.toArray,argTypes:=ats},type:=tt,pos:=pos,after:=after,guard:=none}::l) ⟨T,O⟩ Q:=by
 have hsh:=AV.flat_sh O.length r hok
 refine WpL.call hc hs hloc .nil (id:=O.length) (by rw [nid_len];simp) hsh.1 (by rw [hsh.2];exact hre) hn ?_
 rw [List.append_nil];exact h
theorem WpL.idxI1 (hP:TabOk P tab) {t e b:Nat} {zs cs:List AV} {x y:Operand} {len i:Nat} {kk:IntKind} (ht:tlook tab t=some (.slice e 1 b zs)) (hx:av T x=.imm 1 len cs) (hy:av T y=.sc (.int kk (i:Int)))
 (hj:i<len) (hn:d<n) {md:Bool} (h:WpL P n m G md ops l ⟨(d,.iptr cs i)::T,O⟩ Q):
 WpL P n m G md ops ({dst:=some d,op:=.indexAddr t x y,type:=tt,pos:=pos,after:=after,guard:=none}::l) ⟨T,O⟩ Q:=
 WpL.idxI hP ht hx hy (by omega) hn (by simpa using h)
theorem WpL.storeS (hP:TabOk P tab) {t:Nat} {ty:Ty} {x y:Operand} {id ep off:Nat} {ob:AObj} {V:AV} {Vs cs:List AV} (ht:tlook tab t=some ty) (hx:av T x=.ptr id ep off)
 (ho:O[id]?=some ob) (he:ob.ep=ep) (hy:(av T y).force=some V) (hV:cellsV O V=some Vs) (hk:ty.cellsN=some Vs.length) (hone:Vs.all (oneB O)=true) (hle:off+Vs.length≤ob.cells.length)
 (hset:setL ob.cells off Vs=cs) (h:WpL P n m G false ops l ⟨T,O.set id ⟨cs,ob.ep,ob.size,ob.ty⟩⟩ Q):
 WpL P n m G false ops ({dst:=none,op:=.store t x y,type:=tt,pos:=pos,after:=after,guard:=none}::l) ⟨T,O⟩ Q:=
 WpL.store hP ht hx ho he hy hV hk hone hle (by subst hset;exact h)
def toInts:List AV→Option (List Int)
 |[]=>some []
 |.sc (.int .i64 n)::r=>match toInts r with
  |some l=>some (n::l)
  |none=>none
 |_=>none
theorem toInts_eq:∀{cs:List AV} {vs:List Int},toInts cs=some vs→cs=ints vs
 |[],vs,h=>by simp [toInts] at h;subst h;rfl
 |.sc (.int .i64 n)::r,vs,h=>by
  rw [toInts] at h
  cases hr:toInts r with
  |none=>rw [hr] at h;cases h
  |some l=>rw [hr] at h;cases h;rw [toInts_eq hr];rfl
def toU8s:List AV→Option (List Int)
 |[]=>some []
 |.sc (.int .u8 n)::r=>match toU8s r with
  |some l=>some (n::l)
  |none=>none
 |_=>none
theorem toU8s_eq:∀{cs:List AV} {vs:List Int},toU8s cs=some vs→cs=u8s vs
 |[],vs,h=>by simp [toU8s] at h;subst h;rfl
 |.sc (.int .u8 n)::r,vs,h=>by
  rw [toU8s] at h
  cases hr:toU8s r with
  |none=>rw [hr] at h;cases h
  |some l=>rw [hr] at h;cases h;rw [toU8s_eq hr];rfl
def toStrs:List AV→Option (List (List UInt8))
 |[]=>some []
 |.sc (.string ⟨⟨p⟩⟩)::r=>match toStrs r with
  |some l=>some (p::l)
  |none=>none
 |_=>none
theorem toStrs_eq:∀{cs:List AV} {vs:List (List UInt8)},toStrs cs=some vs→cs=strs vs
 |[],vs,h=>by simp [toStrs] at h;subst h;rfl
 |.sc (.string ⟨⟨p⟩⟩)::r,vs,h=>by
  rw [toStrs] at h
  cases hr:toStrs r with
  |none=>rw [hr] at h;cases h
  |some l=>rw [hr] at h;cases h;rw [toStrs_eq hr];rfl
theorem WpL.litInts (hP:TabOk P tab) {t e k b len id:Nat} {zs cs:List AV} {vs:List Int} {parts:List (Nat×Operand)} (ht:tlook tab t=some (.slice e k b zs)) (hidx:parts.map (·.1)=List.range' 0 parts.length) (hlen:parts.length=len)
 (hlit:litC T O k (parts.map (·.2))=some cs) (hc:toInts cs=some vs) (hsm:len*k≤16777216) (hid:nid O 0=some id) (hn:d<n)
 (h:WpL P n m G false ops l ⟨(d,.own id 0 0 len)::T,O++[⟨ints vs,0,k,some e⟩]⟩ Q):
 WpL P n m G false ops ({dst:=some d,op:=.buildSlice t len parts.toArray,type:=tt,pos:=pos,after:=after,guard:=none}::l) ⟨T,O⟩ Q:=by
 have:=toInts_eq hc;subst this;exact WpL.litF hP ht hidx hlen hlit hsm hid hn h
theorem WpL.litU8s (hP:TabOk P tab) {t e k b len id:Nat} {zs cs:List AV} {vs:List Int} {parts:List (Nat×Operand)} (ht:tlook tab t=some (.slice e k b zs)) (hidx:parts.map (·.1)=List.range' 0 parts.length) (hlen:parts.length=len)
 (hlit:litC T O k (parts.map (·.2))=some cs) (hc:toU8s cs=some vs) (hsm:len*k≤16777216) (hid:nid O 0=some id) (hn:d<n)
 (h:WpL P n m G false ops l ⟨(d,.own id 0 0 len)::T,O++[⟨u8s vs,0,k,some e⟩]⟩ Q):
 WpL P n m G false ops ({dst:=some d,op:=.buildSlice t len parts.toArray,type:=tt,pos:=pos,after:=after,guard:=none}::l) ⟨T,O⟩ Q:=by
 have:=toU8s_eq hc;subst this;exact WpL.litF hP ht hidx hlen hlit hsm hid hn h
theorem WpL.litStrs (hP:TabOk P tab) {t e k b len id:Nat} {zs cs:List AV} {vs:List (List UInt8)} {parts:List (Nat×Operand)} (ht:tlook tab t=some (.slice e k b zs)) (hidx:parts.map (·.1)=List.range' 0 parts.length) (hlen:parts.length=len)
 (hlit:litC T O k (parts.map (·.2))=some cs) (hc:toStrs cs=some vs) (hsm:len*k≤16777216) (hid:nid O 0=some id) (hn:d<n)
 (h:WpL P n m G false ops l ⟨(d,.own id 0 0 len)::T,O++[⟨strs vs,0,k,some e⟩]⟩ Q):
 WpL P n m G false ops ({dst:=some d,op:=.buildSlice t len parts.toArray,type:=tt,pos:=pos,after:=after,guard:=none}::l) ⟨T,O⟩ Q:=by
 have:=toStrs_eq hc;subst this;exact WpL.litF hP ht hidx hlen hlit hsm hid hn h
variable {ids:List (Option Nat)} {vs us:List AV}
theorem Ex.i {a b:Int} (h:a=b) (r:Ex O ids vs us):Ex O ids (I a::vs) (I b::us):=.keep (by rw [h]) rfl rfl r
theorem Ex.b {a b:Bool} (h:a=b) (r:Ex O ids vs us):Ex O ids (B a::vs) (B b::us):=.keep (by rw [h]) rfl rfl r
theorem Ex.z {a b:List UInt8} (h:a=b) (r:Ex O ids vs us):Ex O ids (Z a::vs) (Z b::us):=.keep (by rw [h]) rfl rfl r
theorem NEx.ints {id ep sz:Nat} {ty:Option TypeId} {xs ys:List Int} {N:List AObj} (ho:O[id]?=some ⟨Abs.ints xs,ep,sz,ty⟩) (h:xs=ys) (r:NEx O ids N):NEx O (some id::ids) (⟨Abs.ints ys,0,sz,ty⟩::N):=
 .obj ho (by rw [h]) (still_ints _) rfl rfl (.inr rfl) r
theorem NEx.u8s {id ep sz:Nat} {ty:Option TypeId} {xs ys:List Int} {N:List AObj} (ho:O[id]?=some ⟨Abs.u8s xs,ep,sz,ty⟩) (h:xs=ys) (r:NEx O ids N):NEx O (some id::ids) (⟨Abs.u8s ys,0,sz,ty⟩::N):=
 .obj ho (by rw [h]) (still_u8s _) rfl rfl (.inr rfl) r
theorem NEx.bools {id ep sz:Nat} {ty:Option TypeId} {xs ys:List Bool} {N:List AObj} (ho:O[id]?=some ⟨Abs.bools xs,ep,sz,ty⟩) (h:xs=ys) (r:NEx O ids N):NEx O (some id::ids) (⟨Abs.bools ys,0,sz,ty⟩::N):=
 .obj ho (by rw [h]) (still_bools _) rfl rfl (.inr rfl) r
theorem NEx.strs {id ep sz:Nat} {ty:Option TypeId} {xs ys:List (List UInt8)} {N:List AObj} (ho:O[id]?=some ⟨Abs.strs xs,ep,sz,ty⟩) (h:xs=ys) (r:NEx O ids N):NEx O (some id::ids) (⟨Abs.strs ys,0,sz,ty⟩::N):=
 .obj ho (by rw [h]) (still_strs _) rfl rfl (.inr rfl) r
def endB:Exit→Bool
 |.ret=>true
 |.normal=>true
 |_=>false
theorem Fin.e {rs:Array ResultVar} {N:List AObj} {r:AV} {σ:St} {e:Exit} (he:endB e=true) (h:Res tab N r rs σ):Fin tab rs N r e σ:=by
 cases e<;>first|exact h|cases he
variable {r r1v r2v r3v:AV} {r1 r2 r3:ResultVar} {e:Exit} {a b c:Option Nat} {oa ob oc:AObj}
theorem Fin.one0 (he:endB e=true) (hv:ResV tab T O r1 r1v) (hx:Ex O [] [r1v] [r]):Fin tab #[r1] [] r e ⟨T,O⟩:=Fin.e he (.one hv .nil (by decide) hx)
theorem nd1:([a].filterMap id).Nodup:=by cases a<;>simp
theorem Fin.one1 (he:endB e=true) (hv:ResV tab T O r1 r1v) (hx:Ex O [a] [r1v] [r]) (hN:NEx O [a] [oa]):Fin tab #[r1] [oa] r e ⟨T,O⟩:=Fin.e he (.one hv hN nd1 hx)
end
section
variable {O O':List AObj} {T T':List (Nat×AV)} {t:Nat}
theorem ReT.same {V:AV} (h:look T t=V) (hs:V.still=true) (r:ReT O O' T T'):ReT O O' T ((t,V)::T'):=.cons (.keep h hs .nil) r
theorem ReT.i {a b:Int} (hl:look T t=I a) (h:a=b) (r:ReT O O' T T'):ReT O O' T ((t,I b)::T'):=.cons (.keep (by rw [hl,h]) rfl .nil) r
theorem ReT.u {a b:Int} (hl:look T t=U a) (h:a=b) (r:ReT O O' T T'):ReT O O' T ((t,U b)::T'):=.cons (.keep (by rw [hl,h]) rfl .nil) r
theorem ReT.b {a b:Bool} (hl:look T t=B a) (h:a=b) (r:ReT O O' T T'):ReT O O' T ((t,B b)::T'):=.cons (.keep (by rw [hl,h]) rfl .nil) r
theorem ReT.own {id ep ep' off len len':Nat} {ob ob':AObj} (hl:look T t=.own id ep off len) (h1:O[id]?=some ob) (h2:O'[id]?=some ob') (h3:ob.ep=ep) (h4:ob'.ep=ep') (h5:ob'.size=ob.size) (h:len=len') (r:ReT O O' T T'):
 ReT O O' T ((t,.own id ep' off len')::T'):=.cons (by rw [hl];exact .own h1 h2 h3 h4 h5 h .nil) r
theorem ReT.ptr {id ep ep' off:Nat} {ob ob':AObj} (hl:look T t=.ptr id ep off) (h1:O[id]?=some ob) (h2:O'[id]?=some ob') (h3:ob.ep=ep) (h4:ob'.ep=ep') (r:ReT O O' T T'):ReT O O' T ((t,.ptr id ep' off)::T'):=
 .cons (by rw [hl];exact .ptr h1 h2 h3 h4 .nil) r
variable {os os':List AObj} {ep ep' sz sz':Nat} {ty ty':Option TypeId}
theorem ReO.ints {xs ys:List Int} (h:xs=ys) (ht:ty'=none∨ty'=ty) (r:ReO O O' os os'):ReO O O' (⟨Abs.ints xs,ep,sz,ty⟩::os) (⟨Abs.ints ys,ep',sz',ty'⟩::os'):=.cons (Re.same (by rw [h]) (still_ints _)) ht r
theorem ReO.u8s {xs ys:List Int} (h:xs=ys) (ht:ty'=none∨ty'=ty) (r:ReO O O' os os'):ReO O O' (⟨Abs.u8s xs,ep,sz,ty⟩::os) (⟨Abs.u8s ys,ep',sz',ty'⟩::os'):=.cons (Re.same (by rw [h]) (still_u8s _)) ht r
theorem ReO.bools {xs ys:List Bool} (h:xs=ys) (ht:ty'=none∨ty'=ty) (r:ReO O O' os os'):ReO O O' (⟨Abs.bools xs,ep,sz,ty⟩::os) (⟨Abs.bools ys,ep',sz',ty'⟩::os'):=.cons (Re.same (by rw [h]) (still_bools _)) ht r
theorem ReO.strs {xs ys:List (List UInt8)} (h:xs=ys) (ht:ty'=none∨ty'=ty) (r:ReO O O' os os'):ReO O O' (⟨Abs.strs xs,ep,sz,ty⟩::os) (⟨Abs.strs ys,ep',sz',ty'⟩::os'):=.cons (Re.same (by rw [h]) (still_strs _)) ht r
theorem Re.i {a b:Int} {vs us:List AV} (h:a=b) (r:Re O O' vs us):Re O O' (I a::vs) (I b::us):=.keep (by rw [h]) rfl r
theorem Re.b {a b:Bool} {vs us:List AV} (h:a=b) (r:Re O O' vs us):Re O O' (B a::vs) (B b::us):=.keep (by rw [h]) rfl r
end
theorem Rnd.succ {m:Nat} {Inv:Nat→St} {C:Nat→Prop} {μ:Nat→Nat} {x:Nat} {Q:Exit→St→Prop} {σ:St} (h1:C (x+1)) (h2:μ (x+1)<μ x) (h3:Weak m σ (Inv (x+1))):Rnd m Inv C μ x Q .normal σ:=Rnd.go (x+1) h1 h2 h3
theorem Snap.ownL {O:List AObj} {id ep len len' sz:Nat} {ob:AObj} {es vs us:List AV} (h1:O[id]?=some ob) (h2:ob.ep=ep) (h3:ob.size=sz) (r1:Snap O ob.cells es) (h4:len*ob.size=ob.cells.length) (h5:len=len') (r2:Snap O vs us):Snap O (.own id ep 0 len::vs) (.imm sz len' es::us):=.own h1 h2 h3 h4 h5 r1 r2
def flatO:List AObj→Option (List AObj)
 |[]=>some []
 |⟨c,e,z,t⟩::O=>match flatO O with
  |some r=>some (⟨c,e,z,t⟩::r)
  |none=>none
theorem flatO_eq:∀{O O2:List AObj},flatO O=some O2→O=O2
 |[],O2,h=>by simp [flatO] at h;exact h.symm
 |⟨c,e,z,t⟩::O,O2,h=>by
  rw [flatO] at h
  cases hr:flatO O with
  |none=>rw [hr] at h;cases h
  |some r=>rw [hr] at h;have:=flatO_eq hr;subst this;simpa using h
theorem WpA.regionF {P:Program} {n m:Nat} {G:Ctx} {T:List (Nat×AV)} {O O2:List AObj} {Q:Exit→St→Prop} {id:Nat} {l:List Oper} (hO:flatO O=some O2) (h:WpL P n m G false l.toArray l ⟨T,O2⟩ Q):WpA P n m G (.region id l.toArray false) ⟨T,O⟩ Q:=by
 have:=flatO_eq hO;subst this;exact WpA.region h
theorem WpA.flat {P:Program} {n m:Nat} {G:Ctx} {T:List (Nat×AV)} {O O2:List AObj} {Q:Exit→St→Prop} {c:Code} (hO:flatO O=some O2) (h:WpA P n m G c ⟨T,O2⟩ Q):WpA P n m G c ⟨T,O⟩ Q:=by
 have:=flatO_eq hO;subst this;exact h
def catF {α:Type}:List α→List α→Option (List α)
 |[],B=>some B
 |a::A,B=>match catF A B with
  |some r=>some (a::r)
  |none=>none
theorem catF_eq {α:Type}:∀{A B C:List α},catF A B=some C→A++B=C
 |[],B,C,h=>by simp [catF] at h;simpa using h
 |a::A,B,C,h=>by
  rw [catF] at h
  cases hr:catF A B with
  |none=>rw [hr] at h;cases h
  |some r=>rw [hr] at h;have:=catF_eq hr;subst this;simpa using h
def takeF {α:Type}:Nat→List α→Option (List α)
 |0,_=>some []
 |_+1,[]=>some []
 |n+1,a::A=>match takeF n A with
  |some r=>some (a::r)
  |none=>none
theorem takeF_eq {α:Type}:∀{n:Nat} {A C:List α},takeF n A=some C→A.take n=C
 |0,A,C,h=>by simp [takeF] at h;simpa using h
 |n+1,[],C,h=>by simp [takeF] at h;simpa using h
 |n+1,a::A,C,h=>by
  rw [takeF] at h
  cases hr:takeF n A with
  |none=>rw [hr] at h;cases h
  |some r=>rw [hr] at h;have:=takeF_eq hr;subst this;simpa using h
def depsF (fs:List (Nat×AV)):List Edge→Option (List (Nat×AV))
 |[]=>some []
 |e::es=>match Region.binds .any e with
  |false=>depsF fs es
  |true=>match fs[e.on]? with
   |none=>depsF fs es
   |some x=>match depsF fs es with
    |some r=>some (x::r)
    |none=>none
theorem depsF_eq {fs:List (Nat×AV)}:∀{es:List Edge} {F:List (Nat×AV)},depsF fs es=some F→(es.filterMap fun e=>if Region.binds .any e=true then fs[e.on]? else none)=F
 |[],F,h=>by simp [depsF] at h;simpa using h
 |e::es,F,h=>by
  rw [depsF] at h
  rw [List.filterMap_cons]
  cases hb:Region.binds .any e with
  |false=>rw [hb] at h;simpa using depsF_eq h
  |true=>
   rw [hb] at h
   cases hx:fs[e.on]? with
   |none=>rw [hx] at h;simpa using depsF_eq h
   |some x=>
    rw [hx] at h
    cases hr:depsF fs es with
    |none=>simp only [hr] at h;cases h
    |some r=>simp only [hr] at h;have:=depsF_eq hr;simp [this];simpa using h
def factsF:List Fact→Option (List (Nat×AV))
 |[]=>some []
 |x::xs=>match factsF xs with
  |some r=>some ((x.1,x.2.1)::r)
  |none=>none
theorem factsF_eq:∀{xs:List Fact} {C:List (Nat×AV)},factsF xs=some C→(xs.map fun x=>(x.1,x.2.1))=C
 |[],C,h=>by simp [factsF] at h;simpa using h
 |x::xs,C,h=>by
  rw [factsF] at h
  cases hr:factsF xs with
  |none=>rw [hr] at h;cases h
  |some r=>rw [hr] at h;have:=factsF_eq hr;subst this;simpa using h
def ndepsF (fs:List Fact):List Edge→Option (List (Nat×AV))
 |[]=>some []
 |e::es=>match Region.binds .any e with
  |false=>ndepsF fs es
  |true=>match fs[e.on]? with
   |none=>ndepsF fs es
   |some x=>match ndepsF fs es with
    |some r=>some ((x.1,x.2.1)::r)
    |none=>none
theorem ndepsF_eq {fs:List Fact}:∀{es:List Edge} {F:List (Nat×AV)},ndepsF fs es=some F→(es.filterMap fun e=>if Region.binds .any e=true then (fs[e.on]?).map fun x=>(x.1,x.2.1) else none)=F
 |[],F,h=>by simp [ndepsF] at h;simpa using h
 |e::es,F,h=>by
  rw [ndepsF] at h
  rw [List.filterMap_cons]
  cases hb:Region.binds .any e with
  |false=>rw [hb] at h;simpa using ndepsF_eq h
  |true=>
   rw [hb] at h
   cases hx:fs[e.on]? with
   |none=>rw [hx] at h;simpa using ndepsF_eq h
   |some x=>
    rw [hx] at h
    cases hr:ndepsF fs es with
    |none=>simp only [hr] at h;cases h
    |some r=>simp only [hr] at h;have:=ndepsF_eq hr;simp [this];simpa using h
structure TrueB (b:Bool):Prop where
 e:b=true
theorem HeadJ.consF {P:Program} {n m:Nat} {G:Ctx} {ops:Array Oper} {T0:List (Nat×AV)} {O:List AObj} {fs fs2 out:List (Nat×AV)} {o:Oper} {l:List Oper} {d:Nat} {V:AV} {F:List (Nat×AV)} (hd:o.dst=some d) (hF:depsF fs o.after.toList=some F)
 (h:∀Tv,WpL P n m G false ops [o] ⟨F++(T0++Tv),O⟩ (Only ⟨(d,V)::(F++(T0++Tv)),O⟩)) (hs:catF fs [(d,V)]=some fs2) (r:HeadJ P n m G ops T0 O fs2 l out):HeadJ P n m G ops T0 O fs (o::l) out:=by
 have:=catF_eq hs;subst this
 exact .cons hd (depsF_eq hF) h r
theorem HeadN.pureF {P:Program} {n m:Nat} {G:Ctx} {ops:Array Oper} {T0:List (Nat×AV)} {c0:Nat} {O fs fs2 o l O' out d V F c Oc} (hd:o.dst=some d) (hF:ndepsF fs o.after.toList=some F) (hc:cnt (sure c0 fs o) 0=some c) (hO:takeF c O=some Oc)
 (h:∀Tv Ov,WpL P n m G false ops [o] ⟨F++(T0++Tv),Oc++Ov⟩ (Only ⟨(d,V)::(F++(T0++Tv)),Oc++Ov⟩)) (hs:catF fs [(d,V,c)]=some fs2) (r:HeadN P n m G ops T0 c0 O fs2 l O' out):HeadN P n m G ops T0 c0 O fs (o::l) O' out:=by
 have:=catF_eq hs;subst this
 exact .pure hd (ndepsF_eq hF) (cnt_eq hc) (takeF_eq hO) h r
theorem HeadN.prodF {P:Program} {n m:Nat} {G:Ctx} {ops:Array Oper} {T0:List (Nat×AV)} {c0:Nat} {O fs fs2 o l O' out d V F N c O2} (hd:o.dst=some d) (hF:ndepsF fs o.after.toList=some F) (hc:Nat.beq (sure c0 fs o) O.length=true)
 (h:∀Tv,WpL P n m G false ops [o] ⟨F++(T0++Tv),O⟩ (Only ⟨(d,V)::(F++(T0++Tv)),O++N⟩)) (hN:N≠[]) (hl:cnt (O++N).length 0=some c) (h2:catF O N=some O2) (hs:catF fs [(d,V,c)]=some fs2) (r:HeadN P n m G ops T0 c0 O2 fs2 l O' out):HeadN P n m G ops T0 c0 O fs (o::l) O' out:=by
 have:=catF_eq h2;subst this
 have:=cnt_eq hl
 rw [List.length_append] at this
 subst this
 have:=catF_eq hs;subst this
 exact .prod hd (ndepsF_eq hF) (Nat.eq_of_beq_eq_true hc) hN h r
def noApp (o:Oper):Bool:=match o.op with
 |.call c=>match c.callee with
  |.builtin .append=>false
  |_=>true
 |_=>true
def bareM (ops:Array Oper) (k:Nat):Bool:=(List.range k).all fun i=>match ops[i]? with
 |some o=>o.guard.isNone&&o.dst.isSome&&noApp o&&match o.op with
  |.call c=>match c.callee with
   |.builtin _=>true
   |_=>false
  |.buildSlice ..=>false
  |.makeSlice ..=>false
  |.alloc ..=>false
  |.box ..=>false
  |_=>true
 |none=>true
def bareN (ops:Array Oper) (k:Nat):Bool:=(List.range k).all fun i=>match ops[i]? with|some o=>o.guard.isNone&&o.dst.isSome&&noApp o|none=>true
theorem WpA.regionMB {P:Program} {n m:Nat} {G:Ctx} {T0:List (Nat×AV)} {O:List AObj} {l l1 l2:List Oper} {id:Nat} {out T1:List (Nat×AV)} {Q:Exit→St→Prop} (k:Nat) (hm:P.follows .mixedOrders=true) (hB:(mixB l.toArray k&&bareM l.toArray k)=true)
 (hl:takeF k l=some l1) (hJ:HeadJ P n m G l.toArray T0 O [] l1 out) (hnd:TrueB (nodupB (out.map (·.1)))) (hfr:TrueB (out.all fun p=>!has T0 p.1))
 (hT1:catF out T0=some T1) (h2:l.drop k=l2) (h:WpL P n m G false l.toArray l2 ⟨T1,O⟩ Q):WpA P n m G (.region id l.toArray true) ⟨T0,O⟩ Q:=by
 have:=takeF_eq hl;subst this;subst h2
 exact WpA.regionM k hm (by simp only [Bool.and_eq_true] at hB;exact hB.1) hJ hnd.e hfr.e (catF_eq hT1) h
theorem WpA.regionNB {P:Program} {n m:Nat} {G:Ctx} {T0:List (Nat×AV)} {l l1 l2:List Oper} {id:Nat} {O O':List AObj} {out:List Fact} {oc T1:List (Nat×AV)} {c0:Nat} {Q:Exit→St→Prop} (k:Nat) (hm:P.follows .mixedOrders=true) (hB:(mixB l.toArray k&&bareN l.toArray k)=true)
 (hl:takeF k l=some l1) (hc:cnt O.length 0=some c0) (hJ:HeadN P n m G l.toArray T0 c0 O [] l1 O' out) (hnd:TrueB (nodupB (out.map (·.1)))) (hfr:TrueB (out.all fun p=>!has T0 p.1))
 (ho:factsF out=some oc) (hT1:catF oc T0=some T1) (h2:l.drop k=l2) (h:WpL P n m G false l.toArray l2 ⟨T1,O'⟩ Q):WpA P n m G (.region id l.toArray true) ⟨T0,O⟩ Q:=by
 have:=takeF_eq hl;subst this;subst h2
 have:=cnt_eq hc
 have:c0=O.length:=by omega
 subst this
 have:=factsF_eq ho;subst this
 exact WpA.regionN k hm (by simp only [Bool.and_eq_true] at hB;exact hB.1) hJ hnd.e hfr.e (catF_eq hT1) h
end Go.Abs
namespace Go.Abs.K
open Go Go.Abs
theorem loop {P:Program} {n m:Nat} {G:Ctx} {σ:St} {Q:Exit→St→Prop} {c:Code} (h:WpA P n m G (.loop c) σ Q):WpA P n m G (.loop c) σ Q:=h
theorem W {m:Nat} {σ σ':St} (h:Weak m σ σ'):Weak m σ σ':=h
theorem F {tab:List (Nat×Ty)} {rs:Array ResultVar} {N:List AObj} {r:AV} {e:Exit} {σ:St} (h:Abs.Fin tab rs N r e σ):Abs.Fin tab rs N r e σ:=h
theorem E {O:List AObj} {ids:List (Option Nat)} {vs us:List AV} (h:Ex O ids vs us):Ex O ids vs us:=h
theorem V {tab:List (Nat×Ty)} {T:List (Nat×AV)} {O:List AObj} {r:ResultVar} {V:AV} (h:ResV tab T O r V):ResV tab T O r V:=h
theorem NE {O:List AObj} {ids:List (Option Nat)} {N:List AObj} (h:NEx O ids N):NEx O ids N:=h
theorem RT {O O':List AObj} {T T':List (Nat×AV)} (h:ReT O O' T T'):ReT O O' T T':=h
theorem RO {O O' os os':List AObj} (h:ReO O O' os os'):ReO O O' os os':=h
theorem R {m:Nat} {β:Type} {Inv:β→St} {C:β→Prop} {μ:β→Nat} {x:β} {Q:Exit→St→Prop} {e:Exit} {σ:St} (h:Rnd m Inv C μ x Q e σ):Rnd m Inv C μ x Q e σ:=h
theorem eq {α:Sort _} {a b:α} (h:a=b):a=b:=h
theorem le {α:Type} [LE α] {a b:α} (h:a≤b):a≤b:=h
theorem lt {α:Type} [LT α] {a b:α} (h:a<b):a<b:=h
section
variable {P:Program} {n m:Nat} {G:Ctx} {σ:St} {Q:Exit→St→Prop} {md:Bool} {ops:Array Oper} {l:List Oper} {dd:Option Nat} {tt:TypeId} {pos:String} {after:Array Edge}
theorem blen {xs:Array Operand} {ats:Array TypeId} (h:WpL P n m G md ops ({dst:=dd,op:=.call {callee:=.builtin .len,args:=xs,argTypes:=ats},type:=tt,pos:=pos,after:=after,guard:=none}::l) σ Q):WpL P n m G md ops ({dst:=dd,op:=.call {callee:=.builtin .len,args:=xs,argTypes:=ats},type:=tt,pos:=pos,after:=after,guard:=none}::l) σ Q:=h
theorem bapp {xs:Array Operand} {ats:Array TypeId} (h:WpL P n m G md ops ({dst:=dd,op:=.call {callee:=.builtin .append,args:=xs,argTypes:=ats},type:=tt,pos:=pos,after:=after,guard:=none}::l) σ Q):WpL P n m G md ops ({dst:=dd,op:=.call {callee:=.builtin .append,args:=xs,argTypes:=ats},type:=tt,pos:=pos,after:=after,guard:=none}::l) σ Q:=h
end
end Go.Abs.K


namespace Go.Abs
open Go
def FnG (P:Program) (f:FuncId) (args:List AV) (M M' N:List AObj) (r:AV):Prop:=
 Runs P f∧∀(w:World) (S:Nat→Prop) (ι:Nat→Spot) (F:Nat→List Nat) (vs:List Value),(∀ b,S b→b<w.heap.size)→GlbOk S w→ORel S w ι M F→(∀ id,id<M.length→∀b∈F id,¬S b∧b<w.heap.size)→
  LRel S w ι M args vs []→Calls P f vs.toArray w fun e w'=>∃v S' ι' F',e=.returned v∧(∀ b,S b→S' b)∧(∀ b,S' b→S b∨w.heap.size≤b)∧(∀ b,S' b→b<w'.heap.size)∧(∀ id,id<M.length→ι' id=ι id)∧
   ORel S' w' ι' (M'++N) F'∧(∀ id,id<(M'++N).length→∀b∈F' id,((∃ i,i<M.length∧b∈F i)∨w.heap.size≤b)∧¬S' b∧b<w'.heap.size)∧VRel S' w' ι' (M'++N) r v []∧
   Keeps w (fun b=>∃i,i<M.length∧b∈F i) w'
def preB:List (Option Nat)→Nat→Nat→Bool
 |_,0,_=>true
 |some i::ids,m+1,k=>Nat.beq i k&&preB ids m (k+1)
 |_,_+1,_=>false
inductive ResG (tab:List (Nat×Ty)) (m:Nat) (N:List AObj) (r:AV):Array ResultVar→St→Prop
 |zero {T O ids}:NEx O ids N→(ids.filterMap id).Nodup→preB ids m 0=true→Ex O ids [.tup []] [r]→ResG tab m N r #[] ⟨T,O⟩
 |one {r1 V1 T O ids}:ResV tab T O r1 V1→NEx O ids N→(ids.filterMap id).Nodup→preB ids m 0=true→Ex O ids [V1] [r]→ResG tab m N r #[r1] ⟨T,O⟩
 |two {r1 r2 V1 V2 T O ids}:ResV tab T O r1 V1→ResV tab T O r2 V2→NEx O ids N→(ids.filterMap id).Nodup→preB ids m 0=true→Ex O ids [.tup [V1,V2]] [r]→ResG tab m N r #[r1,r2] ⟨T,O⟩
def FinG (tab:List (Nat×Ty)) (m:Nat) (rs:Array ResultVar) (N:List AObj) (r:AV):Exit→St→Prop
 |.ret,σ=>ResG tab m N r rs σ
 |.normal,σ=>ResG tab m N r rs σ
 |_,_=>False
section
variable {P:Program} {n m:Nat} {G:Ctx} {T:List (Nat×AV)} {O:List AObj} {Q:Exit→St→Prop} {ops:Array Oper} {l:List Oper} {d:Nat} {tt:TypeId} {pos:String} {after:Array Edge} {tab:List (Nat×Ty)}
end
end Go.Abs
