/- Proved in this text: lemmas and contracts of functions that the claim uses (parts: AbsPre, Draw2, Frame, Code, Kraft, Sym, Draw3, AbsXn, Draw4, Draw5, MatL, Mat, DefsQ). No condition. -/
import Derived.Test.YtainhhfnnclfiaaGreatRlM7
import Derived.Test.YtainhhfnnclfiaaGreatRlM6
import Derived.Test.YtainhhfnnclfiaaGreatRlM9
set_option linter.unusedVariables false
set_option linter.unusedSimpArgs false
set_option maxRecDepth 100000
set_option maxHeartbeats 16000000


namespace Go.Abs
open Go
theorem lrel_ints2 {S w ι O}:∀{xs:List Int} {us f},LRel S w ι O (ints xs) us f→us=xs.map (Value.int .i64)∧f=[]
 |[],us,f,h=>by cases h;exact ⟨rfl,rfl⟩
 |x::xs,us,f,h=>by
  cases h with
  |sc h=>obtain ⟨h1,h2⟩:=lrel_ints2 h;subst h1 h2;exact ⟨rfl,rfl⟩
theorem lrel_ints3 {S w ι O}:∀(xs:List Int),LRel S w ι O (ints xs) (xs.map (Value.int .i64)) []
 |[]=>.nil
 |x::xs=>.sc (lrel_ints3 xs)
theorem RelAt.pre {n m G S ι F T O a w} (hr:RelAt n m G S ι F ⟨T,O⟩ a w) {id j ep sz:Nat} {te:Option TypeId} {xs:List Int} (ho:O[id]?=some ⟨ints xs,ep,sz,te⟩):RelAt n m G S ι F ⟨T,O.set id ⟨ints (xs.take j),ep,sz,te⟩⟩ a w:=by
 have hid:id<O.length:=(List.getElem?_eq_some_iff.1 ho).1
 have hlat:Later S w ι O S w ι (O.set id ⟨ints (xs.take j),ep,sz,te⟩):=⟨fun _ h=>h,fun _ _=>rfl,fun i ob hi=>by
  by_cases e:i=id
  ·subst e;rw [ho] at hi;cases hi
   exact ⟨⟨ints (xs.take j),ep,sz,te⟩,by rw [List.getElem?_set_self hid],.inr ⟨rfl,rfl,rfl⟩⟩
  ·exact ⟨ob,by rw [List.getElem?_set,if_neg (fun h=>e h.symm)];exact hi,.inr ⟨rfl,rfl,rfl⟩⟩⟩
 refine ⟨hr.defers,hr.size,fun t=>(hr.tmps t).mono hlat (by simp),⟨fun i ob hi=>?_,fun i hi=>hr.objs.nodup i (by simpa using hi),fun i j' hi hj=>hr.objs.apart i j' (by simpa using hi) (by simpa using hj)⟩,fun i hi=>hr.foot i (by simpa using hi),hr.base,hr.stable,hr.keeps,hr.spots,by have:=hr.mle;simpa using this⟩
 have hi:(O.set id ⟨ints (xs.take j),ep,sz,te⟩)[i]?=some ob:=hi
 by_cases e:i=id
 ·subst e
  rw [List.getElem?_set_self hid] at hi;cases hi
  have h:=hr.objs.obj i _ ho
  unfold ObjAt at h ⊢
  cases hs:ι i with
  |none=>
   rw [hs] at h
   have h1:ints xs=[]:=h.1
   have:xs=[]:=by cases xs with|nil=>rfl|cons x xs=>cases h1
   subst this
   exact ⟨by simp [ints],h.2⟩
  |some p=>
   obtain ⟨b,k⟩:=p
   rw [hs] at h
   obtain ⟨cur,t,fz,f',h1,h2,h3,h4,h5,h6,h7⟩:=h
   obtain ⟨h8,h9⟩:=lrel_ints2 h7
   subst h9
   have hle:(xs.take j).length≤xs.length:=List.length_take_le' _ _
   have h4':xs.length≤k:=by simpa [ints] using h4
   refine ⟨cur,t,fz,[],h1,h2,h3,by show (ints (xs.take j)).length≤k;simp [ints];omega,h5,h6,?_⟩
   have e2:cur.toList.take (ints (xs.take j)).length=(xs.take j).map (Value.int .i64):=by
    have e3:(ints (xs.take j)).length=min j xs.length:=by simp [ints]
    have e4:cur.toList.take xs.length=xs.map (Value.int .i64):=by simpa [ints] using h8
    rw [e3,←List.take_take,e4,List.map_take]
   show LRel S w ι _ (ints (xs.take j)) (cur.toList.take (ints (xs.take j)).length) []
   rw [e2];exact lrel_ints3 _
 ·rw [List.getElem?_set,if_neg (fun h=>e h.symm)] at hi
  have h:=hr.objs.obj i ob hi
  unfold ObjAt at h ⊢
  cases hs:ι i with
  |none=>rw [hs] at h;exact h
  |some p=>
   obtain ⟨b,k⟩:=p
   rw [hs] at h
   obtain ⟨cur,t,fz,f',h1,h2,h3,h4,h5,h6,h7⟩:=h
   exact ⟨cur,t,fz,f',h1,h2,h3,h4,h5,h6,h7.mono hlat (fun _ _=>rfl)⟩
theorem Weak.pre {m id j ep sz:Nat} {T:List (Nat×AV)} {O:List AObj} {te:Option TypeId} {xs:List Int} (ho:O[id]?=some ⟨ints xs,ep,sz,te⟩):Weak m ⟨T,O⟩ ⟨T,O.set id ⟨ints (xs.take j),ep,sz,te⟩⟩:=by
 rintro n G a w ⟨S,ι,F,hr⟩
 exact ⟨S,ι,F,hr.pre ho⟩
section
variable {P:Program} {n m:Nat} {G:Ctx} {T:List (Nat×AV)} {O:List AObj} {Q:Exit→St→Prop} {ops:Array Oper} {l:List Oper} {d:Nat} {md:Bool} {tt:TypeId} {pos:String} {after:Array Edge} {tab:List (Nat×Ty)}
theorem WpL.subOwn (hP:TabOk P tab) {t e k b:Nat} {zs:List AV} {x y:Operand} {kk:IntKind} {id ep len j:Nat} {ob:AObj} (ht:tlook tab t=some (.slice e k b zs)) (hx:av T x=.own id ep 0 len) (ho:O[id]?=some ob) (he:ob.ep=ep) (hy:av T y=.sc (.int kk j)) (hj:j≤len) (hn:d<n)
 (h:WpL P n m G md ops l ⟨(d,.own id ep 0 j)::T,O⟩ Q):
 WpL P n m G md ops ({dst:=some d,op:=.slice t x none (some y) none,type:=tt,pos:=pos,after:=after,guard:=none}::l) ⟨T,O⟩ Q:=
 WpL.pure rfl rfl hn (fun S ι F a w hr=>by
  obtain ⟨hu,inf,z,hinf,_,hk,_,_,hk0,_⟩:=hP.slice ht
  have hv:=hr.eval x
  rw [show av (St.mk T O).T x=_ from hx] at hv
  have hye:=hr.sc hy
  have hown:OwnAt (ι id) ob.size 0 len (a.eval x):=by
   cases hv with
   |own q1 q2 q3 r=>
    rw [show (St.mk T O).O[id]?=some ob from ho] at q1
    cases q1
    exact q3 he.symm
  cases hs:ι id with
  |none=>
   rw [hs] at hown
   obtain ⟨hxe,h0,hl⟩:=hown
   have hj0:j=0:=by omega
   subst hj0
   refine ⟨.slice none 0 0,?_,.own ho (by omega) (fun _=>by rw [hs];exact ⟨rfl,rfl,rfl⟩) .nil⟩
   have hrun:(Instr.sliceAt t (.slice none 0 0) none (some (.int kk 0)) none).run P w=.ok (.slice none 0 0) w:=by
    simp [Instr.sliceAt,Instr.slice,run_underlying hu,Instr.sliceBounds,Instr.sliceBound,asIntOf,run_sizeOf hinf hk,Sem.run_bind]
   have hye':a.eval y=.int kk 0:=by rw [hye];rfl
   simp [execOp,hxe,hye',hrun,Sem.run_bind]
  |some p=>
   obtain ⟨bb,kb⟩:=p
   rw [hs] at hown
   obtain ⟨cap,hxe,h1,h2,h3⟩:=hown
   have hrun:=run_sliceSl hu hinf hk ⟨bb,0,none⟩ len cap none (some (.int kk j)) 0 j (.inl ⟨rfl,rfl⟩) (.inr ⟨kk,rfl⟩) (by omega) w
   have e1:(if cap=0 then (⟨bb,0,none⟩:Addr) else (⟨bb,0,none⟩:Addr).add (0*k))=⟨bb,0,none⟩:=by
    split
    ·rfl
    ·rw [addr_add];simp
   rw [e1,Nat.sub_zero,Nat.sub_zero] at hrun
   refine ⟨.slice (some ⟨bb,0,none⟩) j cap,by simp [execOp,hxe,hye,hrun,Sem.run_bind],.own ho (by omega) (fun _=>by rw [hs];exact ⟨cap,rfl,h1,by omega,h3⟩) .nil⟩) h
end
theorem split1 {Ov:List AObj} {a:AObj} (h0:Ov[0]?=some a):∃R,Ov=a::R:=by
 match Ov,h0 with
 |a'::R,h0=>simp at h0;exact ⟨R,by rw [h0]⟩
 |[],h=>simp at h
section
variable {m:Nat} {T:List (Nat×AV)} {O:List AObj} {tab:List (Nat×Ty)} {e':Exit} {r1 r2:ResultVar} {r1v r2v r:AV} {N:List AObj}
theorem FinG.oI (ids:List (Option Nat)) (he:endB e'=true) (hv:ResV tab T O r1 r1v) (hx:Ex O ids [r1v] [r]) (hN:NEx O ids N) (hd:nodupB (ids.filterMap id)=true) (hp:preB ids m 0=true):FinG tab m #[r1] N r e' ⟨T,O⟩:=FinG.e he (.one hv hN (nodupB_spec hd) hp hx)
end
end Go.Abs


namespace Go.Proofs.YtainhhfnnclfiaaGreat
open Go Go.Abs
attribute [local irreducible] WpA WpL Rnd Blk Abs.Seq Abs.Fin Abs.FinG FnC FnG FnX FnP FinX Only
attribute [local irreducible] belowD onceD pickD modeD
abbrev any5:List Int:=[0,1,8,-1,7]
def l8AnyD (l:List Int) (c:Cr):Cr×List Int:=
 let y:=l8D l c
 let s:=belowD l y.1 12
 if s.2=0 then
  let i:=belowD l s.1 6
  let p:=pickD l i.1 any5
  (p.1,y.2.set i.2.toNat p.2)
 else if s.2=1 then (s.1,y.2.take 5) else (s.1,y.2)
end Go.Proofs.YtainhhfnnclfiaaGreat


namespace Go.Proofs.YtainhhfnnclfiaaGreat
open Go Go.Abs
attribute [local irreducible] WpA WpL Rnd Blk Abs.Seq Abs.Fin FnC Only
abbrev FrA (W H:Int) (p:List Int):AV:=.agg [I W,I H,IL p]
@[irreducible] def In (l:List Int) (lo hi:Int):Prop:=∀v∈l,lo≤v∧v≤hi
instance (l:List Int) (lo hi:Int):Decidable (In l lo hi):=by unfold In;exact List.decidableBAll _ l
theorem in_get {l:List Int} {lo hi:Int} (h:In l lo hi) {k:Nat} (hk:k<l.length):lo≤l.getD k 0∧l.getD k 0≤hi:=by
 unfold In at h
 have:=h (l.getD k 0) (by simp [List.getElem?_eq_getElem hk])
 exact this
theorem in_all {l:List Int} {lo hi:Int} (h:∀j<l.length,lo≤l.getD j 0∧l.getD j 0≤hi):In l lo hi:=by
 unfold In
 intro v hv
 obtain ⟨i,hi,rfl⟩:=List.getElem_of_mem hv
 simpa [List.getElem?_eq_getElem hi] using h i hi
theorem notin {l:List Int} {lo hi:Int} {k:Nat} (hk:k<l.length) (h:¬(lo≤l.getD k 0∧l.getD k 0≤hi)):false=decide (In l lo hi):=by
 symm;rw [decide_eq_false_iff_not];exact fun hh=>h (in_get hh hk)
theorem in_snoc {l:List Int} {lo hi:Int} {k:Nat} (hk:k<l.length):In (l.take (k+1)) lo hi↔In (l.take k) lo hi∧lo≤l.getD k 0∧l.getD k 0≤hi:=by
 unfold In;rw [List.take_succ_eq_append_getElem hk,List.forall_mem_append];simp [List.getElem?_eq_getElem hk]
theorem in_nil (lo hi:Int):In [] lo hi:=by unfold In;intro v hv;cases hv
instance allWithin_c:Con 110 (∀ (l:List Int) (lo hi:Int),l.length≤1099511627776→Fn 110 [IL l,I lo,I hi] [] (B (decide (In l lo hi)))):=⟨fun l lo hi hl=>by
 refine FnC.of_body tabOk Tryz.func110 Tryz.ntmps110 rfl (by decide +kernel) (by simp) fun G=>?_
 refine go (r:=?_);and_intros<;>intros<;>try exact True.intro
 refine WpA.loop (fun k:Nat=>⟨[(1,I lo),(2,I hi),(9,IL l),(10,I l.length),(11,I k)],[]⟩) (fun k=>k≤l.length∧In (l.take k) lo hi) (fun k=>l.length-k) 0 (by simp [in_nil]) (go (r:=trivial)) (fun k hk=>?_)
 refine go (r:=?_);and_intros<;>intros<;>try exact True.intro
 ·exact notin (k:=k) (by omega) ‹_›
 ·rw [in_snoc (by omega)];simp_all
 ·have e:k=l.length:=by omega
  subst e;simp_all⟩
abbrev SidesOk (w h:Int):Prop:=8≤w∧w≤32∧8≤h∧h≤32∧w%8=0∧h%8=0
instance SidesOk_c:Con 129 (∀ w h:Int,Fn 129 [I w,I h] [] (B (decide (SidesOk w h)))):=⟨fun w h=>by
 refine FnC.of_body tabOk Tryz.func129 Tryz.ntmps129 rfl (by decide +kernel) (by simp) fun G=>?_
 refine go (r:=?_);and_intros<;>intros<;>try exact True.intro
 all_goals first|(simp_all;done)|(rw [Bool.eq_iff_iff];simp only [decide_eq_true_eq,Bool.not_eq_true',decide_eq_false_iff_not,Bool.false_eq_true,true_iff,false_iff,iff_true,iff_false,Bool.not_eq_eq_eq_not,Bool.not_true];omega)⟩
instance SidesOk_s:Con 71 (∀ w h:Int,Fn 71 [I w,I h] [] (B (decide (SidesOk w h)))):=⟨fun w h=>by
 refine FnC.of_body tabOk Tryz.func71 Tryz.ntmps71 rfl (by decide +kernel) (by simp) fun G=>?_
 refine go (r:=?_);and_intros<;>intros<;>try exact True.intro
 all_goals first|(simp_all;done)|(rw [Bool.eq_iff_iff];simp only [decide_eq_true_eq,Bool.not_eq_true',decide_eq_false_iff_not,Bool.false_eq_true,true_iff,false_iff,iff_true,iff_false,Bool.not_eq_eq_eq_not,Bool.not_true];omega)⟩
abbrev FrameOk (W H:Int) (p:List Int):Prop:=SidesOk W H∧(p.length:Int)=W*H∧In p 0 255
instance FrameOk_c:Con 66 (∀ (W H:Int) (p:List Int),p.length≤1099511627776→Fn 66 [FrA W H p] [] (B (decide (FrameOk W H p)))):=⟨fun W H p hl=>by
 refine FnC.of_body tabOk Tryz.func66 Tryz.ntmps66 rfl (by decide +kernel) (by simp) fun G=>?_
 refine go (r:=?_);and_intros<;>intros<;>try exact True.intro
 all_goals simp_all⟩
end Go.Proofs.YtainhhfnnclfiaaGreat


namespace Go.Proofs.YtainhhfnnclfiaaGreat
open Go Go.Abs
attribute [local irreducible] WpA WpL Rnd Blk Abs.Seq Abs.Fin Abs.FinG FnC FnG Only
theorem wrap64 (p:Int) (h:-9223372036854775808≤p∧p≤9223372036854775807):IntKind.i64.wrap p=p:=IntWalk.i64_in p h
def stepX (q:Int):Int:=IntKind.i64.wrap (([8,9,10,11,13,14]:List Int).getD (q%6).toNat 0*2 ^ (q/6).toNat)
theorem stepX_bd (q:Int) (h:0≤q∧q≤51):8≤stepX q∧stepX q≤4000:=by
 have key:∀k:Fin 52,8≤stepX k.val∧stepX k.val≤4000:=by decide
 obtain ⟨k,rfl⟩:∃k:Nat,q=k:=⟨q.toNat,by omega⟩
 exact key ⟨k,by omega⟩
def stepL (q:Int):Int:=if 0≤q∧q≤51 then stepX q/8 else 0
theorem stepL_in (q:Int) (h:0≤q∧q≤51):1≤stepL q∧stepL q≤500:=by
 have:=stepX_bd q h
 rw [stepL,if_pos h];omega
theorem stepL_pos (q:Int):0<stepL q↔0≤q∧q≤51:=by
 by_cases h:0≤q∧q≤51
 ·have:=stepL_in q h;constructor<;>intro _<;>omega
 ·rw [stepL,if_neg h];constructor<;>intro _<;>omega
instance StepOf_s:Con 73 (∀ q:Int,Fn 73 [I q] [] (I (stepL q))):=⟨fun q=>by
 refine FnC.of_body tabOk Tryz.func73 Tryz.ntmps73 rfl (by decide +kernel) (by simp) fun G=>?_
 have hx:=stepX_bd q
 unfold stepX at hx
 refine go (r:=?_);and_intros<;>intros<;>try exact True.intro
 all_goals first|(rw [stepL,if_neg (by assumption)];done)|(rw [stepL,if_pos (by assumption)];rfl)⟩
instance StepOf_c:Con 251 (∀ q:Int,Fn 251 [I q] [] (I (stepL q))):=⟨fun q=>by
 refine FnC.of_body tabOk Tryz.func251 Tryz.ntmps251 rfl (by decide +kernel) (by simp) fun G=>?_
 have hx:=stepX_bd q
 unfold stepX at hx
 refine go (r:=?_);and_intros<;>intros<;>try exact True.intro
 all_goals first|(rw [stepL,if_neg (by assumption)];done)|(rw [stepL,if_pos (by assumption)];rfl)⟩
def cw (n:Int):Int:=if 0<n then 2 ^ (7-n).toNat else 0
theorem cw_wrap (n:Int) (h:0≤n∧n≤7) (h0:n>0):IntKind.i64.wrap (1*2 ^ (7-n).toNat)=cw n∧1≤cw n∧cw n≤64:=by
 have key:∀k:Fin 8,0<k.val→IntKind.i64.wrap (1*2 ^ (7-(k.val:Int)).toNat)=cw k.val∧1≤cw k.val∧cw k.val≤64:=by decide
 obtain ⟨k,rfl⟩:∃k:Nat,n=k:=⟨n.toNat,by omega⟩
 exact key ⟨k,by omega⟩ (show 0<k by omega)
def csum (l:List Int):Int:=(l.map cw).sum
theorem csum_snoc (l:List Int) (k:Nat) (h:k<l.length):csum (l.take (k+1))=csum (l.take k)+cw (l.getD k 0):=by
 unfold csum;rw [List.take_succ_eq_append_getElem h,List.map_append,List.sum_append];simp [h]
def CodeOk (l:List Int):Prop:=In l 0 7∧l.length=6∧csum l=128
instance (l:List Int):Decidable (CodeOk l):=by unfold CodeOk;infer_instance
instance CodeOk_s:Con 74 (∀ l:List Int,l.length≤1099511627776→Fn 74 [IL l] [] (B (decide (CodeOk l)))):=⟨fun l hl=>by
 refine FnC.of_body tabOk Tryz.func74 Tryz.ntmps74 rfl (by decide +kernel) (by simp) fun G=>?_
 refine go (r:=?_);and_intros<;>intros<;>try exact True.intro
 refine WpA.loop (fun k:Nat=>⟨[(0,IL l),(3,I (csum (l.take k))),(4,I k)],[]⟩) (fun k=>k≤l.length∧In (l.take k) 0 7∧0≤csum (l.take k)∧csum (l.take k)≤64*k) (fun k=>l.length-k) 0 (by simp [in_nil,csum]) (go (r:=?_)) (fun k hk=>?_)
 ·simp [csum]
 have hs:=fun h=>csum_snoc l k h
 have hi:=fun h=>in_snoc (lo:=0) (hi:=7) (l:=l) (k:=k) h
 have hw:=cw_wrap (l.getD k 0)
 have hw0:¬l.getD k 0>0→cw (l.getD k 0)=0:=fun h=>by unfold cw;rw [if_neg (by omega)]
 refine go (r:=?_);and_intros<;>intros<;>try exact True.intro
 ·have:=notin (k:=k) (by omega) ‹¬ (0≤l.getD k 0∧_)›;rw [eq_comm,decide_eq_false_iff_not] at *;exact fun h=>this h.1
 ·rw [hi (by omega)];exact ⟨hk.2.1,‹_›⟩
 ·rw [hi (by omega)];exact ⟨hk.2.1,‹_›⟩
 all_goals have e:k=l.length:=by omega
 all_goals subst e
 all_goals rw [List.take_length] at*
 ·have h6:l.length=6:=by omega
  simp [CodeOk,hk.2.1,h6]
 ·have h6:¬l.length=6:=by omega
  simp [CodeOk,h6]⟩
instance CodeOk_c:Con 130 (∀ l:List Int,l.length≤1099511627776→Fn 130 [IL l] [] (B (decide (CodeOk l)))):=⟨fun l hl=>by
 refine FnC.of_body tabOk Tryz.func130 Tryz.ntmps130 rfl (by decide +kernel) (by simp) fun G=>?_
 refine go (r:=?_);and_intros<;>intros<;>try exact True.intro
 refine WpA.loop (fun k:Nat=>⟨[(0,IL l),(3,I (csum (l.take k))),(6,IL l),(7,I l.length),(8,I k)],[]⟩) (fun k=>k≤l.length∧In (l.take k) 0 7∧0≤csum (l.take k)∧csum (l.take k)≤64*k) (fun k=>l.length-k) 0 (by simp [in_nil,csum]) (go (r:=?_)) (fun k hk=>?_)
 ·simp [csum]
 have hs:=fun h=>csum_snoc l k h
 have hi:=fun h=>in_snoc (lo:=0) (hi:=7) (l:=l) (k:=k) h
 have hw:=cw_wrap (l.getD k 0)
 have hw0:¬l.getD k 0>0→cw (l.getD k 0)=0:=fun h=>by unfold cw;rw [if_neg (by omega)]
 refine go (r:=?_);and_intros<;>intros<;>try exact True.intro
 ·have:=notin (k:=k) (by omega) ‹¬ (0≤l.getD k 0∧_)›;rw [eq_comm,decide_eq_false_iff_not] at *;exact fun h=>this h.1
 ·rw [hi (by omega)];exact ⟨hk.2.1,‹_›⟩
 ·rw [hi (by omega)];exact ⟨hk.2.1,‹_›⟩
 all_goals have e:k=l.length:=by omega
 all_goals subst e
 all_goals rw [List.take_length] at*
 ·have h6:l.length=6:=by omega
  simp [CodeOk,hk.2.1,h6]
 ·have h6:¬l.length=6:=by omega
  simp [CodeOk,h6]⟩
def cIn (w:Int) (l:List Int):Nat→List Int×Int→List Int×Int
 |0,s=>s
 |i+1,s=>if l.getD i 0=w then ((cIn w l i s).1.set i (cIn w l i s).2,(cIn w l i s).2+1) else cIn w l i s
def cOut (l:List Int):Nat→List Int×Int
 |0=>(List.replicate l.length (-1),0)
 |w+1=>cIn ((w:Int)+1) l l.length ((cOut l w).1,(cOut l w).2*2)
def codes (l:List Int):List Int:=(cOut l 7).1
theorem cIn_len (w:Int) (l:List Int):∀(i:Nat) (s:List Int×Int),(cIn w l i s).1.length=s.1.length
 |0,s=>rfl
 |i+1,s=>by
  rw [cIn];split
  ·rw [List.length_set];exact cIn_len w l i s
  ·exact cIn_len w l i s
theorem cOut_len (l:List Int):∀w,(cOut l w).1.length=l.length
 |0=>by simp [cOut]
 |w+1=>by rw [cOut,cIn_len,cOut_len l w]
theorem codes_len (l:List Int):(codes l).length=l.length:=cOut_len l 7
theorem cIn_bd (w:Int) (l:List Int):∀(i:Nat) (s:List Int×Int),s.2≤(cIn w l i s).2∧(cIn w l i s).2≤s.2+i
 |0,s=>by simp [cIn]
 |i+1,s=>by rw [cIn];have:=cIn_bd w l i s;split<;>first|(simp only;omega)|omega
theorem cOut_bd (l:List Int) (h:l.length=6):∀w,0≤(cOut l w).2∧(cOut l w).2≤6*(2 ^ w-1)
 |0=>by simp [cOut]
 |w+1=>by
  rw [cOut]
  have h1:=cIn_bd ((w:Int)+1) l l.length ((cOut l w).1,(cOut l w).2*2)
  have h2:=cOut_bd l h w
  simp only at h1
  rw [Int.pow_succ];omega
theorem cOut_bd7 (l:List Int) (h:l.length=6) (w:Nat) (hw:w≤7):0≤(cOut l w).2∧(cOut l w).2≤768:=by
 have h1:=cOut_bd l h w
 have:(2:Int) ^ w≤2 ^ 7:=by
  have:=Nat.pow_le_pow_right (n:=2) (by decide) hw
  exact_mod_cast this
 omega
def codesR (l:List Int):List Int:=if CodeOk l then codes l else []
theorem codesR_len (l:List Int) (h:CodeOk l):(codesR l).length=6:=by rw [codesR,if_pos h,codes_len,h.2.1]
theorem codesR_ok (l:List Int) (h:CodeOk l):codesR l=codes l:=by rw [codesR,if_pos h]
theorem codesR_no (l:List Int) (h:¬CodeOk l):codesR l=[]:=by rw [codesR,if_neg h]
theorem cIn_yes {w:Int} {l:List Int} {i:Nat} {s:List Int×Int} (h:l.getD i 0=w):cIn w l (i+1) s=((cIn w l i s).1.set i (cIn w l i s).2,(cIn w l i s).2+1):=by rw [cIn,if_pos h]
theorem cIn_no {w:Int} {l:List Int} {i:Nat} {s:List Int×Int} (h:¬l.getD i 0=w):cIn w l (i+1) s=cIn w l i s:=by rw [cIn,if_neg h]
instance CodesOf_s:Con 181 (∀ l:List Int,l.length≤1099511627776→Fn 181 [IL l] [XI (codesR l)] (.own 0 0 0 (codesR l).length)):=⟨fun l hl=>by
 refine FnC.of_body tabOk Tryz.func181 Tryz.ntmps181 rfl (by decide +kernel) (by simp) fun G=>?_
 refine go (r:=?_);and_intros<;>intros<;>try exact True.intro
 ·rw [codesR_no l ‹_›];rfl
 ·rw [codesR_no l ‹_›]
 have hok:CodeOk l:=‹_›
 have h6:=hok.2.1
 refine WpA.loop (fun k:Nat=>⟨[(0,IL l),(3,.own 0 0 0 k),(4,I k)],[XI (List.replicate k (-1))]⟩) (fun k=>k≤l.length) (fun k=>l.length-k) 0 (by simp) (go (r:=trivial)) (fun k hk=>?_)
 refine go (r:=?_);and_intros<;>intros<;>try exact True.intro
 ·rw [List.replicate_succ']
 have e:k=l.length:=by omega
 subst e
 refine WpA.loop (fun w:Nat=>⟨[(0,IL l),(3,.own 0 0 0 l.length),(5,I (cOut l w).2),(6,I ((w:Int)+1))],[XI (cOut l w).1]⟩) (fun w=>w≤7) (fun w=>7-w) 0 (by simp) (go (r:=?_)) (fun w hw=>?_)
 ·simp [cOut]
 have hb:=cOut_bd7 l h6 w hw
 refine go (r:=?_);and_intros<;>intros<;>try exact True.intro
 ·refine WpA.loop (fun i:Nat=>⟨[(0,IL l),(3,.own 0 0 0 l.length),(5,I (cIn ((w:Int)+1) l i ((cOut l w).1,(cOut l w).2*2)).2),(6,I ((w:Int)+1)),(7,I i)],[XI (cIn ((w:Int)+1) l i ((cOut l w).1,(cOut l w).2*2)).1]⟩) (fun i=>i≤l.length) (fun i=>l.length-i) 0 (by simp) (go (r:=?_)) (fun i hi=>?_)
  ·simp [cIn]
  have hb2:=cIn_bd ((w:Int)+1) l i ((cOut l w).1,(cOut l w).2*2)
  have hl2:=cIn_len ((w:Int)+1) l i ((cOut l w).1,(cOut l w).2*2)
  have hl3:=cOut_len l w
  simp only at hb2 hl2
  refine go (r:=?_);and_intros<;>intros<;>try exact True.intro
  ·rw [cIn_yes (by assumption)]
  ·rw [cIn_yes (by assumption)];rfl
  ·rw [cIn_no (by assumption)]
  ·rw [cIn_no (by assumption)]
  all_goals have e:i=l.length:=by omega
  all_goals subst e;rfl
 all_goals have e:w=7:=by omega
 all_goals subst e
 ·rw [codesR_len l hok,h6]
 ·rw [codesR_ok l hok];rfl⟩
instance CodesOf_c:ConB 241 (∀ l:List Int,l.length≤1099511627776→Bn 241 [IL l] (CodeOk l) [XI (codes l)] (.own 0 0 0 6) [] .nilS):=⟨fun l hl=>by
 refine ⟨fun hok=>?_,fun hno=>?_⟩
 ·have h6:=hok.2.1
  refine FnC.of_body tabOk Tryz.func241 Tryz.ntmps241 rfl (by decide +kernel) (by simp) fun G=>?_
  refine go (r:=?_);and_intros<;>intros<;>try exact True.intro
  all_goals first|(exact absurd hok ‹¬ CodeOk l›)|skip
  refine WpA.loop (fun w:Nat=>⟨[(0,IL l),(3,.own 0 0 0 l.length),(4,I (cOut l w).2),(5,I ((w:Int)+1))],[XI (cOut l w).1]⟩) (fun w=>w≤7) (fun w=>7-w) 0 (by simp) (go (r:=?_)) (fun w hw=>?_)
  ·simp [cOut,h6]
  have hb:=cOut_bd7 l h6 w hw
  have hsh:IntKind.i64.wrap ((cOut l w).2*2)=(cOut l w).2*2:=wrap64 _ (by omega)
  refine go (r:=?_);and_intros<;>intros<;>try exact True.intro
  ·refine WpA.loop (fun i:Nat=>⟨[(0,IL l),(3,.own 0 0 0 l.length),(4,I (cIn ((w:Int)+1) l i ((cOut l w).1,(cOut l w).2*2)).2),(5,I ((w:Int)+1)),(18,IL l),(19,I l.length),(20,I i)],[XI (cIn ((w:Int)+1) l i ((cOut l w).1,(cOut l w).2*2)).1]⟩) (fun i=>i≤l.length) (fun i=>l.length-i) 0 (by simp) (go (r:=?_)) (fun i hi=>?_)
   ·simp [cIn,hsh]
   have hb2:=cIn_bd ((w:Int)+1) l i ((cOut l w).1,(cOut l w).2*2)
   have hl2:=cIn_len ((w:Int)+1) l i ((cOut l w).1,(cOut l w).2*2)
   have hl3:=cOut_len l w
   simp only at hb2 hl2
   refine go (r:=?_);and_intros<;>intros<;>try exact True.intro
   ·rw [cIn_yes (by assumption)]
   ·rw [cIn_yes (by assumption)];rfl
   ·rw [cIn_no (by assumption)]
   ·rw [cIn_no (by assumption)]
   all_goals have e:i=l.length:=by omega
   all_goals subst e;rfl
  all_goals have e:w=7:=by omega
  all_goals subst e;rfl
 ·refine FnC.of_body tabOk Tryz.func241 Tryz.ntmps241 rfl (by decide +kernel) (by simp) fun G=>?_
  refine go (r:=?_);and_intros<;>intros<;>try exact True.intro
  all_goals exact absurd ‹CodeOk l› hno⟩
def bitOk (n w:Int):Prop:=(0≤w∧w≤48)∧0≤n∧n/2 ^ w.toNat=0
instance (n w:Int):Decidable (bitOk n w):=by unfold bitOk;infer_instance
def bitsR (n:Int) (w:Nat) (k:Nat):List Int:=(List.range k).map fun j:Nat=>n/2 ^ (w-1-j)%2
def bitsL (n w:Int):List Int:=if bitOk n w then bitsR n w.toNat w.toNat else []
theorem bitsR_len (n:Int) (w k:Nat):(bitsR n w k).length=k:=by simp [bitsR]
theorem bitsR_snoc (n:Int) (w k:Nat):bitsR n w (k+1)=bitsR n w k++[n/2 ^ (w-1-k)%2]:=by simp [bitsR,List.range_succ]
theorem bitsL_len (n w:Int):(bitsL n w).length≤48:=by
 unfold bitsL;split
 ·rename_i h;rw [bitsR_len];have:=h.1;omega
 ·simp
theorem low1 (k:Int) (h:0≤k∧k≤9223372036854775807):IntKind.i64.wrap ((BitVec.ofInt IntKind.i64.bits k &&& BitVec.ofInt IntKind.i64.bits 1).toNat:Nat)=k%2:=by
 obtain ⟨m,rfl⟩:∃m:Nat,k=m:=⟨k.toNat,by omega⟩
 have e1:(BitVec.ofInt IntKind.i64.bits (m:Int)).toNat=m:=by simp only [IntKind.bits,BitVec.toNat_ofInt];omega
 have e:(BitVec.ofInt IntKind.i64.bits (m:Int) &&& BitVec.ofInt IntKind.i64.bits 1).toNat=m%2:=by
  rw [BitVec.toNat_and,e1,show (BitVec.ofInt IntKind.i64.bits (1:Int)).toNat=2 ^ 1-1 from by decide,Nat.and_two_pow_sub_one_eq_mod]
 rw [e,wrap64 _ (by omega)];omega
theorem shr_bd (n:Int) (k:Nat) (h:0≤n):0≤n/2 ^ k∧n/2 ^ k≤n:=by
 constructor
 ·exact Int.ediv_nonneg h (Int.le_of_lt (Int.pow_pos (by decide)))
 ·exact Int.ediv_le_self _ h
instance BitsIn_s:Con 180 (∀ n w:Int,n≤9223372036854775807→Fn 180 [I n,I w] [XI (bitsL n w)] (.own 0 0 0 (bitsL n w).length)):=⟨fun n w hn=>by
 refine FnC.of_body tabOk Tryz.func180 Tryz.ntmps180 rfl (by decide +kernel) (by simp) fun G=>?_
 refine go (r:=?_);and_intros<;>intros<;>try exact True.intro
 all_goals first|(rw [bitsL,if_neg (by unfold bitOk;omega)];done)|(rw [bitsL,if_neg (by unfold bitOk;omega)];rfl)|skip
 have hok:bitOk n w:=⟨‹_›,by omega,‹_›⟩
 obtain ⟨⟨h0,h48⟩,hn0,_⟩:=id hok
 obtain ⟨W,rfl⟩:∃W:Nat,w=W:=⟨w.toNat,by omega⟩
 refine WpA.loop (fun k:Nat=>⟨[(0,I n),(5,.own 0 0 0 k),(6,I ((W:Int)-1-k))],[XI (bitsR n W k)]⟩) (fun k=>k≤W) (fun k=>W-k) 0 (by simp) (go (r:=?_)) (fun k hk=>?_)
 ·simp [bitsR]
 have hl:=bitsR_len n W k
 have hb:=shr_bd n ((W:Int)-1-k).toNat hn0
 refine go (r:=?_);and_intros<;>intros<;>try exact True.intro
 ·rw [bitsR_snoc,low1 _ (by omega)];congr 6;omega
 all_goals have e:k=W:=by omega
 all_goals subst e
 ·rw [bitsL,if_pos hok,bitsR_len];rfl
 ·rw [bitsL,if_pos hok];rfl⟩
instance BitsIn_c:Con 223 (∀ n w:Int,n≤9223372036854775807→Fn 223 [I n,I w] [XI (bitsL n w)] (.own 0 0 0 (bitsL n w).length)):=⟨fun n w hn=>by
 refine FnC.of_body tabOk Tryz.func223 Tryz.ntmps223 rfl (by decide +kernel) (by simp) fun G=>?_
 refine go (r:=?_);and_intros<;>intros<;>try exact True.intro
 all_goals first|(rw [bitsL,if_neg (by unfold bitOk;omega)];done)|(rw [bitsL,if_neg (by unfold bitOk;omega)];rfl)|skip
 have hok:bitOk n w:=⟨‹_›,by omega,‹_›⟩
 obtain ⟨⟨h0,h48⟩,hn0,_⟩:=id hok
 obtain ⟨W,rfl⟩:∃W:Nat,w=W:=⟨w.toNat,by omega⟩
 refine WpA.loop (fun k:Nat=>⟨[(0,I n),(5,.own 0 0 0 k),(6,I ((W:Int)-1-k))],[XI (bitsR n W k)]⟩) (fun k=>k≤W) (fun k=>W-k) 0 (by simp) (go (r:=?_)) (fun k hk=>?_)
 ·simp [bitsR]
 have hl:=bitsR_len n W k
 have hb:=shr_bd n ((W:Int)-1-k).toNat hn0
 refine go (r:=?_);and_intros<;>intros<;>try exact True.intro
 ·rw [bitsR_snoc,low1 _ (by omega)];congr 6;omega
 all_goals have e:k=W:=by omega
 all_goals subst e
 ·rw [bitsL,if_pos hok,bitsR_len];rfl
 ·rw [bitsL,if_pos hok];rfl⟩
def OptOk (q:Int) (l:List Int):Prop:=(0≤q∧q≤51)∧CodeOk l
instance (q:Int) (l:List Int):Decidable (OptOk q l):=by unfold OptOk;infer_instance
end Go.Proofs.YtainhhfnnclfiaaGreat


namespace Go.Proofs.YtainhhfnnclfiaaGreat
open Go Go.Abs
def Dn (l:List Int) (w:Int) (i m:Nat):Prop:=(1≤l.getD m 0∧l.getD m 0<w)∨(l.getD m 0=w∧m<i)
def hit (c l:List Int) (m:Nat) (v:Int):Prop:=c.getD m 0*cw (l.getD m 0)≤v∧v<(c.getD m 0+1)*cw (l.getD m 0)
structure J (l:List Int) (w p:Int) (i:Nat) (s:List Int×Int):Prop where
 len:s.1.length=l.length
 lo:0≤s.2
 cod:∀m,m<l.length→Dn l w i m→0≤s.1.getD m 0∧(s.1.getD m 0+1)*cw (l.getD m 0)≤s.2*p
 cov:∀v,0≤v→v<s.2*p→∃m,m<l.length∧Dn l w i m∧hit s.1 l m v
 uni:∀m m' v,m<l.length→m'<l.length→Dn l w i m→Dn l w i m'→hit s.1 l m v→hit s.1 l m' v→m=m'
theorem getD_set (c:List Int) (i m:Nat) (v:Int) (h:i<c.length):(c.set i v).getD m 0=if m=i then v else c.getD m 0:=by
 rw [List.getD_eq_getElem?_getD,List.getElem?_set]
 by_cases e:i=m
 ·subst e;simp [h]
 ·have:¬m=i:=fun h=>e h.symm
  simp [e,this]
theorem J.step {l:List Int} {w p:Int} {i:Nat} {s:List Int×Int} (h:J l w p i s) (hi:i<l.length) (hp:cw w=p) (hp0:0<p) (hw:1≤w):
 J l w p (i+1) (if l.getD i 0=w then (s.1.set i s.2,s.2+1) else s):=by
 by_cases e:l.getD i 0=w
 ·rw [if_pos e]
  have hl:=h.len
  have hmul:(s.2+1)*p=s.2*p+p:=by rw [Int.add_mul,Int.one_mul]
  have hD:∀m,Dn l w (i+1) m↔Dn l w i m∨m=i:=by
   intro m;unfold Dn;constructor
   ·rintro (h|⟨h1,h2⟩)
    ·exact .inl (.inl h)
    ·by_cases hm:m=i
     ·exact .inr hm
     ·exact .inl (.inr ⟨h1,by omega⟩)
   ·rintro ((h|⟨h1,h2⟩)|rfl)
    ·exact .inl h
    ·exact .inr ⟨h1,by omega⟩
    ·exact .inr ⟨e,by omega⟩
  have hne:∀m,Dn l w i m→m≠i:=by
   rintro m (h|⟨_,h⟩) rfl
   ·omega
   ·omega
  have hg:∀m,(s.1.set i s.2).getD m 0=if m=i then s.2 else s.1.getD m 0:=fun m=>getD_set s.1 i m s.2 (by omega)
  have hhit:∀m v,m≠i→(hit (s.1.set i s.2) l m v↔hit s.1 l m v):=by intro m v hm;unfold hit;rw [hg,if_neg hm]
  have hhi:∀v,hit (s.1.set i s.2) l i v↔s.2*p≤v∧v<s.2*p+p:=by intro v;unfold hit;rw [hg,if_pos rfl,e,hp,hmul]
  refine ⟨by simp [hl],by have:=h.lo;simp only;omega,fun m hm hd=>?_,fun v h0 hv=>?_,fun m m' v hm hm' hd hd' h1 h2=>?_⟩
  ·show 0≤(s.1.set i s.2).getD m 0∧((s.1.set i s.2).getD m 0+1)*_≤(s.2+1)*p
   rw [hg,hmul]
   rcases (hD m).1 hd with hd|rfl
   ·rw [if_neg (hne m hd)];have:=h.cod m hm hd;omega
   ·rw [if_pos rfl,e,hp,hmul];have:=h.lo;omega
  ·have hv:v<(s.2+1)*p:=hv
   rw [hmul] at hv
   by_cases hlt:v<s.2*p
   ·obtain ⟨m,h1,h2,h3⟩:=h.cov v h0 hlt
    exact ⟨m,h1,(hD m).2 (.inl h2),(hhit m v (hne m h2)).2 h3⟩
   ·exact ⟨i,hi,(hD i).2 (.inr rfl),(hhi v).2 ⟨by omega,hv⟩⟩
  ·rcases (hD m).1 hd with d1|rfl<;>rcases (hD m').1 hd' with d2|e2
   ·exact h.uni m m' v hm hm' d1 d2 ((hhit m v (hne m d1)).1 h1) ((hhit m' v (hne m' d2)).1 h2)
   ·subst e2
    have a:=(hhit m v (hne m d1)).1 h1
    have b:=(hhi v).1 h2
    have c:=h.cod m hm d1
    unfold hit at a;omega
   ·have a:=(hhit m' v (hne m' d2)).1 h2
    have b:=(hhi v).1 h1
    have c:=h.cod m' hm' d2
    unfold hit at a;omega
   ·exact e2.symm
 ·rw [if_neg e]
  have hD:∀m,Dn l w (i+1) m↔Dn l w i m:=by
   intro m;unfold Dn;constructor
   ·rintro (h|⟨h1,h2⟩)
    ·exact .inl h
    ·refine .inr ⟨h1,?_⟩
     have:m≠i:=by rintro rfl;exact e h1
     omega
   ·rintro (h|⟨h1,h2⟩)
    ·exact .inl h
    ·exact .inr ⟨h1,by omega⟩
  exact ⟨h.len,h.lo,fun m hm hd=>h.cod m hm ((hD m).1 hd),fun v h0 hv=>by
   obtain ⟨m,h1,h2,h3⟩:=h.cov v h0 hv
   exact ⟨m,h1,(hD m).2 h2,h3⟩,fun m m' v hm hm' hd hd'=>h.uni m m' v hm hm' ((hD m).1 hd) ((hD m').1 hd')⟩
theorem J.level {l:List Int} {w p q:Int} {s:List Int×Int} (h:J l w p l.length s) (hpq:p=2*q) (hw:1≤w):J l (w+1) q 0 (s.1,s.2*2):=by
 have e:s.2*2*q=s.2*p:=by rw [hpq,Int.mul_assoc]
 have hD:∀m,m<l.length→(Dn l (w+1) 0 m↔Dn l w l.length m):=by
  intro m hm;unfold Dn;constructor
  ·rintro (h|⟨h1,h2⟩)
   ·by_cases hw:l.getD m 0=w
    ·exact .inr ⟨hw,hm⟩
    ·exact .inl (by omega)
   ·omega
  ·rintro (h|⟨h1,h2⟩)
   ·exact .inl (by omega)
   ·exact .inl (by omega)
 refine ⟨h.len,?_,fun m hm hd=>?_,fun v h0 hv=>?_,fun m m' v hm hm' hd hd'=>h.uni m m' v hm hm' ((hD m hm).1 hd) ((hD m' hm').1 hd')⟩
 ·show 0≤s.2*2
  have:=h.lo;omega
 ·show 0≤s.1.getD m 0∧_≤s.2*2*q
  rw [e];exact h.cod m hm ((hD m hm).1 hd)
 ·have hv:v<s.2*2*q:=hv
  rw [e] at hv
  obtain ⟨m,h1,h2,h3⟩:=h.cov v h0 hv
  exact ⟨m,h1,(hD m h1).2 h2,h3⟩
theorem J.inn {l:List Int} {w p:Int} {s:List Int×Int} (h:J l w p 0 s) (hp:cw w=p) (hp0:0<p) (hw:1≤w):∀i,i≤l.length→J l w p i (cIn w l i s)
 |0,_=>h
 |i+1,hi=>by rw [cIn];exact J.step (J.inn h hp hp0 hw i (by omega)) (by omega) hp hp0 hw
theorem J7 (l:List Int):J l 7 1 l.length (cOut l 7):=by
 have j0:J l 1 64 0 ((cOut l 0).1,(cOut l 0).2*2):=by
  refine ⟨by simp [cOut],by simp [cOut],fun m hm hd=>?_,fun v h0 hv=>?_,fun m m' v hm hm' hd=>?_⟩
  ·unfold Dn at hd;omega
  ·have:v<0:=by simpa [cOut] using hv
   omega
  ·unfold Dn at hd;omega
 have j1:=(J.inn j0 (by decide) (by decide) (by decide) l.length (Nat.le_refl _)).level (q:=32) (by decide) (by decide)
 have j2:=(J.inn j1 (by decide) (by decide) (by decide) l.length (Nat.le_refl _)).level (q:=16) (by decide) (by decide)
 have j3:=(J.inn j2 (by decide) (by decide) (by decide) l.length (Nat.le_refl _)).level (q:=8) (by decide) (by decide)
 have j4:=(J.inn j3 (by decide) (by decide) (by decide) l.length (Nat.le_refl _)).level (q:=4) (by decide) (by decide)
 have j5:=(J.inn j4 (by decide) (by decide) (by decide) l.length (Nat.le_refl _)).level (q:=2) (by decide) (by decide)
 have j6:=(J.inn j5 (by decide) (by decide) (by decide) l.length (Nat.le_refl _)).level (q:=1) (by decide) (by decide)
 exact J.inn j6 (by decide) (by decide) (by decide) l.length (Nat.le_refl _)
theorem cIn_cnt (w:Int) (l:List Int) (s:List Int×Int):∀i,i≤l.length→(cIn w l i s).2=s.2+((l.take i).count w:Nat)
 |0,_=>by simp [cIn]
 |i+1,hi=>by
  have ih:=cIn_cnt w l s i (by omega)
  rw [cIn,List.take_succ_eq_append_getElem (by omega),List.count_append]
  have e:l.getD i 0=l[i]:=by simp [show i<l.length by omega]
  rw [e]
  by_cases h:l[i]=w
  ·rw [if_pos h];simp only [h,List.count_singleton_self];omega
  ·rw [if_neg h];simp only [List.count_singleton,beq_iff_eq,h,if_false];omega
theorem csum_cnt (l:List Int) (h:In l 0 7):csum l=64*(l.count 1:Nat)+32*(l.count 2:Nat)+16*(l.count 3:Nat)+8*(l.count 4:Nat)+4*(l.count 5:Nat)+2*(l.count 6:Nat)+(l.count 7:Nat):=by
 induction l with
 |nil=>simp [csum]
 |cons x l ih=>
  have hx:0≤x∧x≤7:=by unfold In at h;exact h x (by simp)
  have ih:=ih (by unfold In at *;exact fun v hv=>h v (List.mem_cons_of_mem _ hv))
  have hc:csum (x::l)=cw x+csum l:=by unfold csum;simp
  have key:∀k:Fin 8,cw (k.val:Int)+csum l=64*((((k.val:Int)::l).count 1:Nat):Int)+32*(((k.val:Int)::l).count 2:Nat)+16*(((k.val:Int)::l).count 3:Nat)+8*(((k.val:Int)::l).count 4:Nat)+4*(((k.val:Int)::l).count 5:Nat)+2*(((k.val:Int)::l).count 6:Nat)+(((k.val:Int)::l).count 7:Nat):=by
   have c0:cw 0=0:=by decide
   have c1:cw 1=64:=by decide
   have c2:cw 2=32:=by decide
   have c3:cw 3=16:=by decide
   have c4:cw 4=8:=by decide
   have c5:cw 5=4:=by decide
   have c6:cw 6=2:=by decide
   have c7:cw 7=1:=by decide
   rintro ⟨k,hk⟩
   rcases (by omega:k=0∨k=1∨k=2∨k=3∨k=4∨k=5∨k=6∨k=7) with rfl|rfl|rfl|rfl|rfl|rfl|rfl|rfl<;>simp [List.count_cons,c0,c1,c2,c3,c4,c5,c6,c7]<;>omega
  obtain ⟨k,rfl⟩:∃k:Nat,x=k:=⟨x.toNat,by omega⟩
  rw [hc];exact key ⟨k,by omega⟩
theorem next7 (l:List Int) (h:In l 0 7):(cOut l 7).2=csum l:=by
 have e:∀w,(cOut l (w+1)).2=(cOut l w).2*2+(l.count ((w:Int)+1):Nat):=by
  intro w;rw [cOut,cIn_cnt _ _ _ _ (Nat.le_refl _),List.take_length]
 have e1:=e 0;have e2:=e 1;have e3:=e 2;have e4:=e 3;have e5:=e 4;have e6:=e 5;have e7:=e 6
 have e0:(cOut l 0).2=0:=rfl
 rw [csum_cnt l h]
 simp only [Nat.reduceAdd,Int.natCast_zero,Int.reduceAdd,Int.zero_add] at e1 e2 e3 e4 e5 e6 e7
 simp only [show ((1:Nat):Int)+1=2 from rfl,show ((2:Nat):Int)+1=3 from rfl,show ((3:Nat):Int)+1=4 from rfl,show ((4:Nat):Int)+1=5 from rfl,show ((5:Nat):Int)+1=6 from rfl,show ((6:Nat):Int)+1=7 from rfl] at e1 e2 e3 e4 e5 e6 e7
 omega
theorem code_in {l:List Int} (h:CodeOk l) {m:Nat} (hm:m<6):0≤l.getD m 0∧l.getD m 0≤7:=by
 have h6:=h.2.1
 exact in_get h.1 (by omega)
theorem code_fit {l:List Int} (h:CodeOk l) {m:Nat} (hm:m<6) (h1:l.getD m 0≠0):0≤(codes l).getD m 0∧((codes l).getD m 0+1)*cw (l.getD m 0)≤128:=by
 have h6:=h.2.1
 have hb:=code_in h hm
 have:=(J7 l).cod m (by omega) (by unfold Dn;omega)
 rw [next7 l h.1,h.2.2] at this
 simpa [codes] using this
theorem code_lt {l:List Int} (h:CodeOk l) {m:Nat} (hm:m<6) (h1:l.getD m 0≠0):(codes l).getD m 0<2 ^ (l.getD m 0).toNat:=by
 have hb:=code_in h hm
 have hf:=(code_fit h hm h1).2
 generalize (codes l).getD m 0=c at*
 generalize l.getD m 0=n at*
 have key:∀k:Fin 8,k.val≠0→(c+1)*cw (k.val:Int)≤128→c<2 ^ ((k.val:Int)).toNat:=by
  rintro ⟨k,hk⟩ h0 hc
  rcases (by omega:k=0∨k=1∨k=2∨k=3∨k=4∨k=5∨k=6∨k=7) with rfl|rfl|rfl|rfl|rfl|rfl|rfl|rfl
  ·exact absurd rfl h0
  all_goals simp [cw] at hc ⊢
  all_goals omega
 obtain ⟨k,rfl⟩:∃k:Nat,n=k:=⟨n.toNat,by omega⟩
 exact key ⟨k,by omega⟩ (fun e=>h1 (by simp at e;simp [e])) hf
theorem code_uni {l:List Int} (h:CodeOk l) {m m':Nat} {v:Int} (hm:m<6) (hm':m'<6) (h0:l.getD m 0≠0) (h0':l.getD m' 0≠0) (h1:hit (codes l) l m v) (h2:hit (codes l) l m' v):m=m':=by
 have h6:=h.2.1
 have b1:=code_in h hm
 have b2:=code_in h hm'
 exact (J7 l).uni m m' v (by omega) (by omega) (by unfold Dn;omega) (by unfold Dn;omega) h1 h2
end Go.Proofs.YtainhhfnnclfiaaGreat


namespace Go.Proofs.YtainhhfnnclfiaaGreat
open Go Go.Abs
attribute [local irreducible] WpA WpL Rnd Blk Abs.Seq Abs.Fin Abs.FinG FnC FnG Only
def HasC (l:List Int) (m:Int):Prop:=CodeOk l∧(0≤m∧m≤5)∧l.getD m.toNat 0≠0
instance (l:List Int) (m:Int):Decidable (HasC l m):=by unfold HasC;infer_instance
def symL (l:List Int) (m:Int):List Int:=if HasC l m then bitsL ((codes l).getD m.toNat 0) (l.getD m.toNat 0) else []
theorem sym_fit {l:List Int} {m:Int} (h:HasC l m):(1≤l.getD m.toNat 0∧l.getD m.toNat 0≤7)∧0≤(codes l).getD m.toNat 0∧(codes l).getD m.toNat 0≤127∧bitOk ((codes l).getD m.toNat 0) (l.getD m.toNat 0):=by
 obtain ⟨h1,h2,h3⟩:=h
 have a:=code_in h1 (m:=m.toNat) (by omega)
 have b:=code_fit h1 (m:=m.toNat) (by omega) h3
 have c:=code_lt h1 (m:=m.toNat) (by omega) h3
 have d:(codes l).getD m.toNat 0≤127:=by
  have:(2:Int) ^ (l.getD m.toNat 0).toNat≤2 ^ 7:=by
   have:=Nat.pow_le_pow_right (n:=2) (by decide) (show (l.getD m.toNat 0).toNat≤7 by omega)
   exact_mod_cast this
  omega
 exact ⟨by omega,b.1,d,by omega,b.1,Int.ediv_eq_zero_of_lt b.1 c⟩
theorem symL_len (l:List Int) (m:Int):((symL l m).length:Int)=if HasC l m then l.getD m.toNat 0 else 0:=by
 unfold symL
 split
 ·rename_i h
  obtain ⟨h1,h2,h3,h4⟩:=sym_fit h
  rw [bitsL,if_pos h4,bitsR_len];omega
 ·rfl
theorem symL_pos (l:List Int) (m:Int):0<(symL l m).length↔HasC l m:=by
 have:=symL_len l m
 split at this
 ·rename_i h;have:=(sym_fit h).1;constructor<;>intro _<;>first|assumption|omega
 ·rename_i h;constructor
  ·intro h';omega
  ·intro h';exact absurd h' h
instance SymBits_s:Con 115 (∀ (l:List Int) (m:Int),l.length≤1099511627776→Fn 115 [IL l,I m] [XI (symL l m)] (.own 0 0 0 (symL l m).length)):=⟨fun l m hl=>by
 by_cases h:HasC l m
 ·obtain ⟨h1,h2,h3⟩:=id h
  obtain ⟨f1,f2,f3,f4⟩:=sym_fit h
  have h6:=h1.2.1
  have e:=codesR_ok l h1
  have h7:(codesR l).length=6:=codesR_len l h1
  rw [←e] at f2 f3
  refine FnC.of_body tabOk Tryz.func115 Tryz.ntmps115 rfl (by decide +kernel) (by simp) fun G=>?_
  refine go (r:=?_);and_intros<;>intros<;>try exact True.intro
  all_goals first|(exact absurd ‹CodeOk l› ‹¬ CodeOk l›)|(exact absurd h1 (by assumption))|(exact absurd h2 (by assumption))|(exact absurd (by assumption) h3)|skip
  ·rw [symL,if_pos h,e]
  ·rw [symL,if_pos h,e]
 ·have e:symL l m=[]:=by rw [symL,if_neg h]
  by_cases hc:CodeOk l
  ·have h6:=hc.2.1
   have h7:(codes l).length=6:=by rw [codes_len,h6]
   by_cases hm:0≤m∧m≤5
   ·have h0:l.getD m.toNat 0=0:=Decidable.not_not.1 fun hh=>h ⟨hc,hm,hh⟩
    refine FnC.of_body tabOk Tryz.func115 Tryz.ntmps115 rfl (by decide +kernel) (by simp) fun G=>?_
    refine go (r:=?_);and_intros<;>intros<;>try exact True.intro
    all_goals first|(rw [e];done)|(rw [e];rfl)|skip
   ·refine FnC.of_body tabOk Tryz.func115 Tryz.ntmps115 rfl (by decide +kernel) (by simp) fun G=>?_
    refine go (r:=?_);and_intros<;>intros<;>try exact True.intro
    all_goals first|(rw [e];done)|(rw [e];rfl)|skip
  ·refine FnC.of_body tabOk Tryz.func115 Tryz.ntmps115 rfl (by decide +kernel) (by simp) fun G=>?_
   refine go (r:=?_);and_intros<;>intros<;>try exact True.intro
   all_goals first|(rw [e];done)|(rw [e];rfl)|skip⟩
instance SymBits_c:Con 176 (∀ (l:List Int) (m:Int),l.length≤1099511627776→Fn 176 [IL l,I m] [XI (symL l m)] (.own 0 0 0 (symL l m).length)):=⟨fun l m hl=>by
 by_cases h:HasC l m
 ·obtain ⟨h1,h2,h3⟩:=id h
  obtain ⟨f1,f2,f3,f4⟩:=sym_fit h
  have h6:=h1.2.1
  have h7:(codes l).length=6:=by rw [codes_len,h6]
  refine FnC.of_body tabOk Tryz.func176 Tryz.ntmps176 rfl (by decide +kernel) (by simp) fun G=>?_
  refine go (r:=?_);and_intros<;>intros<;>try exact True.intro
  all_goals first|(exact absurd ‹CodeOk l› ‹¬ CodeOk l›)|(exact absurd h1 (by assumption))|(exact absurd h2 (by assumption))|(exact absurd (by assumption) h3)|skip
  ·rw [symL,if_pos h]
  ·rw [symL,if_pos h]
 ·have e:symL l m=[]:=by rw [symL,if_neg h]
  by_cases hc:CodeOk l
  ·have h6:=hc.2.1
   have h7:(codes l).length=6:=by rw [codes_len,h6]
   by_cases hm:0≤m∧m≤5
   ·have h0:l.getD m.toNat 0=0:=Decidable.not_not.1 fun hh=>h ⟨hc,hm,hh⟩
    refine FnC.of_body tabOk Tryz.func176 Tryz.ntmps176 rfl (by decide +kernel) (by simp) fun G=>?_
    refine go (r:=?_);and_intros<;>intros<;>try exact True.intro
    all_goals first|(rw [e];done)|(rw [e];rfl)|skip
   ·refine FnC.of_body tabOk Tryz.func176 Tryz.ntmps176 rfl (by decide +kernel) (by simp) fun G=>?_
    refine go (r:=?_);and_intros<;>intros<;>try exact True.intro
    all_goals first|(rw [e];done)|(rw [e];rfl)|skip
  ·refine FnC.of_body tabOk Tryz.func176 Tryz.ntmps176 rfl (by decide +kernel) (by simp) fun G=>?_
   refine go (r:=?_);and_intros<;>intros<;>try exact True.intro
   all_goals first|(rw [e];done)|(rw [e];rfl)|skip⟩
end Go.Proofs.YtainhhfnnclfiaaGreat


namespace Go.Proofs.YtainhhfnnclfiaaGreat
open Go Go.Abs
attribute [local irreducible] WpA WpL Rnd Blk Abs.Seq Abs.Fin Abs.FinG FnC FnG FnX FnP FinX Only
attribute [local irreducible] belowD onceD pickD modeD l8D l8AnyD
def modesD (l:List Int):Nat→Cr×List Int→Cr×List Int
 |0,s=>s
 |n+1,s=>modesD l n ((modeD l s.1).1,s.2++[(modeD l s.1).2])
def onesD (l:List Int):Nat→Cr×List Bool→Cr×List Bool
 |0,s=>s
 |n+1,s=>onesD l n ((onceD l s.1 2).1,s.2++[(onceD l s.1 2).2])
structure Op6 where
 q:Int
 b:Bool
 d:Bool
 lens:List Int
 ms:List Int
 es:List Bool
abbrev quant7:List Int:=[0,0,6,12,24,36,51]
def optD (l:List Int) (c:Cr):Cr×Op6:=
 let q:=pickD l c quant7
 let b:=onceD l q.1 4
 let d:=onceD l b.1 2
 let e:=l8D l d.1
 let n:=belowD l e.1 5
 let m:=modesD l n.2.toNat (n.1,[])
 let k:=belowD l m.1 4
 let s:=onesD l k.2.toNat (k.1,[])
 (s.1,⟨q.2,b.2,d.2,e.2,m.2,s.2⟩)
end Go.Proofs.YtainhhfnnclfiaaGreat


namespace Go.Abs
open Go
structure Moves (k base:Nat) (V W:AV):Prop where
 rel:∀{S S3:Nat→Prop} {w:World} {ι ι3:Nat→Spot} {O O3:List AObj} {x:Value},(∀ id,k≤id→ι3 (id-k+base)=ι id)→(∀ id ob,k≤id→O[id]?=some ob→O3[id-k+base]?=some ob)→VRel S w ι O V x []→VRel S3 w ι3 O3 W x []
theorem Moves.ptr {k base id ep off:Nat} (h:k≤id):Moves k base (.ptr id ep off) (.ptr (id-k+base) ep off):=by
 refine ⟨fun h1 h2 hv=>?_⟩
 cases hv with
 |ptr a b c r=>cases r;exact .ptr (h2 _ _ h a) b (fun e=>by rw [h1 _ h];exact c e) .nil
section
variable {P:Program} {n m:Nat} {G:Ctx} {T:List (Nat×AV)} {O:List AObj} {Q:Exit→St→Prop} {ops:Array Oper} {l:List Oper} {tt:TypeId} {pos:String} {after:Array Edge} {tab:List (Nat×Ty)}
theorem callXm_rel {β:Type} {f:FuncId} {xs:List Operand} {As:List AV} {M:List AObj} {MX NX:β→List AObj} {rX rX':β→AV} {C:β→Prop} {hs:List Nat} {pv:List Value} {pa:List AV} (hc:FnX P f As M pv pa β C MX NX rX) (hp:Pin G pv pa) (hh:Hand O hs (xs.map (av T)) As) (hM:HandO O hs M) (hnd:hs.Nodup) (hlenX:∀y,(MX y).length=M.length)
 (hszX:∀(y:β) (j:Nat) (a b:AObj),M[j]?=some a→(MX y)[j]?=some b→b.size=a.size) (hMX':∀y,Out (MX y)) (hNX:∀y,Out (NX y)) (hreX:∀y,Moves M.length O.length (rX y) (rX' y)) {a:Act} {w:World} (hr:Rel n m G ⟨T,O⟩ a w):
 Calls P f (xs.map a.eval).toArray w fun e w'=>∃y,C y∧∃v,e=.returned v∧∃S ι F,RelAt n m G S ι F ⟨T,newO hs (MX y) 0 O++NX y⟩ a w'∧VRel S w' ι (newO hs (MX y) 0 O++NX y) (rX' y) v []:=by
 obtain ⟨S,ι,F,hr⟩:=hr
 obtain ⟨⟨fn,hf,hb,hnm⟩,hcall⟩:=hc
 obtain ⟨hlM,hatM⟩:=hM.at
 let S2:Nat→Prop:=fun b=>b<w.heap.size∧∀id∈hs,b ∉ F id
 let ιM:Nat→Spot:=fun j=>match hs[j]? with|some id=>ι id|none=>none
 let FM:Nat→List Nat:=fun j=>match hs[j]? with|some id=>F id|none=>[]
 have hιM:∀(j id:Nat),hs[j]?=some id→ιM j=ι id:=fun j id h=>by show (match hs[j]? with|some id=>ι id|none=>none)=_;rw [h]
 have hFM:∀(j id:Nat),hs[j]?=some id→FM j=F id:=fun j id h=>by show (match hs[j]? with|some id=>F id|none=>[])=_;rw [h]
 have hidl:∀(j id:Nat),hs[j]?=some id→id<O.length:=fun j id h=>by
  have hj:j<M.length:=by rw [←hlM];exact (List.getElem?_eq_some_iff.1 h).1
  obtain ⟨id',ob,e1,e2,_⟩:=hatM j _ (List.getElem?_eq_getElem hj)
  rw [h] at e1;cases e1;exact (List.getElem?_eq_some_iff.1 e2).1
 have hmem:∀id∈hs,∃j,j<M.length∧hs[j]?=some id:=fun id h=>by
  obtain ⟨j,hj,e⟩:=List.getElem_of_mem h
  exact ⟨j,by omega,by rw [List.getElem?_eq_getElem hj,e]⟩
 have hex:∀j,j<M.length→∃id,hs[j]?=some id:=fun j hj=>⟨hs[j],List.getElem?_eq_getElem (by omega)⟩
 have hSS:∀b,S b→S2 b:=fun b hb=>⟨hr.stable b hb,fun id hid hbf=>by
  obtain ⟨j,hj,e⟩:=hmem id hid
  exact (hr.foot id (hidl j id e) b hbf).2.1 hb⟩
 have hOM:ORel S2 w ιM M FM:=by
  refine ⟨fun j mb hj=>?_,fun j hj=>?_,fun i j hi hj hij b hb=>?_⟩
  ·obtain ⟨id,ob,e1,e2,e3,e4,e5,e6,e7⟩:=hatM j mb hj
   rw [hιM j id e1,hFM j id e1]
   have ho:=hr.objs.obj id ob e2
   unfold ObjAt at ho ⊢
   cases hs':ι id with
   |none=>rw [hs'] at ho;rw [←e3];exact ho
   |some p=>
    obtain ⟨b,k⟩:=p
    rw [hs'] at ho
    obtain ⟨cur',t',fz',f2,q1,q2,q3,q4,q5,q6,q7⟩:=ho
    refine ⟨cur',t',fz',f2,q1,q2,q3,by rw [←e3];exact q4,q5,fun e he=>?_,?_⟩
    ·rcases e7 with e7|e7
     ·rw [e7] at he;cases he
     ·exact q6 e (by rw [←e7];exact he)
    ·rw [←e3]
     exact still_all (by rw [e3];exact e4) q7 hSS (fun _ _=>rfl) (fun _ _=>rfl)
  ·obtain ⟨id,e⟩:=hex j hj
   rw [hFM j id e];exact hr.objs.nodup id (hidl j id e)
  ·obtain ⟨id1,e1⟩:=hex i hi
   obtain ⟨id2,e2⟩:=hex j hj
   rw [hFM i id1 e1] at hb;rw [hFM j id2 e2]
   exact hr.objs.apart id1 id2 (hidl i id1 e1) (hidl j id2 e2) (fun e=>hij (nodup_get hnd e1 (e▸e2))) b hb
 have hl:=hr.evals xs
 obtain ⟨f',hl2,hf'⟩:=hh.rel (S2:=S2) (ιM:=ιM) hM hιM hSS hr.objs (fun b h1 h2=>⟨h1,h2⟩) (fun id hid=>by obtain ⟨j,hj,e⟩:=hmem id hid;exact hidl j id e) hl (by simp)
 have hf0:f'=[]:=List.eq_nil_iff_forall_not_mem.2 fun b hb=>by simpa using hf' b hb
 subst hf0
 refine (hcall w S2 ιM FM (xs.map a.eval) (fun b h=>h.1) hOM (fun j hj b hb=>?_) hl2 (hp.at hr hSS [] (fun _=>none))).mono fun e w' he=>?_
 ·obtain ⟨id,e⟩:=hex j hj
  rw [hFM j id e] at hb
  exact ⟨fun h=>h.2 id (List.mem_of_getElem? e) hb,(hr.foot id (hidl j id e) b hb).2.2⟩
 obtain ⟨y,hy,v,S',ι',F',rfl,hS1,hS2,hS3,hι',hO',hF',hv,hk⟩:=he
 refine ⟨y,hy,v,rfl,?_⟩
 have hlen:=hlenX y
 have hsz:=hszX y
 have hM':=hMX' y
 have hN:=hNX y
 have hre:=hreX y
 generalize MX y=M' at hlen hsz hM' hO' hF' hv ⊢
 generalize NX y=N at hN hO' hF' hv ⊢
 generalize rX y=r at hre hv
 generalize rX' y=r' at hre ⊢
 have hold:∀b,b<w.heap.size→(∀ id∈hs,b ∉ F id)→w'.heap[b]?=w.heap[b]?:=fun b hb hn=>hk.block b hb (by
  rintro ⟨i,hi,hbf⟩
  obtain ⟨id,e⟩:=hex i hi
  rw [hFM i id e] at hbf
  exact hn id (List.mem_of_getElem? e) hbf)
 let S3:Nat→Prop:=fun b=>S b∨(S' b∧w.heap.size≤b)
 let ι3:Nat→Spot:=fun i=>if i<O.length then ι i else ι' (M.length+(i-O.length))
 let F3:Nat→List Nat:=fun i=>if i<O.length then (match findN hs i 0 with|some j=>F' j|none=>F i) else F' (M.length+(i-O.length))
 let O3:=newO hs M' 0 O++N
 have hl3:(newO hs M' 0 O).length=O.length:=newO_len hs M' 0 O
 have hO3lt:∀i,i<O.length→O3[i]?=(O[i]?).map (newOb hs M' i):=fun i hi=>by
  show (newO hs M' 0 O++N)[i]?=_
  rw [List.getElem?_append_left (by omega),newO_at,Nat.zero_add]
 have hO3ge:∀i,O.length≤i→O3[i]?=N[i-O.length]?:=fun i hi=>by
  show (newO hs M' 0 O++N)[i]?=_
  rw [List.getElem?_append_right (by omega),hl3]
 have hob:∀i ob,O[i]?=some ob→(newOb hs M' i ob).ep=ob.ep∧(newOb hs M' i ob).size=ob.size:=fun i ob h=>by
  unfold newOb
  cases hfd:findN hs i 0 with
  |none=>exact ⟨rfl,rfl⟩
  |some j=>
   cases hmj:M'[j]? with
   |none=>exact ⟨by simp [hmj],by simp [hmj]⟩
   |some mb=>
    obtain ⟨q,rfl,hq⟩:=findN_some hfd
    rw [Nat.zero_add] at hmj
    have hqm:q<M.length:=by rw [←hlM];exact (List.getElem?_eq_some_iff.1 hq).1
    obtain ⟨id',ob',e1,e2,_,_,_,e6,_⟩:=hatM q _ (List.getElem?_eq_getElem hqm)
    rw [hq] at e1;cases e1
    rw [h] at e2;cases e2
    simp only [Nat.zero_add,hmj,true_and]
    exact (hsz q _ _ (List.getElem?_eq_getElem hqm) hmj).trans e6
 have hlat:Later S w ι O S3 w' ι3 O3:=by
  refine ⟨fun b h=>.inl h,fun b hb=>hold b (hr.stable b hb) (hSS b hb).2,fun id ob h=>?_⟩
  have hlt:id<O.length:=(List.getElem?_eq_some_iff.1 h).1
  obtain ⟨h1,h2⟩:=hob id ob h
  exact ⟨newOb hs M' id ob,by rw [hO3lt id hlt,h];rfl,.inr ⟨h1,h2,by show (if _ then _ else _)=_;rw [if_pos hlt]⟩⟩
 have hF3f:∀(i j:Nat),i<O.length→findN hs i 0=some j→F3 i=F' j:=fun i j hi h=>by show (if _ then _ else _)=_;rw [if_pos hi,h]
 have hF3n:∀(i:Nat),i<O.length→findN hs i 0=none→F3 i=F i:=fun i hi h=>by show (if _ then _ else _)=_;rw [if_pos hi,h]
 have hF3g:∀(i:Nat),O.length≤i→F3 i=F' (M.length+(i-O.length)):=fun i hi=>by show (if _ then _ else _)=_;rw [if_neg (by omega)]
 have hlMN:(M'++N).length=M.length+N.length:=by rw [List.length_append,hlen]
 have hfind:∀(i j:Nat),findN hs i 0=some j→j<M.length∧hs[j]?=some i:=fun i j h=>by
  obtain ⟨q,rfl,hq⟩:=findN_some h
  rw [Nat.zero_add]
  exact ⟨by rw [←hlM];exact (List.getElem?_eq_some_iff.1 hq).1,hq⟩
 have hl3':O3.length=O.length+N.length:=by show (newO hs M' 0 O++N).length=_;rw [List.length_append,hl3]
 have hsrc:∀k,k<(M'++N).length→∀b∈F' k,((∃ id,id∈hs∧id<O.length∧b∈F id)∨w.heap.size≤b)∧¬S' b∧b<w'.heap.size:=fun k hk' b hb=>by
  obtain ⟨q1,q2,q3⟩:=hF' k hk' b hb
  refine ⟨?_,q2,q3⟩
  rcases q1 with ⟨i,hi,hbf⟩|q1
  ·obtain ⟨id,e⟩:=hex i hi
   rw [hFM i id e] at hbf
   exact .inl ⟨id,List.mem_of_getElem? e,hidl i id e,hbf⟩
  ·exact .inr q1
 have hnoS:∀k,k<(M'++N).length→∀b∈F' k,(G.M0 b∨G.w0.heap.size≤b)∧¬S3 b∧b<w'.heap.size:=fun k hk' b hb=>by
  obtain ⟨q1,q2,q3⟩:=hsrc k hk' b hb
  rcases q1 with ⟨id,hid,hlt,hbf⟩|q1
  ·obtain ⟨p1,p2,p3⟩:=hr.foot id hlt b hbf
   refine ⟨p1,?_,q3⟩
   rintro (h|⟨h,_⟩)
   ·exact p2 h
   ·exact q2 h
  ·refine ⟨.inr (by have:=hr.keeps.size;omega),?_,q3⟩
   rintro (h|⟨h,_⟩)
   ·have:=hr.stable b h;omega
   ·exact q2 h
 have hnotin:∀i,i<O.length→findN hs i 0=none→∀b∈F i,w'.heap[b]?=w.heap[b]?:=fun i hi h b hb=>hold b (hr.foot i hi b hb).2.2 fun id hid hbf=>by
  obtain ⟨j,hj,e⟩:=hmem id hid
  have hne:i≠id:=by rintro rfl;exact findN_none h hid
  exact hr.objs.apart i id hi (hidl j id e) hne b hb hbf
 have hcells:∀{cs:List AV} {us g},cs.all AV.still=true→Loc cs→LRel S' w' ι' (M'++N) cs us g→LRel S3 w' ι3 O3 cs us g:=fun h1 h2 hl=>
  Loc.rel h2 (still_all (S':=S') h1 hl (fun _ h=>h) (fun _ _=>rfl) (fun _ _=>rfl))
 refine ⟨S3,ι3,F3,⟨hr.defers,hr.size,fun t=>(hr.tmps t).mono hlat (by simp),⟨fun i ob h=>?_,fun i h=>?_,fun i j hi hj hij b hb=>?_⟩,fun i h b hb=>?_,⟨fun b hb=>.inl (hr.base.1 b hb),?_⟩,?_,?_,fun i h=>?_,?_⟩,?_⟩
 ·have h:O3[i]?=some ob:=h
  by_cases hlt:i<O.length
  ·rw [hO3lt i hlt,List.getElem?_eq_getElem hlt] at h
   simp only [Option.map_some,Option.some.injEq] at h
   rw [show ι3 i=ι i from if_pos hlt]
   cases hfd:findN hs i 0 with
   |some j=>
    obtain ⟨hjm,hji⟩:=hfind i j hfd
    rw [hF3f i j hlt hfd]
    have hjM':j<M'.length:=by omega
    have hmb:M'[j]?=some M'[j]:=List.getElem?_eq_getElem hjM'
    have h':ob=⟨M'[j].cells,(O[i]).ep,M'[j].size,M'[j].ty⟩:=by
     rw [←h];unfold newOb;rw [hfd];simp only [hmb]
    have ho:=hO'.obj j M'[j] (by rw [List.getElem?_append_left hjM'];exact hmb)
    rw [hι' j hjm,hιM j i hji] at ho
    have hout:=hM'.at hmb
    rw [h']
    unfold ObjAt at ho ⊢
    cases hs':ι i with
    |none=>rw [hs'] at ho;exact ho
    |some p=>
     obtain ⟨b,k⟩:=p
     rw [hs'] at ho
     obtain ⟨cur',t',fz',f2,q1,q2,q3,q4,q5,q6,q7⟩:=ho
     exact ⟨cur',t',fz',f2,q1,q2,q3,q4,q5,q6,hcells hout.1 hout.2 q7⟩
   |none=>
    rw [hF3n i hlt hfd]
    have h':ob=O[i]:=by rw [←h];unfold newOb;rw [hfd]
    subst h'
    have ho:=hr.objs.obj i O[i] (List.getElem?_eq_getElem hlt)
    have key:=hnotin i hlt hfd
    unfold ObjAt at ho ⊢
    cases hs':ι i with
    |none=>rw [hs'] at ho;exact ho
    |some p=>
     obtain ⟨b,k⟩:=p
     rw [hs'] at ho
     obtain ⟨cur',t',fz',f2,q1,q2,q3,q4,q5,q6,q7⟩:=ho
     exact ⟨cur',t',fz',f2,q1,by rw [key b (by rw [q1];simp)];exact q2,q3,q4,q5,q6,q7.mono hlat fun b' hb'=>key b' (by rw [q1];simp [hb'])⟩
  ·rw [hO3ge i (by omega)] at h
   rw [show ι3 i=ι' (M.length+(i-O.length)) from if_neg hlt,hF3g i (by omega)]
   have ho:=hO'.obj (M.length+(i-O.length)) ob (by rw [List.getElem?_append_right (by omega),hlen,Nat.add_sub_cancel_left];exact h)
   have hout:=hN.at h
   unfold ObjAt at ho ⊢
   cases hs':ι' (M.length+(i-O.length)) with
   |none=>rw [hs'] at ho;exact ho
   |some p=>
    obtain ⟨b,k⟩:=p
    rw [hs'] at ho
    obtain ⟨cur',t',fz',f2,q1,q2,q3,q4,q5,q6,q7⟩:=ho
    exact ⟨cur',t',fz',f2,q1,q2,q3,q4,q5,q6,hcells hout.1 hout.2 q7⟩
 ·have h:i<O3.length:=h
  by_cases hlt:i<O.length
  ·cases hfd:findN hs i 0 with
   |some j=>rw [hF3f i j hlt hfd];exact hO'.nodup j (by have:=(hfind i j hfd).1;omega)
   |none=>rw [hF3n i hlt hfd];exact hr.objs.nodup i hlt
  ·rw [hF3g i (by omega)];exact hO'.nodup _ (by omega)
 ·have hi:i<O3.length:=hi
  have hj:j<O3.length:=hj
  have hpl:∀k,k<O3.length→(∃ q,q<(M'++N).length∧F3 k=F' q∧((q<M.length∧hs[q]?=some k)∨(O.length≤k∧q=M.length+(k-O.length))))∨(k<O.length∧findN hs k 0=none∧F3 k=F k):=fun k hk'=>by
   by_cases hlt:k<O.length
   ·cases hfd:findN hs k 0 with
    |some q=>obtain ⟨h1,h2⟩:=hfind k q hfd;exact .inl ⟨q,by omega,hF3f k q hlt hfd,.inl ⟨h1,h2⟩⟩
    |none=>exact .inr ⟨hlt,rfl,hF3n k hlt hfd⟩
   ·exact .inl ⟨_,by omega,hF3g k (by omega),.inr ⟨by omega,rfl⟩⟩
  have hcross:∀k q,k<O.length→findN hs k 0=none→q<(M'++N).length→∀b∈F k,b ∉ F' q:=fun k q hk' hn hq b hb hb'=>by
   rcases (hsrc q hq b hb').1 with ⟨id,hid,hlt,hbf⟩|h
   ·have hne:k≠id:=by rintro rfl;exact findN_none hn hid
    exact hr.objs.apart k id hk' hlt hne b hb hbf
   ·have:=(hr.foot k hk' b hb).2.2;omega
  rcases hpl i hi with ⟨q1,p1,p2,p3⟩|⟨p1,p2,p3⟩<;>rcases hpl j hj with ⟨q2,r1,r2,r3⟩|⟨r1,r2,r3⟩
  ·rw [p2] at hb;rw [r2]
   refine hO'.apart q1 q2 p1 r1 (fun e=>?_) b hb
   subst e
   rcases p3 with ⟨a1,a2⟩|⟨a1,a2⟩<;>rcases r3 with ⟨b1,b2⟩|⟨b1,b2⟩
   ·rw [a2] at b2;cases b2;exact hij rfl
   ·omega
   ·omega
   ·omega
  ·rw [p2] at hb;rw [r3];intro hb';exact hcross j q1 r1 r2 p1 b hb' hb
  ·rw [p3] at hb;rw [r2];exact hcross i q2 p1 p2 r1 b hb
  ·rw [p3] at hb;rw [r3];exact hr.objs.apart i j p1 r1 hij b hb
 ·have h:i<O3.length:=h
  by_cases hlt:i<O.length
  ·cases hfd:findN hs i 0 with
   |some j=>rw [hF3f i j hlt hfd] at hb;exact hnoS j (by have:=(hfind i j hfd).1;omega) b hb
   |none=>
    rw [hF3n i hlt hfd] at hb
    obtain ⟨q1,q2,q3⟩:=hr.foot i hlt b hb
    refine ⟨q1,?_,by have:=hk.size;omega⟩
    rintro (h'|⟨_,h'⟩)
    ·exact q2 h'
    ·omega
  ·rw [hF3g i (by omega)] at hb;exact hnoS _ (by omega) b hb
 ·rintro b (h'|⟨_,h'⟩)
  ·exact hr.base.2 b h'
  ·exact .inr (by have:=hr.keeps.size;omega)
 ·rintro b (h'|⟨h',_⟩)
  ·have:=hr.stable b h';have:=hk.size;omega
  ·exact hS3 b h'
 ·refine ⟨hk.os.trans hr.keeps.os,hk.tape.trans hr.keeps.tape,hk.output.trans hr.keeps.output,by have:=hr.keeps.size;have:=hk.size;omega,fun b hb hM0=>?_⟩
  rw [hold b (by have:=hr.keeps.size;omega) fun id hid hbf=>?_]
  ·exact hr.keeps.block b hb hM0
  ·obtain ⟨j,hj,e⟩:=hmem id hid
   rcases (hr.foot id (hidl j id e) b hbf).1 with h|h
   ·exact hM0 h
   ·omega
 ·have hm:m≤O.length:=hr.mle
  rw [show ι3 i=ι i from if_pos (by omega)];exact hr.spots i h
 ·have hm:m≤O.length:=hr.mle
  show m≤O3.length
  omega
 ·refine hre.rel (S:=S') (ι:=ι') (O:=M'++N) (fun id hid=>?_) (fun id ob hid h=>?_) hv
  ·show (if _ then _ else _)=_
   rw [if_neg (by omega)];congr 1;omega
  ·show O3[id-M.length+O.length]?=some ob
   rw [hO3ge _ (by omega),Nat.add_sub_cancel]
   rw [List.getElem?_append_right (by omega),hlen] at h
   exact h
theorem FnP.of_new (hP:TabOk P tab) {f:FuncId} {fn:Func} {c:Code} {args:List AV} {pv:List Value} {pa:List AV} {k t sz:Nat} {cells:List AV} {ty:Option TypeId} (hf:P.funcs[f]?=some fn) (hnt:fn.ntmps=k) (hb:fn.body=some c) (hnm:(fn.name== "runtime.NumGoroutine")=false)
 (hal:args.length≤k) (hres:fn.results=#[.tmp t]) (hps:pa.all AV.still=true) (hst:cells.all AV.still=true) (h:∀G,Pin G pv pa→WpA P k 0 G c ⟨enumT 0 args,[]⟩ (fun e σ=>endB e=true∧∃id ep ob,look σ.T t=.ptr id ep 0∧σ.O[id]?=some ob∧ob.ep=ep∧ob.cells=cells∧ob.size=sz∧(ty=none∨ty=ob.ty))):
 FnP P f args [] pv pa [] [⟨cells,0,sz,ty⟩] (.ptr 0 0 0):=by
 refine ⟨⟨fn,hf,by rw [hb];rfl,hnm⟩,fun w S ι F vs hS hO hF hl hpin=>?_⟩
 have hvl:vs.length=args.length:=hl.len.symm
 refine calls_of_wp hf hb ?_
 have hrel:Rel k 0 ⟨w,S,fun b=>∃i,i<([]:List AObj).length∧b∈F i,ι⟩ ⟨enumT 0 args,[]⟩ {tmps:=vs.toArray++Array.replicate (fn.ntmps-vs.toArray.size) undef,defers:=[]} w:=by
  refine ⟨S,ι,F,rfl,?_,fun t=>?_,hO,fun id hid b hb=>⟨.inl ⟨id,hid,hb⟩,hF id hid b hb⟩,⟨fun _ h=>h,fun _ h=>.inl h⟩,hS,Keeps.refl _ _,fun _ _=>rfl,Nat.zero_le _⟩
  ·simp [hnt];omega
  ·show VRel S w ι [] (look (enumT 0 args) t) _ []
   rw [look_enumT]
   simp only [Nat.zero_le,if_true,Nat.sub_zero]
   by_cases ht:t<args.length
   ·obtain ⟨x,g,hx,hV,hg⟩:=hl.get (List.getElem?_eq_getElem ht)
    have hg0:g=[]:=List.eq_nil_iff_forall_not_mem.2 fun b hb=>by simpa using hg b hb
    subst hg0
    have e1:args.getD t .any=args[t]:=by simp [ht]
    have e2:(vs.toArray++Array.replicate (fn.ntmps-vs.toArray.size) undef).getD t undef=x:=by
     have:t<vs.length:=by omega
     rw [List.getElem?_eq_getElem this] at hx
     simp only [Option.some.injEq] at hx
     simp [Array.getD_eq_getD_getElem?,Array.getElem?_append,this,hx]
    rw [e1,e2];exact hV
   ·have e1:args.getD t .any=.any:=by simp [List.getElem?_eq_none (Nat.le_of_not_lt ht)]
    rw [e1];exact .any .nil
 refine wp_mono (h ⟨w,S,fun b=>∃i,i<([]:List AObj).length∧b∈F i,ι⟩ ⟨hpin,hps,fun b hb=>⟨fun ⟨i,hi,hbf⟩=>(hF i hi b hbf).1 hb,hS b hb⟩⟩ _ _ hrel) fun e a' w' ⟨σ',hq,hr'⟩=>?_
 obtain ⟨he,id,ep,ob,h1,h2,h3,h4,h5,h6⟩:=hq
 obtain ⟨S2,ι2,F2,hr⟩:=hr'
 have hrun:(results fn a'.tmps).run P w'=.ok (a'.tmps.getD t undef) w':=run_results1 hres (by simp [resSem])
 have ht:=hr.tmps t
 rw [h1] at ht
 have hid:id<σ'.O.length:=(List.getElem?_eq_some_iff.1 h2).1
 have hobj:=hr.objs.obj id ob h2
 have hfin:∃v S' ι' F',a'.tmps.getD t undef=v∧(∀ b,S b→S' b)∧(∀ b,S' b→S b∨w.heap.size≤b)∧(∀ b,S' b→b<w'.heap.size)∧(∀ id,id<([]:List AObj).length→ι' id=ι id)∧ORel S' w' ι' ([]++[⟨cells,0,sz,ty⟩]) F'∧
  (∀ id,id<([]++[(⟨cells,0,sz,ty⟩:AObj)]).length→∀b∈F' id,((∃ i,i<([]:List AObj).length∧b∈F i)∨w.heap.size≤b)∧¬S' b∧b<w'.heap.size)∧VRel S' w' ι' ([]++[⟨cells,0,sz,ty⟩]) (.ptr 0 0 0) v []∧Keeps w (fun b=>∃i,i<([]:List AObj).length∧b∈F i) w':=by
  refine ⟨_,S2,fun j=>if j=0 then ι2 id else none,fun j=>if j=0 then F2 id else [],rfl,hr.base.1,hr.base.2,hr.stable,fun i hi=>by simp at hi,⟨fun i ob' hi=>?_,fun i hi=>?_,fun i j hi hj hij=>?_⟩,fun i hi b hb=>?_,?_,hr.keeps⟩
  ·cases i with
   |succ i=>simp at hi
   |zero=>
    simp at hi;subst hi
    simp only [if_true]
    unfold ObjAt at hobj ⊢
    cases hs:ι2 id with
    |none=>rw [hs,h4] at hobj;exact hobj
    |some p=>
     obtain ⟨b,kk⟩:=p
     rw [hs,h4] at hobj
     obtain ⟨cur',t',fz',f2,q1,q2,q3,q4,q5,q6,q7⟩:=hobj
     refine ⟨cur',t',fz',f2,q1,q2,q3,q4,q5,fun e he=>?_,still_all hst q7 (fun _ h=>h) (fun _ _=>rfl) (fun _ _=>rfl)⟩
     rcases h6 with h6|h6
     ·rw [h6] at he;cases he
     ·exact q6 e (by rw [←h6];exact he)
  ·have:i=0:=by simpa using hi
   subst this;simpa using hr.objs.nodup id hid
  ·have e1:i=0:=by simpa using hi
   have e2:j=0:=by simpa using hj
   omega
  ·have e1:i=0:=by simpa using hi
   subst e1
   obtain ⟨q1,q2,q3⟩:=hr.foot id hid b (by simpa using hb)
   exact ⟨q1,q2,q3⟩
  ·cases ht with
   |ptr a b c r=>rw [h2] at a;cases a;exact .ptr (ob:=⟨cells,0,sz,ty⟩) rfl (Nat.le_refl _) (fun _=>by simpa using c h3.symm) .nil
 obtain ⟨v,S',ι',F',hv,q⟩:=hfin
 cases e with
 |normal=>exact ⟨hr.defers,_,hrun,(),trivial,_,S',ι',F',rfl,hv▸q⟩
 |ret=>exact ⟨hr.defers,_,hrun,(),trivial,_,S',ι',F',rfl,hv▸q⟩
 |_=>cases he
theorem WpL.callN {f:FuncId} {xs:List Operand} {ats:Array TypeId} {As:List AV} {ob:AObj} {O2:List AObj} {pv:List Value} {pa:List AV} {base d:Nat} (hc:FnP P f As [] pv pa [] [ob] (.ptr 0 0 0)) (hp:Pin G pv pa) (hh:HandM O [] [] (xs.map (av T)) As) (hN:Out [ob]) (hb:cnt O.length 0=some base) (hO2:newF [] [] 0 O [ob]=some O2) (hn:d<n)
 (h:WpL P n m G false ops l ⟨(d,.ptr base 0 0)::T,O2⟩ Q):
 WpL P n m G false ops ({dst:=some d,op:=.call {callee:=.value (.func f),args:=xs.toArray,argTypes:=ats},type:=tt,pos:=pos,after:=after,guard:=none}::l) ⟨T,O⟩ Q:=by
 refine WpL.opX (β:=Unit) (C:=fun _=>True) (σX:=fun _=>⟨(d,.ptr base 0 0)::T,O2⟩) rfl (fun a w hr=>?_) (fun _ _=>h)
 have e2:=cnt_eq hb;rw [Nat.add_zero] at e2;subst e2
 have hcl:=callXm_rel hc hp hh .nil (by simp) (fun _=>rfl) (fun _ j x y hx hy=>by simp at hx) (fun _=>.nil) (fun _=>hN) (rX':=fun _=>.ptr O.length 0 0) (fun _=>by have:=Moves.ptr (k:=0) (base:=O.length) (id:=0) (ep:=0) (off:=0) (Nat.le_refl 0);rw [Nat.sub_zero,Nat.zero_add] at this;exact this) hr
 obtain ⟨⟨fn,hf,hbd,hnm⟩,_⟩:=hc
 have hex:(execOp a.eval {dst:=some d,op:=.call {callee:=.value (.func f),args:=xs.toArray,argTypes:=ats},type:=tt,pos:=pos,after:=after,guard:=none}).run P w=.ok (.enter f (xs.map a.eval).toArray) w:=by
  simp only [execOp,resolve,Act.eval,Deferred.ofValue,invoke,callFunc,Sem.run_bind,Sem.run_pure,Result.andThen_ok,program,Sem.run,hf,hnm,hbd,Bool.false_eq_true,if_false]
  simp
 unfold Oper.wp
 rw [hex]
 refine hcl.mono fun e' w' ⟨y,hy,v',he,S,ι,F,hr',hv⟩=>?_
 subst he
 rw [newF_eq hO2] at hr' hv
 exact ⟨y,hy,S,ι,F,hr'.put hn hv⟩
theorem FnC.of_pin {f:FuncId} {A:AV} {args:List AV} {N:List AObj} {r:AV} (h:∀v,FnP P f (.sc v::args) [] [v] [A] [] N r):FnC P f (A::args) N r:=by
 refine ⟨(h undef).1,fun w S vs hS hl=>?_⟩
 obtain ⟨v,vs',f1,f2,e,hv,hr,hf⟩:=hl.uncons
 obtain ⟨rfl,rfl⟩:f1=[]∧f2=[]:=by simpa using hf
 subst e
 refine ((h v).2 w S (fun _=>none) (fun _=>[]) (v::vs') hS ⟨fun id ob h=>by simp at h,fun id h=>by simp at h,fun i j h=>by simp at h⟩ (fun id h=>by simp at h) (.sc hr) (by simpa using LRel.cons hv .nil)).mono fun e w' ⟨y,_,v2,S',ι',F',h1,h2,h3,h4,h5,h6,h7,h8,h9⟩=>?_
 refine ⟨v2,S',ι',F',h1,h2,h3,h4,by simpa using h6,fun id hid b hb=>?_,by simpa using h8,?_⟩
 ·obtain ⟨q1,q2,q3⟩:=h7 id (by simpa using hid) b hb
  refine ⟨?_,q2,q3⟩
  rcases q1 with ⟨i,hi,_⟩|q1
  ·simp at hi
  ·exact q1
 ·have:(fun b=>∃i,i<([]:List AObj).length∧b∈((fun _=>[]):Nat→List Nat) i)=fun _=>False:=by
   funext b;simp
  rw [this] at h9;exact h9
end
end Go.Abs


namespace Go.Proofs.YtainhhfnnclfiaaGreat
open Go Go.Abs
attribute [local irreducible] WpA WpL Rnd Blk Abs.Seq Abs.Fin Abs.FinG FnC FnG FnX FnP FinX Only
attribute [local irreducible] belowD onceD pickD modeD l8D l8AnyD optD
def seedS (k x:Int):Int:=IntKind.i64.wrap ((BitVec.ofInt IntKind.i64.bits (IntKind.i64.wrap (IntKind.i64.wrap (k*131+IntKind.i64.wrap x)+7)) &&& BitVec.ofInt IntKind.i64.bits 1073741823).toNat:Nat)
def seedD (l:List Int) (i:Nat):Int:=(l.take i).foldl seedS (10101+l.length)
theorem and30 (y:Int):0≤IntKind.i64.wrap ((BitVec.ofInt IntKind.i64.bits y &&& BitVec.ofInt IntKind.i64.bits 1073741823).toNat:Nat)∧IntKind.i64.wrap ((BitVec.ofInt IntKind.i64.bits y &&& BitVec.ofInt IntKind.i64.bits 1073741823).toNat:Nat)≤1073741823:=by
 have h:(BitVec.ofInt IntKind.i64.bits y &&& BitVec.ofInt IntKind.i64.bits 1073741823).toNat≤1073741823:=by
  rw [BitVec.toNat_and]
  exact Nat.le_trans Nat.and_le_right (by decide)
 rw [IntWalk.i64_in _ (by omega)]
 omega
theorem seedD_succ {l:List Int} {i:Nat} (h:i<l.length):seedD l (i+1)=seedS (seedD l i) (l.getD i 0):=by
 unfold seedD;rw [List.take_succ_eq_append_getElem h,List.foldl_append];simp [h]
theorem seedD_bd {l:List Int} (hl:l.length≤1048576):∀i,0≤seedD l i∧seedD l i≤1073741823
 |0=>by simp [seedD];omega
 |i+1=>by
  by_cases h:i<l.length
  ·rw [seedD_succ h];exact and30 _
  ·have e:seedD l (i+1)=seedD l i:=by unfold seedD;rw [List.take_of_length_le (by omega),List.take_of_length_le (by omega)]
   rw [e];exact seedD_bd hl i
abbrev newD (l:List Int):Cr:=(0,seedD l (min l.length 4000))
theorem pin_slice {G:Ctx} {v:Value} {l:List Int} (hp:Pin G [v] [CodA l]):∃p q r,v=.slice p q r:=by
 obtain ⟨a,c,e⟩:=(LRel.slice_len hp.rel).2.1 _ _ _ rfl
 exact ⟨_,_,_,e⟩
section
attribute [local irreducible] IntKind.wrap
theorem l1New_p (v:Value) (l:List Int) (hl:l.length≤1048576):FnP Tryz.prog 58 [.sc v] [] [v] [CodA l] [] [CurO v (newD l)] (.ptr 0 0 0):=by
 refine FnP.of_new (t:=2) tabOk Tryz.func58 Tryz.ntmps58 rfl (by decide +kernel) (by simp) rfl rfl rfl fun G hp=>?_
 refine go (r:=?_);and_intros<;>intros<;>try exact True.intro
 refine WpL.pin (d:=5) hp rfl ?_
 refine go (r:=?_);and_intros<;>intros<;>try exact True.intro
 refine WpA.loop (fun i:Nat=>⟨[(0,.sc v),(3,I (seedD l i)),(4,I i)],[]⟩) (fun i=>i≤min l.length 4000) (fun i=>min l.length 4000-i) 0 (Nat.zero_le _) (go (r:=?_)) (fun i hi=>?_)
 ·exact trivial
 ·have hb:=seedD_bd hl i
  have hs:=fun h=>seedD_succ (l:=l) (i:=i) h
  unfold seedS at hs
  refine go (r:=?_);and_intros<;>intros<;>try exact True.intro
  refine WpL.pin (d:=9) hp rfl ?_
  refine go (r:=?_);and_intros<;>intros<;>try exact True.intro
  ·refine WpL.pin (d:=20) hp rfl ?_
   have hs:=hs (by omega)
   refine go (r:=?_);and_intros<;>intros<;>try exact True.intro
   all_goals first|exact hs.symm
  all_goals obtain ⟨p,q,r,rfl⟩:=pin_slice hp
  ·have e:i=min l.length 4000:=by omega
   subst e
   refine go (r:=?_);and_intros<;>intros<;>try exact True.intro
   exact ⟨_,_,_,rfl,rfl,rfl,rfl,rfl,.inl rfl⟩
  ·have e:i=min l.length 4000:=by omega
   subst e
   refine go (r:=?_);and_intros<;>intros<;>try exact True.intro
   exact ⟨_,_,_,rfl,rfl,rfl,rfl,rfl,.inl rfl⟩
end
def anyD (l:List Int) (c:Cr):Cr×Op6:=
 let o:=optD l c
 let s:=belowD l o.1 14
 if s.2=0 then
  let p:=pickD l s.1 [-1,52]
  (p.1,{o.2 with q:=p.2})
 else if s.2=1 then
  let y:=l8AnyD l s.1
  (y.1,{o.2 with lens:=y.2})
 else (s.1,o.2)
end Go.Proofs.YtainhhfnnclfiaaGreat


namespace Go.Proofs.YtainhhfnnclfiaaGreat
open Go Go.Abs
attribute [local irreducible] WpA WpL Rnd Blk Abs.Seq Abs.Fin Abs.FinG FnC FnG FnX FnP FinX Only
attribute [local irreducible] belowD onceD pickD modeD l8D l8AnyD optD anyD seedD
theorem newD_ok {l:List Int} (hl:l.length≤1048576):CrOk l (newD l):=⟨hl,Int.le_refl 0,by show (0:Int)≤_;omega⟩
end Go.Proofs.YtainhhfnnclfiaaGreat


namespace Go.Proofs.YtainhhfnnclfiaaGreat
open Go Go.Abs
def part (f:Nat→Int) (N j:Nat) (v:Int):List Int:=(List.range N).map fun q=>if q<j then f q else if q=j then v else 0
def tabL (f:Nat→Int) (N:Nat):List Int:=(List.range N).map f
theorem part_len (f:Nat→Int) (N j:Nat) (v:Int):(part f N j v).length=N:=by simp [part]
theorem tabL_len (f:Nat→Int) (N:Nat):(tabL f N).length=N:=by simp [tabL]
theorem map_getD {f:Nat→Int} {N j:Nat} (h:j<N):((List.range N).map f).getD j 0=f j:=by
 simp only [List.getD_eq_getElem?_getD,List.getElem?_map,List.getElem?_range h,Option.map_some,Option.getD_some]
theorem part_get {f:Nat→Int} {N j:Nat} {v:Int} (h:j<N):(part f N j v).getD j 0=v:=by
 unfold part;rw [map_getD h,if_neg (by omega),if_pos rfl]
theorem tabL_get {f:Nat→Int} {N j:Nat} (h:j<N):(tabL f N).getD j 0=f j:=map_getD h
theorem list_ext {xs ys:List Int} {N:Nat} (h1:xs.length=N) (h2:ys.length=N) (h:∀j,j<N→xs.getD j 0=ys.getD j 0):xs=ys:=
 eq_all 0 (by omega) (fun j hj=>h j (by omega))
theorem getD_set2 {c:List Int} {i j:Nat} {v:Int} (h:i<c.length):(c.set i v).getD j 0=if j=i then v else c.getD j 0:=by
 rw [List.getD_eq_getElem?_getD,List.getElem?_set]
 by_cases e:i=j
 ·subst e;simp [h]
 ·have:¬j=i:=fun h=>e h.symm
  simp [e,this]
theorem part_set {f:Nat→Int} {N j:Nat} {v u:Int} (h:j<N):(part f N j v).set j u=part f N j u:=by
 refine list_ext (N:=N) (by simp [part]) (part_len _ _ _ _) fun q hq=>?_
 rw [getD_set2 (by rw [part_len];exact h)]
 unfold part
 rw [map_getD hq,map_getD hq]
 by_cases e:q=j
 ·rw [if_pos e,if_neg (by omega),if_pos e]
 ·rw [if_neg e,if_neg e,if_neg e]
theorem part_next {f:Nat→Int} {N j:Nat} {v:Int} (h:v=f j):part f N j v=part f N (j+1) 0:=by
 refine list_ext (N:=N) (part_len _ _ _ _) (part_len _ _ _ _) fun q hq=>?_
 unfold part
 rw [map_getD hq,map_getD hq]
 by_cases e:q<j
 ·rw [if_pos e,if_pos (by omega)]
 ·by_cases e2:q=j
  ·rw [if_neg e,if_pos e2,if_pos (by omega),h,e2]
  ·rw [if_neg e,if_neg e2,if_neg (by omega)];split<;>rfl
theorem part_zero (f:Nat→Int) (N:Nat):part f N 0 0=List.replicate N 0:=by
 refine list_ext (N:=N) (part_len _ _ _ _) (by simp) fun q hq=>?_
 unfold part
 rw [map_getD hq,if_neg (by omega)]
 simp [hq]
theorem part_all (f:Nat→Int) (N:Nat) (v:Int):part f N N v=tabL f N:=by
 refine list_ext (N:=N) (part_len _ _ _ _) (tabL_len _ _) fun q hq=>?_
 unfold part
 rw [map_getD hq,tabL_get hq,if_pos hq]
def sumF (f:Nat→Int):Nat→Int
 |0=>0
 |k+1=>sumF f k+f k
theorem sumF_bd {f:Nat→Int} {c:Int} (hc:0≤c):∀k,(∀ i,i<k→-c≤f i∧f i≤c)→-(k*c)≤sumF f k∧sumF f k≤k*c
 |0,h=>by simp [sumF]
 |k+1,h=>by
  have h1:=sumF_bd hc k (fun i hi=>h i (by omega))
  have h2:=h k (by omega)
  have e:((k+1:Nat):Int)*c=k*c+c:=by rw [Int.natCast_add,Int.add_mul];simp
  rw [sumF,e];omega
theorem mul2 {a b c:Int} (ha:a=-2∨a=-1∨a=0∨a=1∨a=2) (hb:-c≤b∧b≤c) (hc:0≤c):-(2*c)≤a*b∧a*b≤2*c:=by
 rcases ha with rfl|rfl|rfl|rfl|rfl<;>omega
def A4:List (List Int):=[[1,1,1,1],[2,1,-1,-2],[1,-1,-1,1],[1,-2,2,-1]]
def par (b:Nat):Int:=if (b%2+b/2%2+b/4%2)%2=0 then 1 else -1
def mx (n r i:Nat):Int:=if n=4 then (A4.getD r []).getD i 0 else par (r &&& i)
theorem mx_val (n r i:Nat):mx n r i=-2∨mx n r i=-1∨mx n r i=0∨mx n r i=1∨mx n r i=2:=by
 unfold mx
 split
 ·rcases Nat.lt_or_ge r 4 with h|h
  ·rcases Nat.lt_or_ge i 4 with h2|h2
   ·have key:∀r i:Fin 4,(A4.getD r.val []).getD i.val 0=-2∨(A4.getD r.val []).getD i.val 0=-1∨(A4.getD r.val []).getD i.val 0=0∨(A4.getD r.val []).getD i.val 0=1∨(A4.getD r.val []).getD i.val 0=2:=by decide
    exact key ⟨r,h⟩ ⟨i,h2⟩
   ·have key:∀r:Fin 4,(A4.getD r.val []).length=4:=by decide
    have:=key ⟨r,h⟩
    right;right;left
    rw [List.getD_eq_getElem?_getD,List.getElem?_eq_none (by simp only at this;omega)];rfl
  ·right;right;left
   have:A4.getD r []=[]:=by rw [List.getD_eq_getElem?_getD,List.getElem?_eq_none (by show 4≤r;exact h)];rfl
   rw [this];rfl
 ·unfold par;split<;>omega
theorem andw (p q:Nat) (h:p<2 ^ 62) (h2:q<2 ^ 62):IntKind.i64.wrap ((BitVec.ofInt IntKind.i64.bits (p:Int) &&& BitVec.ofInt IntKind.i64.bits (q:Int)).toNat:Nat)=((p &&& q:Nat):Int):=by
 have e1:(BitVec.ofInt IntKind.i64.bits (p:Int)).toNat=p:=by simp only [IntKind.bits,BitVec.toNat_ofInt];omega
 have e2:(BitVec.ofInt IntKind.i64.bits (q:Int)).toNat=q:=by simp only [IntKind.bits,BitVec.toNat_ofInt];omega
 rw [BitVec.toNat_and,e1,e2]
 have:=Nat.and_le_left (n:=p) (m:=q)
 exact wrap64 _ (by omega)
def mg (n:Nat) (back:Bool) (r i:Nat):Int:=if back then mx n i r else mx n r i
def halfM (n:Nat) (g:Nat→Nat→Int) (l:List Int) (r k:Nat):Int:=sumF (fun i=>g r i*l.getD (i*n+k) 0) n
def fullM (n:Nat) (g:Nat→Nat→Int) (l:List Int) (r k:Nat):Int:=sumF (fun i=>halfM n g l r i*g k i) n
def mulM (n:Nat) (g:Nat→Nat→Int) (l:List Int):List Int:=tabL (fun q=>fullM n g l (q/n) (q%n)) (n*n)
theorem in_getZ {l:List Int} {c:Int} (h:In l (-c) c) (hc:0≤c) (k:Nat):-c≤l.getD k 0∧l.getD k 0≤c:=by
 rcases Nat.lt_or_ge k l.length with h1|h1
 ·exact in_get h h1
 ·rw [List.getD_eq_getElem?_getD,List.getElem?_eq_none h1,Option.getD_none];omega
theorem half_bd {n:Nat} {g:Nat→Nat→Int} {l:List Int} {c:Int} (hg:∀r i,g r i=-2∨g r i=-1∨g r i=0∨g r i=1∨g r i=2) (h:In l (-c) c) (hc:0≤c) (r k i:Nat):
 -(i*(2*c))≤sumF (fun i=>g r i*l.getD (i*n+k) 0) i∧sumF (fun i=>g r i*l.getD (i*n+k) 0) i≤i*(2*c):=
 sumF_bd (by omega) i fun j _=>mul2 (hg r j) (in_getZ h hc _) hc
end Go.Proofs.YtainhhfnnclfiaaGreat


namespace Go.Proofs.YtainhhfnnclfiaaGreat
open Go Go.Abs
attribute [local irreducible] WpA WpL Rnd Blk Abs.Seq Abs.Fin Abs.FinG FnC FnG Only
theorem tabL_snoc (f:Nat→Int) (k:Nat):tabL f (k+1)=tabL f k++[f k]:=by simp [tabL,List.range_succ]
def H8:List (List Int):=(List.range 8).map fun r=>tabL (mx 8 r) 8
instance matrixA_c:Con 253 (Fn 253 [] [⟨rows liF A4,0,1,some 32⟩] (.own 0 0 0 4)):=⟨by
 refine FnC.of_body tabOk Tryz.func253 Tryz.ntmps253 rfl (by decide +kernel) (by simp) fun G=>?_
 refine go (r:=?_);and_intros<;>intros<;>try exact True.intro
 all_goals rfl⟩
end Go.Proofs.YtainhhfnnclfiaaGreat


namespace Go.Proofs.YtainhhfnnclfiaaGreat
open Go Go.Abs
abbrev XD (l:List Int):AObj:=⟨ints l,1,1,some 3⟩
end Go.Proofs.YtainhhfnnclfiaaGreat
