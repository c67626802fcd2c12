/- Proved in this text: lemmas and contracts of functions that the claim uses (parts: Db, Dm, AbsPc, Da). No condition. -/
import Derived.Test.YtndflfipaddfoaaGreatCtM15
import Derived.Test.YtndflfipaddfoaaGreatCtM13
import Derived.Test.YtndflfipaddfoaaGreatCtM10
import Derived.Test.YtndflfipaddfoaaGreatCtM14
import Derived.Test.YtndflfipaddfoaaGreatCtM5
set_option linter.unusedVariables false
set_option linter.unusedSimpArgs false
set_option maxRecDepth 100000
set_option maxHeartbeats 16000000


namespace Go.Proofs.YtndflfipaddfoaaGreat
open Go Go.Abs
attribute [local irreducible] WpA WpL Rnd Blk Abs.Seq Abs.Fin Abs.FinG FnC FnG FnX FnP FinX Only
attribute [local irreducible] belowD onceD pickD modeD l8D l8AnyD optD anyD seedD headD headAnyD symL HasC
theorem split04 {Ov:List AObj} {x y:AObj} (h0:Ov[0]?=some x) (h:Ov[4]?=some y):∃a b c R,Ov=x::a::b::c::y::R:=by
 match Ov,h0,h with
 |x'::a::b::c::y'::R,h0,h=>simp at h0 h;exact ⟨a,b,c,R,by rw [h0,h]⟩
 |[],h0,h=>simp at h
 |[_],h0,h=>simp at h
 |[_,_],h0,h=>simp at h
 |[_,_,_],h0,h=>simp at h
 |[_,_,_,_],h0,h=>simp at h
theorem split05 {Ov:List AObj} {x y:AObj} (h0:Ov[0]?=some x) (h:Ov[5]?=some y):∃a b c d R,Ov=x::a::b::c::d::y::R:=by
 match Ov,h0,h with
 |x'::a::b::c::d::y'::R,h0,h=>simp at h0 h;exact ⟨a,b,c,d,R,by rw [h0,h]⟩
 |[],h0,h=>simp at h
 |[_],h0,h=>simp at h
 |[_,_],h0,h=>simp at h
 |[_,_,_],h0,h=>simp at h
 |[_,_,_,_],h0,h=>simp at h
 |[_,_,_,_,_],h0,h=>simp at h
theorem dvS_eq {l:List Int} {n:Int} {s:Cr×List Int}:dvS l n s=((pickD l (belowD l (pickD l (belowD l s.1 (n*n)).1 (ixs n (belowD l s.1 (n*n)).2)).1 400).1 (lvs (belowD l (pickD l (belowD l s.1 (n*n)).1 (ixs n (belowD l s.1 (n*n)).2)).1 400).2)).1,
 s.2.set (pickD l (belowD l s.1 (n*n)).1 (ixs n (belowD l s.1 (n*n)).2)).2.toNat (pickD l (belowD l (pickD l (belowD l s.1 (n*n)).1 (ixs n (belowD l s.1 (n*n)).2)).1 400).1 (lvs (belowD l (pickD l (belowD l s.1 (n*n)).1 (ixs n (belowD l s.1 (n*n)).2)).1 400).2)).2):=rfl
abbrev eB (l:List Int) (n:Int) (c:Cr):Cr×Int:=belowD l c (n*n)
abbrev eI (l:List Int) (n:Int) (c:Cr):Cr×Int:=pickD l (eB l n c).1 (ixs n (eB l n c).2)
abbrev eQ (l:List Int) (n:Int) (c:Cr):Cr×Int:=belowD l (eI l n c).1 400
abbrev eW (l:List Int) (n:Int) (c:Cr):Cr×Int:=pickD l (eQ l n c).1 (lvs (eQ l n c).2)
theorem zk0 {X:Prop} (h:X:=by exact Weak.mk (by repeat (first|exact ReT.nil|refine ReT.cons (.keep rfl rfl .nil) ?_|refine ReT.cons (.own rfl rfl rfl rfl rfl rfl .nil) ?_|refine ReT.cons (.ptr rfl rfl rfl rfl .nil) ?_|refine ReT.cons (.keep (congrArg (fun z=>AV.sc (Value.int .i64 z)) (by first|omega|(skip))) rfl .nil) ?_|refine ReT.cons (.keep (congrArg (fun z:List UInt8=>AV.sc (Value.string ⟨z.toArray⟩)) (by skip)) rfl .nil) ?_|refine ReT.cons (.own rfl rfl rfl rfl rfl (by first|omega|(simp;done)|(simp;omega)) .nil) ?_)) (by repeat (first|exact ReO.nil|refine ReO.cons (Re.same rfl rfl) (.inr rfl) ?_|refine ReO.cons (Re.same rfl (still_ints _)) (.inr rfl) ?_|refine ReO.cons (.keep rfl rfl (.own rfl rfl rfl rfl rfl rfl .nil)) (.inr rfl) ?_)) (Nat.le_of_ble_eq_true rfl)):X:=h
instance l23Block_p:ConP 125 (∀ (v:Value) (l:List Int) (c:Cr) (lens:List Int) (n:Int),CrOk l c∧(n=4∨n=8)∧lens.length≤1099511627776→Pn 125 v l c [IL lens,I n] (blkD l lens n c).1 [XI (blkD l lens n c).2.2] (.agg [I (blkD l lens n c).2.1,.own 1 0 0 (blkD l lens n c).2.2.length])):=⟨fun v l c lens n hh=>by
 have h:=hh.1
 have hn:=hh.2.1
 have hlens:=hh.2.2
 have hnn:n*n=16∨n*n=64:=by rcases hn with rfl|rfl<;>decide
 have hn8:0≤n∧n≤8:=by omega
 have hmul:=mul_in (a:=n) (b:=n) (by omega) (by omega)
 have hsp:=fun m=>symL_pos lens m
 have hs7:=fun m=>symL_len7 lens m
 have hA:=bmA_ok (lens:=lens) 8 true (s:=(c,0)) h ⟨Int.le_refl 0,by show (0:Int)≤5;omega⟩
 have hM:=blkM_ok (lens:=lens) h
 have hb5:=belowD_ok 5 hM
 have hb50:=hb5.2.1
 have hb51:=hb5.2.2.1 (by decide)
 have hMc1:=hM.2.1
 have hMc2:=hM.2.2
 unfold blkD
 generalize hL:dvK l n _ _=L
 generalize hBM:(blkM l lens c).2=BM
 have hBM1:(blkM l lens c).1=(bmA l lens 8 true (c,0)).1:=rfl
 have hBM2:BM=bmC lens (bmB lens (6-(bmA l lens 8 true (c,0)).2).toNat (bmA l lens 8 true (c,0)).2):=hBM.symm
 rw [hBM1] at hL hb5 hb50 hb51 hMc1 hMc2
 generalize hS:bmA l lens 8 true (c,0)=S at*
 refine FnP.of_body tabOk Tryz.func125 Tryz.ntmps125 rfl (by decide +kernel) (by simp) rfl rfl rfl fun G hp=>?_
 refine go (r:=?_);and_intros<;>intros<;>try exact True.intro
 refine WpA.loop (fun x:Nat×Cr×Int=>⟨[(0,.ptr 0 0 0),(1,IL lens),(2,I n),(6,.ptr 1 0 0),(7,.ptr 3 0 0),(8,I x.1)],[CurO v x.2.1,⟨[I 0,.nilS],0,0,none⟩,XI (List.replicate (n*n).toNat 0),⟨[I x.2.2,.own 2 0 0 (n*n).toNat],0,0,none⟩]⟩) (fun x=>x.1≤8∧CrOk l x.2.1∧bmA l lens (8-x.1) (decide (x.1=0)) x.2=S) (fun x=>8-x.1) (0,c,0) ⟨Nat.zero_le _,h,hS⟩ (go (r:=?_)) ?_
 ·and_intros<;>first|exact True.intro|rfl
 rintro ⟨k,c1,m1⟩ ⟨hk,hc1,hK⟩
 simp only at hk hc1 hK ⊢
 have hb6:=belowD_ok 6 hc1
 have hc11:=hc1.2.1
 have hc12:=hc1.2.2
 have hsp1:=hsp m1
 have hs71:=hs7 m1
 by_cases hgg:k<8∧(k=0∨¬HasC lens m1)
 ·obtain ⟨hk8,hgg⟩:=hgg
  have hE:bmA l lens (8-(k+1)) (decide (k+1=0)) (belowD l c1 6)=S:=by
   rw [show 8-k=(8-(k+1))+1 by omega,bmA_go (hgg.imp (fun h0=>by simp [h0]) id)] at hK
   rw [show decide (k+1=0)=false by simp];exact hK
  by_cases hk0:k=0
  ·subst hk0
   refine go (r:=?_);and_intros<;>intros<;>try exact True.intro
   all_goals first|contradiction|omega|skip
   refine Rnd.go (0+1,(belowD l c1 6).1,(belowD l c1 6).2) ⟨by omega,hb6.1,hE⟩ ?_ ?_
   ·show 8-(0+1)<8-0;omega
   ·exact zk0
  ·have hnh:=hgg.resolve_left hk0
   have hzero:(symL lens m1).length=0:=Nat.eq_zero_of_not_pos fun h0=>hnh (hsp1.1 h0)
   refine go (r:=?_);and_intros<;>intros<;>try exact True.intro
   all_goals first|contradiction|omega|skip
   refine Rnd.go (k+1,(belowD l c1 6).1,(belowD l c1 6).2) ⟨by omega,hb6.1,hE⟩ ?_ ?_
   ·show 8-(k+1)<8-k;omega
   ·exact zk0
 ·have hSe:(c1,m1)=S:=by
   by_cases hk8:k=8
   ·subst hk8;exact hK
   ·have h2:k≠0∧HasC lens m1:=by
     constructor
     ·rintro rfl;exact hgg ⟨by omega,.inl rfl⟩
     ·exact Decidable.byContradiction fun h0=>hgg ⟨by omega,.inr h0⟩
    rw [show decide (k=0)=false by simp [h2.1],bmA_stop h2.2] at hK
    exact hK
  have hcase:k=8∨(k<8∧k≠0∧0<(symL lens m1).length):=by
   by_cases hk8:k=8
   ·exact .inl hk8
   ·refine .inr ⟨by omega,fun h0=>hgg ⟨by omega,.inl h0⟩,hsp1.2 (Decidable.byContradiction fun h0=>hgg ⟨by omega,.inr h0⟩)⟩
  clear hgg hK
  subst hSe
  try simp only at hBM2 hA hMc1 hMc2 hL hb5 hb50 hb51
  have hb5c:0≤c1.1∧c1.1≤(l.length:Int):=⟨hc11,hc12⟩
  generalize hS2:bmB lens (6-m1).toNat m1=S2 at hBM2
  rcases hcase with hk8|⟨hk8,hk0,hpos1⟩
  ·refine go (r:=?_);and_intros<;>intros<;>try exact True.intro
   all_goals first|contradiction|omega|skip
   refine WpL.openAny (t:=20) rfl (fun v0=>?_)
   by_cases hv:v0=.bool false
   ·subst hv
    refine go (r:=?_);and_intros<;>intros<;>try exact True.intro
    all_goals first|contradiction|omega|skip
    refine WpA.loop (fun m:Int=>⟨[(0,.ptr 0 0 0),(1,IL lens),(2,I n),(6,.ptr 1 0 0),(7,.ptr 3 0 0)],[CurO v c1,⟨[I 0,.nilS],0,0,none⟩,XI (List.replicate (n*n).toNat 0),⟨[I m,.own 2 0 0 (n*n).toNat],0,0,none⟩]⟩) (fun m=>0≤m∧m≤6∧bmB lens (6-m).toNat m=S2) (fun m=>(6-m).toNat) m1 ⟨hA.2.1,by omega,hS2⟩ ?_ ?_
    ·exact zk0
    rintro m ⟨hm0,hm6,hmB⟩
    try simp only at hm0 hm6 hmB ⊢
    have hspm:=hsp m
    have hs7m:=hs7 m
    by_cases hmm:HasC lens m∨¬m<6
    ·rw [bmB_stop hmm] at hmB
     subst hmB
     by_cases hh2:HasC lens m
     ·have hpos:=hspm.2 hh2
      have hbc:bmC lens m=m:=by unfold bmC;rw [if_pos hh2]
      rw [hbc] at hBM2
      refine go (r:=?_);and_intros<;>intros<;>try exact True.intro
      all_goals first|contradiction|omega|exact hb5c.1|exact hb5c.2|skip
      subst hBM2
      refine WpA.loop (fun x:Nat×Cr×List Int=>⟨[(0,.ptr 0 0 0),(2,I n),(6,.ptr 1 0 0),(7,.ptr 3 0 0),(9,I x.1)],[CurO v x.2.1,⟨[I 0,.nilS],0,0,none⟩,XI x.2.2,⟨[I BM,.own 2 0 0 x.2.2.length],0,0,none⟩]⟩) (fun x=>CrOk l x.2.1∧x.2.2.length=(n*n).toNat∧dvK l n x.1 x.2=L∧x.1≤4) (fun x=>x.1) ((belowD l c1 5).2.toNat,(belowD l c1 5).1,List.replicate (n*n).toNat 0) ⟨hb5.1,by simp,hL,by simp only;omega⟩ ?_ ?_
      ·have ez:(((belowD l c1 5).2.toNat:Nat):Int)=(belowD l c1 5).2:=by omega
       simp only [ez,List.length_replicate]
       exact zk0
      rintro ⟨k3,c3,xs⟩ ⟨hc3,hxl,hL3,hk4⟩
      try simp only at hc3 hxl hL3 hk4 ⊢
      by_cases hk3:k3=0
      ·subst hk3
       have hLe:(c3,xs)=L:=hL3
       subst hLe
       refine go (r:=?_);and_intros<;>intros<;>try exact True.intro
       all_goals trace_state
      ·have hE:dvK l n (k3-1) (dvS l n (c3,xs))=L:=by
        obtain ⟨j,rfl⟩:∃j,k3=j+1:=⟨k3-1,by omega⟩
        exact hL3
       have hfacts:=dvS_facts (s:=(c3,xs)) hn hc3
       rw [dvS_eq] at hE hfacts
       obtain ⟨f1,f2,⟨f3,f4⟩,f5,f6,f7⟩:=hfacts
       have f3':0≤(eI l n c3).2:=f3
       have f4':(eI l n c3).2<n*n:=f4
       have hq4:=belowD_ok 400 f2
       have hq40:0≤(eQ l n c3).2:=hq4.2.1
       have hq41:(eQ l n c3).2<400:=hq4.2.2.1 (by decide)
       refine goR (r:=?_);and_intros<;>intros<;>try exact True.intro
       all_goals first|contradiction|omega|skip
       apply WpA.regionSF (O:=[]) (Or:=[CurO v c3,⟨[I 0,.nilS],0,0,none⟩,XI xs,⟨[I BM,.own 2 0 0 xs.length],0,0,none⟩]) (O1:=[CurO v (eW l n c3).1,⟨[I 0,.nilS],0,0,none⟩,XI xs,⟨[I BM,.own 2 0 0 xs.length],0,0,none⟩,⟨ints (ixs n (eB l n c3).2),1,1,some 3⟩,⟨ints (lvs (eQ l n c3).2),1,1,some 3⟩,deadO,deadO]) 20 2 [3] [0] rfl mixed (by decide +kernel)
       ·exact rfl
       ·apply HeadS.consF .none rfl
        ·exact rfl
        ·exact rfl
        ·intro Tv Ov hc hp' hd hk
         obtain ⟨x0,x1,x2,R,rfl⟩:=Abs.split4 (hk 3 rfl)
         exact in1
        ·exact rfl
        ·exact rfl
        apply HeadS.consF .none rfl
        ·exact rfl
        ·exact rfl
        ·intro Tv Ov hc hp' hd hk
         obtain ⟨x0,x1,x2,R,rfl⟩:=Abs.split4 (hk 3 rfl)
         exact in1
        ·exact rfl
        ·exact rfl
        apply HeadS.consF .none rfl
        ·exact rfl
        ·exact rfl
        ·exact in1
        ·exact rfl
        ·exact rfl
        apply HeadS.consF .none rfl
        ·exact rfl
        ·exact rfl
        ·exact in1
        ·exact rfl
        ·exact rfl
        apply HeadS.consF .none rfl
        ·exact rfl
        ·exact rfl
        ·exact in1
        ·exact rfl
        ·exact rfl
        apply HeadS.consF .none rfl
        ·exact rfl
        ·exact rfl
        ·exact in1
        ·exact rfl
        ·exact rfl
        apply HeadS.consF .none rfl
        ·exact rfl
        ·exact rfl
        ·exact in1
        ·exact rfl
        ·exact rfl
        apply HeadS.consF .none rfl
        ·exact rfl
        ·exact rfl
        ·exact in1
        ·exact rfl
        ·exact rfl
        apply HeadS.consF .none rfl
        ·exact rfl
        ·exact rfl
        ·exact in1
        ·exact rfl
        ·exact rfl
        apply HeadS.consF .none rfl
        ·exact rfl
        ·exact rfl
        ·exact in1
        ·exact rfl
        ·exact rfl
        apply HeadS.consF .none rfl
        ·exact rfl
        ·exact rfl
        ·exact in1
        ·exact rfl
        ·exact rfl
        apply HeadS.consF (V:=I (eB l n c3).2) (.step 0 (CurO v (eB l n c3).1)) rfl
        ·exact rfl
        ·exact rfl
        ·intro Tv Ov hc hp' hd hk
         obtain ⟨R,rfl⟩:=split1 (hp' 0 _ rfl)
         refine K.call ?_
         refine K.conP (fun hcon=>?_)
         refine WpL.callP1 (hcon v l c3 (n*n) hc3) hp handA handOA rfl (.cons rfl (.sc (.sc (.sc .nil))) .nil) (by decide) ?_
         exact WpL.nil (Only.mk rfl)
        ·exact rfl
        ·exact rfl
        apply HeadS.consF (V:=.own 4 1 0 6) (.put 4 (⟨ints (ixs n (eB l n c3).2),1,1,some 3⟩)) rfl
        ·exact rfl
        ·exact rfl
        ·intro Tv Ov hc hp' hd hk
         refine WpL.litInts tabOk rfl rfl rfl rfl rfl (by decide) (by rw [nid_len,Nat.zero_add]) (by decide) ?_
         apply WpL.putNil (p:=4)
         ·exact hp' 4 _ rfl
         ·exact Nat.le_of_ble_eq_true rfl
         ·exact rfl
         ·first|exact still_ints _|exact still_rows (fun _=>rfl) _|rfl
        ·exact rfl
        ·exact rfl
        apply HeadS.consF (V:=I (eI l n c3).2) (.step 0 (CurO v (eI l n c3).1)) rfl
        ·exact rfl
        ·exact rfl
        ·intro Tv Ov hc hp' hd hk
         obtain ⟨a1,a2,a3,R,rfl⟩:=split04 (hp' 0 _ rfl) (hd 12 _ 4 _ (by decide) rfl rfl rfl)
         refine K.call ?_
         refine K.conP (fun hcon=>?_)
         refine WpL.callP1 (hcon v l (eB l n c3).1 (ixs n (eB l n c3).2) ⟨f1,by simp,by simp⟩) hp handA handOA rfl (.cons rfl (.sc (.sc (.sc .nil))) .nil) (by decide) ?_
         exact WpL.nil (Only.mk rfl)
        ·exact rfl
        ·exact rfl
        apply HeadS.consF .none rfl
        ·exact rfl
        ·exact rfl
        ·exact in1
        ·exact rfl
        ·exact rfl
        apply HeadS.consF .none rfl
        ·exact rfl
        ·exact rfl
        ·exact in1
        ·exact rfl
        ·exact rfl
        apply HeadS.consF (V:=I (eQ l n c3).2) (.step 0 (CurO v (eQ l n c3).1)) rfl
        ·exact rfl
        ·exact rfl
        ·intro Tv Ov hc hp' hd hk
         obtain ⟨R,rfl⟩:=split1 (hp' 0 _ rfl)
         refine K.call ?_
         refine K.conP (fun hcon=>?_)
         refine WpL.callP1 (hcon v l (eI l n c3).1 400 f2) hp handA handOA rfl (.cons rfl (.sc (.sc (.sc .nil))) .nil) (by decide) ?_
         exact WpL.nil (Only.mk rfl)
        ·exact rfl
        ·exact rfl
        apply HeadS.consF .none rfl
        ·exact rfl
        ·exact rfl
        ·exact in1
        ·exact rfl
        ·exact rfl
        apply HeadS.consF (V:=.own 5 1 0 6) (.put 5 (⟨ints (lvs (eQ l n c3).2),1,1,some 3⟩)) rfl
        ·exact rfl
        ·exact rfl
        ·intro Tv Ov hc hp' hd hk
         refine WpL.litInts tabOk rfl rfl rfl rfl rfl (by decide) (by rw [nid_len,Nat.zero_add]) (by decide) ?_
         apply WpL.putNil (p:=5)
         ·exact hp' 5 _ rfl
         ·exact Nat.le_of_ble_eq_true rfl
         ·exact rfl
         ·first|exact still_ints _|exact still_rows (fun _=>rfl) _|rfl
        ·exact rfl
        ·exact rfl
        apply HeadS.consF (V:=I (eW l n c3).2) (.step 0 (CurO v (eW l n c3).1)) rfl
        ·exact rfl
        ·exact rfl
        ·intro Tv Ov hc hp' hd hk
         obtain ⟨a1,a2,a3,a4,R,rfl⟩:=split05 (hp' 0 _ rfl) (hd 18 _ 5 _ (by decide) rfl rfl rfl)
         refine K.call ?_
         refine K.conP (fun hcon=>?_)
         refine WpL.callP1 (hcon v l (eQ l n c3).1 (lvs (eQ l n c3).2) ⟨f5,by simp,by simp⟩) hp handA handOA rfl (.cons rfl (.sc (.sc (.sc .nil))) .nil) (by decide) ?_
         exact WpL.nil (Only.mk rfl)
        ·exact rfl
        ·exact rfl
        exact HeadS.nil
       ·exact rfl
       ·exact rfl
       ·exact rfl
       ·exact rfl
       ·exact rfl
       ·exact rfl
       ·exact rfl
       refine go (r:=?_);and_intros<;>intros<;>try exact True.intro
       all_goals first|contradiction|omega|skip
       refine Rnd.go (k3-1,(eW l n c3).1,xs.set (eI l n c3).2.toNat (eW l n c3).2) ⟨f6,by rw [List.length_set];exact hxl,hE,by simp only;omega⟩ ?_ ?_
       ·show k3-1<k3;omega
       ·simp only [List.length_set]
        exact zk0
     ·have hzero:(symL lens m).length=0:=Nat.eq_zero_of_not_pos fun h0=>hh2 (hspm.1 h0)
      have hm6b:=hmm.resolve_left hh2
      have hbc:bmC lens m=1:=by unfold bmC;rw [if_neg hh2]
      rw [hbc] at hBM2
      refine go (r:=?_);and_intros<;>intros<;>try exact True.intro
      all_goals first|contradiction|omega|exact hb5c.1|exact hb5c.2|skip
      subst hBM2
      refine WpA.loop (fun x:Nat×Cr×List Int=>⟨[(0,.ptr 0 0 0),(2,I n),(6,.ptr 1 0 0),(7,.ptr 3 0 0),(9,I x.1)],[CurO v x.2.1,⟨[I 0,.nilS],0,0,none⟩,XI x.2.2,⟨[I 1,.own 2 0 0 x.2.2.length],0,0,none⟩]⟩) (fun x=>CrOk l x.2.1∧x.2.2.length=(n*n).toNat∧dvK l n x.1 x.2=L∧x.1≤4) (fun x=>x.1) ((belowD l c1 5).2.toNat,(belowD l c1 5).1,List.replicate (n*n).toNat 0) ⟨hb5.1,by simp,hL,by simp only;omega⟩ ?_ ?_
      ·have ez:(((belowD l c1 5).2.toNat:Nat):Int)=(belowD l c1 5).2:=by omega
       simp only [ez,List.length_replicate]
       exact zk0
      rintro ⟨k3,c3,xs⟩ ⟨hc3,hxl,hL3,hk4⟩
      try simp only at hc3 hxl hL3 hk4 ⊢
      by_cases hk3:k3=0
      ·subst hk3
       have hLe:(c3,xs)=L:=hL3
       subst hLe
       refine go (r:=?_);and_intros<;>intros<;>try exact True.intro
       all_goals trace_state
      ·have hE:dvK l n (k3-1) (dvS l n (c3,xs))=L:=by
        obtain ⟨j,rfl⟩:∃j,k3=j+1:=⟨k3-1,by omega⟩
        exact hL3
       have hfacts:=dvS_facts (s:=(c3,xs)) hn hc3
       rw [dvS_eq] at hE hfacts
       obtain ⟨f1,f2,⟨f3,f4⟩,f5,f6,f7⟩:=hfacts
       have f3':0≤(eI l n c3).2:=f3
       have f4':(eI l n c3).2<n*n:=f4
       have hq4:=belowD_ok 400 f2
       have hq40:0≤(eQ l n c3).2:=hq4.2.1
       have hq41:(eQ l n c3).2<400:=hq4.2.2.1 (by decide)
       refine goR (r:=?_);and_intros<;>intros<;>try exact True.intro
       all_goals first|contradiction|omega|skip
       apply WpA.regionSF (O:=[]) (Or:=[CurO v c3,⟨[I 0,.nilS],0,0,none⟩,XI xs,⟨[I 1,.own 2 0 0 xs.length],0,0,none⟩]) (O1:=[CurO v (eW l n c3).1,⟨[I 0,.nilS],0,0,none⟩,XI xs,⟨[I 1,.own 2 0 0 xs.length],0,0,none⟩,⟨ints (ixs n (eB l n c3).2),1,1,some 3⟩,⟨ints (lvs (eQ l n c3).2),1,1,some 3⟩,deadO,deadO]) 20 2 [3] [0] rfl mixed (by decide +kernel)
       ·exact rfl
       ·apply HeadS.consF .none rfl
        ·exact rfl
        ·exact rfl
        ·intro Tv Ov hc hp' hd hk
         obtain ⟨x0,x1,x2,R,rfl⟩:=Abs.split4 (hk 3 rfl)
         exact in1
        ·exact rfl
        ·exact rfl
        apply HeadS.consF .none rfl
        ·exact rfl
        ·exact rfl
        ·intro Tv Ov hc hp' hd hk
         obtain ⟨x0,x1,x2,R,rfl⟩:=Abs.split4 (hk 3 rfl)
         exact in1
        ·exact rfl
        ·exact rfl
        apply HeadS.consF .none rfl
        ·exact rfl
        ·exact rfl
        ·exact in1
        ·exact rfl
        ·exact rfl
        apply HeadS.consF .none rfl
        ·exact rfl
        ·exact rfl
        ·exact in1
        ·exact rfl
        ·exact rfl
        apply HeadS.consF .none rfl
        ·exact rfl
        ·exact rfl
        ·exact in1
        ·exact rfl
        ·exact rfl
        apply HeadS.consF .none rfl
        ·exact rfl
        ·exact rfl
        ·exact in1
        ·exact rfl
        ·exact rfl
        apply HeadS.consF .none rfl
        ·exact rfl
        ·exact rfl
        ·exact in1
        ·exact rfl
        ·exact rfl
        apply HeadS.consF .none rfl
        ·exact rfl
        ·exact rfl
        ·exact in1
        ·exact rfl
        ·exact rfl
        apply HeadS.consF .none rfl
        ·exact rfl
        ·exact rfl
        ·exact in1
        ·exact rfl
        ·exact rfl
        apply HeadS.consF .none rfl
        ·exact rfl
        ·exact rfl
        ·exact in1
        ·exact rfl
        ·exact rfl
        apply HeadS.consF .none rfl
        ·exact rfl
        ·exact rfl
        ·exact in1
        ·exact rfl
        ·exact rfl
        apply HeadS.consF (V:=I (eB l n c3).2) (.step 0 (CurO v (eB l n c3).1)) rfl
        ·exact rfl
        ·exact rfl
        ·intro Tv Ov hc hp' hd hk
         obtain ⟨R,rfl⟩:=split1 (hp' 0 _ rfl)
         refine K.call ?_
         refine K.conP (fun hcon=>?_)
         refine WpL.callP1 (hcon v l c3 (n*n) hc3) hp handA handOA rfl (.cons rfl (.sc (.sc (.sc .nil))) .nil) (by decide) ?_
         exact WpL.nil (Only.mk rfl)
        ·exact rfl
        ·exact rfl
        apply HeadS.consF (V:=.own 4 1 0 6) (.put 4 (⟨ints (ixs n (eB l n c3).2),1,1,some 3⟩)) rfl
        ·exact rfl
        ·exact rfl
        ·intro Tv Ov hc hp' hd hk
         refine WpL.litInts tabOk rfl rfl rfl rfl rfl (by decide) (by rw [nid_len,Nat.zero_add]) (by decide) ?_
         apply WpL.putNil (p:=4)
         ·exact hp' 4 _ rfl
         ·exact Nat.le_of_ble_eq_true rfl
         ·exact rfl
         ·first|exact still_ints _|exact still_rows (fun _=>rfl) _|rfl
        ·exact rfl
        ·exact rfl
        apply HeadS.consF (V:=I (eI l n c3).2) (.step 0 (CurO v (eI l n c3).1)) rfl
        ·exact rfl
        ·exact rfl
        ·intro Tv Ov hc hp' hd hk
         obtain ⟨a1,a2,a3,R,rfl⟩:=split04 (hp' 0 _ rfl) (hd 12 _ 4 _ (by decide) rfl rfl rfl)
         refine K.call ?_
         refine K.conP (fun hcon=>?_)
         refine WpL.callP1 (hcon v l (eB l n c3).1 (ixs n (eB l n c3).2) ⟨f1,by simp,by simp⟩) hp handA handOA rfl (.cons rfl (.sc (.sc (.sc .nil))) .nil) (by decide) ?_
         exact WpL.nil (Only.mk rfl)
        ·exact rfl
        ·exact rfl
        apply HeadS.consF .none rfl
        ·exact rfl
        ·exact rfl
        ·exact in1
        ·exact rfl
        ·exact rfl
        apply HeadS.consF .none rfl
        ·exact rfl
        ·exact rfl
        ·exact in1
        ·exact rfl
        ·exact rfl
        apply HeadS.consF (V:=I (eQ l n c3).2) (.step 0 (CurO v (eQ l n c3).1)) rfl
        ·exact rfl
        ·exact rfl
        ·intro Tv Ov hc hp' hd hk
         obtain ⟨R,rfl⟩:=split1 (hp' 0 _ rfl)
         refine K.call ?_
         refine K.conP (fun hcon=>?_)
         refine WpL.callP1 (hcon v l (eI l n c3).1 400 f2) hp handA handOA rfl (.cons rfl (.sc (.sc (.sc .nil))) .nil) (by decide) ?_
         exact WpL.nil (Only.mk rfl)
        ·exact rfl
        ·exact rfl
        apply HeadS.consF .none rfl
        ·exact rfl
        ·exact rfl
        ·exact in1
        ·exact rfl
        ·exact rfl
        apply HeadS.consF (V:=.own 5 1 0 6) (.put 5 (⟨ints (lvs (eQ l n c3).2),1,1,some 3⟩)) rfl
        ·exact rfl
        ·exact rfl
        ·intro Tv Ov hc hp' hd hk
         refine WpL.litInts tabOk rfl rfl rfl rfl rfl (by decide) (by rw [nid_len,Nat.zero_add]) (by decide) ?_
         apply WpL.putNil (p:=5)
         ·exact hp' 5 _ rfl
         ·exact Nat.le_of_ble_eq_true rfl
         ·exact rfl
         ·first|exact still_ints _|exact still_rows (fun _=>rfl) _|rfl
        ·exact rfl
        ·exact rfl
        apply HeadS.consF (V:=I (eW l n c3).2) (.step 0 (CurO v (eW l n c3).1)) rfl
        ·exact rfl
        ·exact rfl
        ·intro Tv Ov hc hp' hd hk
         obtain ⟨a1,a2,a3,a4,R,rfl⟩:=split05 (hp' 0 _ rfl) (hd 18 _ 5 _ (by decide) rfl rfl rfl)
         refine K.call ?_
         refine K.conP (fun hcon=>?_)
         refine WpL.callP1 (hcon v l (eQ l n c3).1 (lvs (eQ l n c3).2) ⟨f5,by simp,by simp⟩) hp handA handOA rfl (.cons rfl (.sc (.sc (.sc .nil))) .nil) (by decide) ?_
         exact WpL.nil (Only.mk rfl)
        ·exact rfl
        ·exact rfl
        exact HeadS.nil
       ·exact rfl
       ·exact rfl
       ·exact rfl
       ·exact rfl
       ·exact rfl
       ·exact rfl
       ·exact rfl
       refine go (r:=?_);and_intros<;>intros<;>try exact True.intro
       all_goals first|contradiction|omega|skip
       refine Rnd.go (k3-1,(eW l n c3).1,xs.set (eI l n c3).2.toNat (eW l n c3).2) ⟨f6,by rw [List.length_set];exact hxl,hE,by simp only;omega⟩ ?_ ?_
       ·show k3-1<k3;omega
       ·simp only [List.length_set]
        exact zk0
    ·have hh2:¬HasC lens m:=fun h0=>hmm (.inl h0)
     have hm6b:m<6:=Decidable.byContradiction fun h0=>hmm (.inr h0)
     have hzero:(symL lens m).length=0:=Nat.eq_zero_of_not_pos fun h0=>hh2 (hspm.1 h0)
     rw [bmB_go hm6b hh2] at hmB
     refine go (r:=?_);and_intros<;>intros<;>try exact True.intro
     all_goals first|contradiction|omega|skip
     refine Rnd.go (m+1) ⟨by omega,by omega,hmB⟩ ?_ ?_
     ·show (6-(m+1)).toNat<(6-m).toNat;omega
     ·exact zk0
   ·refine WpL.guardV (σ:=⟨_,_⟩) rfl rfl (by decide) rfl hv rfl ?_
    refine WpL.guardV (σ:=⟨_,_⟩) rfl rfl (by decide) rfl hv rfl ?_
    refine WpL.guardV (σ:=⟨_,_⟩) rfl rfl (by decide) rfl hv rfl ?_
    refine WpL.guardV (σ:=⟨_,_⟩) rfl rfl (by decide) rfl hv rfl ?_
    refine WpL.guardV (σ:=⟨_,_⟩) rfl rfl (by decide) rfl hv rfl ?_
    refine WpL.guardV (σ:=⟨_,_⟩) rfl rfl (by decide) rfl hv rfl ?_
    refine go (r:=?_);and_intros<;>intros<;>try exact True.intro
    all_goals first|contradiction|omega|skip
    refine WpA.loop (fun m:Int=>⟨[(0,.ptr 0 0 0),(1,IL lens),(2,I n),(6,.ptr 1 0 0),(7,.ptr 3 0 0)],[CurO v c1,⟨[I 0,.nilS],0,0,none⟩,XI (List.replicate (n*n).toNat 0),⟨[I m,.own 2 0 0 (n*n).toNat],0,0,none⟩]⟩) (fun m=>0≤m∧m≤6∧bmB lens (6-m).toNat m=S2) (fun m=>(6-m).toNat) m1 ⟨hA.2.1,by omega,hS2⟩ ?_ ?_
    ·exact zk0
    rintro m ⟨hm0,hm6,hmB⟩
    try simp only at hm0 hm6 hmB ⊢
    have hspm:=hsp m
    have hs7m:=hs7 m
    by_cases hmm:HasC lens m∨¬m<6
    ·rw [bmB_stop hmm] at hmB
     subst hmB
     by_cases hh2:HasC lens m
     ·have hpos:=hspm.2 hh2
      have hbc:bmC lens m=m:=by unfold bmC;rw [if_pos hh2]
      rw [hbc] at hBM2
      refine go (r:=?_);and_intros<;>intros<;>try exact True.intro
      all_goals first|contradiction|omega|exact hb5c.1|exact hb5c.2|skip
      subst hBM2
      refine WpA.loop (fun x:Nat×Cr×List Int=>⟨[(0,.ptr 0 0 0),(2,I n),(6,.ptr 1 0 0),(7,.ptr 3 0 0),(9,I x.1)],[CurO v x.2.1,⟨[I 0,.nilS],0,0,none⟩,XI x.2.2,⟨[I BM,.own 2 0 0 x.2.2.length],0,0,none⟩]⟩) (fun x=>CrOk l x.2.1∧x.2.2.length=(n*n).toNat∧dvK l n x.1 x.2=L∧x.1≤4) (fun x=>x.1) ((belowD l c1 5).2.toNat,(belowD l c1 5).1,List.replicate (n*n).toNat 0) ⟨hb5.1,by simp,hL,by simp only;omega⟩ ?_ ?_
      ·have ez:(((belowD l c1 5).2.toNat:Nat):Int)=(belowD l c1 5).2:=by omega
       simp only [ez,List.length_replicate]
       exact zk0
      rintro ⟨k3,c3,xs⟩ ⟨hc3,hxl,hL3,hk4⟩
      try simp only at hc3 hxl hL3 hk4 ⊢
      by_cases hk3:k3=0
      ·subst hk3
       have hLe:(c3,xs)=L:=hL3
       subst hLe
       refine go (r:=?_);and_intros<;>intros<;>try exact True.intro
       all_goals trace_state
      ·have hE:dvK l n (k3-1) (dvS l n (c3,xs))=L:=by
        obtain ⟨j,rfl⟩:∃j,k3=j+1:=⟨k3-1,by omega⟩
        exact hL3
       have hfacts:=dvS_facts (s:=(c3,xs)) hn hc3
       rw [dvS_eq] at hE hfacts
       obtain ⟨f1,f2,⟨f3,f4⟩,f5,f6,f7⟩:=hfacts
       have f3':0≤(eI l n c3).2:=f3
       have f4':(eI l n c3).2<n*n:=f4
       have hq4:=belowD_ok 400 f2
       have hq40:0≤(eQ l n c3).2:=hq4.2.1
       have hq41:(eQ l n c3).2<400:=hq4.2.2.1 (by decide)
       refine goR (r:=?_);and_intros<;>intros<;>try exact True.intro
       all_goals first|contradiction|omega|skip
       apply WpA.regionSF (O:=[]) (Or:=[CurO v c3,⟨[I 0,.nilS],0,0,none⟩,XI xs,⟨[I BM,.own 2 0 0 xs.length],0,0,none⟩]) (O1:=[CurO v (eW l n c3).1,⟨[I 0,.nilS],0,0,none⟩,XI xs,⟨[I BM,.own 2 0 0 xs.length],0,0,none⟩,⟨ints (ixs n (eB l n c3).2),1,1,some 3⟩,⟨ints (lvs (eQ l n c3).2),1,1,some 3⟩,deadO,deadO]) 20 2 [3] [0] rfl mixed (by decide +kernel)
       ·exact rfl
       ·apply HeadS.consF .none rfl
        ·exact rfl
        ·exact rfl
        ·intro Tv Ov hc hp' hd hk
         obtain ⟨x0,x1,x2,R,rfl⟩:=Abs.split4 (hk 3 rfl)
         exact in1
        ·exact rfl
        ·exact rfl
        apply HeadS.consF .none rfl
        ·exact rfl
        ·exact rfl
        ·intro Tv Ov hc hp' hd hk
         obtain ⟨x0,x1,x2,R,rfl⟩:=Abs.split4 (hk 3 rfl)
         exact in1
        ·exact rfl
        ·exact rfl
        apply HeadS.consF .none rfl
        ·exact rfl
        ·exact rfl
        ·exact in1
        ·exact rfl
        ·exact rfl
        apply HeadS.consF .none rfl
        ·exact rfl
        ·exact rfl
        ·exact in1
        ·exact rfl
        ·exact rfl
        apply HeadS.consF .none rfl
        ·exact rfl
        ·exact rfl
        ·exact in1
        ·exact rfl
        ·exact rfl
        apply HeadS.consF .none rfl
        ·exact rfl
        ·exact rfl
        ·exact in1
        ·exact rfl
        ·exact rfl
        apply HeadS.consF .none rfl
        ·exact rfl
        ·exact rfl
        ·exact in1
        ·exact rfl
        ·exact rfl
        apply HeadS.consF .none rfl
        ·exact rfl
        ·exact rfl
        ·exact in1
        ·exact rfl
        ·exact rfl
        apply HeadS.consF .none rfl
        ·exact rfl
        ·exact rfl
        ·exact in1
        ·exact rfl
        ·exact rfl
        apply HeadS.consF .none rfl
        ·exact rfl
        ·exact rfl
        ·exact in1
        ·exact rfl
        ·exact rfl
        apply HeadS.consF .none rfl
        ·exact rfl
        ·exact rfl
        ·exact in1
        ·exact rfl
        ·exact rfl
        apply HeadS.consF (V:=I (eB l n c3).2) (.step 0 (CurO v (eB l n c3).1)) rfl
        ·exact rfl
        ·exact rfl
        ·intro Tv Ov hc hp' hd hk
         obtain ⟨R,rfl⟩:=split1 (hp' 0 _ rfl)
         refine K.call ?_
         refine K.conP (fun hcon=>?_)
         refine WpL.callP1 (hcon v l c3 (n*n) hc3) hp handA handOA rfl (.cons rfl (.sc (.sc (.sc .nil))) .nil) (by decide) ?_
         exact WpL.nil (Only.mk rfl)
        ·exact rfl
        ·exact rfl
        apply HeadS.consF (V:=.own 4 1 0 6) (.put 4 (⟨ints (ixs n (eB l n c3).2),1,1,some 3⟩)) rfl
        ·exact rfl
        ·exact rfl
        ·intro Tv Ov hc hp' hd hk
         refine WpL.litInts tabOk rfl rfl rfl rfl rfl (by decide) (by rw [nid_len,Nat.zero_add]) (by decide) ?_
         apply WpL.putNil (p:=4)
         ·exact hp' 4 _ rfl
         ·exact Nat.le_of_ble_eq_true rfl
         ·exact rfl
         ·first|exact still_ints _|exact still_rows (fun _=>rfl) _|rfl
        ·exact rfl
        ·exact rfl
        apply HeadS.consF (V:=I (eI l n c3).2) (.step 0 (CurO v (eI l n c3).1)) rfl
        ·exact rfl
        ·exact rfl
        ·intro Tv Ov hc hp' hd hk
         obtain ⟨a1,a2,a3,R,rfl⟩:=split04 (hp' 0 _ rfl) (hd 12 _ 4 _ (by decide) rfl rfl rfl)
         refine K.call ?_
         refine K.conP (fun hcon=>?_)
         refine WpL.callP1 (hcon v l (eB l n c3).1 (ixs n (eB l n c3).2) ⟨f1,by simp,by simp⟩) hp handA handOA rfl (.cons rfl (.sc (.sc (.sc .nil))) .nil) (by decide) ?_
         exact WpL.nil (Only.mk rfl)
        ·exact rfl
        ·exact rfl
        apply HeadS.consF .none rfl
        ·exact rfl
        ·exact rfl
        ·exact in1
        ·exact rfl
        ·exact rfl
        apply HeadS.consF .none rfl
        ·exact rfl
        ·exact rfl
        ·exact in1
        ·exact rfl
        ·exact rfl
        apply HeadS.consF (V:=I (eQ l n c3).2) (.step 0 (CurO v (eQ l n c3).1)) rfl
        ·exact rfl
        ·exact rfl
        ·intro Tv Ov hc hp' hd hk
         obtain ⟨R,rfl⟩:=split1 (hp' 0 _ rfl)
         refine K.call ?_
         refine K.conP (fun hcon=>?_)
         refine WpL.callP1 (hcon v l (eI l n c3).1 400 f2) hp handA handOA rfl (.cons rfl (.sc (.sc (.sc .nil))) .nil) (by decide) ?_
         exact WpL.nil (Only.mk rfl)
        ·exact rfl
        ·exact rfl
        apply HeadS.consF .none rfl
        ·exact rfl
        ·exact rfl
        ·exact in1
        ·exact rfl
        ·exact rfl
        apply HeadS.consF (V:=.own 5 1 0 6) (.put 5 (⟨ints (lvs (eQ l n c3).2),1,1,some 3⟩)) rfl
        ·exact rfl
        ·exact rfl
        ·intro Tv Ov hc hp' hd hk
         refine WpL.litInts tabOk rfl rfl rfl rfl rfl (by decide) (by rw [nid_len,Nat.zero_add]) (by decide) ?_
         apply WpL.putNil (p:=5)
         ·exact hp' 5 _ rfl
         ·exact Nat.le_of_ble_eq_true rfl
         ·exact rfl
         ·first|exact still_ints _|exact still_rows (fun _=>rfl) _|rfl
        ·exact rfl
        ·exact rfl
        apply HeadS.consF (V:=I (eW l n c3).2) (.step 0 (CurO v (eW l n c3).1)) rfl
        ·exact rfl
        ·exact rfl
        ·intro Tv Ov hc hp' hd hk
         obtain ⟨a1,a2,a3,a4,R,rfl⟩:=split05 (hp' 0 _ rfl) (hd 18 _ 5 _ (by decide) rfl rfl rfl)
         refine K.call ?_
         refine K.conP (fun hcon=>?_)
         refine WpL.callP1 (hcon v l (eQ l n c3).1 (lvs (eQ l n c3).2) ⟨f5,by simp,by simp⟩) hp handA handOA rfl (.cons rfl (.sc (.sc (.sc .nil))) .nil) (by decide) ?_
         exact WpL.nil (Only.mk rfl)
        ·exact rfl
        ·exact rfl
        exact HeadS.nil
       ·exact rfl
       ·exact rfl
       ·exact rfl
       ·exact rfl
       ·exact rfl
       ·exact rfl
       ·exact rfl
       refine go (r:=?_);and_intros<;>intros<;>try exact True.intro
       all_goals first|contradiction|omega|skip
       refine Rnd.go (k3-1,(eW l n c3).1,xs.set (eI l n c3).2.toNat (eW l n c3).2) ⟨f6,by rw [List.length_set];exact hxl,hE,by simp only;omega⟩ ?_ ?_
       ·show k3-1<k3;omega
       ·simp only [List.length_set]
        exact zk0
     ·have hzero:(symL lens m).length=0:=Nat.eq_zero_of_not_pos fun h0=>hh2 (hspm.1 h0)
      have hm6b:=hmm.resolve_left hh2
      have hbc:bmC lens m=1:=by unfold bmC;rw [if_neg hh2]
      rw [hbc] at hBM2
      refine go (r:=?_);and_intros<;>intros<;>try exact True.intro
      all_goals first|contradiction|omega|exact hb5c.1|exact hb5c.2|skip
      subst hBM2
      refine WpA.loop (fun x:Nat×Cr×List Int=>⟨[(0,.ptr 0 0 0),(2,I n),(6,.ptr 1 0 0),(7,.ptr 3 0 0),(9,I x.1)],[CurO v x.2.1,⟨[I 0,.nilS],0,0,none⟩,XI x.2.2,⟨[I 1,.own 2 0 0 x.2.2.length],0,0,none⟩]⟩) (fun x=>CrOk l x.2.1∧x.2.2.length=(n*n).toNat∧dvK l n x.1 x.2=L∧x.1≤4) (fun x=>x.1) ((belowD l c1 5).2.toNat,(belowD l c1 5).1,List.replicate (n*n).toNat 0) ⟨hb5.1,by simp,hL,by simp only;omega⟩ ?_ ?_
      ·have ez:(((belowD l c1 5).2.toNat:Nat):Int)=(belowD l c1 5).2:=by omega
       simp only [ez,List.length_replicate]
       exact zk0
      rintro ⟨k3,c3,xs⟩ ⟨hc3,hxl,hL3,hk4⟩
      try simp only at hc3 hxl hL3 hk4 ⊢
      by_cases hk3:k3=0
      ·subst hk3
       have hLe:(c3,xs)=L:=hL3
       subst hLe
       refine go (r:=?_);and_intros<;>intros<;>try exact True.intro
       all_goals trace_state
      ·have hE:dvK l n (k3-1) (dvS l n (c3,xs))=L:=by
        obtain ⟨j,rfl⟩:∃j,k3=j+1:=⟨k3-1,by omega⟩
        exact hL3
       have hfacts:=dvS_facts (s:=(c3,xs)) hn hc3
       rw [dvS_eq] at hE hfacts
       obtain ⟨f1,f2,⟨f3,f4⟩,f5,f6,f7⟩:=hfacts
       have f3':0≤(eI l n c3).2:=f3
       have f4':(eI l n c3).2<n*n:=f4
       have hq4:=belowD_ok 400 f2
       have hq40:0≤(eQ l n c3).2:=hq4.2.1
       have hq41:(eQ l n c3).2<400:=hq4.2.2.1 (by decide)
       refine goR (r:=?_);and_intros<;>intros<;>try exact True.intro
       all_goals first|contradiction|omega|skip
       apply WpA.regionSF (O:=[]) (Or:=[CurO v c3,⟨[I 0,.nilS],0,0,none⟩,XI xs,⟨[I 1,.own 2 0 0 xs.length],0,0,none⟩]) (O1:=[CurO v (eW l n c3).1,⟨[I 0,.nilS],0,0,none⟩,XI xs,⟨[I 1,.own 2 0 0 xs.length],0,0,none⟩,⟨ints (ixs n (eB l n c3).2),1,1,some 3⟩,⟨ints (lvs (eQ l n c3).2),1,1,some 3⟩,deadO,deadO]) 20 2 [3] [0] rfl mixed (by decide +kernel)
       ·exact rfl
       ·apply HeadS.consF .none rfl
        ·exact rfl
        ·exact rfl
        ·intro Tv Ov hc hp' hd hk
         obtain ⟨x0,x1,x2,R,rfl⟩:=Abs.split4 (hk 3 rfl)
         exact in1
        ·exact rfl
        ·exact rfl
        apply HeadS.consF .none rfl
        ·exact rfl
        ·exact rfl
        ·intro Tv Ov hc hp' hd hk
         obtain ⟨x0,x1,x2,R,rfl⟩:=Abs.split4 (hk 3 rfl)
         exact in1
        ·exact rfl
        ·exact rfl
        apply HeadS.consF .none rfl
        ·exact rfl
        ·exact rfl
        ·exact in1
        ·exact rfl
        ·exact rfl
        apply HeadS.consF .none rfl
        ·exact rfl
        ·exact rfl
        ·exact in1
        ·exact rfl
        ·exact rfl
        apply HeadS.consF .none rfl
        ·exact rfl
        ·exact rfl
        ·exact in1
        ·exact rfl
        ·exact rfl
        apply HeadS.consF .none rfl
        ·exact rfl
        ·exact rfl
        ·exact in1
        ·exact rfl
        ·exact rfl
        apply HeadS.consF .none rfl
        ·exact rfl
        ·exact rfl
        ·exact in1
        ·exact rfl
        ·exact rfl
        apply HeadS.consF .none rfl
        ·exact rfl
        ·exact rfl
        ·exact in1
        ·exact rfl
        ·exact rfl
        apply HeadS.consF .none rfl
        ·exact rfl
        ·exact rfl
        ·exact in1
        ·exact rfl
        ·exact rfl
        apply HeadS.consF .none rfl
        ·exact rfl
        ·exact rfl
        ·exact in1
        ·exact rfl
        ·exact rfl
        apply HeadS.consF .none rfl
        ·exact rfl
        ·exact rfl
        ·exact in1
        ·exact rfl
        ·exact rfl
        apply HeadS.consF (V:=I (eB l n c3).2) (.step 0 (CurO v (eB l n c3).1)) rfl
        ·exact rfl
        ·exact rfl
        ·intro Tv Ov hc hp' hd hk
         obtain ⟨R,rfl⟩:=split1 (hp' 0 _ rfl)
         refine K.call ?_
         refine K.conP (fun hcon=>?_)
         refine WpL.callP1 (hcon v l c3 (n*n) hc3) hp handA handOA rfl (.cons rfl (.sc (.sc (.sc .nil))) .nil) (by decide) ?_
         exact WpL.nil (Only.mk rfl)
        ·exact rfl
        ·exact rfl
        apply HeadS.consF (V:=.own 4 1 0 6) (.put 4 (⟨ints (ixs n (eB l n c3).2),1,1,some 3⟩)) rfl
        ·exact rfl
        ·exact rfl
        ·intro Tv Ov hc hp' hd hk
         refine WpL.litInts tabOk rfl rfl rfl rfl rfl (by decide) (by rw [nid_len,Nat.zero_add]) (by decide) ?_
         apply WpL.putNil (p:=4)
         ·exact hp' 4 _ rfl
         ·exact Nat.le_of_ble_eq_true rfl
         ·exact rfl
         ·first|exact still_ints _|exact still_rows (fun _=>rfl) _|rfl
        ·exact rfl
        ·exact rfl
        apply HeadS.consF (V:=I (eI l n c3).2) (.step 0 (CurO v (eI l n c3).1)) rfl
        ·exact rfl
        ·exact rfl
        ·intro Tv Ov hc hp' hd hk
         obtain ⟨a1,a2,a3,R,rfl⟩:=split04 (hp' 0 _ rfl) (hd 12 _ 4 _ (by decide) rfl rfl rfl)
         refine K.call ?_
         refine K.conP (fun hcon=>?_)
         refine WpL.callP1 (hcon v l (eB l n c3).1 (ixs n (eB l n c3).2) ⟨f1,by simp,by simp⟩) hp handA handOA rfl (.cons rfl (.sc (.sc (.sc .nil))) .nil) (by decide) ?_
         exact WpL.nil (Only.mk rfl)
        ·exact rfl
        ·exact rfl
        apply HeadS.consF .none rfl
        ·exact rfl
        ·exact rfl
        ·exact in1
        ·exact rfl
        ·exact rfl
        apply HeadS.consF .none rfl
        ·exact rfl
        ·exact rfl
        ·exact in1
        ·exact rfl
        ·exact rfl
        apply HeadS.consF (V:=I (eQ l n c3).2) (.step 0 (CurO v (eQ l n c3).1)) rfl
        ·exact rfl
        ·exact rfl
        ·intro Tv Ov hc hp' hd hk
         obtain ⟨R,rfl⟩:=split1 (hp' 0 _ rfl)
         refine K.call ?_
         refine K.conP (fun hcon=>?_)
         refine WpL.callP1 (hcon v l (eI l n c3).1 400 f2) hp handA handOA rfl (.cons rfl (.sc (.sc (.sc .nil))) .nil) (by decide) ?_
         exact WpL.nil (Only.mk rfl)
        ·exact rfl
        ·exact rfl
        apply HeadS.consF .none rfl
        ·exact rfl
        ·exact rfl
        ·exact in1
        ·exact rfl
        ·exact rfl
        apply HeadS.consF (V:=.own 5 1 0 6) (.put 5 (⟨ints (lvs (eQ l n c3).2),1,1,some 3⟩)) rfl
        ·exact rfl
        ·exact rfl
        ·intro Tv Ov hc hp' hd hk
         refine WpL.litInts tabOk rfl rfl rfl rfl rfl (by decide) (by rw [nid_len,Nat.zero_add]) (by decide) ?_
         apply WpL.putNil (p:=5)
         ·exact hp' 5 _ rfl
         ·exact Nat.le_of_ble_eq_true rfl
         ·exact rfl
         ·first|exact still_ints _|exact still_rows (fun _=>rfl) _|rfl
        ·exact rfl
        ·exact rfl
        apply HeadS.consF (V:=I (eW l n c3).2) (.step 0 (CurO v (eW l n c3).1)) rfl
        ·exact rfl
        ·exact rfl
        ·intro Tv Ov hc hp' hd hk
         obtain ⟨a1,a2,a3,a4,R,rfl⟩:=split05 (hp' 0 _ rfl) (hd 18 _ 5 _ (by decide) rfl rfl rfl)
         refine K.call ?_
         refine K.conP (fun hcon=>?_)
         refine WpL.callP1 (hcon v l (eQ l n c3).1 (lvs (eQ l n c3).2) ⟨f5,by simp,by simp⟩) hp handA handOA rfl (.cons rfl (.sc (.sc (.sc .nil))) .nil) (by decide) ?_
         exact WpL.nil (Only.mk rfl)
        ·exact rfl
        ·exact rfl
        exact HeadS.nil
       ·exact rfl
       ·exact rfl
       ·exact rfl
       ·exact rfl
       ·exact rfl
       ·exact rfl
       ·exact rfl
       refine go (r:=?_);and_intros<;>intros<;>try exact True.intro
       all_goals first|contradiction|omega|skip
       refine Rnd.go (k3-1,(eW l n c3).1,xs.set (eI l n c3).2.toNat (eW l n c3).2) ⟨f6,by rw [List.length_set];exact hxl,hE,by simp only;omega⟩ ?_ ?_
       ·show k3-1<k3;omega
       ·simp only [List.length_set]
        exact zk0
    ·have hh2:¬HasC lens m:=fun h0=>hmm (.inl h0)
     have hm6b:m<6:=Decidable.byContradiction fun h0=>hmm (.inr h0)
     have hzero:(symL lens m).length=0:=Nat.eq_zero_of_not_pos fun h0=>hh2 (hspm.1 h0)
     rw [bmB_go hm6b hh2] at hmB
     refine go (r:=?_);and_intros<;>intros<;>try exact True.intro
     all_goals first|contradiction|omega|skip
     refine Rnd.go (m+1) ⟨by omega,by omega,hmB⟩ ?_ ?_
     ·show (6-(m+1)).toNat<(6-m).toNat;omega
     ·exact zk0
  ·refine go (r:=?_);and_intros<;>intros<;>try exact True.intro
   all_goals first|contradiction|omega|skip
   refine WpA.loop (fun m:Int=>⟨[(0,.ptr 0 0 0),(1,IL lens),(2,I n),(6,.ptr 1 0 0),(7,.ptr 3 0 0)],[CurO v c1,⟨[I 0,.nilS],0,0,none⟩,XI (List.replicate (n*n).toNat 0),⟨[I m,.own 2 0 0 (n*n).toNat],0,0,none⟩]⟩) (fun m=>0≤m∧m≤6∧bmB lens (6-m).toNat m=S2) (fun m=>(6-m).toNat) m1 ⟨hA.2.1,by omega,hS2⟩ ?_ ?_
   ·exact zk0
   rintro m ⟨hm0,hm6,hmB⟩
   try simp only at hm0 hm6 hmB ⊢
   have hspm:=hsp m
   have hs7m:=hs7 m
   by_cases hmm:HasC lens m∨¬m<6
   ·rw [bmB_stop hmm] at hmB
    subst hmB
    by_cases hh2:HasC lens m
    ·have hpos:=hspm.2 hh2
     have hbc:bmC lens m=m:=by unfold bmC;rw [if_pos hh2]
     rw [hbc] at hBM2
     refine go (r:=?_);and_intros<;>intros<;>try exact True.intro
     all_goals first|contradiction|omega|exact hb5c.1|exact hb5c.2|skip
     subst hBM2
     refine WpA.loop (fun x:Nat×Cr×List Int=>⟨[(0,.ptr 0 0 0),(2,I n),(6,.ptr 1 0 0),(7,.ptr 3 0 0),(9,I x.1)],[CurO v x.2.1,⟨[I 0,.nilS],0,0,none⟩,XI x.2.2,⟨[I BM,.own 2 0 0 x.2.2.length],0,0,none⟩]⟩) (fun x=>CrOk l x.2.1∧x.2.2.length=(n*n).toNat∧dvK l n x.1 x.2=L∧x.1≤4) (fun x=>x.1) ((belowD l c1 5).2.toNat,(belowD l c1 5).1,List.replicate (n*n).toNat 0) ⟨hb5.1,by simp,hL,by simp only;omega⟩ ?_ ?_
     ·have ez:(((belowD l c1 5).2.toNat:Nat):Int)=(belowD l c1 5).2:=by omega
      simp only [ez,List.length_replicate]
      exact zk0
     rintro ⟨k3,c3,xs⟩ ⟨hc3,hxl,hL3,hk4⟩
     try simp only at hc3 hxl hL3 hk4 ⊢
     by_cases hk3:k3=0
     ·subst hk3
      have hLe:(c3,xs)=L:=hL3
      subst hLe
      refine go (r:=?_);and_intros<;>intros<;>try exact True.intro
      all_goals trace_state
     ·have hE:dvK l n (k3-1) (dvS l n (c3,xs))=L:=by
       obtain ⟨j,rfl⟩:∃j,k3=j+1:=⟨k3-1,by omega⟩
       exact hL3
      have hfacts:=dvS_facts (s:=(c3,xs)) hn hc3
      rw [dvS_eq] at hE hfacts
      obtain ⟨f1,f2,⟨f3,f4⟩,f5,f6,f7⟩:=hfacts
      have f3':0≤(eI l n c3).2:=f3
      have f4':(eI l n c3).2<n*n:=f4
      have hq4:=belowD_ok 400 f2
      have hq40:0≤(eQ l n c3).2:=hq4.2.1
      have hq41:(eQ l n c3).2<400:=hq4.2.2.1 (by decide)
      refine goR (r:=?_);and_intros<;>intros<;>try exact True.intro
      all_goals first|contradiction|omega|skip
      apply WpA.regionSF (O:=[]) (Or:=[CurO v c3,⟨[I 0,.nilS],0,0,none⟩,XI xs,⟨[I BM,.own 2 0 0 xs.length],0,0,none⟩]) (O1:=[CurO v (eW l n c3).1,⟨[I 0,.nilS],0,0,none⟩,XI xs,⟨[I BM,.own 2 0 0 xs.length],0,0,none⟩,⟨ints (ixs n (eB l n c3).2),1,1,some 3⟩,⟨ints (lvs (eQ l n c3).2),1,1,some 3⟩,deadO,deadO]) 20 2 [3] [0] rfl mixed (by decide +kernel)
      ·exact rfl
      ·apply HeadS.consF .none rfl
       ·exact rfl
       ·exact rfl
       ·intro Tv Ov hc hp' hd hk
        obtain ⟨x0,x1,x2,R,rfl⟩:=Abs.split4 (hk 3 rfl)
        exact in1
       ·exact rfl
       ·exact rfl
       apply HeadS.consF .none rfl
       ·exact rfl
       ·exact rfl
       ·intro Tv Ov hc hp' hd hk
        obtain ⟨x0,x1,x2,R,rfl⟩:=Abs.split4 (hk 3 rfl)
        exact in1
       ·exact rfl
       ·exact rfl
       apply HeadS.consF .none rfl
       ·exact rfl
       ·exact rfl
       ·exact in1
       ·exact rfl
       ·exact rfl
       apply HeadS.consF .none rfl
       ·exact rfl
       ·exact rfl
       ·exact in1
       ·exact rfl
       ·exact rfl
       apply HeadS.consF .none rfl
       ·exact rfl
       ·exact rfl
       ·exact in1
       ·exact rfl
       ·exact rfl
       apply HeadS.consF .none rfl
       ·exact rfl
       ·exact rfl
       ·exact in1
       ·exact rfl
       ·exact rfl
       apply HeadS.consF .none rfl
       ·exact rfl
       ·exact rfl
       ·exact in1
       ·exact rfl
       ·exact rfl
       apply HeadS.consF .none rfl
       ·exact rfl
       ·exact rfl
       ·exact in1
       ·exact rfl
       ·exact rfl
       apply HeadS.consF .none rfl
       ·exact rfl
       ·exact rfl
       ·exact in1
       ·exact rfl
       ·exact rfl
       apply HeadS.consF .none rfl
       ·exact rfl
       ·exact rfl
       ·exact in1
       ·exact rfl
       ·exact rfl
       apply HeadS.consF .none rfl
       ·exact rfl
       ·exact rfl
       ·exact in1
       ·exact rfl
       ·exact rfl
       apply HeadS.consF (V:=I (eB l n c3).2) (.step 0 (CurO v (eB l n c3).1)) rfl
       ·exact rfl
       ·exact rfl
       ·intro Tv Ov hc hp' hd hk
        obtain ⟨R,rfl⟩:=split1 (hp' 0 _ rfl)
        refine K.call ?_
        refine K.conP (fun hcon=>?_)
        refine WpL.callP1 (hcon v l c3 (n*n) hc3) hp handA handOA rfl (.cons rfl (.sc (.sc (.sc .nil))) .nil) (by decide) ?_
        exact WpL.nil (Only.mk rfl)
       ·exact rfl
       ·exact rfl
       apply HeadS.consF (V:=.own 4 1 0 6) (.put 4 (⟨ints (ixs n (eB l n c3).2),1,1,some 3⟩)) rfl
       ·exact rfl
       ·exact rfl
       ·intro Tv Ov hc hp' hd hk
        refine WpL.litInts tabOk rfl rfl rfl rfl rfl (by decide) (by rw [nid_len,Nat.zero_add]) (by decide) ?_
        apply WpL.putNil (p:=4)
        ·exact hp' 4 _ rfl
        ·exact Nat.le_of_ble_eq_true rfl
        ·exact rfl
        ·first|exact still_ints _|exact still_rows (fun _=>rfl) _|rfl
       ·exact rfl
       ·exact rfl
       apply HeadS.consF (V:=I (eI l n c3).2) (.step 0 (CurO v (eI l n c3).1)) rfl
       ·exact rfl
       ·exact rfl
       ·intro Tv Ov hc hp' hd hk
        obtain ⟨a1,a2,a3,R,rfl⟩:=split04 (hp' 0 _ rfl) (hd 12 _ 4 _ (by decide) rfl rfl rfl)
        refine K.call ?_
        refine K.conP (fun hcon=>?_)
        refine WpL.callP1 (hcon v l (eB l n c3).1 (ixs n (eB l n c3).2) ⟨f1,by simp,by simp⟩) hp handA handOA rfl (.cons rfl (.sc (.sc (.sc .nil))) .nil) (by decide) ?_
        exact WpL.nil (Only.mk rfl)
       ·exact rfl
       ·exact rfl
       apply HeadS.consF .none rfl
       ·exact rfl
       ·exact rfl
       ·exact in1
       ·exact rfl
       ·exact rfl
       apply HeadS.consF .none rfl
       ·exact rfl
       ·exact rfl
       ·exact in1
       ·exact rfl
       ·exact rfl
       apply HeadS.consF (V:=I (eQ l n c3).2) (.step 0 (CurO v (eQ l n c3).1)) rfl
       ·exact rfl
       ·exact rfl
       ·intro Tv Ov hc hp' hd hk
        obtain ⟨R,rfl⟩:=split1 (hp' 0 _ rfl)
        refine K.call ?_
        refine K.conP (fun hcon=>?_)
        refine WpL.callP1 (hcon v l (eI l n c3).1 400 f2) hp handA handOA rfl (.cons rfl (.sc (.sc (.sc .nil))) .nil) (by decide) ?_
        exact WpL.nil (Only.mk rfl)
       ·exact rfl
       ·exact rfl
       apply HeadS.consF .none rfl
       ·exact rfl
       ·exact rfl
       ·exact in1
       ·exact rfl
       ·exact rfl
       apply HeadS.consF (V:=.own 5 1 0 6) (.put 5 (⟨ints (lvs (eQ l n c3).2),1,1,some 3⟩)) rfl
       ·exact rfl
       ·exact rfl
       ·intro Tv Ov hc hp' hd hk
        refine WpL.litInts tabOk rfl rfl rfl rfl rfl (by decide) (by rw [nid_len,Nat.zero_add]) (by decide) ?_
        apply WpL.putNil (p:=5)
        ·exact hp' 5 _ rfl
        ·exact Nat.le_of_ble_eq_true rfl
        ·exact rfl
        ·first|exact still_ints _|exact still_rows (fun _=>rfl) _|rfl
       ·exact rfl
       ·exact rfl
       apply HeadS.consF (V:=I (eW l n c3).2) (.step 0 (CurO v (eW l n c3).1)) rfl
       ·exact rfl
       ·exact rfl
       ·intro Tv Ov hc hp' hd hk
        obtain ⟨a1,a2,a3,a4,R,rfl⟩:=split05 (hp' 0 _ rfl) (hd 18 _ 5 _ (by decide) rfl rfl rfl)
        refine K.call ?_
        refine K.conP (fun hcon=>?_)
        refine WpL.callP1 (hcon v l (eQ l n c3).1 (lvs (eQ l n c3).2) ⟨f5,by simp,by simp⟩) hp handA handOA rfl (.cons rfl (.sc (.sc (.sc .nil))) .nil) (by decide) ?_
        exact WpL.nil (Only.mk rfl)
       ·exact rfl
       ·exact rfl
       exact HeadS.nil
      ·exact rfl
      ·exact rfl
      ·exact rfl
      ·exact rfl
      ·exact rfl
      ·exact rfl
      ·exact rfl
      refine go (r:=?_);and_intros<;>intros<;>try exact True.intro
      all_goals first|contradiction|omega|skip
      refine Rnd.go (k3-1,(eW l n c3).1,xs.set (eI l n c3).2.toNat (eW l n c3).2) ⟨f6,by rw [List.length_set];exact hxl,hE,by simp only;omega⟩ ?_ ?_
      ·show k3-1<k3;omega
      ·simp only [List.length_set]
       exact zk0
    ·have hzero:(symL lens m).length=0:=Nat.eq_zero_of_not_pos fun h0=>hh2 (hspm.1 h0)
     have hm6b:=hmm.resolve_left hh2
     have hbc:bmC lens m=1:=by unfold bmC;rw [if_neg hh2]
     rw [hbc] at hBM2
     refine go (r:=?_);and_intros<;>intros<;>try exact True.intro
     all_goals first|contradiction|omega|exact hb5c.1|exact hb5c.2|skip
     subst hBM2
     refine WpA.loop (fun x:Nat×Cr×List Int=>⟨[(0,.ptr 0 0 0),(2,I n),(6,.ptr 1 0 0),(7,.ptr 3 0 0),(9,I x.1)],[CurO v x.2.1,⟨[I 0,.nilS],0,0,none⟩,XI x.2.2,⟨[I 1,.own 2 0 0 x.2.2.length],0,0,none⟩]⟩) (fun x=>CrOk l x.2.1∧x.2.2.length=(n*n).toNat∧dvK l n x.1 x.2=L∧x.1≤4) (fun x=>x.1) ((belowD l c1 5).2.toNat,(belowD l c1 5).1,List.replicate (n*n).toNat 0) ⟨hb5.1,by simp,hL,by simp only;omega⟩ ?_ ?_
     ·have ez:(((belowD l c1 5).2.toNat:Nat):Int)=(belowD l c1 5).2:=by omega
      simp only [ez,List.length_replicate]
      exact zk0
     rintro ⟨k3,c3,xs⟩ ⟨hc3,hxl,hL3,hk4⟩
     try simp only at hc3 hxl hL3 hk4 ⊢
     by_cases hk3:k3=0
     ·subst hk3
      have hLe:(c3,xs)=L:=hL3
      subst hLe
      refine go (r:=?_);and_intros<;>intros<;>try exact True.intro
      all_goals trace_state
     ·have hE:dvK l n (k3-1) (dvS l n (c3,xs))=L:=by
       obtain ⟨j,rfl⟩:∃j,k3=j+1:=⟨k3-1,by omega⟩
       exact hL3
      have hfacts:=dvS_facts (s:=(c3,xs)) hn hc3
      rw [dvS_eq] at hE hfacts
      obtain ⟨f1,f2,⟨f3,f4⟩,f5,f6,f7⟩:=hfacts
      have f3':0≤(eI l n c3).2:=f3
      have f4':(eI l n c3).2<n*n:=f4
      have hq4:=belowD_ok 400 f2
      have hq40:0≤(eQ l n c3).2:=hq4.2.1
      have hq41:(eQ l n c3).2<400:=hq4.2.2.1 (by decide)
      refine goR (r:=?_);and_intros<;>intros<;>try exact True.intro
      all_goals first|contradiction|omega|skip
      apply WpA.regionSF (O:=[]) (Or:=[CurO v c3,⟨[I 0,.nilS],0,0,none⟩,XI xs,⟨[I 1,.own 2 0 0 xs.length],0,0,none⟩]) (O1:=[CurO v (eW l n c3).1,⟨[I 0,.nilS],0,0,none⟩,XI xs,⟨[I 1,.own 2 0 0 xs.length],0,0,none⟩,⟨ints (ixs n (eB l n c3).2),1,1,some 3⟩,⟨ints (lvs (eQ l n c3).2),1,1,some 3⟩,deadO,deadO]) 20 2 [3] [0] rfl mixed (by decide +kernel)
      ·exact rfl
      ·apply HeadS.consF .none rfl
       ·exact rfl
       ·exact rfl
       ·intro Tv Ov hc hp' hd hk
        obtain ⟨x0,x1,x2,R,rfl⟩:=Abs.split4 (hk 3 rfl)
        exact in1
       ·exact rfl
       ·exact rfl
       apply HeadS.consF .none rfl
       ·exact rfl
       ·exact rfl
       ·intro Tv Ov hc hp' hd hk
        obtain ⟨x0,x1,x2,R,rfl⟩:=Abs.split4 (hk 3 rfl)
        exact in1
       ·exact rfl
       ·exact rfl
       apply HeadS.consF .none rfl
       ·exact rfl
       ·exact rfl
       ·exact in1
       ·exact rfl
       ·exact rfl
       apply HeadS.consF .none rfl
       ·exact rfl
       ·exact rfl
       ·exact in1
       ·exact rfl
       ·exact rfl
       apply HeadS.consF .none rfl
       ·exact rfl
       ·exact rfl
       ·exact in1
       ·exact rfl
       ·exact rfl
       apply HeadS.consF .none rfl
       ·exact rfl
       ·exact rfl
       ·exact in1
       ·exact rfl
       ·exact rfl
       apply HeadS.consF .none rfl
       ·exact rfl
       ·exact rfl
       ·exact in1
       ·exact rfl
       ·exact rfl
       apply HeadS.consF .none rfl
       ·exact rfl
       ·exact rfl
       ·exact in1
       ·exact rfl
       ·exact rfl
       apply HeadS.consF .none rfl
       ·exact rfl
       ·exact rfl
       ·exact in1
       ·exact rfl
       ·exact rfl
       apply HeadS.consF .none rfl
       ·exact rfl
       ·exact rfl
       ·exact in1
       ·exact rfl
       ·exact rfl
       apply HeadS.consF .none rfl
       ·exact rfl
       ·exact rfl
       ·exact in1
       ·exact rfl
       ·exact rfl
       apply HeadS.consF (V:=I (eB l n c3).2) (.step 0 (CurO v (eB l n c3).1)) rfl
       ·exact rfl
       ·exact rfl
       ·intro Tv Ov hc hp' hd hk
        obtain ⟨R,rfl⟩:=split1 (hp' 0 _ rfl)
        refine K.call ?_
        refine K.conP (fun hcon=>?_)
        refine WpL.callP1 (hcon v l c3 (n*n) hc3) hp handA handOA rfl (.cons rfl (.sc (.sc (.sc .nil))) .nil) (by decide) ?_
        exact WpL.nil (Only.mk rfl)
       ·exact rfl
       ·exact rfl
       apply HeadS.consF (V:=.own 4 1 0 6) (.put 4 (⟨ints (ixs n (eB l n c3).2),1,1,some 3⟩)) rfl
       ·exact rfl
       ·exact rfl
       ·intro Tv Ov hc hp' hd hk
        refine WpL.litInts tabOk rfl rfl rfl rfl rfl (by decide) (by rw [nid_len,Nat.zero_add]) (by decide) ?_
        apply WpL.putNil (p:=4)
        ·exact hp' 4 _ rfl
        ·exact Nat.le_of_ble_eq_true rfl
        ·exact rfl
        ·first|exact still_ints _|exact still_rows (fun _=>rfl) _|rfl
       ·exact rfl
       ·exact rfl
       apply HeadS.consF (V:=I (eI l n c3).2) (.step 0 (CurO v (eI l n c3).1)) rfl
       ·exact rfl
       ·exact rfl
       ·intro Tv Ov hc hp' hd hk
        obtain ⟨a1,a2,a3,R,rfl⟩:=split04 (hp' 0 _ rfl) (hd 12 _ 4 _ (by decide) rfl rfl rfl)
        refine K.call ?_
        refine K.conP (fun hcon=>?_)
        refine WpL.callP1 (hcon v l (eB l n c3).1 (ixs n (eB l n c3).2) ⟨f1,by simp,by simp⟩) hp handA handOA rfl (.cons rfl (.sc (.sc (.sc .nil))) .nil) (by decide) ?_
        exact WpL.nil (Only.mk rfl)
       ·exact rfl
       ·exact rfl
       apply HeadS.consF .none rfl
       ·exact rfl
       ·exact rfl
       ·exact in1
       ·exact rfl
       ·exact rfl
       apply HeadS.consF .none rfl
       ·exact rfl
       ·exact rfl
       ·exact in1
       ·exact rfl
       ·exact rfl
       apply HeadS.consF (V:=I (eQ l n c3).2) (.step 0 (CurO v (eQ l n c3).1)) rfl
       ·exact rfl
       ·exact rfl
       ·intro Tv Ov hc hp' hd hk
        obtain ⟨R,rfl⟩:=split1 (hp' 0 _ rfl)
        refine K.call ?_
        refine K.conP (fun hcon=>?_)
        refine WpL.callP1 (hcon v l (eI l n c3).1 400 f2) hp handA handOA rfl (.cons rfl (.sc (.sc (.sc .nil))) .nil) (by decide) ?_
        exact WpL.nil (Only.mk rfl)
       ·exact rfl
       ·exact rfl
       apply HeadS.consF .none rfl
       ·exact rfl
       ·exact rfl
       ·exact in1
       ·exact rfl
       ·exact rfl
       apply HeadS.consF (V:=.own 5 1 0 6) (.put 5 (⟨ints (lvs (eQ l n c3).2),1,1,some 3⟩)) rfl
       ·exact rfl
       ·exact rfl
       ·intro Tv Ov hc hp' hd hk
        refine WpL.litInts tabOk rfl rfl rfl rfl rfl (by decide) (by rw [nid_len,Nat.zero_add]) (by decide) ?_
        apply WpL.putNil (p:=5)
        ·exact hp' 5 _ rfl
        ·exact Nat.le_of_ble_eq_true rfl
        ·exact rfl
        ·first|exact still_ints _|exact still_rows (fun _=>rfl) _|rfl
       ·exact rfl
       ·exact rfl
       apply HeadS.consF (V:=I (eW l n c3).2) (.step 0 (CurO v (eW l n c3).1)) rfl
       ·exact rfl
       ·exact rfl
       ·intro Tv Ov hc hp' hd hk
        obtain ⟨a1,a2,a3,a4,R,rfl⟩:=split05 (hp' 0 _ rfl) (hd 18 _ 5 _ (by decide) rfl rfl rfl)
        refine K.call ?_
        refine K.conP (fun hcon=>?_)
        refine WpL.callP1 (hcon v l (eQ l n c3).1 (lvs (eQ l n c3).2) ⟨f5,by simp,by simp⟩) hp handA handOA rfl (.cons rfl (.sc (.sc (.sc .nil))) .nil) (by decide) ?_
        exact WpL.nil (Only.mk rfl)
       ·exact rfl
       ·exact rfl
       exact HeadS.nil
      ·exact rfl
      ·exact rfl
      ·exact rfl
      ·exact rfl
      ·exact rfl
      ·exact rfl
      ·exact rfl
      refine go (r:=?_);and_intros<;>intros<;>try exact True.intro
      all_goals first|contradiction|omega|skip
      refine Rnd.go (k3-1,(eW l n c3).1,xs.set (eI l n c3).2.toNat (eW l n c3).2) ⟨f6,by rw [List.length_set];exact hxl,hE,by simp only;omega⟩ ?_ ?_
      ·show k3-1<k3;omega
      ·simp only [List.length_set]
       exact zk0
   ·have hh2:¬HasC lens m:=fun h0=>hmm (.inl h0)
    have hm6b:m<6:=Decidable.byContradiction fun h0=>hmm (.inr h0)
    have hzero:(symL lens m).length=0:=Nat.eq_zero_of_not_pos fun h0=>hh2 (hspm.1 h0)
    rw [bmB_go hm6b hh2] at hmB
    refine go (r:=?_);and_intros<;>intros<;>try exact True.intro
    all_goals first|contradiction|omega|skip
    refine Rnd.go (m+1) ⟨by omega,by omega,hmB⟩ ?_ ?_
    ·show (6-(m+1)).toNat<(6-m).toNat;omega
    ·exact zk0
 ⟩
end Go.Proofs.YtndflfipaddfoaaGreat


namespace Go.Proofs.YtndflfipaddfoaaGreat
open Go Go.Abs
attribute [local irreducible] WpA WpL Rnd Blk Abs.Seq Abs.Fin Abs.FinG FnC FnG FnX FnP FinX Only
attribute [local irreducible] belowD onceD pickD modeD l8D l8AnyD optD anyD seedD headD headAnyD symL HasC blkD
theorem split345 {Ov:List AObj} {x y z:AObj} (h3:Ov[3]?=some x) (h4:Ov[4]?=some y) (h5:Ov[5]?=some z):∃a b c R,Ov=a::b::c::x::y::z::R:=by
 match Ov,h3,h4,h5 with
 |a::b::c::x'::y'::z'::R,h3,h4,h5=>simp at h3 h4 h5;exact ⟨a,b,c,R,by rw [h3,h4,h5]⟩
 |[],h3,h4,h5=>simp at h5
 |[_],h3,h4,h5=>simp at h5
 |[_,_],h3,h4,h5=>simp at h5
 |[_,_,_],h3,h4,h5=>simp at h5
 |[_,_,_,_],h3,h4,h5=>simp at h5
 |[_,_,_,_,_],h3,h4,h5=>simp at h5
theorem sz_nm (e:Bool):64/(sz8 e*sz8 e)=nm8 e∧1≤sz8 e*sz8 e∧sz8 e*sz8 e≤64∧0≤nm8 e∧nm8 e≤4:=by cases e<;>decide
instance l23Mb_p:ConP 109 (∀ (v:Value) (l:List Int) (c:Cr) (lens:List Int),CrOk l c∧lens.length≤1099511627776→Pn 109 v l c [IL lens] (mbD l lens c).1 [BkO (mbD l lens c).2.2] (.agg [B (mbD l lens c).2.1,.own 1 0 0 (mbD l lens c).2.2.length])):=⟨fun v l c lens hh=>by
 have h:=hh.1
 have hlens:=hh.2
 have ho:=onceD_ok 3 h
 have ho1:=ho.2.1
 have ho2:=ho.2.2
 have hsz:=sz8_48 (onceD l c 3).2
 have hnm:=sz_nm (onceD l c 3).2
 have hn1:=hnm.1
 have hn2:=hnm.2.1
 have hn3:=hnm.2.2.1
 have hn4:=hnm.2.2.2.1
 have hn5:=hnm.2.2.2.2
 have hmul:=mul_in (a:=sz8 (onceD l c 3).2) (b:=sz8 (onceD l c 3).2) (by omega) (by omega)
 unfold mbD
 generalize hS:mbsK l lens _ _ _=S
 generalize he:(onceD l c 3).2=e at hS hsz hn1 hn2 hn3 hn4 hn5 hmul
 generalize hcc:(onceD l c 3).1=c0 at hS ho ho1 ho2
 refine FnP.of_body tabOk Tryz.func109 Tryz.ntmps109 rfl (by decide +kernel) (by simp) rfl rfl rfl fun G hp=>?_
 refine goR (r:=?_);and_intros<;>intros<;>try exact True.intro
 all_goals first|contradiction|omega|exact h.2.1|exact h.2.2|skip
 rw [he,hcc]
 refine WpA.loop (fun x:Nat×Cr×List Blok=>⟨[(0,.ptr 0 0 0),(1,IL lens),(4,.ptr 1 0 0),(5,.ptr 2 0 0),(6,I (sz8 e)),(7,I (nm8 e-x.1))],[CurO v x.2.1,⟨[B false,.nilS],0,0,none⟩,⟨[B e,.own 3 0 0 x.2.2.length],0,0,none⟩,BkO x.2.2]⟩) (fun x=>CrOk l x.2.1∧(x.1:Int)≤nm8 e∧x.1+x.2.2.length≤4∧mbsK l lens (sz8 e) x.1 x.2=S) (fun x=>x.1) ((nm8 e).toNat,c0,[]) ⟨ho,by simp only;omega,by simp only [List.length_nil];omega,hS⟩ ?_ ?_
 ·have ez:nm8 e-((nm8 e).toNat:Nat)=0:=by omega
  simp only [ez]
  exact Weak.nil1 (by first|(show 0≤_;exact Nat.zero_le _)|(repeat' (first|exact RzT.nil|refine RzT.cons ?_ ?_|exact Rz.nil|refine Rz.keep rfl rfl ?_|refine Rz.own rfl rfl rfl rfl rfl (by first|rfl|omega|(simp;done)) ?_|refine Rz.ptr rfl rfl rfl rfl ?_|refine Rz.nilO rfl rfl rfl (by first|rfl|omega|(simp;done)) ?_|refine Rz.agg ?_ ?_|exact RzO.last rfl|(refine RzO.cons ?_ (.inr rfl) ?_)|exact Rz.same rfl (still_ints _)|exact Rz.same rfl (still_rows (fun _=>rfl) _)))) (by first|(show 0≤_;exact Nat.zero_le _)|(repeat' (first|exact RzT.nil|refine RzT.cons ?_ ?_|exact Rz.nil|refine Rz.keep rfl rfl ?_|refine Rz.own rfl rfl rfl rfl rfl (by first|rfl|omega|(simp;done)) ?_|refine Rz.ptr rfl rfl rfl rfl ?_|refine Rz.nilO rfl rfl rfl (by first|rfl|omega|(simp;done)) ?_|refine Rz.agg ?_ ?_|exact RzO.last rfl|(refine RzO.cons ?_ (.inr rfl) ?_)|exact Rz.same rfl (still_ints _)|exact Rz.same rfl (still_rows (fun _=>rfl) _)))) (Nat.le_of_ble_eq_true rfl)
 rintro ⟨k,c1,bs⟩ ⟨hc1,hk,hkl,hK⟩
 try simp only at hc1 hk hkl hK ⊢
 by_cases hk0:k=0
 ·subst hk0
  have hSe:(c1,bs)=S:=hK
  subst hSe
  refine go (r:=?_);and_intros<;>intros<;>try exact True.intro
  all_goals trace_state
 ·have hE:mbsK l lens (sz8 e) (k-1) ((blkD l lens (sz8 e) c1).1,bs++[(blkD l lens (sz8 e) c1).2])=S:=by
   obtain ⟨j,rfl⟩:∃j,k=j+1:=⟨k-1,by omega⟩
   exact hK
  have hb:=blkD_ok (lens:=lens) hsz hc1
  refine goR (r:=?_);and_intros<;>intros<;>try exact True.intro
  all_goals first|contradiction|omega|skip
  apply WpA.regionSF (O:=[]) (Or:=[CurO v c1,⟨[B false,.nilS],0,0,none⟩,⟨[B e,.own 3 0 0 bs.length],0,0,none⟩,BkO bs]) (O1:=[CurO v (blkD l lens (sz8 e) c1).1,⟨[B false,.nilS],0,0,none⟩,⟨[B e,.own 3 0 0 bs.length],0,0,none⟩,⟨rows blkF (bs++[(blkD l lens (sz8 e) c1).2]),1,2,some 92⟩,⟨[],2,0,none⟩,⟨[I (blkD l lens (sz8 e) c1).2.1,.own 4 1 0 (blkD l lens (sz8 e) c1).2.2.length],1,2,some 92⟩,deadO,deadO]) 8 2 [2] [4] rfl mixed (by decide +kernel)
  ·exact rfl
  ·apply HeadS.consF .none rfl
   ·exact rfl
   ·exact rfl
   ·intro Tv Ov hc hp' hd hk
    obtain ⟨A0,A1,R0,rfl⟩:=Abs.split3 (hk 2 rfl)
    exact in1
   ·exact rfl
   ·exact rfl
   apply HeadS.consF .none rfl
   ·exact rfl
   ·exact rfl
   ·intro Tv Ov hc hp' hd hk
    obtain ⟨A0,A1,R0,rfl⟩:=Abs.split3 (hk 2 rfl)
    exact in1
   ·exact rfl
   ·exact rfl
   apply HeadS.consF .none rfl
   ·exact rfl
   ·exact rfl
   ·exact in1
   ·exact rfl
   ·exact rfl
   apply HeadS.consF .none rfl
   ·exact rfl
   ·exact rfl
   ·exact in1
   ·exact rfl
   ·exact rfl
   apply HeadS.consF .none rfl
   ·exact rfl
   ·exact rfl
   ·exact in1
   ·exact rfl
   ·exact rfl
   apply HeadS.consF (V:=.agg [I (blkD l lens (sz8 e) c1).2.1,.own 4 1 0 (blkD l lens (sz8 e) c1).2.2.length]) (.both 0 (CurO v (blkD l lens (sz8 e) c1).1) 4 ⟨ints (blkD l lens (sz8 e) c1).2.2,1,1,some 3⟩) rfl
   ·exact rfl
   ·exact rfl
   ·intro Tv Ov hc hp' hd hk
    obtain ⟨R,rfl⟩:=split1 (hp' 0 _ rfl)
    have h3:=hp' 4 _ rfl
    refine K.call ?_
    refine K.conP (fun hcon=>?_)
    refine WpL.callP1N (A:=[]) (hcon v l c1 lens (sz8 e) ⟨hc1,hsz,hlens⟩) hp rfl handA handOA rfl (.cons rfl (.sc (.sc (.sc .nil))) .nil) outA rfl (by decide) ?_
    apply WpL.putV (O:=[]) (p:=4) (Ov:=CurO v (blkD l lens (sz8 e) c1).1::R)
    ·exact .agg (.keep rfl rfl (.own (by first|rfl|simp) .nil)) .nil
    ·exact h3
    ·exact Nat.le_of_ble_eq_true rfl
    ·exact rfl
    ·exact still_ints _
   ·exact rfl
   ·exact rfl
   apply HeadS.consF (V:=.own 5 1 0 1) (.put 5 (⟨[I (blkD l lens (sz8 e) c1).2.1,.own 4 1 0 (blkD l lens (sz8 e) c1).2.2.length],1,2,some 92⟩)) rfl
   ·exact rfl
   ·exact rfl
   ·intro Tv Ov hc hp' hd hk
    refine WpL.litF (cs:=[I (blkD l lens (sz8 e) c1).2.1,.own 4 1 0 (blkD l lens (sz8 e) c1).2.2.length]) tabOk rfl rfl rfl rfl (by decide) (by rw [nid_len,Nat.zero_add]) (by decide) ?_
    apply WpL.putA (p:=5)
    ·exact .own rfl .nil
    ·exact hp' 5 _ rfl
    ·exact Nat.le_of_ble_eq_true rfl
    ·exact rfl
   ·exact rfl
   ·exact rfl
   apply HeadS.consF (V:=.own 3 1 0 (bs.length+1)) (⟨[(4,⟨[],2,0,none⟩),(3,⟨rows blkF (bs++[(blkD l lens (sz8 e) c1).2]),1,2,some 92⟩)],false⟩) rfl
   ·exact rfl
   ·exact rfl
   ·intro Tv Ov hc hp' hd hk
    obtain ⟨a0,a1,a2,R,rfl⟩:=split345 (hp' 3 _ rfl) (hp' 4 _ rfl) (hd 6 _ 5 _ (by decide) rfl rfl rfl)
    refine K.bi ?_
    refine WpL.appBlk (j:=4) (c:=(blkD l lens (sz8 e) c1).2.1) (lv:=(blkD l lens (sz8 e) c1).2.2) tabOk rfl rfl rfl (Nat.le_of_ble_eq_true rfl) rfl rfl rfl rfl rfl (Nat.le_of_ble_eq_true rfl) rfl rfl (by omega) (by decide) ?_
    exact WpL.nil (Only.mk rfl)
   ·exact rfl
   ·exact rfl
   exact HeadS.nil
  ·exact rfl
  ·exact rfl
  ·exact rfl
  ·exact rfl
  ·exact rfl
  ·exact rfl
  ·exact rfl
  refine go (r:=?_);and_intros<;>intros<;>try exact True.intro
  all_goals first|contradiction|omega|skip
  have e1:nm8 e-((k-1:Nat):Int)=nm8 e-k+1:=by omega
  refine Rnd.go (k-1,(blkD l lens (sz8 e) c1).1,bs++[(blkD l lens (sz8 e) c1).2]) ⟨hb.1,by simp only;omega,by simp only [List.length_append,List.length_singleton];omega,hE⟩ ?_ ?_
  ·show k-1<k;omega
  ·simp only [e1,List.length_append,List.length_singleton]
   exact Weak.mk (by repeat (first|exact ReT.nil|refine ReT.cons (.keep rfl rfl .nil) ?_|refine ReT.cons (.own rfl rfl rfl rfl rfl rfl .nil) ?_|refine ReT.cons (.ptr rfl rfl rfl rfl .nil) ?_|refine ReT.cons (.keep (congrArg (fun z=>AV.sc (Value.int .i64 z)) (by first|omega|(skip))) rfl .nil) ?_|refine ReT.cons (.keep (congrArg (fun z:List UInt8=>AV.sc (Value.string ⟨z.toArray⟩)) (by skip)) rfl .nil) ?_|refine ReT.cons (.own rfl rfl rfl rfl rfl (by first|omega|(simp;done)|(simp;omega)) .nil) ?_)) (by repeat (first
    |exact ReO.nil
    |refine ReO.cons (Re.same rfl rfl) (.inr rfl) ?_
    |refine ReO.cons (Re.same rfl (still_rows (fun _=>rfl) _)) (.inr rfl) ?_
    |refine ReO.cons (.keep rfl rfl (.own rfl rfl rfl rfl rfl rfl .nil)) (.inr rfl) ?_)) (Nat.le_of_ble_eq_true rfl)⟩
end Go.Proofs.YtndflfipaddfoaaGreat


namespace Go.Abs
open Go
theorem RelAt.preC {n m G S ι F T O a w} (hr:RelAt n m G S ι F ⟨T,O⟩ a w) {id:Nat} (j:Nat) {ob:AObj} (ho:O[id]?=some ob):∃F',RelAt n m G S ι F' ⟨T,O.set id ⟨ob.cells.take j,ob.ep,ob.size,ob.ty⟩⟩ a w:=by
 have hid:id<O.length:=(List.getElem?_eq_some_iff.1 ho).1
 have hlat:Later S w ι O S w ι (O.set id ⟨ob.cells.take j,ob.ep,ob.size,ob.ty⟩):=⟨fun _ h=>h,fun _ _=>rfl,fun i oi hi=>by
  by_cases e:i=id
  ·subst e;rw [ho] at hi;cases hi
   exact ⟨⟨ob.cells.take j,ob.ep,ob.size,ob.ty⟩,by rw [List.getElem?_set_self hid],.inr ⟨rfl,rfl,rfl⟩⟩
  ·exact ⟨oi,by rw [List.getElem?_set,if_neg (fun h=>e h.symm)];exact hi,.inr ⟨rfl,rfl,rfl⟩⟩⟩
 obtain ⟨g,hg,hsub,hnd⟩:∃g,ObjAt S w ι (O.set id ⟨ob.cells.take j,ob.ep,ob.size,ob.ty⟩) ⟨ob.cells.take j,ob.ep,ob.size,ob.ty⟩ (ι id) g∧(∀ b∈g,b∈F id)∧g.Nodup:=by
  have h:=hr.objs.obj id _ ho
  have hn:=hr.objs.nodup id hid
  unfold ObjAt at h ⊢
  cases hs:ι id with
  |none=>rw [hs] at h;exact ⟨[],⟨by simp [h.1],rfl⟩,by simp,by simp⟩
  |some p=>
   obtain ⟨b,k⟩:=p
   rw [hs] at h
   obtain ⟨cur,t,fz,f',h1,h2,h3,h4,h5,h6,h7⟩:=h
   obtain ⟨g,g1,g2,g3⟩:=h7.take j
   rw [h1] at hn ⊢
   obtain ⟨n1,n2⟩:=List.nodup_cons.1 hn
   have hle:(ob.cells.take j).length≤ob.cells.length:=List.length_take_le' _ _
   refine ⟨b::g,⟨cur,t,fz,g,rfl,h2,h3,by show (ob.cells.take j).length≤k;omega,h5,h6,?_⟩,fun c hc=>?_,List.nodup_cons.2 ⟨fun hc=>n1 (g2 _ hc),g3 n2⟩⟩
   ·have e2:cur.toList.take (ob.cells.take j).length=(cur.toList.take ob.cells.length).take j:=by
     rw [List.take_take,List.length_take]
    show LRel S w ι _ (ob.cells.take j) (cur.toList.take (ob.cells.take j).length) g
    rw [e2];exact g1.mono hlat (fun _ _=>rfl)
   ·rcases List.mem_cons.1 hc with hc|hc
    ·exact hc▸List.mem_cons_self
    ·exact List.mem_cons_of_mem _ (g2 _ hc)
 have hF:∀i b,b∈upd F id g i→b∈F i:=fun i b hb=>by
  by_cases e:i=id
  ·subst e;rw [upd_same] at hb;exact hsub b hb
  ·rw [upd_other _ _ e] at hb;exact hb
 refine ⟨upd F id g,hr.defers,hr.size,fun t=>(hr.tmps t).mono hlat (by simp),⟨fun i oi hi=>?_,fun i hi=>?_,fun i j' hi hj hij b hb hb'=>hr.objs.apart i j' (by simpa using hi) (by simpa using hj) hij b (hF i b hb) (hF j' b hb')⟩,fun i hi b hb=>hr.foot i (by simpa using hi) b (hF i b hb),hr.base,hr.stable,hr.keeps,hr.spots,by have:=hr.mle;simpa using this⟩
 ·have hi:(O.set id ⟨ob.cells.take j,ob.ep,ob.size,ob.ty⟩)[i]?=some oi:=hi
  by_cases e:i=id
  ·subst e
   rw [List.getElem?_set_self hid] at hi;cases hi
   rw [upd_same];exact hg
  ·rw [upd_other _ _ e]
   rw [List.getElem?_set,if_neg (fun h=>e h.symm)] at hi
   have h:=hr.objs.obj i oi hi
   unfold ObjAt at h ⊢
   cases hs:ι i with
   |none=>rw [hs] at h;exact h
   |some p=>
    obtain ⟨b,k⟩:=p
    rw [hs] at h
    obtain ⟨cur,t,fz,f',h1,h2,h3,h4,h5,h6,h7⟩:=h
    exact ⟨cur,t,fz,f',h1,h2,h3,h4,h5,h6,h7.mono hlat (fun _ _=>rfl)⟩
 ·by_cases e:i=id
  ·subst e;rw [upd_same];exact hnd
  ·rw [upd_other _ _ e];exact hr.objs.nodup i (by simpa using hi)
theorem Weak.preC {m id:Nat} {T:List (Nat×AV)} {O:List AObj} {ob:AObj} (j:Nat) (ho:O[id]?=some ob):Weak m ⟨T,O⟩ ⟨T,O.set id ⟨ob.cells.take j,ob.ep,ob.size,ob.ty⟩⟩:=by
 rintro n G a w ⟨S,ι,F,hr⟩
 obtain ⟨F',h⟩:=hr.preC j ho
 exact ⟨S,ι,F',h⟩
theorem rows_take {α:Type} {f:α→List AV} {k:Nat} (hk:∀a,(f a).length=k):∀(xs:List α) (j:Nat),(rows f xs).take (j*k)=rows f (xs.take j)
 |[],j=>by simp [rows]
 |x::xs,0=>by simp [rows]
 |x::xs,j+1=>by
  have ih:=rows_take hk xs j
  have e:(j+1)*k=(f x).length+j*k:=by rw [hk,Nat.add_mul,Nat.one_mul,Nat.add_comm]
  rw [e]
  simp only [rows,List.flatMap_cons,List.take_succ_cons] at ih ⊢
  rw [List.take_append,Nat.add_sub_cancel_left,List.take_of_length_le (by omega),ih]
theorem Weak.preRows {m id k ep sz:Nat} {te:Option TypeId} {T:List (Nat×AV)} {O:List AObj} {α:Type} {f:α→List AV} {xs:List α} (j:Nat) (hk:∀a,(f a).length=k) (ho:O[id]?=some ⟨rows f xs,ep,sz,te⟩):Weak m ⟨T,O⟩ ⟨T,O.set id ⟨rows f (xs.take j),ep,sz,te⟩⟩:=by
 have:=Weak.preC (m:=m) (T:=T) (j*k) ho
 rw [rows_take hk] at this
 exact this
theorem Weak.unnestRow {id i k o len s ep sz j m:Nat} {T:List (Nat×AV)} {O:List AObj} {te:Option TypeId} {α:Type} [Inhabited α] {f:α→List AV} {xs:List α} {cs:List AV} {σ':St} (ho:O[id]?=some ⟨rows f xs,ep,sz,te⟩) (hk:∀a,(f a).length=k) (hi:i<xs.length) (hv:(f (xs.getD i default))[o]?=some (.fre s len cs)) (hj:O.length=j)
 (h:Weak m ⟨T,O.set id ⟨(rows f xs).set (i*k+o) (.own j 0 0 len),ep,sz,te⟩++[⟨cs,0,s,none⟩]⟩ σ'):Weak m ⟨T,O⟩ σ':=by
 subst hj
 refine Weak.trans ?_ h
 rintro n' G' a w ⟨S,ι,F,hr⟩
 obtain ⟨ι',F',hr'⟩:=hr.unnest ho (rows_get hk hi hv)
 exact ⟨S,ι',F',hr'⟩
end Go.Abs


namespace Go.Proofs.YtndflfipaddfoaaGreat
open Go Go.Abs
attribute [local irreducible] WpA WpL Rnd Blk Abs.Seq Abs.Fin Abs.FinG FnC FnG FnX FnP FinX Only
attribute [local irreducible] belowD onceD pickD modeD l8D l8AnyD optD anyD seedD headD headAnyD symL HasC blkD mbD
abbrev anyM:List Int:=[-1,6,2]
abbrev anyL:List Int:=[16383,16384,-16384]
def mbAnyD (l lens:List Int) (c:Cr):Cr×Mbk:=
 if (belowD l (belowD l (mbD l lens c).1 (mbD l lens c).2.2.length).1 14).2=0 then ((pickD l (belowD l (belowD l (mbD l lens c).1 (mbD l lens c).2.2.length).1 14).1 anyM).1,((mbD l lens c).2.1,(mbD l lens c).2.2.set (belowD l (mbD l lens c).1 (mbD l lens c).2.2.length).2.toNat ((pickD l (belowD l (belowD l (mbD l lens c).1 (mbD l lens c).2.2.length).1 14).1 anyM).2,((mbD l lens c).2.2.getD (belowD l (mbD l lens c).1 (mbD l lens c).2.2.length).2.toNat default).2)))
 else if (belowD l (belowD l (mbD l lens c).1 (mbD l lens c).2.2.length).1 14).2=1 then ((pickD l (belowD l (belowD l (mbD l lens c).1 (mbD l lens c).2.2.length).1 14).1 anyL).1,((mbD l lens c).2.1,(mbD l lens c).2.2.set (belowD l (mbD l lens c).1 (mbD l lens c).2.2.length).2.toNat (((mbD l lens c).2.2.getD (belowD l (mbD l lens c).1 (mbD l lens c).2.2.length).2.toNat default).1,((mbD l lens c).2.2.getD (belowD l (mbD l lens c).1 (mbD l lens c).2.2.length).2.toNat default).2.set 0 (pickD l (belowD l (belowD l (mbD l lens c).1 (mbD l lens c).2.2.length).1 14).1 anyL).2)))
 else if (belowD l (belowD l (mbD l lens c).1 (mbD l lens c).2.2.length).1 14).2=2 then ((belowD l (belowD l (mbD l lens c).1 (mbD l lens c).2.2.length).1 14).1,(!(mbD l lens c).2.1,(mbD l lens c).2.2))
 else if (belowD l (belowD l (mbD l lens c).1 (mbD l lens c).2.2.length).1 14).2=3 then ((belowD l (belowD l (mbD l lens c).1 (mbD l lens c).2.2.length).1 14).1,((mbD l lens c).2.1,(mbD l lens c).2.2.take (belowD l (mbD l lens c).1 (mbD l lens c).2.2.length).2.toNat))
 else ((belowD l (belowD l (mbD l lens c).1 (mbD l lens c).2.2.length).1 14).1,((mbD l lens c).2.1,(mbD l lens c).2.2))
theorem sp5 {Ov:List AObj} {e:AObj} (h:Ov[4]?=some e):∃a b c d R,Ov=a::b::c::d::e::R:=by
 match Ov,h with
 |a::b::c::d::f::R,h=>exact ⟨a,b,c,d,R,by simp at h;rw [h]⟩
instance l23AnyMb_p:ConP 155 (∀ (v:Value) (l:List Int) (c:Cr) (lens:List Int),CrOk l c∧lens.length≤1099511627776→Pn 155 v l c [IL lens] (mbAnyD l lens c).1 [BkO (mbAnyD l lens c).2.2] (.agg [B (mbAnyD l lens c).2.1,.own 1 0 0 (mbAnyD l lens c).2.2.length])):=⟨fun v l c lens hh=>by
 have h:=hh.1
 have hlens:=hh.2
 have hm:=mbD_ok (lens:=lens) h
 obtain ⟨hm1,hm2,hm3⟩:=hm
 have hnm:nm8 (mbD l lens c).2.1=1∨nm8 (mbD l lens c).2.1=4:=by cases (mbD l lens c).2.1<;>simp [nm8]
 have hb:=belowD_ok ((mbD l lens c).2.2.length:Int) hm1
 have hb0:=hb.2.1
 have hb1:=hb.2.2.1 (by omega)
 have hbc:=hb.1
 have hs:=belowD_ok 14 hbc
 have hs0:=hs.2.1
 have hs1:=hs.2.2.1 (by decide)
 have hsc:=hs.1
 have hlv:0<((mbD l lens c).2.2.getD (belowD l (mbD l lens c).1 (mbD l lens c).2.2.length).2.toNat default).2.length:=by
  have hq:=hm3 ((mbD l lens c).2.2.getD (belowD l (mbD l lens c).1 (mbD l lens c).2.2.length).2.toNat default) (by rw [List.getD_eq_getElem?_getD,List.getElem?_eq_getElem (show (belowD l (mbD l lens c).1 (mbD l lens c).2.2.length).2.toNat<(mbD l lens c).2.2.length by omega)];exact List.getElem_mem _)
  have h48:=sz8_48 (mbD l lens c).2.1
  rcases h48 with h4|h4<;>rw [h4] at hq<;>omega
 unfold mbAnyD
 by_cases h0:(belowD l (belowD l (mbD l lens c).1 (mbD l lens c).2.2.length).1 14).2=0
 ·rw [if_pos h0]
  refine FnP.of_body tabOk Tryz.func155 Tryz.ntmps155 rfl (by decide +kernel) (by simp) rfl rfl rfl fun G hp=>?_
  refine goR (r:=?_);and_intros<;>intros<;>try exact True.intro
  all_goals first|contradiction|exact hm1.2.1|exact hm1.2.2|exact hbc.2.1|exact hbc.2.2|omega|skip
  apply WpA.regionSF (O:=[]) (Or:=[CurO v (belowD l (belowD l (mbD l lens c).1 (mbD l lens c).2.2.length).1 14).1,⟨[B false,.nilS],0,0,none⟩,⟨rows blkF (mbD l lens c).2.2,0,2,some 92⟩,⟨[B (mbD l lens c).2.1,.own 2 0 0 (mbD l lens c).2.2.length],0,0,none⟩]) (O1:=[CurO v (pickD l (belowD l (belowD l (mbD l lens c).1 (mbD l lens c).2.2.length).1 14).1 anyM).1,⟨[B false,.nilS],0,0,none⟩,⟨rows blkF (mbD l lens c).2.2,0,2,some 92⟩,⟨[B (mbD l lens c).2.1,.own 2 0 0 (mbD l lens c).2.2.length],0,0,none⟩,⟨ints anyM,1,1,some 3⟩,deadO]) 8 1 [2,3] [] rfl mixed (by decide +kernel)
  ·exact rfl
  ·apply HeadS.consF .none rfl
   ·exact rfl
   ·exact rfl
   ·intro Tv Ov hc hp' hd hk
    obtain ⟨x0,x1,x2,R,rfl⟩:=Abs.split4 (hk 3 rfl)
    exact in1
   ·exact rfl
   ·exact rfl
   apply HeadS.consF .none rfl
   ·exact rfl
   ·exact rfl
   ·intro Tv Ov hc hp' hd hk
    obtain ⟨x0,x1,x2,R,rfl⟩:=Abs.split4 (hk 3 rfl)
    exact in1
   ·exact rfl
   ·exact rfl
   apply HeadS.consF .none rfl
   ·exact rfl
   ·exact rfl
   ·exact in1
   ·exact rfl
   ·exact rfl
   apply HeadS.consF .none rfl
   ·exact rfl
   ·exact rfl
   ·exact in1
   ·exact rfl
   ·exact rfl
   apply HeadS.consF (V:=.own 4 1 0 3) (.put 4 (⟨ints anyM,1,1,some 3⟩)) rfl
   ·exact rfl
   ·exact rfl
   ·intro Tv Ov hc hp' hd hk
    refine WpL.litInts tabOk rfl rfl rfl rfl rfl (by decide) (by rw [nid_len,Nat.zero_add]) (by decide) ?_
    apply WpL.putNil (p:=4)
    ·exact hp' 4 _ rfl
    ·exact Nat.le_of_ble_eq_true rfl
    ·exact rfl
    ·first|exact still_ints _|exact still_rows (fun _=>rfl) _|rfl
   ·exact rfl
   ·exact rfl
   apply HeadS.consF (V:=I (pickD l (belowD l (belowD l (mbD l lens c).1 (mbD l lens c).2.2.length).1 14).1 anyM).2) (.step 0 (CurO v (pickD l (belowD l (belowD l (mbD l lens c).1 (mbD l lens c).2.2.length).1 14).1 anyM).1)) rfl
   ·exact rfl
   ·exact rfl
   ·intro Tv Ov hc hp' hd hk
    obtain ⟨a1,a2,a3,R,rfl⟩:=split04 (hp' 0 _ rfl) (hd 4 _ 4 _ (by decide) rfl rfl rfl)
    refine K.call ?_
    refine K.conP (fun hcon=>?_)
    refine WpL.callP1 (hcon v l (belowD l (belowD l (mbD l lens c).1 (mbD l lens c).2.2.length).1 14).1 anyM ⟨hsc,by decide,by decide⟩) hp handA handOA rfl (.cons rfl (.sc (.sc (.sc .nil))) .nil) (by decide) ?_
    exact WpL.nil (Only.mk rfl)
   ·exact rfl
   ·exact rfl
   apply HeadS.consF .none rfl
   ·exact rfl
   ·exact rfl
   ·intro Tv Ov hc hp' hd hk
    obtain ⟨A0,A1,R0,rfl⟩:=Abs.split3 (hk 2 rfl)
    exact in1
   ·exact rfl
   ·exact rfl
   apply HeadS.consF .none rfl
   ·exact rfl
   ·exact rfl
   ·intro Tv Ov hc hp' hd hk
    obtain ⟨A0,A1,R0,rfl⟩:=Abs.split3 (hk 2 rfl)
    exact in1
   ·exact rfl
   ·exact rfl
   exact HeadS.nil
  ·exact rfl
  ·exact rfl
  ·exact rfl
  ·exact rfl
  ·exact rfl
  ·exact rfl
  ·exact rfl
  refine go (r:=?_);and_intros<;>intros<;>try exact True.intro
  all_goals first|contradiction|exact hsc.2.1|exact hsc.2.2|omega|skip
  exact .obj rfl (rows_set (k:=2) (o:=0) (fun _=>rfl) (by omega) (by decide) rfl) (still_rows (fun _=>rfl) _) rfl rfl (.inr rfl) .nil
 by_cases h1:(belowD l (belowD l (mbD l lens c).1 (mbD l lens c).2.2.length).1 14).2=1
 ·rw [if_neg h0,if_pos h1]
  refine FnP.of_body tabOk Tryz.func155 Tryz.ntmps155 rfl (by decide +kernel) (by simp) rfl rfl rfl fun G hp=>?_
  refine goR (r:=?_);and_intros<;>intros<;>try exact True.intro
  all_goals first|contradiction|exact hm1.2.1|exact hm1.2.2|exact hbc.2.1|exact hbc.2.2|omega|skip
  refine WpA.weak (Weak.unnestRow (f:=blkF) (id:=2) (i:=(belowD l (mbD l lens c).1 (mbD l lens c).2.2.length).2.toNat) (k:=2) (o:=1) (j:=4) (len:=((mbD l lens c).2.2.getD (belowD l (mbD l lens c).1 (mbD l lens c).2.2.length).2.toNat default).2.length) (s:=1) (cs:=ints ((mbD l lens c).2.2.getD (belowD l (mbD l lens c).1 (mbD l lens c).2.2.length).2.toNat default).2) rfl (fun _=>rfl) (by omega) rfl rfl (fun _ _ _ _ h=>h)) ?_
  apply WpA.regionSF (O:=[]) (Or:=[CurO v (belowD l (belowD l (mbD l lens c).1 (mbD l lens c).2.2.length).1 14).1,⟨[B false,.nilS],0,0,none⟩,⟨(rows blkF (mbD l lens c).2.2).set ((belowD l (mbD l lens c).1 (mbD l lens c).2.2.length).2.toNat*2+1) (.own 4 0 0 ((mbD l lens c).2.2.getD (belowD l (mbD l lens c).1 (mbD l lens c).2.2.length).2.toNat default).2.length),0,2,some 92⟩,⟨[B (mbD l lens c).2.1,.own 2 0 0 (mbD l lens c).2.2.length],0,0,none⟩,⟨ints ((mbD l lens c).2.2.getD (belowD l (mbD l lens c).1 (mbD l lens c).2.2.length).2.toNat default).2,0,1,none⟩]) (O1:=[CurO v (pickD l (belowD l (belowD l (mbD l lens c).1 (mbD l lens c).2.2.length).1 14).1 anyL).1,⟨[B false,.nilS],0,0,none⟩,⟨(rows blkF (mbD l lens c).2.2).set ((belowD l (mbD l lens c).1 (mbD l lens c).2.2.length).2.toNat*2+1) (.own 4 0 0 ((mbD l lens c).2.2.getD (belowD l (mbD l lens c).1 (mbD l lens c).2.2.length).2.toNat default).2.length),0,2,some 92⟩,⟨[B (mbD l lens c).2.1,.own 2 0 0 (mbD l lens c).2.2.length],0,0,none⟩,⟨ints ((mbD l lens c).2.2.getD (belowD l (mbD l lens c).1 (mbD l lens c).2.2.length).2.toNat default).2,0,1,none⟩,⟨ints anyL,1,1,some 3⟩,deadO]) 10 1 [2,3,4] [] rfl mixed (by decide +kernel)
  ·exact rfl
  ·apply HeadS.consF .none rfl
   ·exact rfl
   ·exact rfl
   ·intro Tv Ov hc hp' hd hk
    obtain ⟨x0,x1,x2,R,rfl⟩:=Abs.split4 (hk 3 rfl)
    exact in1
   ·exact rfl
   ·exact rfl
   apply HeadS.consF .none rfl
   ·exact rfl
   ·exact rfl
   ·intro Tv Ov hc hp' hd hk
    obtain ⟨x0,x1,x2,R,rfl⟩:=Abs.split4 (hk 3 rfl)
    exact in1
   ·exact rfl
   ·exact rfl
   apply HeadS.consF .none rfl
   ·exact rfl
   ·exact rfl
   ·exact in1
   ·exact rfl
   ·exact rfl
   apply HeadS.consF .none rfl
   ·exact rfl
   ·exact rfl
   ·intro Tv Ov hc hp' hd hk
    obtain ⟨A0,A1,R0,rfl⟩:=Abs.split3 (hk 2 rfl)
    exact in1
   ·exact rfl
   ·exact rfl
   apply HeadS.consF .none rfl
   ·exact rfl
   ·exact rfl
   ·intro Tv Ov hc hp' hd hk
    obtain ⟨A0,A1,R0,rfl⟩:=Abs.split3 (hk 2 rfl)
    exact in1
   ·exact rfl
   ·exact rfl
   apply HeadS.consF (V:=.own 4 0 0 ((mbD l lens c).2.2.getD (belowD l (mbD l lens c).1 (mbD l lens c).2.2.length).2.toNat default).2.length) .none rfl
   ·exact rfl
   ·exact rfl
   ·intro Tv Ov hc hp' hd hk
    obtain ⟨A0,A1,R0,rfl⟩:=Abs.split3 (hk 2 rfl)
    refine K.ld ?_
    refine WpL.load1 tabOk rfl rfl rfl (V:=.own 4 0 0 ((mbD l lens c).2.2.getD (belowD l (mbD l lens c).1 (mbD l lens c).2.2.length).2.toNat default).2.length) ?_ rfl (by decide) ?_
    ·have hlr:(rows blkF (mbD l lens c).2.2).length=(mbD l lens c).2.2.length*2:=rows_len (f:=blkF) (k:=2) (fun _=>rfl) _
     simp only [Nat.zero_add]
     rw [List.getElem?_set_self (by omega)]
    ·exact WpL.nil (Only.mk rfl)
   ·exact rfl
   ·exact rfl
   apply HeadS.consF .none rfl
   ·exact rfl
   ·exact rfl
   ·exact in1
   ·exact rfl
   ·exact rfl
   apply HeadS.consF (V:=.own 5 1 0 3) (.put 5 (⟨ints anyL,1,1,some 3⟩)) rfl
   ·exact rfl
   ·exact rfl
   ·intro Tv Ov hc hp' hd hk
    refine WpL.litInts tabOk rfl rfl rfl rfl rfl (by decide) (by rw [nid_len,Nat.zero_add]) (by decide) ?_
    apply WpL.putNil (p:=5)
    ·exact hp' 5 _ rfl
    ·exact Nat.le_of_ble_eq_true rfl
    ·exact rfl
    ·first|exact still_ints _|exact still_rows (fun _=>rfl) _|rfl
   ·exact rfl
   ·exact rfl
   apply HeadS.consF (V:=I (pickD l (belowD l (belowD l (mbD l lens c).1 (mbD l lens c).2.2.length).1 14).1 anyL).2) (.step 0 (CurO v (pickD l (belowD l (belowD l (mbD l lens c).1 (mbD l lens c).2.2.length).1 14).1 anyL).1)) rfl
   ·exact rfl
   ·exact rfl
   ·intro Tv Ov hc hp' hd hk
    obtain ⟨a1,a2,a3,a4,R,rfl⟩:=split05 (hp' 0 _ rfl) (hd 7 _ 5 _ (by decide) rfl rfl rfl)
    refine K.call ?_
    refine K.conP (fun hcon=>?_)
    refine WpL.callP1 (hcon v l (belowD l (belowD l (mbD l lens c).1 (mbD l lens c).2.2.length).1 14).1 anyL ⟨hsc,by decide,by decide⟩) hp handA handOA rfl (.cons rfl (.sc (.sc (.sc .nil))) .nil) (by decide) ?_
    exact WpL.nil (Only.mk rfl)
   ·exact rfl
   ·exact rfl
   apply HeadS.consF (V:=.ptr 4 0 0) .none rfl
   ·exact rfl
   ·exact rfl
   ·intro Tv Ov hc hp' hd hk
    obtain ⟨x0,x1,x2,x3,R,rfl⟩:=sp5 (hk 4 rfl)
    exact in1
   ·exact rfl
   ·exact rfl
   exact HeadS.nil
  ·exact rfl
  ·exact rfl
  ·exact rfl
  ·exact rfl
  ·exact rfl
  ·exact rfl
  ·exact rfl
  refine K.st ?_
  refine WpL.storeInts tabOk rfl rfl rfl rfl rfl (by omega) ?_
  refine WpL.weak (Weak.nestBlk (id:=2) (j:=4) (i:=(belowD l (mbD l lens c).1 (mbD l lens c).2.2.length).2.toNat) (lv:=((mbD l lens c).2.2.getD (belowD l (mbD l lens c).1 (mbD l lens c).2.2.length).2.toNat default).2.set 0 (pickD l (belowD l (belowD l (mbD l lens c).1 (mbD l lens c).2.2.length).1 14).1 anyL).2) rfl rfl rfl (by decide) (by simp only [List.length_set]) (by omega) (fun _ _ _ _ h=>h)) ?_
  refine go (r:=?_);and_intros<;>intros<;>try exact True.intro
  all_goals first|contradiction|exact hsc.2.1|exact hsc.2.2|omega
 by_cases h2:(belowD l (belowD l (mbD l lens c).1 (mbD l lens c).2.2.length).1 14).2=2
 ·rw [if_neg h0,if_neg h1,if_pos h2]
  refine FnP.of_body tabOk Tryz.func155 Tryz.ntmps155 rfl (by decide +kernel) (by simp) rfl rfl rfl fun G hp=>?_
  refine goR (r:=?_);and_intros<;>intros<;>try exact True.intro
  all_goals first|contradiction|exact hm1.2.1|exact hm1.2.2|exact hbc.2.1|exact hbc.2.2|omega|skip
  all_goals trace_state
 by_cases h3:(belowD l (belowD l (mbD l lens c).1 (mbD l lens c).2.2.length).1 14).2=3
 ·rw [if_neg h0,if_neg h1,if_neg h2,if_pos h3]
  obtain ⟨kn,hkn⟩:∃kn:Nat,(belowD l (mbD l lens c).1 (mbD l lens c).2.2.length).2=kn:=⟨(belowD l (mbD l lens c).1 (mbD l lens c).2.2.length).2.toNat,by omega⟩
  have e5:((mbD l lens c).2.2.take (belowD l (mbD l lens c).1 (mbD l lens c).2.2.length).2.toNat).length=kn:=by rw [List.length_take];omega
  simp only [e5]
  refine FnP.of_body tabOk Tryz.func155 Tryz.ntmps155 rfl (by decide +kernel) (by simp) rfl rfl rfl fun G hp=>?_
  refine goR (r:=?_);and_intros<;>intros<;>try exact True.intro
  all_goals first|contradiction|exact hm1.2.1|exact hm1.2.2|exact hbc.2.1|exact hbc.2.2|omega|skip
  refine K.sl ?_
  refine WpL.subOwn (j:=kn) tabOk rfl rfl rfl rfl (by simp only [hkn];rfl) (by omega) (by decide) ?_
  refine WpL.weak (Weak.preRows (f:=blkF) (k:=2) (id:=2) (belowD l (mbD l lens c).1 (mbD l lens c).2.2.length).2.toNat (fun _=>rfl) rfl) ?_
  refine go (r:=?_);and_intros<;>intros<;>try exact True.intro
  all_goals first|contradiction|exact hsc.2.1|exact hsc.2.2|omega
 rw [if_neg h0,if_neg h1,if_neg h2,if_neg h3]
 refine FnP.of_body tabOk Tryz.func155 Tryz.ntmps155 rfl (by decide +kernel) (by simp) rfl rfl rfl fun G hp=>?_
 refine goR (r:=?_);and_intros<;>intros<;>try exact True.intro
 all_goals first|contradiction|exact hm1.2.1|exact hm1.2.2|exact hbc.2.1|exact hbc.2.2|omega|skip
 all_goals trace_state⟩
end Go.Proofs.YtndflfipaddfoaaGreat
