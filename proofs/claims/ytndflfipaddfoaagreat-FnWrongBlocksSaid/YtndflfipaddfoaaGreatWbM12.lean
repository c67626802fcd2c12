/- Proved in this text: lemmas and contracts of functions that the claim uses (parts: Db, Dm, BitsM, BitsH, Ln, SizeL, Unp). No condition. -/
import Derived.Test.YtndflfipaddfoaaGreatWbM10
import Derived.Test.YtndflfipaddfoaaGreatWbM11
set_option linter.unusedVariables false
set_option linter.unusedSimpArgs false
set_option maxRecDepth 100000
set_option maxHeartbeats 4000000


namespace Go.Proofs.YtndflfipaddfoaaGreat
open Go Go.Abs
attribute [local irreducible] WpA WpL Rnd Blk Abs.Seq Abs.Fin Abs.FinG FnC FnG FnX FnP FinX Only
attribute [local irreducible] belowD onceD pickD modeD l8D l8AnyD optD anyD seedD headD headAnyD symL HasC
theorem split04 {Ov:List AObj} {x y:AObj} (h0:Ov[0]?=some x) (h:Ov[4]?=some y):∃a b c R,Ov=x::a::b::c::y::R:=by
 match Ov,h0,h with
 |x'::a::b::c::y'::R,h0,h=>simp at h0 h;exact ⟨a,b,c,R,by rw [h0,h]⟩
 |[],h0,h=>simp at h
 |[_],h0,h=>simp at h
 |[_,_],h0,h=>simp at h
 |[_,_,_],h0,h=>simp at h
 |[_,_,_,_],h0,h=>simp at h
theorem split05 {Ov:List AObj} {x y:AObj} (h0:Ov[0]?=some x) (h:Ov[5]?=some y):∃a b c d R,Ov=x::a::b::c::d::y::R:=by
 match Ov,h0,h with
 |x'::a::b::c::d::y'::R,h0,h=>simp at h0 h;exact ⟨a,b,c,d,R,by rw [h0,h]⟩
 |[],h0,h=>simp at h
 |[_],h0,h=>simp at h
 |[_,_],h0,h=>simp at h
 |[_,_,_],h0,h=>simp at h
 |[_,_,_,_],h0,h=>simp at h
 |[_,_,_,_,_],h0,h=>simp at h
theorem dvS_eq {l:List Int} {n:Int} {s:Cr×List Int}:dvS l n s=((pickD l (belowD l (pickD l (belowD l s.1 (n*n)).1 (ixs n (belowD l s.1 (n*n)).2)).1 400).1 (lvs (belowD l (pickD l (belowD l s.1 (n*n)).1 (ixs n (belowD l s.1 (n*n)).2)).1 400).2)).1,
 s.2.set (pickD l (belowD l s.1 (n*n)).1 (ixs n (belowD l s.1 (n*n)).2)).2.toNat (pickD l (belowD l (pickD l (belowD l s.1 (n*n)).1 (ixs n (belowD l s.1 (n*n)).2)).1 400).1 (lvs (belowD l (pickD l (belowD l s.1 (n*n)).1 (ixs n (belowD l s.1 (n*n)).2)).1 400).2)).2):=rfl
abbrev eB (l:List Int) (n:Int) (c:Cr):Cr×Int:=belowD l c (n*n)
abbrev eI (l:List Int) (n:Int) (c:Cr):Cr×Int:=pickD l (eB l n c).1 (ixs n (eB l n c).2)
abbrev eQ (l:List Int) (n:Int) (c:Cr):Cr×Int:=belowD l (eI l n c).1 400
abbrev eW (l:List Int) (n:Int) (c:Cr):Cr×Int:=pickD l (eQ l n c).1 (lvs (eQ l n c).2)
theorem zk0 {X:Prop} (h:X:=by exact Weak.mk (by repeat (first|exact ReT.nil|refine ReT.cons (.keep rfl rfl .nil) ?_|refine ReT.cons (.own rfl rfl rfl rfl rfl rfl .nil) ?_|refine ReT.cons (.ptr rfl rfl rfl rfl .nil) ?_|refine ReT.cons (.keep (congrArg (fun z=>AV.sc (Value.int .i64 z)) (by first|omega|(skip))) rfl .nil) ?_|refine ReT.cons (.keep (congrArg (fun z:List UInt8=>AV.sc (Value.string ⟨z.toArray⟩)) (by skip)) rfl .nil) ?_|refine ReT.cons (.own rfl rfl rfl rfl rfl (by first|omega|(simp;done)|(simp;omega)) .nil) ?_)) (by repeat (first|exact ReO.nil|refine ReO.cons (Re.same rfl rfl) (.inr rfl) ?_|refine ReO.cons (Re.same rfl (still_ints _)) (.inr rfl) ?_|refine ReO.cons (.keep rfl rfl (.own rfl rfl rfl rfl rfl rfl .nil)) (.inr rfl) ?_)) (Nat.le_of_ble_eq_true rfl)):X:=h
instance l23Block_p:ConP 125 (∀ (v:Value) (l:List Int) (c:Cr) (lens:List Int) (n:Int),CrOk l c∧(n=4∨n=8)∧lens.length≤1099511627776→Pn 125 v l c [IL lens,I n] (blkD l lens n c).1 [XI (blkD l lens n c).2.2] (.agg [I (blkD l lens n c).2.1,.own 1 0 0 (blkD l lens n c).2.2.length])):=⟨fun v l c lens n hh=>by
 have h:=hh.1
 have hn:=hh.2.1
 have hlens:=hh.2.2
 have hnn:n*n=16∨n*n=64:=by rcases hn with rfl|rfl<;>decide
 have hn8:0≤n∧n≤8:=by omega
 have hmul:=mul_in (a:=n) (b:=n) (by omega) (by omega)
 have hsp:=fun m=>symL_pos lens m
 have hs7:=fun m=>symL_len7 lens m
 have hA:=bmA_ok (lens:=lens) 8 true (s:=(c,0)) h ⟨Int.le_refl 0,by show (0:Int)≤5;omega⟩
 have hM:=blkM_ok (lens:=lens) h
 have hb5:=belowD_ok 5 hM
 have hb50:=hb5.2.1
 have hb51:=hb5.2.2.1 (by decide)
 have hMc1:=hM.2.1
 have hMc2:=hM.2.2
 unfold blkD
 generalize hL:dvK l n _ _=L
 generalize hBM:(blkM l lens c).2=BM
 have hBM1:(blkM l lens c).1=(bmA l lens 8 true (c,0)).1:=rfl
 have hBM2:BM=bmC lens (bmB lens (6-(bmA l lens 8 true (c,0)).2).toNat (bmA l lens 8 true (c,0)).2):=hBM.symm
 rw [hBM1] at hL hb5 hb50 hb51 hMc1 hMc2
 generalize hS:bmA l lens 8 true (c,0)=S at*
 refine FnP.of_body tabOk Tryz.func125 Tryz.ntmps125 rfl (by decide +kernel) (by simp) rfl rfl rfl fun G hp=>?_
 refine go (r:=?_);and_intros<;>intros<;>try exact True.intro
 refine WpA.loop (fun x:Nat×Cr×Int=>⟨[(0,.ptr 0 0 0),(1,IL lens),(2,I n),(6,.ptr 1 0 0),(7,.ptr 3 0 0),(8,I x.1)],[CurO v x.2.1,⟨[I 0,.nilS],0,0,none⟩,XI (List.replicate (n*n).toNat 0),⟨[I x.2.2,.own 2 0 0 (n*n).toNat],0,0,none⟩]⟩) (fun x=>x.1≤8∧CrOk l x.2.1∧bmA l lens (8-x.1) (decide (x.1=0)) x.2=S) (fun x=>8-x.1) (0,c,0) ⟨Nat.zero_le _,h,hS⟩ (go (r:=?_)) ?_
 ·and_intros<;>first|exact True.intro|rfl
 rintro ⟨k,c1,m1⟩ ⟨hk,hc1,hK⟩
 simp only at hk hc1 hK ⊢
 have hb6:=belowD_ok 6 hc1
 have hc11:=hc1.2.1
 have hc12:=hc1.2.2
 have hsp1:=hsp m1
 have hs71:=hs7 m1
 by_cases hgg:k<8∧(k=0∨¬HasC lens m1)
 ·obtain ⟨hk8,hgg⟩:=hgg
  have hE:bmA l lens (8-(k+1)) (decide (k+1=0)) (belowD l c1 6)=S:=by
   rw [show 8-k=(8-(k+1))+1 by omega,bmA_go (hgg.imp (fun h0=>by simp [h0]) id)] at hK
   rw [show decide (k+1=0)=false by simp];exact hK
  by_cases hk0:k=0
  ·subst hk0
   refine go (r:=?_);and_intros<;>intros<;>try exact True.intro
   all_goals first|contradiction|omega|skip
   refine Rnd.go (0+1,(belowD l c1 6).1,(belowD l c1 6).2) ⟨by omega,hb6.1,hE⟩ ?_ ?_
   ·show 8-(0+1)<8-0;omega
   ·exact zk0
  ·have hnh:=hgg.resolve_left hk0
   have hzero:(symL lens m1).length=0:=Nat.eq_zero_of_not_pos fun h0=>hnh (hsp1.1 h0)
   refine go (r:=?_);and_intros<;>intros<;>try exact True.intro
   all_goals first|contradiction|omega|skip
   refine Rnd.go (k+1,(belowD l c1 6).1,(belowD l c1 6).2) ⟨by omega,hb6.1,hE⟩ ?_ ?_
   ·show 8-(k+1)<8-k;omega
   ·exact zk0
 ·have hSe:(c1,m1)=S:=by
   by_cases hk8:k=8
   ·subst hk8;exact hK
   ·have h2:k≠0∧HasC lens m1:=by
     constructor
     ·rintro rfl;exact hgg ⟨by omega,.inl rfl⟩
     ·exact Decidable.byContradiction fun h0=>hgg ⟨by omega,.inr h0⟩
    rw [show decide (k=0)=false by simp [h2.1],bmA_stop h2.2] at hK
    exact hK
  have hcase:k=8∨(k<8∧k≠0∧0<(symL lens m1).length):=by
   by_cases hk8:k=8
   ·exact .inl hk8
   ·refine .inr ⟨by omega,fun h0=>hgg ⟨by omega,.inl h0⟩,hsp1.2 (Decidable.byContradiction fun h0=>hgg ⟨by omega,.inr h0⟩)⟩
  clear hgg hK
  subst hSe
  try simp only at hBM2 hA hMc1 hMc2 hL hb5 hb50 hb51
  have hb5c:0≤c1.1∧c1.1≤(l.length:Int):=⟨hc11,hc12⟩
  generalize hS2:bmB lens (6-m1).toNat m1=S2 at hBM2
  rcases hcase with hk8|⟨hk8,hk0,hpos1⟩
  ·refine go (r:=?_);and_intros<;>intros<;>try exact True.intro
   all_goals first|contradiction|omega|skip
   refine WpL.openAny (t:=20) rfl (fun v0=>?_)
   by_cases hv:v0=.bool false
   ·subst hv
    refine go (r:=?_);and_intros<;>intros<;>try exact True.intro
    all_goals first|contradiction|omega|skip
    refine WpA.loop (fun m:Int=>⟨[(0,.ptr 0 0 0),(1,IL lens),(2,I n),(6,.ptr 1 0 0),(7,.ptr 3 0 0)],[CurO v c1,⟨[I 0,.nilS],0,0,none⟩,XI (List.replicate (n*n).toNat 0),⟨[I m,.own 2 0 0 (n*n).toNat],0,0,none⟩]⟩) (fun m=>0≤m∧m≤6∧bmB lens (6-m).toNat m=S2) (fun m=>(6-m).toNat) m1 ⟨hA.2.1,by omega,hS2⟩ ?_ ?_
    ·exact zk0
    rintro m ⟨hm0,hm6,hmB⟩
    try simp only at hm0 hm6 hmB ⊢
    have hspm:=hsp m
    have hs7m:=hs7 m
    by_cases hmm:HasC lens m∨¬m<6
    ·rw [bmB_stop hmm] at hmB
     subst hmB
     by_cases hh2:HasC lens m
     ·have hpos:=hspm.2 hh2
      have hbc:bmC lens m=m:=by unfold bmC;rw [if_pos hh2]
      rw [hbc] at hBM2
      refine go (r:=?_);and_intros<;>intros<;>try exact True.intro
      all_goals first|contradiction|omega|exact hb5c.1|exact hb5c.2|skip
      subst hBM2
      refine WpA.loop (fun x:Nat×Cr×List Int=>⟨[(0,.ptr 0 0 0),(2,I n),(6,.ptr 1 0 0),(7,.ptr 3 0 0),(9,I x.1)],[CurO v x.2.1,⟨[I 0,.nilS],0,0,none⟩,XI x.2.2,⟨[I BM,.own 2 0 0 x.2.2.length],0,0,none⟩]⟩) (fun x=>CrOk l x.2.1∧x.2.2.length=(n*n).toNat∧dvK l n x.1 x.2=L∧x.1≤4) (fun x=>x.1) ((belowD l c1 5).2.toNat,(belowD l c1 5).1,List.replicate (n*n).toNat 0) ⟨hb5.1,by simp,hL,by simp only;omega⟩ ?_ ?_
      ·have ez:(((belowD l c1 5).2.toNat:Nat):Int)=(belowD l c1 5).2:=by omega
       simp only [ez,List.length_replicate]
       exact zk0
      rintro ⟨k3,c3,xs⟩ ⟨hc3,hxl,hL3,hk4⟩
      try simp only at hc3 hxl hL3 hk4 ⊢
      by_cases hk3:k3=0
      ·subst hk3
       have hLe:(c3,xs)=L:=hL3
       subst hLe
       refine go (r:=?_);and_intros<;>intros<;>try exact True.intro
       all_goals trace_state
      ·have hE:dvK l n (k3-1) (dvS l n (c3,xs))=L:=by
        obtain ⟨j,rfl⟩:∃j,k3=j+1:=⟨k3-1,by omega⟩
        exact hL3
       have hfacts:=dvS_facts (s:=(c3,xs)) hn hc3
       rw [dvS_eq] at hE hfacts
       obtain ⟨f1,f2,⟨f3,f4⟩,f5,f6,f7⟩:=hfacts
       have f3':0≤(eI l n c3).2:=f3
       have f4':(eI l n c3).2<n*n:=f4
       have hq4:=belowD_ok 400 f2
       have hq40:0≤(eQ l n c3).2:=hq4.2.1
       have hq41:(eQ l n c3).2<400:=hq4.2.2.1 (by decide)
       refine goR (r:=?_);and_intros<;>intros<;>try exact True.intro
       all_goals first|contradiction|omega|skip
       apply WpA.regionSF (O:=[]) (Or:=[CurO v c3,⟨[I 0,.nilS],0,0,none⟩,XI xs,⟨[I BM,.own 2 0 0 xs.length],0,0,none⟩]) (O1:=[CurO v (eW l n c3).1,⟨[I 0,.nilS],0,0,none⟩,XI xs,⟨[I BM,.own 2 0 0 xs.length],0,0,none⟩,⟨ints (ixs n (eB l n c3).2),1,1,some 3⟩,⟨ints (lvs (eQ l n c3).2),1,1,some 3⟩,deadO,deadO]) 20 2 [3] [0] rfl mixed (by decide +kernel)
       ·exact rfl
       ·apply HeadS.consF .none rfl
        ·exact rfl
        ·exact rfl
        ·intro Tv Ov hc hp' hd hk
         obtain ⟨x0,x1,x2,R,rfl⟩:=Abs.split4 (hk 3 rfl)
         exact in1
        ·exact rfl
        ·exact rfl
        apply HeadS.consF .none rfl
        ·exact rfl
        ·exact rfl
        ·intro Tv Ov hc hp' hd hk
         obtain ⟨x0,x1,x2,R,rfl⟩:=Abs.split4 (hk 3 rfl)
         exact in1
        ·exact rfl
        ·exact rfl
        apply HeadS.consF .none rfl
        ·exact rfl
        ·exact rfl
        ·exact in1
        ·exact rfl
        ·exact rfl
        apply HeadS.consF .none rfl
        ·exact rfl
        ·exact rfl
        ·exact in1
        ·exact rfl
        ·exact rfl
        apply HeadS.consF .none rfl
        ·exact rfl
        ·exact rfl
        ·exact in1
        ·exact rfl
        ·exact rfl
        apply HeadS.consF .none rfl
        ·exact rfl
        ·exact rfl
        ·exact in1
        ·exact rfl
        ·exact rfl
        apply HeadS.consF .none rfl
        ·exact rfl
        ·exact rfl
        ·exact in1
        ·exact rfl
        ·exact rfl
        apply HeadS.consF .none rfl
        ·exact rfl
        ·exact rfl
        ·exact in1
        ·exact rfl
        ·exact rfl
        apply HeadS.consF .none rfl
        ·exact rfl
        ·exact rfl
        ·exact in1
        ·exact rfl
        ·exact rfl
        apply HeadS.consF .none rfl
        ·exact rfl
        ·exact rfl
        ·exact in1
        ·exact rfl
        ·exact rfl
        apply HeadS.consF .none rfl
        ·exact rfl
        ·exact rfl
        ·exact in1
        ·exact rfl
        ·exact rfl
        apply HeadS.consF (V:=I (eB l n c3).2) (.step 0 (CurO v (eB l n c3).1)) rfl
        ·exact rfl
        ·exact rfl
        ·intro Tv Ov hc hp' hd hk
         obtain ⟨R,rfl⟩:=split1 (hp' 0 _ rfl)
         refine K.call ?_
         refine K.conP (fun hcon=>?_)
         refine WpL.callP1 (hcon v l c3 (n*n) hc3) hp handA handOA rfl (.cons rfl (.sc (.sc (.sc .nil))) .nil) (by decide) ?_
         exact WpL.nil (Only.mk rfl)
        ·exact rfl
        ·exact rfl
        apply HeadS.consF (V:=.own 4 1 0 6) (.put 4 (⟨ints (ixs n (eB l n c3).2),1,1,some 3⟩)) rfl
        ·exact rfl
        ·exact rfl
        ·intro Tv Ov hc hp' hd hk
         refine WpL.litInts tabOk rfl rfl rfl rfl rfl (by decide) (by rw [nid_len,Nat.zero_add]) (by decide) ?_
         apply WpL.putNil (p:=4)
         ·exact hp' 4 _ rfl
         ·exact Nat.le_of_ble_eq_true rfl
         ·exact rfl
         ·first|exact still_ints _|exact still_rows (fun _=>rfl) _|rfl
        ·exact rfl
        ·exact rfl
        apply HeadS.consF (V:=I (eI l n c3).2) (.step 0 (CurO v (eI l n c3).1)) rfl
        ·exact rfl
        ·exact rfl
        ·intro Tv Ov hc hp' hd hk
         obtain ⟨a1,a2,a3,R,rfl⟩:=split04 (hp' 0 _ rfl) (hd 12 _ 4 _ (by decide) rfl rfl rfl)
         refine K.call ?_
         refine K.conP (fun hcon=>?_)
         refine WpL.callP1 (hcon v l (eB l n c3).1 (ixs n (eB l n c3).2) ⟨f1,by simp,by simp⟩) hp handA handOA rfl (.cons rfl (.sc (.sc (.sc .nil))) .nil) (by decide) ?_
         exact WpL.nil (Only.mk rfl)
        ·exact rfl
        ·exact rfl
        apply HeadS.consF .none rfl
        ·exact rfl
        ·exact rfl
        ·exact in1
        ·exact rfl
        ·exact rfl
        apply HeadS.consF .none rfl
        ·exact rfl
        ·exact rfl
        ·exact in1
        ·exact rfl
        ·exact rfl
        apply HeadS.consF (V:=I (eQ l n c3).2) (.step 0 (CurO v (eQ l n c3).1)) rfl
        ·exact rfl
        ·exact rfl
        ·intro Tv Ov hc hp' hd hk
         obtain ⟨R,rfl⟩:=split1 (hp' 0 _ rfl)
         refine K.call ?_
         refine K.conP (fun hcon=>?_)
         refine WpL.callP1 (hcon v l (eI l n c3).1 400 f2) hp handA handOA rfl (.cons rfl (.sc (.sc (.sc .nil))) .nil) (by decide) ?_
         exact WpL.nil (Only.mk rfl)
        ·exact rfl
        ·exact rfl
        apply HeadS.consF .none rfl
        ·exact rfl
        ·exact rfl
        ·exact in1
        ·exact rfl
        ·exact rfl
        apply HeadS.consF (V:=.own 5 1 0 6) (.put 5 (⟨ints (lvs (eQ l n c3).2),1,1,some 3⟩)) rfl
        ·exact rfl
        ·exact rfl
        ·intro Tv Ov hc hp' hd hk
         refine WpL.litInts tabOk rfl rfl rfl rfl rfl (by decide) (by rw [nid_len,Nat.zero_add]) (by decide) ?_
         apply WpL.putNil (p:=5)
         ·exact hp' 5 _ rfl
         ·exact Nat.le_of_ble_eq_true rfl
         ·exact rfl
         ·first|exact still_ints _|exact still_rows (fun _=>rfl) _|rfl
        ·exact rfl
        ·exact rfl
        apply HeadS.consF (V:=I (eW l n c3).2) (.step 0 (CurO v (eW l n c3).1)) rfl
        ·exact rfl
        ·exact rfl
        ·intro Tv Ov hc hp' hd hk
         obtain ⟨a1,a2,a3,a4,R,rfl⟩:=split05 (hp' 0 _ rfl) (hd 18 _ 5 _ (by decide) rfl rfl rfl)
         refine K.call ?_
         refine K.conP (fun hcon=>?_)
         refine WpL.callP1 (hcon v l (eQ l n c3).1 (lvs (eQ l n c3).2) ⟨f5,by simp,by simp⟩) hp handA handOA rfl (.cons rfl (.sc (.sc (.sc .nil))) .nil) (by decide) ?_
         exact WpL.nil (Only.mk rfl)
        ·exact rfl
        ·exact rfl
        exact HeadS.nil
       ·exact rfl
       ·exact rfl
       ·exact rfl
       ·exact rfl
       ·exact rfl
       ·exact rfl
       ·exact rfl
       refine go (r:=?_);and_intros<;>intros<;>try exact True.intro
       all_goals first|contradiction|omega|skip
       refine Rnd.go (k3-1,(eW l n c3).1,xs.set (eI l n c3).2.toNat (eW l n c3).2) ⟨f6,by rw [List.length_set];exact hxl,hE,by simp only;omega⟩ ?_ ?_
       ·show k3-1<k3;omega
       ·simp only [List.length_set]
        exact zk0
     ·have hzero:(symL lens m).length=0:=Nat.eq_zero_of_not_pos fun h0=>hh2 (hspm.1 h0)
      have hm6b:=hmm.resolve_left hh2
      have hbc:bmC lens m=1:=by unfold bmC;rw [if_neg hh2]
      rw [hbc] at hBM2
      refine go (r:=?_);and_intros<;>intros<;>try exact True.intro
      all_goals first|contradiction|omega|exact hb5c.1|exact hb5c.2|skip
      subst hBM2
      refine WpA.loop (fun x:Nat×Cr×List Int=>⟨[(0,.ptr 0 0 0),(2,I n),(6,.ptr 1 0 0),(7,.ptr 3 0 0),(9,I x.1)],[CurO v x.2.1,⟨[I 0,.nilS],0,0,none⟩,XI x.2.2,⟨[I 1,.own 2 0 0 x.2.2.length],0,0,none⟩]⟩) (fun x=>CrOk l x.2.1∧x.2.2.length=(n*n).toNat∧dvK l n x.1 x.2=L∧x.1≤4) (fun x=>x.1) ((belowD l c1 5).2.toNat,(belowD l c1 5).1,List.replicate (n*n).toNat 0) ⟨hb5.1,by simp,hL,by simp only;omega⟩ ?_ ?_
      ·have ez:(((belowD l c1 5).2.toNat:Nat):Int)=(belowD l c1 5).2:=by omega
       simp only [ez,List.length_replicate]
       exact zk0
      rintro ⟨k3,c3,xs⟩ ⟨hc3,hxl,hL3,hk4⟩
      try simp only at hc3 hxl hL3 hk4 ⊢
      by_cases hk3:k3=0
      ·subst hk3
       have hLe:(c3,xs)=L:=hL3
       subst hLe
       refine go (r:=?_);and_intros<;>intros<;>try exact True.intro
       all_goals trace_state
      ·have hE:dvK l n (k3-1) (dvS l n (c3,xs))=L:=by
        obtain ⟨j,rfl⟩:∃j,k3=j+1:=⟨k3-1,by omega⟩
        exact hL3
       have hfacts:=dvS_facts (s:=(c3,xs)) hn hc3
       rw [dvS_eq] at hE hfacts
       obtain ⟨f1,f2,⟨f3,f4⟩,f5,f6,f7⟩:=hfacts
       have f3':0≤(eI l n c3).2:=f3
       have f4':(eI l n c3).2<n*n:=f4
       have hq4:=belowD_ok 400 f2
       have hq40:0≤(eQ l n c3).2:=hq4.2.1
       have hq41:(eQ l n c3).2<400:=hq4.2.2.1 (by decide)
       refine goR (r:=?_);and_intros<;>intros<;>try exact True.intro
       all_goals first|contradiction|omega|skip
       apply WpA.regionSF (O:=[]) (Or:=[CurO v c3,⟨[I 0,.nilS],0,0,none⟩,XI xs,⟨[I 1,.own 2 0 0 xs.length],0,0,none⟩]) (O1:=[CurO v (eW l n c3).1,⟨[I 0,.nilS],0,0,none⟩,XI xs,⟨[I 1,.own 2 0 0 xs.length],0,0,none⟩,⟨ints (ixs n (eB l n c3).2),1,1,some 3⟩,⟨ints (lvs (eQ l n c3).2),1,1,some 3⟩,deadO,deadO]) 20 2 [3] [0] rfl mixed (by decide +kernel)
       ·exact rfl
       ·apply HeadS.consF .none rfl
        ·exact rfl
        ·exact rfl
        ·intro Tv Ov hc hp' hd hk
         obtain ⟨x0,x1,x2,R,rfl⟩:=Abs.split4 (hk 3 rfl)
         exact in1
        ·exact rfl
        ·exact rfl
        apply HeadS.consF .none rfl
        ·exact rfl
        ·exact rfl
        ·intro Tv Ov hc hp' hd hk
         obtain ⟨x0,x1,x2,R,rfl⟩:=Abs.split4 (hk 3 rfl)
         exact in1
        ·exact rfl
        ·exact rfl
        apply HeadS.consF .none rfl
        ·exact rfl
        ·exact rfl
        ·exact in1
        ·exact rfl
        ·exact rfl
        apply HeadS.consF .none rfl
        ·exact rfl
        ·exact rfl
        ·exact in1
        ·exact rfl
        ·exact rfl
        apply HeadS.consF .none rfl
        ·exact rfl
        ·exact rfl
        ·exact in1
        ·exact rfl
        ·exact rfl
        apply HeadS.consF .none rfl
        ·exact rfl
        ·exact rfl
        ·exact in1
        ·exact rfl
        ·exact rfl
        apply HeadS.consF .none rfl
        ·exact rfl
        ·exact rfl
        ·exact in1
        ·exact rfl
        ·exact rfl
        apply HeadS.consF .none rfl
        ·exact rfl
        ·exact rfl
        ·exact in1
        ·exact rfl
        ·exact rfl
        apply HeadS.consF .none rfl
        ·exact rfl
        ·exact rfl
        ·exact in1
        ·exact rfl
        ·exact rfl
        apply HeadS.consF .none rfl
        ·exact rfl
        ·exact rfl
        ·exact in1
        ·exact rfl
        ·exact rfl
        apply HeadS.consF .none rfl
        ·exact rfl
        ·exact rfl
        ·exact in1
        ·exact rfl
        ·exact rfl
        apply HeadS.consF (V:=I (eB l n c3).2) (.step 0 (CurO v (eB l n c3).1)) rfl
        ·exact rfl
        ·exact rfl
        ·intro Tv Ov hc hp' hd hk
         obtain ⟨R,rfl⟩:=split1 (hp' 0 _ rfl)
         refine K.call ?_
         refine K.conP (fun hcon=>?_)
         refine WpL.callP1 (hcon v l c3 (n*n) hc3) hp handA handOA rfl (.cons rfl (.sc (.sc (.sc .nil))) .nil) (by decide) ?_
         exact WpL.nil (Only.mk rfl)
        ·exact rfl
        ·exact rfl
        apply HeadS.consF (V:=.own 4 1 0 6) (.put 4 (⟨ints (ixs n (eB l n c3).2),1,1,some 3⟩)) rfl
        ·exact rfl
        ·exact rfl
        ·intro Tv Ov hc hp' hd hk
         refine WpL.litInts tabOk rfl rfl rfl rfl rfl (by decide) (by rw [nid_len,Nat.zero_add]) (by decide) ?_
         apply WpL.putNil (p:=4)
         ·exact hp' 4 _ rfl
         ·exact Nat.le_of_ble_eq_true rfl
         ·exact rfl
         ·first|exact still_ints _|exact still_rows (fun _=>rfl) _|rfl
        ·exact rfl
        ·exact rfl
        apply HeadS.consF (V:=I (eI l n c3).2) (.step 0 (CurO v (eI l n c3).1)) rfl
        ·exact rfl
        ·exact rfl
        ·intro Tv Ov hc hp' hd hk
         obtain ⟨a1,a2,a3,R,rfl⟩:=split04 (hp' 0 _ rfl) (hd 12 _ 4 _ (by decide) rfl rfl rfl)
         refine K.call ?_
         refine K.conP (fun hcon=>?_)
         refine WpL.callP1 (hcon v l (eB l n c3).1 (ixs n (eB l n c3).2) ⟨f1,by simp,by simp⟩) hp handA handOA rfl (.cons rfl (.sc (.sc (.sc .nil))) .nil) (by decide) ?_
         exact WpL.nil (Only.mk rfl)
        ·exact rfl
        ·exact rfl
        apply HeadS.consF .none rfl
        ·exact rfl
        ·exact rfl
        ·exact in1
        ·exact rfl
        ·exact rfl
        apply HeadS.consF .none rfl
        ·exact rfl
        ·exact rfl
        ·exact in1
        ·exact rfl
        ·exact rfl
        apply HeadS.consF (V:=I (eQ l n c3).2) (.step 0 (CurO v (eQ l n c3).1)) rfl
        ·exact rfl
        ·exact rfl
        ·intro Tv Ov hc hp' hd hk
         obtain ⟨R,rfl⟩:=split1 (hp' 0 _ rfl)
         refine K.call ?_
         refine K.conP (fun hcon=>?_)
         refine WpL.callP1 (hcon v l (eI l n c3).1 400 f2) hp handA handOA rfl (.cons rfl (.sc (.sc (.sc .nil))) .nil) (by decide) ?_
         exact WpL.nil (Only.mk rfl)
        ·exact rfl
        ·exact rfl
        apply HeadS.consF .none rfl
        ·exact rfl
        ·exact rfl
        ·exact in1
        ·exact rfl
        ·exact rfl
        apply HeadS.consF (V:=.own 5 1 0 6) (.put 5 (⟨ints (lvs (eQ l n c3).2),1,1,some 3⟩)) rfl
        ·exact rfl
        ·exact rfl
        ·intro Tv Ov hc hp' hd hk
         refine WpL.litInts tabOk rfl rfl rfl rfl rfl (by decide) (by rw [nid_len,Nat.zero_add]) (by decide) ?_
         apply WpL.putNil (p:=5)
         ·exact hp' 5 _ rfl
         ·exact Nat.le_of_ble_eq_true rfl
         ·exact rfl
         ·first|exact still_ints _|exact still_rows (fun _=>rfl) _|rfl
        ·exact rfl
        ·exact rfl
        apply HeadS.consF (V:=I (eW l n c3).2) (.step 0 (CurO v (eW l n c3).1)) rfl
        ·exact rfl
        ·exact rfl
        ·intro Tv Ov hc hp' hd hk
         obtain ⟨a1,a2,a3,a4,R,rfl⟩:=split05 (hp' 0 _ rfl) (hd 18 _ 5 _ (by decide) rfl rfl rfl)
         refine K.call ?_
         refine K.conP (fun hcon=>?_)
         refine WpL.callP1 (hcon v l (eQ l n c3).1 (lvs (eQ l n c3).2) ⟨f5,by simp,by simp⟩) hp handA handOA rfl (.cons rfl (.sc (.sc (.sc .nil))) .nil) (by decide) ?_
         exact WpL.nil (Only.mk rfl)
        ·exact rfl
        ·exact rfl
        exact HeadS.nil
       ·exact rfl
       ·exact rfl
       ·exact rfl
       ·exact rfl
       ·exact rfl
       ·exact rfl
       ·exact rfl
       refine go (r:=?_);and_intros<;>intros<;>try exact True.intro
       all_goals first|contradiction|omega|skip
       refine Rnd.go (k3-1,(eW l n c3).1,xs.set (eI l n c3).2.toNat (eW l n c3).2) ⟨f6,by rw [List.length_set];exact hxl,hE,by simp only;omega⟩ ?_ ?_
       ·show k3-1<k3;omega
       ·simp only [List.length_set]
        exact zk0
    ·have hh2:¬HasC lens m:=fun h0=>hmm (.inl h0)
     have hm6b:m<6:=Decidable.byContradiction fun h0=>hmm (.inr h0)
     have hzero:(symL lens m).length=0:=Nat.eq_zero_of_not_pos fun h0=>hh2 (hspm.1 h0)
     rw [bmB_go hm6b hh2] at hmB
     refine go (r:=?_);and_intros<;>intros<;>try exact True.intro
     all_goals first|contradiction|omega|skip
     refine Rnd.go (m+1) ⟨by omega,by omega,hmB⟩ ?_ ?_
     ·show (6-(m+1)).toNat<(6-m).toNat;omega
     ·exact zk0
   ·refine WpL.guardV (σ:=⟨_,_⟩) rfl rfl (by decide) rfl hv rfl ?_
    refine WpL.guardV (σ:=⟨_,_⟩) rfl rfl (by decide) rfl hv rfl ?_
    refine WpL.guardV (σ:=⟨_,_⟩) rfl rfl (by decide) rfl hv rfl ?_
    refine WpL.guardV (σ:=⟨_,_⟩) rfl rfl (by decide) rfl hv rfl ?_
    refine WpL.guardV (σ:=⟨_,_⟩) rfl rfl (by decide) rfl hv rfl ?_
    refine WpL.guardV (σ:=⟨_,_⟩) rfl rfl (by decide) rfl hv rfl ?_
    refine go (r:=?_);and_intros<;>intros<;>try exact True.intro
    all_goals first|contradiction|omega|skip
    refine WpA.loop (fun m:Int=>⟨[(0,.ptr 0 0 0),(1,IL lens),(2,I n),(6,.ptr 1 0 0),(7,.ptr 3 0 0)],[CurO v c1,⟨[I 0,.nilS],0,0,none⟩,XI (List.replicate (n*n).toNat 0),⟨[I m,.own 2 0 0 (n*n).toNat],0,0,none⟩]⟩) (fun m=>0≤m∧m≤6∧bmB lens (6-m).toNat m=S2) (fun m=>(6-m).toNat) m1 ⟨hA.2.1,by omega,hS2⟩ ?_ ?_
    ·exact zk0
    rintro m ⟨hm0,hm6,hmB⟩
    try simp only at hm0 hm6 hmB ⊢
    have hspm:=hsp m
    have hs7m:=hs7 m
    by_cases hmm:HasC lens m∨¬m<6
    ·rw [bmB_stop hmm] at hmB
     subst hmB
     by_cases hh2:HasC lens m
     ·have hpos:=hspm.2 hh2
      have hbc:bmC lens m=m:=by unfold bmC;rw [if_pos hh2]
      rw [hbc] at hBM2
      refine go (r:=?_);and_intros<;>intros<;>try exact True.intro
      all_goals first|contradiction|omega|exact hb5c.1|exact hb5c.2|skip
      subst hBM2
      refine WpA.loop (fun x:Nat×Cr×List Int=>⟨[(0,.ptr 0 0 0),(2,I n),(6,.ptr 1 0 0),(7,.ptr 3 0 0),(9,I x.1)],[CurO v x.2.1,⟨[I 0,.nilS],0,0,none⟩,XI x.2.2,⟨[I BM,.own 2 0 0 x.2.2.length],0,0,none⟩]⟩) (fun x=>CrOk l x.2.1∧x.2.2.length=(n*n).toNat∧dvK l n x.1 x.2=L∧x.1≤4) (fun x=>x.1) ((belowD l c1 5).2.toNat,(belowD l c1 5).1,List.replicate (n*n).toNat 0) ⟨hb5.1,by simp,hL,by simp only;omega⟩ ?_ ?_
      ·have ez:(((belowD l c1 5).2.toNat:Nat):Int)=(belowD l c1 5).2:=by omega
       simp only [ez,List.length_replicate]
       exact zk0
      rintro ⟨k3,c3,xs⟩ ⟨hc3,hxl,hL3,hk4⟩
      try simp only at hc3 hxl hL3 hk4 ⊢
      by_cases hk3:k3=0
      ·subst hk3
       have hLe:(c3,xs)=L:=hL3
       subst hLe
       refine go (r:=?_);and_intros<;>intros<;>try exact True.intro
       all_goals trace_state
      ·have hE:dvK l n (k3-1) (dvS l n (c3,xs))=L:=by
        obtain ⟨j,rfl⟩:∃j,k3=j+1:=⟨k3-1,by omega⟩
        exact hL3
       have hfacts:=dvS_facts (s:=(c3,xs)) hn hc3
       rw [dvS_eq] at hE hfacts
       obtain ⟨f1,f2,⟨f3,f4⟩,f5,f6,f7⟩:=hfacts
       have f3':0≤(eI l n c3).2:=f3
       have f4':(eI l n c3).2<n*n:=f4
       have hq4:=belowD_ok 400 f2
       have hq40:0≤(eQ l n c3).2:=hq4.2.1
       have hq41:(eQ l n c3).2<400:=hq4.2.2.1 (by decide)
       refine goR (r:=?_);and_intros<;>intros<;>try exact True.intro
       all_goals first|contradiction|omega|skip
       apply WpA.regionSF (O:=[]) (Or:=[CurO v c3,⟨[I 0,.nilS],0,0,none⟩,XI xs,⟨[I BM,.own 2 0 0 xs.length],0,0,none⟩]) (O1:=[CurO v (eW l n c3).1,⟨[I 0,.nilS],0,0,none⟩,XI xs,⟨[I BM,.own 2 0 0 xs.length],0,0,none⟩,⟨ints (ixs n (eB l n c3).2),1,1,some 3⟩,⟨ints (lvs (eQ l n c3).2),1,1,some 3⟩,deadO,deadO]) 20 2 [3] [0] rfl mixed (by decide +kernel)
       ·exact rfl
       ·apply HeadS.consF .none rfl
        ·exact rfl
        ·exact rfl
        ·intro Tv Ov hc hp' hd hk
         obtain ⟨x0,x1,x2,R,rfl⟩:=Abs.split4 (hk 3 rfl)
         exact in1
        ·exact rfl
        ·exact rfl
        apply HeadS.consF .none rfl
        ·exact rfl
        ·exact rfl
        ·intro Tv Ov hc hp' hd hk
         obtain ⟨x0,x1,x2,R,rfl⟩:=Abs.split4 (hk 3 rfl)
         exact in1
        ·exact rfl
        ·exact rfl
        apply HeadS.consF .none rfl
        ·exact rfl
        ·exact rfl
        ·exact in1
        ·exact rfl
        ·exact rfl
        apply HeadS.consF .none rfl
        ·exact rfl
        ·exact rfl
        ·exact in1
        ·exact rfl
        ·exact rfl
        apply HeadS.consF .none rfl
        ·exact rfl
        ·exact rfl
        ·exact in1
        ·exact rfl
        ·exact rfl
        apply HeadS.consF .none rfl
        ·exact rfl
        ·exact rfl
        ·exact in1
        ·exact rfl
        ·exact rfl
        apply HeadS.consF .none rfl
        ·exact rfl
        ·exact rfl
        ·exact in1
        ·exact rfl
        ·exact rfl
        apply HeadS.consF .none rfl
        ·exact rfl
        ·exact rfl
        ·exact in1
        ·exact rfl
        ·exact rfl
        apply HeadS.consF .none rfl
        ·exact rfl
        ·exact rfl
        ·exact in1
        ·exact rfl
        ·exact rfl
        apply HeadS.consF .none rfl
        ·exact rfl
        ·exact rfl
        ·exact in1
        ·exact rfl
        ·exact rfl
        apply HeadS.consF .none rfl
        ·exact rfl
        ·exact rfl
        ·exact in1
        ·exact rfl
        ·exact rfl
        apply HeadS.consF (V:=I (eB l n c3).2) (.step 0 (CurO v (eB l n c3).1)) rfl
        ·exact rfl
        ·exact rfl
        ·intro Tv Ov hc hp' hd hk
         obtain ⟨R,rfl⟩:=split1 (hp' 0 _ rfl)
         refine K.call ?_
         refine K.conP (fun hcon=>?_)
         refine WpL.callP1 (hcon v l c3 (n*n) hc3) hp handA handOA rfl (.cons rfl (.sc (.sc (.sc .nil))) .nil) (by decide) ?_
         exact WpL.nil (Only.mk rfl)
        ·exact rfl
        ·exact rfl
        apply HeadS.consF (V:=.own 4 1 0 6) (.put 4 (⟨ints (ixs n (eB l n c3).2),1,1,some 3⟩)) rfl
        ·exact rfl
        ·exact rfl
        ·intro Tv Ov hc hp' hd hk
         refine WpL.litInts tabOk rfl rfl rfl rfl rfl (by decide) (by rw [nid_len,Nat.zero_add]) (by decide) ?_
         apply WpL.putNil (p:=4)
         ·exact hp' 4 _ rfl
         ·exact Nat.le_of_ble_eq_true rfl
         ·exact rfl
         ·first|exact still_ints _|exact still_rows (fun _=>rfl) _|rfl
        ·exact rfl
        ·exact rfl
        apply HeadS.consF (V:=I (eI l n c3).2) (.step 0 (CurO v (eI l n c3).1)) rfl
        ·exact rfl
        ·exact rfl
        ·intro Tv Ov hc hp' hd hk
         obtain ⟨a1,a2,a3,R,rfl⟩:=split04 (hp' 0 _ rfl) (hd 12 _ 4 _ (by decide) rfl rfl rfl)
         refine K.call ?_
         refine K.conP (fun hcon=>?_)
         refine WpL.callP1 (hcon v l (eB l n c3).1 (ixs n (eB l n c3).2) ⟨f1,by simp,by simp⟩) hp handA handOA rfl (.cons rfl (.sc (.sc (.sc .nil))) .nil) (by decide) ?_
         exact WpL.nil (Only.mk rfl)
        ·exact rfl
        ·exact rfl
        apply HeadS.consF .none rfl
        ·exact rfl
        ·exact rfl
        ·exact in1
        ·exact rfl
        ·exact rfl
        apply HeadS.consF .none rfl
        ·exact rfl
        ·exact rfl
        ·exact in1
        ·exact rfl
        ·exact rfl
        apply HeadS.consF (V:=I (eQ l n c3).2) (.step 0 (CurO v (eQ l n c3).1)) rfl
        ·exact rfl
        ·exact rfl
        ·intro Tv Ov hc hp' hd hk
         obtain ⟨R,rfl⟩:=split1 (hp' 0 _ rfl)
         refine K.call ?_
         refine K.conP (fun hcon=>?_)
         refine WpL.callP1 (hcon v l (eI l n c3).1 400 f2) hp handA handOA rfl (.cons rfl (.sc (.sc (.sc .nil))) .nil) (by decide) ?_
         exact WpL.nil (Only.mk rfl)
        ·exact rfl
        ·exact rfl
        apply HeadS.consF .none rfl
        ·exact rfl
        ·exact rfl
        ·exact in1
        ·exact rfl
        ·exact rfl
        apply HeadS.consF (V:=.own 5 1 0 6) (.put 5 (⟨ints (lvs (eQ l n c3).2),1,1,some 3⟩)) rfl
        ·exact rfl
        ·exact rfl
        ·intro Tv Ov hc hp' hd hk
         refine WpL.litInts tabOk rfl rfl rfl rfl rfl (by decide) (by rw [nid_len,Nat.zero_add]) (by decide) ?_
         apply WpL.putNil (p:=5)
         ·exact hp' 5 _ rfl
         ·exact Nat.le_of_ble_eq_true rfl
         ·exact rfl
         ·first|exact still_ints _|exact still_rows (fun _=>rfl) _|rfl
        ·exact rfl
        ·exact rfl
        apply HeadS.consF (V:=I (eW l n c3).2) (.step 0 (CurO v (eW l n c3).1)) rfl
        ·exact rfl
        ·exact rfl
        ·intro Tv Ov hc hp' hd hk
         obtain ⟨a1,a2,a3,a4,R,rfl⟩:=split05 (hp' 0 _ rfl) (hd 18 _ 5 _ (by decide) rfl rfl rfl)
         refine K.call ?_
         refine K.conP (fun hcon=>?_)
         refine WpL.callP1 (hcon v l (eQ l n c3).1 (lvs (eQ l n c3).2) ⟨f5,by simp,by simp⟩) hp handA handOA rfl (.cons rfl (.sc (.sc (.sc .nil))) .nil) (by decide) ?_
         exact WpL.nil (Only.mk rfl)
        ·exact rfl
        ·exact rfl
        exact HeadS.nil
       ·exact rfl
       ·exact rfl
       ·exact rfl
       ·exact rfl
       ·exact rfl
       ·exact rfl
       ·exact rfl
       refine go (r:=?_);and_intros<;>intros<;>try exact True.intro
       all_goals first|contradiction|omega|skip
       refine Rnd.go (k3-1,(eW l n c3).1,xs.set (eI l n c3).2.toNat (eW l n c3).2) ⟨f6,by rw [List.length_set];exact hxl,hE,by simp only;omega⟩ ?_ ?_
       ·show k3-1<k3;omega
       ·simp only [List.length_set]
        exact zk0
     ·have hzero:(symL lens m).length=0:=Nat.eq_zero_of_not_pos fun h0=>hh2 (hspm.1 h0)
      have hm6b:=hmm.resolve_left hh2
      have hbc:bmC lens m=1:=by unfold bmC;rw [if_neg hh2]
      rw [hbc] at hBM2
      refine go (r:=?_);and_intros<;>intros<;>try exact True.intro
      all_goals first|contradiction|omega|exact hb5c.1|exact hb5c.2|skip
      subst hBM2
      refine WpA.loop (fun x:Nat×Cr×List Int=>⟨[(0,.ptr 0 0 0),(2,I n),(6,.ptr 1 0 0),(7,.ptr 3 0 0),(9,I x.1)],[CurO v x.2.1,⟨[I 0,.nilS],0,0,none⟩,XI x.2.2,⟨[I 1,.own 2 0 0 x.2.2.length],0,0,none⟩]⟩) (fun x=>CrOk l x.2.1∧x.2.2.length=(n*n).toNat∧dvK l n x.1 x.2=L∧x.1≤4) (fun x=>x.1) ((belowD l c1 5).2.toNat,(belowD l c1 5).1,List.replicate (n*n).toNat 0) ⟨hb5.1,by simp,hL,by simp only;omega⟩ ?_ ?_
      ·have ez:(((belowD l c1 5).2.toNat:Nat):Int)=(belowD l c1 5).2:=by omega
       simp only [ez,List.length_replicate]
       exact zk0
      rintro ⟨k3,c3,xs⟩ ⟨hc3,hxl,hL3,hk4⟩
      try simp only at hc3 hxl hL3 hk4 ⊢
      by_cases hk3:k3=0
      ·subst hk3
       have hLe:(c3,xs)=L:=hL3
       subst hLe
       refine go (r:=?_);and_intros<;>intros<;>try exact True.intro
       all_goals trace_state
      ·have hE:dvK l n (k3-1) (dvS l n (c3,xs))=L:=by
        obtain ⟨j,rfl⟩:∃j,k3=j+1:=⟨k3-1,by omega⟩
        exact hL3
       have hfacts:=dvS_facts (s:=(c3,xs)) hn hc3
       rw [dvS_eq] at hE hfacts
       obtain ⟨f1,f2,⟨f3,f4⟩,f5,f6,f7⟩:=hfacts
       have f3':0≤(eI l n c3).2:=f3
       have f4':(eI l n c3).2<n*n:=f4
       have hq4:=belowD_ok 400 f2
       have hq40:0≤(eQ l n c3).2:=hq4.2.1
       have hq41:(eQ l n c3).2<400:=hq4.2.2.1 (by decide)
       refine goR (r:=?_);and_intros<;>intros<;>try exact True.intro
       all_goals first|contradiction|omega|skip
       apply WpA.regionSF (O:=[]) (Or:=[CurO v c3,⟨[I 0,.nilS],0,0,none⟩,XI xs,⟨[I 1,.own 2 0 0 xs.length],0,0,none⟩]) (O1:=[CurO v (eW l n c3).1,⟨[I 0,.nilS],0,0,none⟩,XI xs,⟨[I 1,.own 2 0 0 xs.length],0,0,none⟩,⟨ints (ixs n (eB l n c3).2),1,1,some 3⟩,⟨ints (lvs (eQ l n c3).2),1,1,some 3⟩,deadO,deadO]) 20 2 [3] [0] rfl mixed (by decide +kernel)
       ·exact rfl
       ·apply HeadS.consF .none rfl
        ·exact rfl
        ·exact rfl
        ·intro Tv Ov hc hp' hd hk
         obtain ⟨x0,x1,x2,R,rfl⟩:=Abs.split4 (hk 3 rfl)
         exact in1
        ·exact rfl
        ·exact rfl
        apply HeadS.consF .none rfl
        ·exact rfl
        ·exact rfl
        ·intro Tv Ov hc hp' hd hk
         obtain ⟨x0,x1,x2,R,rfl⟩:=Abs.split4 (hk 3 rfl)
         exact in1
        ·exact rfl
        ·exact rfl
        apply HeadS.consF .none rfl
        ·exact rfl
        ·exact rfl
        ·exact in1
        ·exact rfl
        ·exact rfl
        apply HeadS.consF .none rfl
        ·exact rfl
        ·exact rfl
        ·exact in1
        ·exact rfl
        ·exact rfl
        apply HeadS.consF .none rfl
        ·exact rfl
        ·exact rfl
        ·exact in1
        ·exact rfl
        ·exact rfl
        apply HeadS.consF .none rfl
        ·exact rfl
        ·exact rfl
        ·exact in1
        ·exact rfl
        ·exact rfl
        apply HeadS.consF .none rfl
        ·exact rfl
        ·exact rfl
        ·exact in1
        ·exact rfl
        ·exact rfl
        apply HeadS.consF .none rfl
        ·exact rfl
        ·exact rfl
        ·exact in1
        ·exact rfl
        ·exact rfl
        apply HeadS.consF .none rfl
        ·exact rfl
        ·exact rfl
        ·exact in1
        ·exact rfl
        ·exact rfl
        apply HeadS.consF .none rfl
        ·exact rfl
        ·exact rfl
        ·exact in1
        ·exact rfl
        ·exact rfl
        apply HeadS.consF .none rfl
        ·exact rfl
        ·exact rfl
        ·exact in1
        ·exact rfl
        ·exact rfl
        apply HeadS.consF (V:=I (eB l n c3).2) (.step 0 (CurO v (eB l n c3).1)) rfl
        ·exact rfl
        ·exact rfl
        ·intro Tv Ov hc hp' hd hk
         obtain ⟨R,rfl⟩:=split1 (hp' 0 _ rfl)
         refine K.call ?_
         refine K.conP (fun hcon=>?_)
         refine WpL.callP1 (hcon v l c3 (n*n) hc3) hp handA handOA rfl (.cons rfl (.sc (.sc (.sc .nil))) .nil) (by decide) ?_
         exact WpL.nil (Only.mk rfl)
        ·exact rfl
        ·exact rfl
        apply HeadS.consF (V:=.own 4 1 0 6) (.put 4 (⟨ints (ixs n (eB l n c3).2),1,1,some 3⟩)) rfl
        ·exact rfl
        ·exact rfl
        ·intro Tv Ov hc hp' hd hk
         refine WpL.litInts tabOk rfl rfl rfl rfl rfl (by decide) (by rw [nid_len,Nat.zero_add]) (by decide) ?_
         apply WpL.putNil (p:=4)
         ·exact hp' 4 _ rfl
         ·exact Nat.le_of_ble_eq_true rfl
         ·exact rfl
         ·first|exact still_ints _|exact still_rows (fun _=>rfl) _|rfl
        ·exact rfl
        ·exact rfl
        apply HeadS.consF (V:=I (eI l n c3).2) (.step 0 (CurO v (eI l n c3).1)) rfl
        ·exact rfl
        ·exact rfl
        ·intro Tv Ov hc hp' hd hk
         obtain ⟨a1,a2,a3,R,rfl⟩:=split04 (hp' 0 _ rfl) (hd 12 _ 4 _ (by decide) rfl rfl rfl)
         refine K.call ?_
         refine K.conP (fun hcon=>?_)
         refine WpL.callP1 (hcon v l (eB l n c3).1 (ixs n (eB l n c3).2) ⟨f1,by simp,by simp⟩) hp handA handOA rfl (.cons rfl (.sc (.sc (.sc .nil))) .nil) (by decide) ?_
         exact WpL.nil (Only.mk rfl)
        ·exact rfl
        ·exact rfl
        apply HeadS.consF .none rfl
        ·exact rfl
        ·exact rfl
        ·exact in1
        ·exact rfl
        ·exact rfl
        apply HeadS.consF .none rfl
        ·exact rfl
        ·exact rfl
        ·exact in1
        ·exact rfl
        ·exact rfl
        apply HeadS.consF (V:=I (eQ l n c3).2) (.step 0 (CurO v (eQ l n c3).1)) rfl
        ·exact rfl
        ·exact rfl
        ·intro Tv Ov hc hp' hd hk
         obtain ⟨R,rfl⟩:=split1 (hp' 0 _ rfl)
         refine K.call ?_
         refine K.conP (fun hcon=>?_)
         refine WpL.callP1 (hcon v l (eI l n c3).1 400 f2) hp handA handOA rfl (.cons rfl (.sc (.sc (.sc .nil))) .nil) (by decide) ?_
         exact WpL.nil (Only.mk rfl)
        ·exact rfl
        ·exact rfl
        apply HeadS.consF .none rfl
        ·exact rfl
        ·exact rfl
        ·exact in1
        ·exact rfl
        ·exact rfl
        apply HeadS.consF (V:=.own 5 1 0 6) (.put 5 (⟨ints (lvs (eQ l n c3).2),1,1,some 3⟩)) rfl
        ·exact rfl
        ·exact rfl
        ·intro Tv Ov hc hp' hd hk
         refine WpL.litInts tabOk rfl rfl rfl rfl rfl (by decide) (by rw [nid_len,Nat.zero_add]) (by decide) ?_
         apply WpL.putNil (p:=5)
         ·exact hp' 5 _ rfl
         ·exact Nat.le_of_ble_eq_true rfl
         ·exact rfl
         ·first|exact still_ints _|exact still_rows (fun _=>rfl) _|rfl
        ·exact rfl
        ·exact rfl
        apply HeadS.consF (V:=I (eW l n c3).2) (.step 0 (CurO v (eW l n c3).1)) rfl
        ·exact rfl
        ·exact rfl
        ·intro Tv Ov hc hp' hd hk
         obtain ⟨a1,a2,a3,a4,R,rfl⟩:=split05 (hp' 0 _ rfl) (hd 18 _ 5 _ (by decide) rfl rfl rfl)
         refine K.call ?_
         refine K.conP (fun hcon=>?_)
         refine WpL.callP1 (hcon v l (eQ l n c3).1 (lvs (eQ l n c3).2) ⟨f5,by simp,by simp⟩) hp handA handOA rfl (.cons rfl (.sc (.sc (.sc .nil))) .nil) (by decide) ?_
         exact WpL.nil (Only.mk rfl)
        ·exact rfl
        ·exact rfl
        exact HeadS.nil
       ·exact rfl
       ·exact rfl
       ·exact rfl
       ·exact rfl
       ·exact rfl
       ·exact rfl
       ·exact rfl
       refine go (r:=?_);and_intros<;>intros<;>try exact True.intro
       all_goals first|contradiction|omega|skip
       refine Rnd.go (k3-1,(eW l n c3).1,xs.set (eI l n c3).2.toNat (eW l n c3).2) ⟨f6,by rw [List.length_set];exact hxl,hE,by simp only;omega⟩ ?_ ?_
       ·show k3-1<k3;omega
       ·simp only [List.length_set]
        exact zk0
    ·have hh2:¬HasC lens m:=fun h0=>hmm (.inl h0)
     have hm6b:m<6:=Decidable.byContradiction fun h0=>hmm (.inr h0)
     have hzero:(symL lens m).length=0:=Nat.eq_zero_of_not_pos fun h0=>hh2 (hspm.1 h0)
     rw [bmB_go hm6b hh2] at hmB
     refine go (r:=?_);and_intros<;>intros<;>try exact True.intro
     all_goals first|contradiction|omega|skip
     refine Rnd.go (m+1) ⟨by omega,by omega,hmB⟩ ?_ ?_
     ·show (6-(m+1)).toNat<(6-m).toNat;omega
     ·exact zk0
  ·refine go (r:=?_);and_intros<;>intros<;>try exact True.intro
   all_goals first|contradiction|omega|skip
   refine WpA.loop (fun m:Int=>⟨[(0,.ptr 0 0 0),(1,IL lens),(2,I n),(6,.ptr 1 0 0),(7,.ptr 3 0 0)],[CurO v c1,⟨[I 0,.nilS],0,0,none⟩,XI (List.replicate (n*n).toNat 0),⟨[I m,.own 2 0 0 (n*n).toNat],0,0,none⟩]⟩) (fun m=>0≤m∧m≤6∧bmB lens (6-m).toNat m=S2) (fun m=>(6-m).toNat) m1 ⟨hA.2.1,by omega,hS2⟩ ?_ ?_
   ·exact zk0
   rintro m ⟨hm0,hm6,hmB⟩
   try simp only at hm0 hm6 hmB ⊢
   have hspm:=hsp m
   have hs7m:=hs7 m
   by_cases hmm:HasC lens m∨¬m<6
   ·rw [bmB_stop hmm] at hmB
    subst hmB
    by_cases hh2:HasC lens m
    ·have hpos:=hspm.2 hh2
     have hbc:bmC lens m=m:=by unfold bmC;rw [if_pos hh2]
     rw [hbc] at hBM2
     refine go (r:=?_);and_intros<;>intros<;>try exact True.intro
     all_goals first|contradiction|omega|exact hb5c.1|exact hb5c.2|skip
     subst hBM2
     refine WpA.loop (fun x:Nat×Cr×List Int=>⟨[(0,.ptr 0 0 0),(2,I n),(6,.ptr 1 0 0),(7,.ptr 3 0 0),(9,I x.1)],[CurO v x.2.1,⟨[I 0,.nilS],0,0,none⟩,XI x.2.2,⟨[I BM,.own 2 0 0 x.2.2.length],0,0,none⟩]⟩) (fun x=>CrOk l x.2.1∧x.2.2.length=(n*n).toNat∧dvK l n x.1 x.2=L∧x.1≤4) (fun x=>x.1) ((belowD l c1 5).2.toNat,(belowD l c1 5).1,List.replicate (n*n).toNat 0) ⟨hb5.1,by simp,hL,by simp only;omega⟩ ?_ ?_
     ·have ez:(((belowD l c1 5).2.toNat:Nat):Int)=(belowD l c1 5).2:=by omega
      simp only [ez,List.length_replicate]
      exact zk0
     rintro ⟨k3,c3,xs⟩ ⟨hc3,hxl,hL3,hk4⟩
     try simp only at hc3 hxl hL3 hk4 ⊢
     by_cases hk3:k3=0
     ·subst hk3
      have hLe:(c3,xs)=L:=hL3
      subst hLe
      refine go (r:=?_);and_intros<;>intros<;>try exact True.intro
      all_goals trace_state
     ·have hE:dvK l n (k3-1) (dvS l n (c3,xs))=L:=by
       obtain ⟨j,rfl⟩:∃j,k3=j+1:=⟨k3-1,by omega⟩
       exact hL3
      have hfacts:=dvS_facts (s:=(c3,xs)) hn hc3
      rw [dvS_eq] at hE hfacts
      obtain ⟨f1,f2,⟨f3,f4⟩,f5,f6,f7⟩:=hfacts
      have f3':0≤(eI l n c3).2:=f3
      have f4':(eI l n c3).2<n*n:=f4
      have hq4:=belowD_ok 400 f2
      have hq40:0≤(eQ l n c3).2:=hq4.2.1
      have hq41:(eQ l n c3).2<400:=hq4.2.2.1 (by decide)
      refine goR (r:=?_);and_intros<;>intros<;>try exact True.intro
      all_goals first|contradiction|omega|skip
      apply WpA.regionSF (O:=[]) (Or:=[CurO v c3,⟨[I 0,.nilS],0,0,none⟩,XI xs,⟨[I BM,.own 2 0 0 xs.length],0,0,none⟩]) (O1:=[CurO v (eW l n c3).1,⟨[I 0,.nilS],0,0,none⟩,XI xs,⟨[I BM,.own 2 0 0 xs.length],0,0,none⟩,⟨ints (ixs n (eB l n c3).2),1,1,some 3⟩,⟨ints (lvs (eQ l n c3).2),1,1,some 3⟩,deadO,deadO]) 20 2 [3] [0] rfl mixed (by decide +kernel)
      ·exact rfl
      ·apply HeadS.consF .none rfl
       ·exact rfl
       ·exact rfl
       ·intro Tv Ov hc hp' hd hk
        obtain ⟨x0,x1,x2,R,rfl⟩:=Abs.split4 (hk 3 rfl)
        exact in1
       ·exact rfl
       ·exact rfl
       apply HeadS.consF .none rfl
       ·exact rfl
       ·exact rfl
       ·intro Tv Ov hc hp' hd hk
        obtain ⟨x0,x1,x2,R,rfl⟩:=Abs.split4 (hk 3 rfl)
        exact in1
       ·exact rfl
       ·exact rfl
       apply HeadS.consF .none rfl
       ·exact rfl
       ·exact rfl
       ·exact in1
       ·exact rfl
       ·exact rfl
       apply HeadS.consF .none rfl
       ·exact rfl
       ·exact rfl
       ·exact in1
       ·exact rfl
       ·exact rfl
       apply HeadS.consF .none rfl
       ·exact rfl
       ·exact rfl
       ·exact in1
       ·exact rfl
       ·exact rfl
       apply HeadS.consF .none rfl
       ·exact rfl
       ·exact rfl
       ·exact in1
       ·exact rfl
       ·exact rfl
       apply HeadS.consF .none rfl
       ·exact rfl
       ·exact rfl
       ·exact in1
       ·exact rfl
       ·exact rfl
       apply HeadS.consF .none rfl
       ·exact rfl
       ·exact rfl
       ·exact in1
       ·exact rfl
       ·exact rfl
       apply HeadS.consF .none rfl
       ·exact rfl
       ·exact rfl
       ·exact in1
       ·exact rfl
       ·exact rfl
       apply HeadS.consF .none rfl
       ·exact rfl
       ·exact rfl
       ·exact in1
       ·exact rfl
       ·exact rfl
       apply HeadS.consF .none rfl
       ·exact rfl
       ·exact rfl
       ·exact in1
       ·exact rfl
       ·exact rfl
       apply HeadS.consF (V:=I (eB l n c3).2) (.step 0 (CurO v (eB l n c3).1)) rfl
       ·exact rfl
       ·exact rfl
       ·intro Tv Ov hc hp' hd hk
        obtain ⟨R,rfl⟩:=split1 (hp' 0 _ rfl)
        refine K.call ?_
        refine K.conP (fun hcon=>?_)
        refine WpL.callP1 (hcon v l c3 (n*n) hc3) hp handA handOA rfl (.cons rfl (.sc (.sc (.sc .nil))) .nil) (by decide) ?_
        exact WpL.nil (Only.mk rfl)
       ·exact rfl
       ·exact rfl
       apply HeadS.consF (V:=.own 4 1 0 6) (.put 4 (⟨ints (ixs n (eB l n c3).2),1,1,some 3⟩)) rfl
       ·exact rfl
       ·exact rfl
       ·intro Tv Ov hc hp' hd hk
        refine WpL.litInts tabOk rfl rfl rfl rfl rfl (by decide) (by rw [nid_len,Nat.zero_add]) (by decide) ?_
        apply WpL.putNil (p:=4)
        ·exact hp' 4 _ rfl
        ·exact Nat.le_of_ble_eq_true rfl
        ·exact rfl
        ·first|exact still_ints _|exact still_rows (fun _=>rfl) _|rfl
       ·exact rfl
       ·exact rfl
       apply HeadS.consF (V:=I (eI l n c3).2) (.step 0 (CurO v (eI l n c3).1)) rfl
       ·exact rfl
       ·exact rfl
       ·intro Tv Ov hc hp' hd hk
        obtain ⟨a1,a2,a3,R,rfl⟩:=split04 (hp' 0 _ rfl) (hd 12 _ 4 _ (by decide) rfl rfl rfl)
        refine K.call ?_
        refine K.conP (fun hcon=>?_)
        refine WpL.callP1 (hcon v l (eB l n c3).1 (ixs n (eB l n c3).2) ⟨f1,by simp,by simp⟩) hp handA handOA rfl (.cons rfl (.sc (.sc (.sc .nil))) .nil) (by decide) ?_
        exact WpL.nil (Only.mk rfl)
       ·exact rfl
       ·exact rfl
       apply HeadS.consF .none rfl
       ·exact rfl
       ·exact rfl
       ·exact in1
       ·exact rfl
       ·exact rfl
       apply HeadS.consF .none rfl
       ·exact rfl
       ·exact rfl
       ·exact in1
       ·exact rfl
       ·exact rfl
       apply HeadS.consF (V:=I (eQ l n c3).2) (.step 0 (CurO v (eQ l n c3).1)) rfl
       ·exact rfl
       ·exact rfl
       ·intro Tv Ov hc hp' hd hk
        obtain ⟨R,rfl⟩:=split1 (hp' 0 _ rfl)
        refine K.call ?_
        refine K.conP (fun hcon=>?_)
        refine WpL.callP1 (hcon v l (eI l n c3).1 400 f2) hp handA handOA rfl (.cons rfl (.sc (.sc (.sc .nil))) .nil) (by decide) ?_
        exact WpL.nil (Only.mk rfl)
       ·exact rfl
       ·exact rfl
       apply HeadS.consF .none rfl
       ·exact rfl
       ·exact rfl
       ·exact in1
       ·exact rfl
       ·exact rfl
       apply HeadS.consF (V:=.own 5 1 0 6) (.put 5 (⟨ints (lvs (eQ l n c3).2),1,1,some 3⟩)) rfl
       ·exact rfl
       ·exact rfl
       ·intro Tv Ov hc hp' hd hk
        refine WpL.litInts tabOk rfl rfl rfl rfl rfl (by decide) (by rw [nid_len,Nat.zero_add]) (by decide) ?_
        apply WpL.putNil (p:=5)
        ·exact hp' 5 _ rfl
        ·exact Nat.le_of_ble_eq_true rfl
        ·exact rfl
        ·first|exact still_ints _|exact still_rows (fun _=>rfl) _|rfl
       ·exact rfl
       ·exact rfl
       apply HeadS.consF (V:=I (eW l n c3).2) (.step 0 (CurO v (eW l n c3).1)) rfl
       ·exact rfl
       ·exact rfl
       ·intro Tv Ov hc hp' hd hk
        obtain ⟨a1,a2,a3,a4,R,rfl⟩:=split05 (hp' 0 _ rfl) (hd 18 _ 5 _ (by decide) rfl rfl rfl)
        refine K.call ?_
        refine K.conP (fun hcon=>?_)
        refine WpL.callP1 (hcon v l (eQ l n c3).1 (lvs (eQ l n c3).2) ⟨f5,by simp,by simp⟩) hp handA handOA rfl (.cons rfl (.sc (.sc (.sc .nil))) .nil) (by decide) ?_
        exact WpL.nil (Only.mk rfl)
       ·exact rfl
       ·exact rfl
       exact HeadS.nil
      ·exact rfl
      ·exact rfl
      ·exact rfl
      ·exact rfl
      ·exact rfl
      ·exact rfl
      ·exact rfl
      refine go (r:=?_);and_intros<;>intros<;>try exact True.intro
      all_goals first|contradiction|omega|skip
      refine Rnd.go (k3-1,(eW l n c3).1,xs.set (eI l n c3).2.toNat (eW l n c3).2) ⟨f6,by rw [List.length_set];exact hxl,hE,by simp only;omega⟩ ?_ ?_
      ·show k3-1<k3;omega
      ·simp only [List.length_set]
       exact zk0
    ·have hzero:(symL lens m).length=0:=Nat.eq_zero_of_not_pos fun h0=>hh2 (hspm.1 h0)
     have hm6b:=hmm.resolve_left hh2
     have hbc:bmC lens m=1:=by unfold bmC;rw [if_neg hh2]
     rw [hbc] at hBM2
     refine go (r:=?_);and_intros<;>intros<;>try exact True.intro
     all_goals first|contradiction|omega|exact hb5c.1|exact hb5c.2|skip
     subst hBM2
     refine WpA.loop (fun x:Nat×Cr×List Int=>⟨[(0,.ptr 0 0 0),(2,I n),(6,.ptr 1 0 0),(7,.ptr 3 0 0),(9,I x.1)],[CurO v x.2.1,⟨[I 0,.nilS],0,0,none⟩,XI x.2.2,⟨[I 1,.own 2 0 0 x.2.2.length],0,0,none⟩]⟩) (fun x=>CrOk l x.2.1∧x.2.2.length=(n*n).toNat∧dvK l n x.1 x.2=L∧x.1≤4) (fun x=>x.1) ((belowD l c1 5).2.toNat,(belowD l c1 5).1,List.replicate (n*n).toNat 0) ⟨hb5.1,by simp,hL,by simp only;omega⟩ ?_ ?_
     ·have ez:(((belowD l c1 5).2.toNat:Nat):Int)=(belowD l c1 5).2:=by omega
      simp only [ez,List.length_replicate]
      exact zk0
     rintro ⟨k3,c3,xs⟩ ⟨hc3,hxl,hL3,hk4⟩
     try simp only at hc3 hxl hL3 hk4 ⊢
     by_cases hk3:k3=0
     ·subst hk3
      have hLe:(c3,xs)=L:=hL3
      subst hLe
      refine go (r:=?_);and_intros<;>intros<;>try exact True.intro
      all_goals trace_state
     ·have hE:dvK l n (k3-1) (dvS l n (c3,xs))=L:=by
       obtain ⟨j,rfl⟩:∃j,k3=j+1:=⟨k3-1,by omega⟩
       exact hL3
      have hfacts:=dvS_facts (s:=(c3,xs)) hn hc3
      rw [dvS_eq] at hE hfacts
      obtain ⟨f1,f2,⟨f3,f4⟩,f5,f6,f7⟩:=hfacts
      have f3':0≤(eI l n c3).2:=f3
      have f4':(eI l n c3).2<n*n:=f4
      have hq4:=belowD_ok 400 f2
      have hq40:0≤(eQ l n c3).2:=hq4.2.1
      have hq41:(eQ l n c3).2<400:=hq4.2.2.1 (by decide)
      refine goR (r:=?_);and_intros<;>intros<;>try exact True.intro
      all_goals first|contradiction|omega|skip
      apply WpA.regionSF (O:=[]) (Or:=[CurO v c3,⟨[I 0,.nilS],0,0,none⟩,XI xs,⟨[I 1,.own 2 0 0 xs.length],0,0,none⟩]) (O1:=[CurO v (eW l n c3).1,⟨[I 0,.nilS],0,0,none⟩,XI xs,⟨[I 1,.own 2 0 0 xs.length],0,0,none⟩,⟨ints (ixs n (eB l n c3).2),1,1,some 3⟩,⟨ints (lvs (eQ l n c3).2),1,1,some 3⟩,deadO,deadO]) 20 2 [3] [0] rfl mixed (by decide +kernel)
      ·exact rfl
      ·apply HeadS.consF .none rfl
       ·exact rfl
       ·exact rfl
       ·intro Tv Ov hc hp' hd hk
        obtain ⟨x0,x1,x2,R,rfl⟩:=Abs.split4 (hk 3 rfl)
        exact in1
       ·exact rfl
       ·exact rfl
       apply HeadS.consF .none rfl
       ·exact rfl
       ·exact rfl
       ·intro Tv Ov hc hp' hd hk
        obtain ⟨x0,x1,x2,R,rfl⟩:=Abs.split4 (hk 3 rfl)
        exact in1
       ·exact rfl
       ·exact rfl
       apply HeadS.consF .none rfl
       ·exact rfl
       ·exact rfl
       ·exact in1
       ·exact rfl
       ·exact rfl
       apply HeadS.consF .none rfl
       ·exact rfl
       ·exact rfl
       ·exact in1
       ·exact rfl
       ·exact rfl
       apply HeadS.consF .none rfl
       ·exact rfl
       ·exact rfl
       ·exact in1
       ·exact rfl
       ·exact rfl
       apply HeadS.consF .none rfl
       ·exact rfl
       ·exact rfl
       ·exact in1
       ·exact rfl
       ·exact rfl
       apply HeadS.consF .none rfl
       ·exact rfl
       ·exact rfl
       ·exact in1
       ·exact rfl
       ·exact rfl
       apply HeadS.consF .none rfl
       ·exact rfl
       ·exact rfl
       ·exact in1
       ·exact rfl
       ·exact rfl
       apply HeadS.consF .none rfl
       ·exact rfl
       ·exact rfl
       ·exact in1
       ·exact rfl
       ·exact rfl
       apply HeadS.consF .none rfl
       ·exact rfl
       ·exact rfl
       ·exact in1
       ·exact rfl
       ·exact rfl
       apply HeadS.consF .none rfl
       ·exact rfl
       ·exact rfl
       ·exact in1
       ·exact rfl
       ·exact rfl
       apply HeadS.consF (V:=I (eB l n c3).2) (.step 0 (CurO v (eB l n c3).1)) rfl
       ·exact rfl
       ·exact rfl
       ·intro Tv Ov hc hp' hd hk
        obtain ⟨R,rfl⟩:=split1 (hp' 0 _ rfl)
        refine K.call ?_
        refine K.conP (fun hcon=>?_)
        refine WpL.callP1 (hcon v l c3 (n*n) hc3) hp handA handOA rfl (.cons rfl (.sc (.sc (.sc .nil))) .nil) (by decide) ?_
        exact WpL.nil (Only.mk rfl)
       ·exact rfl
       ·exact rfl
       apply HeadS.consF (V:=.own 4 1 0 6) (.put 4 (⟨ints (ixs n (eB l n c3).2),1,1,some 3⟩)) rfl
       ·exact rfl
       ·exact rfl
       ·intro Tv Ov hc hp' hd hk
        refine WpL.litInts tabOk rfl rfl rfl rfl rfl (by decide) (by rw [nid_len,Nat.zero_add]) (by decide) ?_
        apply WpL.putNil (p:=4)
        ·exact hp' 4 _ rfl
        ·exact Nat.le_of_ble_eq_true rfl
        ·exact rfl
        ·first|exact still_ints _|exact still_rows (fun _=>rfl) _|rfl
       ·exact rfl
       ·exact rfl
       apply HeadS.consF (V:=I (eI l n c3).2) (.step 0 (CurO v (eI l n c3).1)) rfl
       ·exact rfl
       ·exact rfl
       ·intro Tv Ov hc hp' hd hk
        obtain ⟨a1,a2,a3,R,rfl⟩:=split04 (hp' 0 _ rfl) (hd 12 _ 4 _ (by decide) rfl rfl rfl)
        refine K.call ?_
        refine K.conP (fun hcon=>?_)
        refine WpL.callP1 (hcon v l (eB l n c3).1 (ixs n (eB l n c3).2) ⟨f1,by simp,by simp⟩) hp handA handOA rfl (.cons rfl (.sc (.sc (.sc .nil))) .nil) (by decide) ?_
        exact WpL.nil (Only.mk rfl)
       ·exact rfl
       ·exact rfl
       apply HeadS.consF .none rfl
       ·exact rfl
       ·exact rfl
       ·exact in1
       ·exact rfl
       ·exact rfl
       apply HeadS.consF .none rfl
       ·exact rfl
       ·exact rfl
       ·exact in1
       ·exact rfl
       ·exact rfl
       apply HeadS.consF (V:=I (eQ l n c3).2) (.step 0 (CurO v (eQ l n c3).1)) rfl
       ·exact rfl
       ·exact rfl
       ·intro Tv Ov hc hp' hd hk
        obtain ⟨R,rfl⟩:=split1 (hp' 0 _ rfl)
        refine K.call ?_
        refine K.conP (fun hcon=>?_)
        refine WpL.callP1 (hcon v l (eI l n c3).1 400 f2) hp handA handOA rfl (.cons rfl (.sc (.sc (.sc .nil))) .nil) (by decide) ?_
        exact WpL.nil (Only.mk rfl)
       ·exact rfl
       ·exact rfl
       apply HeadS.consF .none rfl
       ·exact rfl
       ·exact rfl
       ·exact in1
       ·exact rfl
       ·exact rfl
       apply HeadS.consF (V:=.own 5 1 0 6) (.put 5 (⟨ints (lvs (eQ l n c3).2),1,1,some 3⟩)) rfl
       ·exact rfl
       ·exact rfl
       ·intro Tv Ov hc hp' hd hk
        refine WpL.litInts tabOk rfl rfl rfl rfl rfl (by decide) (by rw [nid_len,Nat.zero_add]) (by decide) ?_
        apply WpL.putNil (p:=5)
        ·exact hp' 5 _ rfl
        ·exact Nat.le_of_ble_eq_true rfl
        ·exact rfl
        ·first|exact still_ints _|exact still_rows (fun _=>rfl) _|rfl
       ·exact rfl
       ·exact rfl
       apply HeadS.consF (V:=I (eW l n c3).2) (.step 0 (CurO v (eW l n c3).1)) rfl
       ·exact rfl
       ·exact rfl
       ·intro Tv Ov hc hp' hd hk
        obtain ⟨a1,a2,a3,a4,R,rfl⟩:=split05 (hp' 0 _ rfl) (hd 18 _ 5 _ (by decide) rfl rfl rfl)
        refine K.call ?_
        refine K.conP (fun hcon=>?_)
        refine WpL.callP1 (hcon v l (eQ l n c3).1 (lvs (eQ l n c3).2) ⟨f5,by simp,by simp⟩) hp handA handOA rfl (.cons rfl (.sc (.sc (.sc .nil))) .nil) (by decide) ?_
        exact WpL.nil (Only.mk rfl)
       ·exact rfl
       ·exact rfl
       exact HeadS.nil
      ·exact rfl
      ·exact rfl
      ·exact rfl
      ·exact rfl
      ·exact rfl
      ·exact rfl
      ·exact rfl
      refine go (r:=?_);and_intros<;>intros<;>try exact True.intro
      all_goals first|contradiction|omega|skip
      refine Rnd.go (k3-1,(eW l n c3).1,xs.set (eI l n c3).2.toNat (eW l n c3).2) ⟨f6,by rw [List.length_set];exact hxl,hE,by simp only;omega⟩ ?_ ?_
      ·show k3-1<k3;omega
      ·simp only [List.length_set]
       exact zk0
   ·have hh2:¬HasC lens m:=fun h0=>hmm (.inl h0)
    have hm6b:m<6:=Decidable.byContradiction fun h0=>hmm (.inr h0)
    have hzero:(symL lens m).length=0:=Nat.eq_zero_of_not_pos fun h0=>hh2 (hspm.1 h0)
    rw [bmB_go hm6b hh2] at hmB
    refine go (r:=?_);and_intros<;>intros<;>try exact True.intro
    all_goals first|contradiction|omega|skip
    refine Rnd.go (m+1) ⟨by omega,by omega,hmB⟩ ?_ ?_
    ·show (6-(m+1)).toNat<(6-m).toNat;omega
    ·exact zk0
 ⟩
end Go.Proofs.YtndflfipaddfoaaGreat


namespace Go.Proofs.YtndflfipaddfoaaGreat
open Go Go.Abs
attribute [local irreducible] WpA WpL Rnd Blk Abs.Seq Abs.Fin Abs.FinG FnC FnG FnX FnP FinX Only
attribute [local irreducible] belowD onceD pickD modeD l8D l8AnyD optD anyD seedD headD headAnyD symL HasC blkD
theorem split345 {Ov:List AObj} {x y z:AObj} (h3:Ov[3]?=some x) (h4:Ov[4]?=some y) (h5:Ov[5]?=some z):∃a b c R,Ov=a::b::c::x::y::z::R:=by
 match Ov,h3,h4,h5 with
 |a::b::c::x'::y'::z'::R,h3,h4,h5=>simp at h3 h4 h5;exact ⟨a,b,c,R,by rw [h3,h4,h5]⟩
 |[],h3,h4,h5=>simp at h5
 |[_],h3,h4,h5=>simp at h5
 |[_,_],h3,h4,h5=>simp at h5
 |[_,_,_],h3,h4,h5=>simp at h5
 |[_,_,_,_],h3,h4,h5=>simp at h5
 |[_,_,_,_,_],h3,h4,h5=>simp at h5
theorem sz_nm (e:Bool):64/(sz8 e*sz8 e)=nm8 e∧1≤sz8 e*sz8 e∧sz8 e*sz8 e≤64∧0≤nm8 e∧nm8 e≤4:=by cases e<;>decide
instance l23Mb_p:ConP 109 (∀ (v:Value) (l:List Int) (c:Cr) (lens:List Int),CrOk l c∧lens.length≤1099511627776→Pn 109 v l c [IL lens] (mbD l lens c).1 [BkO (mbD l lens c).2.2] (.agg [B (mbD l lens c).2.1,.own 1 0 0 (mbD l lens c).2.2.length])):=⟨fun v l c lens hh=>by
 have h:=hh.1
 have hlens:=hh.2
 have ho:=onceD_ok 3 h
 have ho1:=ho.2.1
 have ho2:=ho.2.2
 have hsz:=sz8_48 (onceD l c 3).2
 have hnm:=sz_nm (onceD l c 3).2
 have hn1:=hnm.1
 have hn2:=hnm.2.1
 have hn3:=hnm.2.2.1
 have hn4:=hnm.2.2.2.1
 have hn5:=hnm.2.2.2.2
 have hmul:=mul_in (a:=sz8 (onceD l c 3).2) (b:=sz8 (onceD l c 3).2) (by omega) (by omega)
 unfold mbD
 generalize hS:mbsK l lens _ _ _=S
 generalize he:(onceD l c 3).2=e at hS hsz hn1 hn2 hn3 hn4 hn5 hmul
 generalize hcc:(onceD l c 3).1=c0 at hS ho ho1 ho2
 refine FnP.of_body tabOk Tryz.func109 Tryz.ntmps109 rfl (by decide +kernel) (by simp) rfl rfl rfl fun G hp=>?_
 refine goR (r:=?_);and_intros<;>intros<;>try exact True.intro
 all_goals first|contradiction|omega|exact h.2.1|exact h.2.2|skip
 rw [he,hcc]
 refine WpA.loop (fun x:Nat×Cr×List Blok=>⟨[(0,.ptr 0 0 0),(1,IL lens),(4,.ptr 1 0 0),(5,.ptr 2 0 0),(6,I (sz8 e)),(7,I (nm8 e-x.1))],[CurO v x.2.1,⟨[B false,.nilS],0,0,none⟩,⟨[B e,.own 3 0 0 x.2.2.length],0,0,none⟩,BkO x.2.2]⟩) (fun x=>CrOk l x.2.1∧(x.1:Int)≤nm8 e∧x.1+x.2.2.length≤4∧mbsK l lens (sz8 e) x.1 x.2=S) (fun x=>x.1) ((nm8 e).toNat,c0,[]) ⟨ho,by simp only;omega,by simp only [List.length_nil];omega,hS⟩ ?_ ?_
 ·have ez:nm8 e-((nm8 e).toNat:Nat)=0:=by omega
  simp only [ez]
  exact Weak.nil1 (by first|(show 0≤_;exact Nat.zero_le _)|(repeat' (first|exact RzT.nil|refine RzT.cons ?_ ?_|exact Rz.nil|refine Rz.keep rfl rfl ?_|refine Rz.own rfl rfl rfl rfl rfl (by first|rfl|omega|(simp;done)) ?_|refine Rz.ptr rfl rfl rfl rfl ?_|refine Rz.nilO rfl rfl rfl (by first|rfl|omega|(simp;done)) ?_|refine Rz.agg ?_ ?_|exact RzO.last rfl|(refine RzO.cons ?_ (.inr rfl) ?_)|exact Rz.same rfl (still_ints _)|exact Rz.same rfl (still_rows (fun _=>rfl) _)))) (by first|(show 0≤_;exact Nat.zero_le _)|(repeat' (first|exact RzT.nil|refine RzT.cons ?_ ?_|exact Rz.nil|refine Rz.keep rfl rfl ?_|refine Rz.own rfl rfl rfl rfl rfl (by first|rfl|omega|(simp;done)) ?_|refine Rz.ptr rfl rfl rfl rfl ?_|refine Rz.nilO rfl rfl rfl (by first|rfl|omega|(simp;done)) ?_|refine Rz.agg ?_ ?_|exact RzO.last rfl|(refine RzO.cons ?_ (.inr rfl) ?_)|exact Rz.same rfl (still_ints _)|exact Rz.same rfl (still_rows (fun _=>rfl) _)))) (Nat.le_of_ble_eq_true rfl)
 rintro ⟨k,c1,bs⟩ ⟨hc1,hk,hkl,hK⟩
 try simp only at hc1 hk hkl hK ⊢
 by_cases hk0:k=0
 ·subst hk0
  have hSe:(c1,bs)=S:=hK
  subst hSe
  refine go (r:=?_);and_intros<;>intros<;>try exact True.intro
  all_goals trace_state
 ·have hE:mbsK l lens (sz8 e) (k-1) ((blkD l lens (sz8 e) c1).1,bs++[(blkD l lens (sz8 e) c1).2])=S:=by
   obtain ⟨j,rfl⟩:∃j,k=j+1:=⟨k-1,by omega⟩
   exact hK
  have hb:=blkD_ok (lens:=lens) hsz hc1
  refine goR (r:=?_);and_intros<;>intros<;>try exact True.intro
  all_goals first|contradiction|omega|skip
  apply WpA.regionSF (O:=[]) (Or:=[CurO v c1,⟨[B false,.nilS],0,0,none⟩,⟨[B e,.own 3 0 0 bs.length],0,0,none⟩,BkO bs]) (O1:=[CurO v (blkD l lens (sz8 e) c1).1,⟨[B false,.nilS],0,0,none⟩,⟨[B e,.own 3 0 0 bs.length],0,0,none⟩,⟨rows blkF (bs++[(blkD l lens (sz8 e) c1).2]),1,2,some 92⟩,⟨[],2,0,none⟩,⟨[I (blkD l lens (sz8 e) c1).2.1,.own 4 1 0 (blkD l lens (sz8 e) c1).2.2.length],1,2,some 92⟩,deadO,deadO]) 8 2 [2] [4] rfl mixed (by decide +kernel)
  ·exact rfl
  ·apply HeadS.consF .none rfl
   ·exact rfl
   ·exact rfl
   ·intro Tv Ov hc hp' hd hk
    obtain ⟨A0,A1,R0,rfl⟩:=Abs.split3 (hk 2 rfl)
    exact in1
   ·exact rfl
   ·exact rfl
   apply HeadS.consF .none rfl
   ·exact rfl
   ·exact rfl
   ·intro Tv Ov hc hp' hd hk
    obtain ⟨A0,A1,R0,rfl⟩:=Abs.split3 (hk 2 rfl)
    exact in1
   ·exact rfl
   ·exact rfl
   apply HeadS.consF .none rfl
   ·exact rfl
   ·exact rfl
   ·exact in1
   ·exact rfl
   ·exact rfl
   apply HeadS.consF .none rfl
   ·exact rfl
   ·exact rfl
   ·exact in1
   ·exact rfl
   ·exact rfl
   apply HeadS.consF .none rfl
   ·exact rfl
   ·exact rfl
   ·exact in1
   ·exact rfl
   ·exact rfl
   apply HeadS.consF (V:=.agg [I (blkD l lens (sz8 e) c1).2.1,.own 4 1 0 (blkD l lens (sz8 e) c1).2.2.length]) (.both 0 (CurO v (blkD l lens (sz8 e) c1).1) 4 ⟨ints (blkD l lens (sz8 e) c1).2.2,1,1,some 3⟩) rfl
   ·exact rfl
   ·exact rfl
   ·intro Tv Ov hc hp' hd hk
    obtain ⟨R,rfl⟩:=split1 (hp' 0 _ rfl)
    have h3:=hp' 4 _ rfl
    refine K.call ?_
    refine K.conP (fun hcon=>?_)
    refine WpL.callP1N (A:=[]) (hcon v l c1 lens (sz8 e) ⟨hc1,hsz,hlens⟩) hp rfl handA handOA rfl (.cons rfl (.sc (.sc (.sc .nil))) .nil) outA rfl (by decide) ?_
    apply WpL.putV (O:=[]) (p:=4) (Ov:=CurO v (blkD l lens (sz8 e) c1).1::R)
    ·exact .agg (.keep rfl rfl (.own (by first|rfl|simp) .nil)) .nil
    ·exact h3
    ·exact Nat.le_of_ble_eq_true rfl
    ·exact rfl
    ·exact still_ints _
   ·exact rfl
   ·exact rfl
   apply HeadS.consF (V:=.own 5 1 0 1) (.put 5 (⟨[I (blkD l lens (sz8 e) c1).2.1,.own 4 1 0 (blkD l lens (sz8 e) c1).2.2.length],1,2,some 92⟩)) rfl
   ·exact rfl
   ·exact rfl
   ·intro Tv Ov hc hp' hd hk
    refine WpL.litF (cs:=[I (blkD l lens (sz8 e) c1).2.1,.own 4 1 0 (blkD l lens (sz8 e) c1).2.2.length]) tabOk rfl rfl rfl rfl (by decide) (by rw [nid_len,Nat.zero_add]) (by decide) ?_
    apply WpL.putA (p:=5)
    ·exact .own rfl .nil
    ·exact hp' 5 _ rfl
    ·exact Nat.le_of_ble_eq_true rfl
    ·exact rfl
   ·exact rfl
   ·exact rfl
   apply HeadS.consF (V:=.own 3 1 0 (bs.length+1)) (⟨[(4,⟨[],2,0,none⟩),(3,⟨rows blkF (bs++[(blkD l lens (sz8 e) c1).2]),1,2,some 92⟩)],false⟩) rfl
   ·exact rfl
   ·exact rfl
   ·intro Tv Ov hc hp' hd hk
    obtain ⟨a0,a1,a2,R,rfl⟩:=split345 (hp' 3 _ rfl) (hp' 4 _ rfl) (hd 6 _ 5 _ (by decide) rfl rfl rfl)
    refine K.bi ?_
    refine WpL.appBlk (j:=4) (c:=(blkD l lens (sz8 e) c1).2.1) (lv:=(blkD l lens (sz8 e) c1).2.2) tabOk rfl rfl rfl (Nat.le_of_ble_eq_true rfl) rfl rfl rfl rfl rfl (Nat.le_of_ble_eq_true rfl) rfl rfl (by omega) (by decide) ?_
    exact WpL.nil (Only.mk rfl)
   ·exact rfl
   ·exact rfl
   exact HeadS.nil
  ·exact rfl
  ·exact rfl
  ·exact rfl
  ·exact rfl
  ·exact rfl
  ·exact rfl
  ·exact rfl
  refine go (r:=?_);and_intros<;>intros<;>try exact True.intro
  all_goals first|contradiction|omega|skip
  have e1:nm8 e-((k-1:Nat):Int)=nm8 e-k+1:=by omega
  refine Rnd.go (k-1,(blkD l lens (sz8 e) c1).1,bs++[(blkD l lens (sz8 e) c1).2]) ⟨hb.1,by simp only;omega,by simp only [List.length_append,List.length_singleton];omega,hE⟩ ?_ ?_
  ·show k-1<k;omega
  ·simp only [e1,List.length_append,List.length_singleton]
   exact Weak.mk (by repeat (first|exact ReT.nil|refine ReT.cons (.keep rfl rfl .nil) ?_|refine ReT.cons (.own rfl rfl rfl rfl rfl rfl .nil) ?_|refine ReT.cons (.ptr rfl rfl rfl rfl .nil) ?_|refine ReT.cons (.keep (congrArg (fun z=>AV.sc (Value.int .i64 z)) (by first|omega|(skip))) rfl .nil) ?_|refine ReT.cons (.keep (congrArg (fun z:List UInt8=>AV.sc (Value.string ⟨z.toArray⟩)) (by skip)) rfl .nil) ?_|refine ReT.cons (.own rfl rfl rfl rfl rfl (by first|omega|(simp;done)|(simp;omega)) .nil) ?_)) (by repeat (first
    |exact ReO.nil
    |refine ReO.cons (Re.same rfl rfl) (.inr rfl) ?_
    |refine ReO.cons (Re.same rfl (still_rows (fun _=>rfl) _)) (.inr rfl) ?_
    |refine ReO.cons (.keep rfl rfl (.own rfl rfl rfl rfl rfl rfl .nil)) (.inr rfl) ?_)) (Nat.le_of_ble_eq_true rfl)⟩
end Go.Proofs.YtndflfipaddfoaaGreat


namespace Go.Proofs.YtndflfipaddfoaaGreat
open Go Go.Abs
attribute [local irreducible] WpA WpL Rnd Blk Abs.Seq Abs.Fin Abs.FinG FnC FnG Only
def mbK (e:Bool) (bs:List Blok) (lens:List Int) (k:Nat):List Int:=[bif e then 1 else 0]++(bs.take k).flatMap fun b=>bkL b.1 b.2 lens (sz8 e)
def mbbL (e:Bool) (bs:List Blok) (lens:List Int):List Int:=if MbkOk e bs lens then mbK e bs lens bs.length else []
theorem mbK_len (e:Bool) (bs:List Blok) (lens:List Int) (k:Nat):(mbK e bs lens k).length≤1+8400*k:=by
 have h3:=fm_bd (fun b:Blok=>bkL b.1 b.2 lens (sz8 e)) 8400 (fun b=>bkL_len _ _ _ _) (bs.take k)
 have h4:(bs.take k).length≤k:=by simp;omega
 unfold mbK;simp only [List.length_append,List.length_cons,List.length_nil];omega
theorem mbK_succ (e:Bool) (bs:List Blok) (lens:List Int) (k:Nat) (h:k<bs.length):mbK e bs lens (k+1)=mbK e bs lens k++bkL (bs.getD k default).1 (bs.getD k default).2 lens (sz8 e):=by
 unfold mbK;rw [fm_snoc _ _ k h,←List.append_assoc]
theorem mbbL_len (e:Bool) (bs:List Blok) (lens:List Int):(mbbL e bs lens).length≤33601:=by
 unfold mbbL;split
 ·rename_i h
  have h1:=mbK_len e bs lens bs.length
  have h2:=sz8_cases e
  have h3:=h.1
  omega
 ·simp
abbrev BoxM (e:Bool) (bs:List Blok):AObj:=⟨[B e,BkL bs],0,0,none⟩
instance MbBits_s:Con 96 (∀ (e:Bool) (bs:List Blok) (lens:List Int),bs.length≤1099511627776∧SmB 1099511627776 bs∧lens.length≤1099511627776→Fn 96 [.agg [B e,BkL bs],IL lens] [XI (mbbL e bs lens)] (.own 0 0 0 (mbbL e bs lens).length)):=⟨fun e bs lens hl=>by
 have hc:=sz8_cases e
 refine FnC.of_body tabOk Tryz.func96 Tryz.ntmps96 rfl (by decide +kernel) (by simp) fun G=>?_
 by_cases h:MbkOk e bs lens
 ·have he:mbbL e bs lens=mbK e bs lens bs.length:=by rw [mbbL,if_pos h]
  have hz:[bif e then (1:Int) else 0]=mbK e bs lens 0:=by simp [mbK]
  have hn:=h.1
  refine go (r:=?_);and_intros<;>intros<;>try exact True.intro
  all_goals first|exact hl.2.1|(exact absurd h (by assumption))|skip
  refine WpA.loop (fun k:Nat=>⟨[(1,IL lens),(2,.ptr 0 0 0),(5,.own 1 0 0 (mbK e bs lens k).length),(6,I k)],[BoxM e bs,XI (mbK e bs lens k)]⟩) (fun k=>k≤bs.length) (fun k=>bs.length-k) 0 (by omega) (go (r:=?_)) (fun k hk=>?_)
  ·trivial
  have hb:=mbK_len e bs lens k
  have hsc:=fun h=>mbK_succ e bs lens k h
  have hbl:=bkL_len (bs.getD k default).1 (bs.getD k default).2 lens (sz8 e)
  have hsl:k<bs.length→(mbK e bs lens (k+1)).length=(mbK e bs lens k).length+(bkL (bs.getD k default).1 (bs.getD k default).2 lens (sz8 e)).length:=fun h=>by rw [hsc h];simp only [List.length_append]
  have hg:=fun h=>smB_get hl.2.1 (k:=k) h
  refine go (r:=?_);and_intros<;>intros<;>try exact True.intro
  all_goals first|(rw [hsc (by omega)];done)|skip
  all_goals have ek:k=bs.length:=by omega
  all_goals subst ek
  all_goals rw [he]
 ·have he:mbbL e bs lens=[]:=by rw [mbbL,if_neg h]
  refine go (r:=?_);and_intros<;>intros<;>try exact True.intro
  all_goals first|exact hl.2.1|(exact absurd (by assumption) h)|(rw [he];done)|(rw [he];rfl)⟩
def hdB (w h q:Int) (b d:Bool):List Int:=bitsL 183 8++ueL (w/8-1)++ueL (h/8-1)++bitsL q 6++[bif b then 1 else 0,bif d then 1 else 0]
def hdK (w h q:Int) (b d:Bool) (l:List Int) (k:Nat):List Int:=hdB w h q b d++(l.take k).flatMap fun n=>bitsL n 3
def hdL (w h q:Int) (b d:Bool) (l:List Int):List Int:=if HdOk w h q l then hdK w h q b d l l.length else []
end Go.Proofs.YtndflfipaddfoaaGreat


namespace Go.Proofs.YtndflfipaddfoaaGreat
open Go Go.Abs
attribute [local irreducible] WpA WpL Rnd Blk Abs.Seq Abs.Fin Abs.FinG FnC FnG Only
attribute [local irreducible] bitsL ueL
end Go.Proofs.YtndflfipaddfoaaGreat


namespace Go.Proofs.YtndflfipaddfoaaGreat
open Go Go.Abs
attribute [local irreducible] WpA WpL Rnd Blk Abs.Seq Abs.Fin Abs.FinG FnC FnG Only
attribute [local simp] Abs.setL
def endB (k:Int) (l:List Blok):Int:=k+bw l
def markB:Int→List Blok→List Blok
 |_,[]=>[]
 |k,b::l=>(k,marksI (k+1) b.2.length)::markB (k+1+b.2.length) l
@[simp] theorem markB_len:∀(l:List Blok) (k:Int),(markB k l).length=l.length
 |[],k=>rfl
 |b::l,k=>by rw [markB,List.length_cons,List.length_cons,markB_len l]
def markM:Int→List Mbk→List Mbk
 |_,[]=>[]
 |k,m::l=>(decide (k%3=0),markB (k+1) m.2)::markM (k+1+bw m.2) l
@[simp] theorem markM_len:∀(l:List Mbk) (k:Int),(markM k l).length=l.length
 |[],k=>rfl
 |b::l,k=>by rw [markM,List.length_cons,List.length_cons,markM_len l]
end Go.Proofs.YtndflfipaddfoaaGreat


namespace Go.Proofs.YtndflfipaddfoaaGreat
open Go Go.Abs
attribute [local irreducible] WpA WpL Rnd Blk Abs.Seq Abs.Fin Abs.FinG FnC FnG Only
def mbF (l:List Int) (m:Mbk):List Int:=mbbL m.1 m.2 l
def stK (w h q:Int) (b d:Bool) (l:List Int) (M:List Mbk) (k:Nat):List Int:=hdL w h q b d l++(M.take k).flatMap (mbF l)
end Go.Proofs.YtndflfipaddfoaaGreat


namespace Go.Proofs.YtndflfipaddfoaaGreat
open Go Go.Abs
attribute [local irreducible] WpA WpL Rnd Blk Abs.Seq Abs.Fin Abs.FinG FnC FnG Only
def Bit01 (l:List Int):Prop:=∀x∈l,x=0∨x=1
theorem b01_app {a b:List Int} (h1:Bit01 a) (h2:Bit01 b):Bit01 (a++b):=fun x hx=>(List.mem_append.1 hx).elim (h1 x) (h2 x)
theorem b01_nil:Bit01 []:=fun x hx=>by cases hx
theorem b01_rep (n:Nat):Bit01 (List.replicate n 0):=fun x hx=>.inl (List.mem_replicate.1 hx).2
theorem b01_bits (n w:Int):Bit01 (bitsL n w):=by
 unfold bitsL;split
 ·intro x hx
  unfold bitsR at hx
  obtain ⟨k,_,rfl⟩:=List.mem_map.1 hx
  omega
 ·exact b01_nil
theorem b01_ue (n:Int):Bit01 (ueL n):=by
 unfold ueL;split
 ·exact b01_app (b01_rep _) (b01_bits _ _)
 ·exact b01_nil
theorem b01_sym (l:List Int) (m:Int):Bit01 (symL l m):=by
 unfold symL;split
 ·exact b01_bits _ _
 ·exact b01_nil
theorem b01_one (b:Bool):(bif b then (1:Int) else 0)=0∨(bif b then (1:Int) else 0)=1:=by cases b<;>simp
theorem b01_fm {α:Type} (f:α→List Int) (h:∀a,Bit01 (f a)):∀l:List α,Bit01 (l.flatMap f):=fun l x hx=>by
 obtain ⟨a,_,hx⟩:=List.mem_flatMap.1 hx
 exact h a x hx
theorem b01_prB (p:Int×Int):Bit01 (prB p):=b01_app (b01_ue _) (b01_ue _)
theorem b01_bk (m:Int) (lv lens:List Int) (n:Int):Bit01 (bkL m lv lens n):=by
 unfold bkL;split
 ·split
  ·exact b01_app (b01_sym _ _) (fun x hx=>by simp at hx;exact .inl hx)
  ·unfold bkK
   exact b01_app (b01_app (b01_app (b01_sym _ _) (fun x hx=>by simp at hx;exact .inr hx)) (b01_ue _)) (b01_fm _ b01_prB _)
 ·exact b01_nil
theorem b01_mb (e:Bool) (bs:List Blok) (lens:List Int):Bit01 (mbbL e bs lens):=by
 unfold mbbL;split
 ·unfold mbK
  exact b01_app (fun x hx=>by simp only [List.mem_singleton] at hx;rw [hx];exact b01_one e) (b01_fm _ (fun b=>b01_bk _ _ _ _) _)
 ·exact b01_nil
def numS (l:List Int) (k:Nat):Int:=(l.take k).foldl (fun n b=>n*2+b) 0
theorem numS_succ {l:List Int} {k:Nat} (h:k<l.length):numS l (k+1)=numS l k*2+l.getD k 0:=by
 unfold numS;rw [List.take_succ_eq_append_getElem h,List.foldl_append];simp [h]
theorem b01_get {l:List Int} (h:Bit01 l) (k:Nat):l.getD k 0=0∨l.getD k 0=1:=by
 rcases Nat.lt_or_ge k l.length with h1|h1
 ·exact h _ (by simp [h1])
 ·left;rw [List.getD_eq_getElem?_getD,List.getElem?_eq_none h1];rfl
theorem numS_bd {l:List Int} (h:Bit01 l):∀k,k≤8→0≤numS l k∧numS l k<2 ^ k
 |0,_=>by simp [numS]
 |k+1,hk=>by
  have ih:=numS_bd h k (by omega)
  rcases Nat.lt_or_ge k l.length with h1|h1
  ·rw [numS_succ h1]
   have:=b01_get h k
   have e:(2:Int) ^ (k+1)=2 ^ k*2:=by rw [Int.pow_succ]
   omega
  ·have e:numS l (k+1)=numS l k:=by unfold numS;rw [List.take_of_length_le (by omega),List.take_of_length_le (by omega)]
   have e2:(2:Int) ^ (k+1)=2 ^ k*2:=by rw [Int.pow_succ]
   omega
theorem numS_256 {l:List Int} (h:Bit01 l) {k:Nat} (hk:k≤8):0≤numS l k∧numS l k<256:=by
 have h1:=numS_bd h k hk
 have h2:(2:Int) ^ k≤2 ^ 8:=by
  have:=Nat.pow_le_pow_right (n:=2) (by decide) hk
  exact_mod_cast this
 have h3:(2:Int) ^ 8=256:=by decide
 omega
instance NumOf_s:Con 262 (∀ l:List Int,l.length=8∧Bit01 l→Fn 262 [IL l] [] (.tup [I (numS l 8),B true])):=⟨fun l hl=>by
 have h8:=hl.1
 refine FnC.of_body tabOk Tryz.func262 Tryz.ntmps262 rfl (by decide +kernel) (by simp) fun G=>?_
 refine go (r:=?_);and_intros<;>intros<;>try exact True.intro
 refine WpA.loop (fun k:Nat=>⟨[(0,IL l),(4,I (numS l k)),(5,I k)],[]⟩) (fun k=>k≤8) (fun k=>8-k) 0 (by omega) (go (r:=?_)) (fun k hk=>?_)
 ·simp [numS]
 have hb:=b01_get hl.2 k
 have hn:=numS_256 hl.2 hk
 have hs:=fun h=>numS_succ (l:=l) (k:=k) h
 refine go (r:=?_);and_intros<;>intros<;>try exact True.intro
 all_goals first|(exact (hs (by omega)).symm)|(rw [show k=8 by omega];done)⟩
def byI (x:List Int) (k:Nat):List Int:=(List.range k).map fun i=>numS ((x.drop (8*i)).take 8) 8
def strS (x:List Int):List UInt8:=(byI x (x.length/8)).map fun n:Int=>UInt8.ofNat n.toNat
theorem byI_len (x:List Int) (k:Nat):(byI x k).length=k:=by simp [byI]
theorem byI_succ (x:List Int) (k:Nat):byI x (k+1)=byI x k++[numS ((x.drop (8*k)).take 8) 8]:=by simp [byI,List.range_succ]
theorem strS_len (x:List Int):(strS x).length=x.length/8:=by unfold strS;rw [List.length_map,byI_len]
theorem b01_mid {x:List Int} (h:Bit01 x) (i:Nat):Bit01 ((x.drop i).take 8):=fun y hy=>h y (List.mem_of_mem_drop (List.mem_of_mem_take hy))
instance BytesOf_s:Con 190 (∀ l:List Int,l.length≤1099511627776∧l.length%8=0∧Bit01 l→Fn 190 [IL l] [] (.tup [Z (strS l),B true])):=⟨fun l hl=>by
 have h8:=hl.2.1
 refine FnC.of_body tabOk Tryz.func190 Tryz.ntmps190 rfl (by decide +kernel) (by simp) fun G=>?_
 refine go (r:=?_);and_intros<;>intros<;>try exact True.intro
 all_goals first|contradiction|omega|skip
 refine WpA.loop (fun k:Nat=>⟨[(0,IL l),(4,.own 0 0 0 k),(5,I (8*(k:Int)))],[⟨u8s (byI l k),0,1,some 5⟩]⟩) (fun k=>k≤l.length/8) (fun k=>l.length/8-k) 0 (by omega) (go (r:=?_)) (fun k hk=>?_)
 ·and_intros<;>first|exact True.intro|rfl
 have hln:=byI_len l k
 have hs:=byI_succ l k
 have hm:=b01_mid hl.2.2 (8*k)
 have hn:=numS_256 hm (k:=8) (by omega)
 by_cases hlt:k<l.length/8
 ·have hml:((l.drop (8*k)).take 8).length=8:=by simp;omega
  have e1:(8*(k:Int)+8).toNat-(8*(k:Int)).toNat=8:=by omega
  have e2:(8*(k:Int)).toNat=8*k:=by omega
  refine go (r:=?_);and_intros<;>intros<;>try exact True.intro
  all_goals first|contradiction|omega|skip
  ·rename_i y hy
   rw [e1,e2] at hy;exact hm y hy
  ·rw [e1,e2,u8_in (by omega),hs]
 ·obtain rfl:k=l.length/8:=by omega
  refine go (r:=?_);and_intros<;>intros<;>try exact True.intro
  refine K.cv ?_
  refine WpL.ofBytes tabOk rfl rfl rfl rfl rfl (by simp [u8s,hln]) (by decide) ?_
  refine go (r:=?_);and_intros<;>intros<;>try exact True.intro
  all_goals trace_state⟩
def padN (n:Nat):Nat:=(8-(n+1)%8)%8
def padL (b:List Int) (j:Nat):List Int:=b++[1]++List.replicate j 0
theorem padL_len (b:List Int) (j:Nat):(padL b j).length=b.length+1+j:=by simp [padL];omega
theorem padL_succ (b:List Int) (j:Nat):padL b (j+1)=padL b j++[0]:=by unfold padL;rw [List.replicate_succ',←List.append_assoc]
theorem b01_pad {b:List Int} (h:Bit01 b) (j:Nat):Bit01 (padL b j):=b01_app (b01_app h (fun x hx=>by simp at hx;exact .inr hx)) (b01_rep j)
def stopS (b:List Int):List UInt8:=strS (padL b (padN b.length))
theorem stopS_len (b:List Int):(stopS b).length=(b.length+8)/8:=by
 unfold stopS;rw [strS_len,padL_len];unfold padN;omega
instance Stopped_s:Con 97 (∀ b:List Int,b.length≤1073741824∧Bit01 b→Fn 97 [IL b] [] (Z (stopS b))):=⟨fun b hl=>by
 have h0:=hl.1
 refine FnC.of_body tabOk Tryz.func97 Tryz.ntmps97 rfl (by decide +kernel) (by simp) fun G=>?_
 refine go (r:=?_);and_intros<;>intros<;>try exact True.intro
 all_goals first|contradiction|omega|skip
 refine WpA.loop (fun j:Nat=>⟨[(3,.own 0 0 0 (b.length+1+j))],[XI (padL b j)]⟩) (fun j=>j≤padN b.length) (fun j=>padN b.length-j) 0 (Nat.zero_le _) ?_ (fun j hj=>?_)
 ·exact Weak.mk (by repeat (first|exact ReT.nil|refine ReT.cons (.keep rfl rfl .nil) ?_|refine ReT.cons (.own rfl rfl rfl rfl rfl rfl .nil) ?_|refine ReT.cons (.ptr rfl rfl rfl rfl .nil) ?_|refine ReT.cons (.keep (congrArg (fun z=>AV.sc (Value.int .i64 z)) (by first|omega|(skip))) rfl .nil) ?_|refine ReT.cons (.keep (congrArg (fun z:List UInt8=>AV.sc (Value.string ⟨z.toArray⟩)) (by skip)) rfl .nil) ?_|refine ReT.cons (.own rfl rfl rfl rfl rfl (by first|omega|(simp;done)|(simp;omega)) .nil) ?_)) (by exact ReO.cons (Re.same (by simp [padL]) (still_ints _)) (.inr rfl) .nil) (Nat.zero_le _)
 have hpl:=padL_len b j
 have hps:=padL_succ b j
 have hcond:j<padN b.length↔(b.length+1+j)%8≠0:=by unfold padN at hj ⊢;omega
 have hp8:padN b.length≤7:=by unfold padN;omega
 by_cases hlt:j<padN b.length
 ·have hc:=hcond.1 hlt
  refine go (r:=?_);and_intros<;>intros<;>try exact True.intro
  all_goals first|contradiction|omega|exact hps.symm
 ·obtain rfl:j=padN b.length:=by omega
  have hc:(b.length+1+padN b.length)%8=0:=Decidable.byContradiction fun h=>hlt (hcond.2 h)
  have hb:=b01_pad hl.2 (padN b.length)
  refine go (r:=?_);and_intros<;>intros<;>try exact True.intro
  all_goals first|contradiction|omega|exact hb|exact hb _ (by assumption)⟩
def unpS (w h q:Int) (b d:Bool) (l:List Int) (M:List Mbk):List UInt8:=if StOk w h q l M then stopS (stK w h q b d l M M.length) else []
end Go.Proofs.YtndflfipaddfoaaGreat
