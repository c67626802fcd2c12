/- Proved in this text: lemmas and contracts of functions that the claim uses (parts: EncP, AbsNf, AbsYb, AbsPre, RdL, RdM, Cat, Ue, Rd, RdS, Fld, RdH, RdHs, Enc). No condition. -/
import Derived.Test.YtainhhfnnclfiaaGreatBsM13
import Derived.Test.YtainhhfnnclfiaaGreatBsM10
import Derived.Test.YtainhhfnnclfiaaGreatBsM7
import Derived.Test.YtainhhfnnclfiaaGreatBsM11
import Derived.Test.YtainhhfnnclfiaaGreatBsM12
import Derived.Test.YtainhhfnnclfiaaGreatBsM6
import Derived.Test.YtainhhfnnclfiaaGreatBsM9
set_option linter.unusedVariables false
set_option linter.unusedSimpArgs false
set_option maxRecDepth 100000
set_option maxHeartbeats 16000000


namespace Go.Proofs.YtainhhfnnclfiaaGreat
open Go Go.Abs
abbrev Chs:=Nat→List Int→List Int→List Int→Int→Bool→Bool→Int→Int
def chM (W H:Int) (F:List Int) (ch:Chs) (c:Nat) (P:List Int) (x y n:Int):Int:=ch c (blkL W H F x y n) (topL W H P x y n) (lefL W H P x y n) (corL W H P x y n) (hasT W H P x y n) (hasE W H P x y n) n
def chV (W H:Int) (F:List Int) (q:Int) (b:Bool) (L P:List Int) (x y n m:Int):List Int:=levL b q L (resS (blkL W H F x y n) (nbP W H P x y n m))
structure EncA where
 W:Int
 H:Int
 q:Int
 b:Bool
 L:List Int
 F:List Int
 ch:Chs
def encB (a:EncA) (e:Bool) (k c:Nat) (P:List Int):Nat→List Blok×List Int
 |0=>([],P)
 |i+1=>
  ((encB a e k c P i).1++[(chM a.W a.H a.F a.ch (c+i) (encB a e k c P i).2 (plc1 a.W (sz8 e) k i).1 (plc1 a.W (sz8 e) k i).2.1 (sz8 e),
   chV a.W a.H a.F a.q a.b a.L (encB a e k c P i).2 (plc1 a.W (sz8 e) k i).1 (plc1 a.W (sz8 e) k i).2.1 (sz8 e) (chM a.W a.H a.F a.ch (c+i) (encB a e k c P i).2 (plc1 a.W (sz8 e) k i).1 (plc1 a.W (sz8 e) k i).2.1 (sz8 e)))],
   putL a.W a.H (encB a e k c P i).2 a.q a.b (plc1 a.W (sz8 e) k i).1 (plc1 a.W (sz8 e) k i).2.1 (chM a.W a.H a.F a.ch (c+i) (encB a e k c P i).2 (plc1 a.W (sz8 e) k i).1 (plc1 a.W (sz8 e) k i).2.1 (sz8 e))
    (chV a.W a.H a.F a.q a.b a.L (encB a e k c P i).2 (plc1 a.W (sz8 e) k i).1 (plc1 a.W (sz8 e) k i).2.1 (sz8 e) (chM a.W a.H a.F a.ch (c+i) (encB a e k c P i).2 (plc1 a.W (sz8 e) k i).1 (plc1 a.W (sz8 e) k i).2.1 (sz8 e))))
def encM (a:EncA) (E:Nat→Bool) (P:List Int):Nat→List Mbk×List Int×Nat
 |0=>([],P,0)
 |k+1=>
  ((encM a E P k).1++[(E k,(encB a (E k) k (encM a E P k).2.2 (encM a E P k).2.1 (manyE (E k))).1)],
   (encB a (E k) k (encM a E P k).2.2 (encM a E P k).2.1 (manyE (E k))).2,(encM a E P k).2.2+manyE (E k))
theorem encB_len (a:EncA) (e:Bool) (k c:Nat) (P:List Int):∀i,(encB a e k c P i).1.length=i
 |0=>rfl
 |i+1=>by rw [encB];simp [encB_len a e k c P i]
theorem encB_plen (a:EncA) (e:Bool) (k c:Nat) (P:List Int):∀i,(encB a e k c P i).2.length=P.length
 |0=>rfl
 |i+1=>by rw [encB];exact (putL_len ..).trans (encB_plen a e k c P i)
theorem encM_len (a:EncA) (E:Nat→Bool) (P:List Int):∀k,(encM a E P k).1.length=k
 |0=>rfl
 |k+1=>by rw [encM];simp [encM_len a E P k]
theorem encM_plen (a:EncA) (E:Nat→Bool) (P:List Int):∀k,(encM a E P k).2.1.length=P.length
 |0=>rfl
 |k+1=>by rw [encM];exact (encB_plen ..).trans (encM_plen a E P k)
theorem encM_cnt (a:EncA) (E:Nat→Bool) (P:List Int):∀k,(encM a E P k).2.2≤4*k
 |0=>Nat.le_refl _
 |k+1=>by
  have:=encM_cnt a E P k
  rw [encM]
  show _+manyE (E k)≤_
  cases E k<;>simp [manyE]<;>omega
theorem encB_ok {a:EncA} {e:Bool} {k c:Nat} {P:List Int} (h:FrameOk a.W a.H P):∀i,FrameOk a.W a.H (encB a e k c P i).2
 |0=>h
 |i+1=>by rw [encB];exact putL_ok (encB_ok h i)
theorem encM_ok {a:EncA} {E:Nat→Bool} {P:List Int} (h:FrameOk a.W a.H P):∀k,FrameOk a.W a.H (encM a E P k).2.1
 |0=>h
 |k+1=>by rw [encM];exact encB_ok (encM_ok h k) _
theorem getD_app1 {α} {l r:List α} {i:Nat} {d:α} (h:i<l.length):(l++r).getD i d=l.getD i d:=by
 rw [List.getD_eq_getElem?_getD,List.getD_eq_getElem?_getD,List.getElem?_append_left h]
theorem getD_app2 {α} {l:List α} {x d:α}:(l++[x]).getD l.length d=x:=by
 rw [List.getD_eq_getElem?_getD,List.getElem?_append_right (Nat.le_refl _)];simp
theorem bldB_app (W H q:Int) (b:Bool) (n:Int) (k:Nat) (bs cs:List Blok) (p:List Int):∀i,i≤bs.length→bldB W H q b n k (bs++cs) p i=bldB W H q b n k bs p i
 |0,_=>rfl
 |i+1,h=>by rw [bldB,bldB,bldB_app W H q b n k bs cs p i (by omega),getD_app1 (by omega)]
theorem bldM_app (W H q:Int) (b:Bool) (M N:List Mbk) (p:List Int):∀k,k≤M.length→bldM W H q b (M++N) p k=bldM W H q b M p k
 |0,_=>rfl
 |k+1,h=>by rw [bldM,bldM,bldM_app W H q b M N p k (by omega),getD_app1 (by omega)]
theorem encB_bld (a:EncA) (e:Bool) (k c:Nat) (P:List Int):∀i,bldB a.W a.H a.q a.b (sz8 e) k (encB a e k c P i).1 P i=(encB a e k c P i).2
 |0=>rfl
 |i+1=>by
  have hl:=encB_len a e k c P i
  have ih:=encB_bld a e k c P i
  rw [bldB,encB]
  simp only
  rw [bldB_app _ _ _ _ _ _ _ _ _ i (by omega),ih]
  have:∀x:Blok,((encB a e k c P i).1++[x]).getD i default=x:=fun x=>by
   have:=getD_app2 (l:=(encB a e k c P i).1) (x:=x) (d:=default);rw [hl] at this;exact this
  rw [this]
theorem encM_bld (a:EncA) (E:Nat→Bool) (P:List Int):∀k,bldM a.W a.H a.q a.b (encM a E P k).1 P k=(encM a E P k).2.1
 |0=>rfl
 |k+1=>by
  have hl:=encM_len a E P k
  have ih:=encM_bld a E P k
  rw [bldM,encM]
  simp only
  rw [bldM_app _ _ _ _ _ _ _ k (by omega),ih]
  have:∀x:Mbk,((encM a E P k).1++[x]).getD k default=x:=fun x=>by
   have:=getD_app2 (l:=(encM a E P k).1) (x:=x) (d:=default);rw [hl] at this;exact this
  rw [this]
  exact encB_bld ..
theorem plc_fit {W H:Int} (h:SidesOk W H) {e:Bool} {k i:Nat} (hk:(k:Int)<cntM W H) (hi:i<manyE e):0≤(plc1 W (sz8 e) k i).1∧(plc1 W (sz8 e) k i).1≤W-sz8 e∧0≤(plc1 W (sz8 e) k i).2.1∧(plc1 W (sz8 e) k i).2.1≤H-sz8 e∧(plc1 W (sz8 e) k i).1%sz8 e=0∧(plc1 W (sz8 e) k i).2.1%sz8 e=0:=by
 unfold cntM at hk
 obtain ⟨h1,h2,h3,h4,h5,h6⟩:=h
 have hw:1≤W/8:=by omega
 have a0:0≤(k:Int)%(W/8)∧(k:Int)%(W/8)<W/8:=⟨Int.emod_nonneg _ (by omega),Int.emod_lt_of_pos _ (by omega)⟩
 have a1:0≤(k:Int)/(W/8)∧(k:Int)/(W/8)<H/8:=⟨Int.ediv_nonneg (by omega) (by omega),Int.ediv_lt_of_lt_mul (by omega) (by rw [Int.mul_comm];exact hk)⟩
 unfold plc1
 generalize (k:Int)%(W/8)=u at*
 generalize (k:Int)/(W/8)=v at*
 cases e with
 |true=>
  have:i=0:=by simp [manyE] at hi;exact hi
  subst this
  simp only [sz8,cond_true]
  omega
 |false=>
  have:i<4:=hi
  simp only [sz8,cond_false]
  omega
theorem plc_fits {W H:Int} {p:List Int} (h:FrameOk W H p) {e:Bool} {k i:Nat} (hk:(k:Int)<cntM W H) (hi:i<manyE e):Fits W H p (plc1 W (sz8 e) k i).1 (plc1 W (sz8 e) k i).2.1 (sz8 e):=by
 obtain ⟨a,b,c,d,f,g⟩:=plc_fit h.1 hk hi
 exact ⟨h,by cases e<;>simp [sz8],⟨a,b⟩,⟨c,d⟩,f,g⟩
theorem blk_in {W H:Int} {p:List Int} (h:In p 0 255) (x y n:Int):In (blkL W H p x y n) 0 255:=by
 unfold blkL;split
 ·exact tab_in fun i _=>in_getZ255 h _
 ·exact in_nil 0 255
theorem res_ok {W H:Int} {F P:List Int} {x y n m:Int} (hF:Fits W H F x y n) (hP:Fits W H P x y n) (hm:0≤m∧m≤5):ResOk (blkL W H F x y n) (nbP W H P x y n m)∧(blkL W H F x y n).length=(n*n).toNat:=by
 have hb:(blkL W H F x y n).length=(n*n).toNat:=by unfold blkL;rw [if_pos hF];exact tabL_len ..
 have hp:(nbP W H P x y n m).length=n.toNat*n.toNat:=by unfold nbP;rw [predS_len,if_pos ⟨nb_ok hP,hm⟩]
 have hn:=hF.2.1
 refine ⟨⟨?_,?_,blk_in hF.1.2.2 _ _ _,predS_in ..⟩,hb⟩
 ·rw [hb];rcases hn with rfl|rfl<;>decide
 ·rw [hb,hp];rcases hn with rfl|rfl<;>decide
theorem res_in {f p:List Int}:In (resS f p) (-255) 255:=by
 unfold resS;split
 ·rename_i h
  obtain ⟨_,_,h1,h2⟩:=h
  unfold In rsK;intro v hv
  obtain ⟨i,_,rfl⟩:=List.mem_map.1 hv
  have:=in_getZ255 h1 i
  have:=in_getZ255 h2 i
  omega
 ·unfold In;intro v hv;cases hv
theorem blk_enc {W H q:Int} {b:Bool} {L F P:List Int} {x y n m:Int} (ho:OptOk q L) (hm:HasC L m) (hF:Fits W H F x y n) (hP:Fits W H P x y n):BlkOk m (chV W H F q b L P x y n m) L n∧((chV W H F q b L P x y n m).length:Int)=n*n:=by
 have hr:=res_ok hF hP hm.2.1
 have hl:(resS (blkL W H F x y n) (nbP W H P x y n m)).length=(n*n).toNat:=by rw [resS_len,if_pos hr.1,hr.2]
 have h16:(resS (blkL W H F x y n) (nbP W H P x y n m)).length=16∨(resS (blkL W H F x y n) (nbP W H P x y n m)).length=64:=by
  rw [hl];rcases hF.2.1 with rfl|rfl<;>decide
 have hlv:=lev_ok (b:=b) ho h16 res_in
 have hlen:((chV W H F q b L P x y n m).length:Int)=n*n:=by
  unfold chV levL
  rw [if_pos ⟨ho,(side_pos _).2 h16,in_wide res_in (by decide) (by decide)⟩]
  have hs:side (resS (blkL W H F x y n) (nbP W H P x y n m)).length=n:=by rw [hl];rcases hF.2.1 with rfl|rfl<;>rfl
  have hn:=hF.2.1
  split
  ·rw [scnL_len,List.length_map,(scan_facts h16).1,hl];rcases hn with rfl|rfl<;>decide
  ·obtain ⟨h1,h2,h3⟩:=tr_small (n:=side (resS (blkL W H F x y n) (nbP W H P x y n m)).length) rfl h16 res_in
   have hq:(quantL (trL (side (resS (blkL W H F x y n) (nbP W H P x y n m)).length) false (resS (blkL W H F x y n) (nbP W H P x y n m))) q).length=(resS (blkL W H F x y n) (nbP W H P x y n m)).length:=by
    unfold quantL;rw [if_pos ⟨by rw [h2];exact (side_pos _).2 h16,(stepL_pos q).2 ho.1⟩,List.length_map,h2]
   rw [scnL_len,hq,(scan_facts h16).1,hl];rcases hn with rfl|rfl<;>decide
 exact ⟨⟨hF.2.1,hm,hlen,hlv⟩,hlen⟩
abbrev ChOk (a:EncA):Prop:=∀c x y n P,Fits a.W a.H P x y n→HasC a.L (chM a.W a.H a.F a.ch c P x y n)
theorem encB_good {a:EncA} (ho:OptOk a.q a.L) (hF:FrameOk a.W a.H a.F) (hc:ChOk a) {e:Bool} {k c:Nat} {P:List Int} (hP:FrameOk a.W a.H P) (hk:(k:Int)<cntM a.W a.H):∀i,i≤manyE e→∀x∈(encB a e k c P i).1,BlkOk x.1 x.2 a.L (sz8 e)
 |0,_=>fun x hx=>by cases hx
 |i+1,hi=>fun x hx=>by
  rw [encB] at hx
  rcases List.mem_append.1 hx with h|h
  ·exact encB_good ho hF hc hP hk i (by omega) x h
  ·rw [List.mem_singleton] at h
   subst h
   have h1:=plc_fits hF (e:=e) (i:=i) hk (by omega)
   have h2:=plc_fits (encB_ok (e:=e) (k:=k) (c:=c) hP i) (e:=e) (i:=i) hk (by omega)
   exact (blk_enc ho (hc _ _ _ _ _ h2) h1 h2).1
theorem encM_good {a:EncA} (ho:OptOk a.q a.L) (hF:FrameOk a.W a.H a.F) (hc:ChOk a) {E:Nat→Bool} {P:List Int} (hP:FrameOk a.W a.H P):∀k:Nat,(k:Int)≤cntM a.W a.H→∀x∈(encM a E P k).1,MbkOk x.1 x.2 a.L
 |0,_=>fun x hx=>by cases hx
 |k+1,hk=>fun x hx=>by
  rw [encM] at hx
  rcases List.mem_append.1 hx with h|h
  ·exact encM_good ho hF hc hP k (by omega) x h
  ·rw [List.mem_singleton] at h
   subst h
   refine ⟨?_,?_⟩
   ·simp only [encB_len];cases E k<;>simp [manyE,nm8]
   ·rw [List.any_eq_false]
    intro y hy
    have:=encB_good ho hF hc (encM_ok (a:=a) (E:=E) hP k) (by omega) (manyE (E k)) (Nat.le_refl _) y hy
    simp [badB,this]
def encS (a:EncA) (E:Nat→Bool):List Mbk:=(encM a E (zerP a.W a.H) (cntM a.W a.H).toNat).1
theorem zer_ok {W H:Int} (h:SidesOk W H):FrameOk W H (zerP W H):=by
 refine ⟨h,?_,?_⟩
 ·unfold zerP;rw [List.length_replicate];have h1:8*8≤W*H:=Int.mul_le_mul h.1 h.2.2.1 (by omega) (by have:=h.1;omega);omega
 ·unfold zerP In;intro v hv;rw [List.eq_of_mem_replicate hv];decide
theorem encS_ok {a:EncA} (ho:OptOk a.q a.L) (hF:FrameOk a.W a.H a.F) (hc:ChOk a) (E:Nat→Bool):StOk a.W a.H a.q a.L (encS a E):=by
 have hcm:=cntM_bd hF.1
 refine ⟨⟨hF.1,ho⟩,?_,?_⟩
 ·unfold encS;rw [encM_len];omega
 ·rw [List.any_eq_false]
  intro x hx
  have:=encM_good ho hF hc (E:=E) (zer_ok hF.1) (cntM a.W a.H).toNat (by omega) x hx
  simp [badM,this]
theorem encS_ref (a:EncA) (E:Nat→Bool) (d:Bool):refL a.W a.H a.q a.b d (encS a E)=endL a.W a.H a.q d (encM a E (zerP a.W a.H) (cntM a.W a.H).toNat).2.1:=by
 unfold refL encS
 rw [encM_len,encM_bld]
end Go.Proofs.YtainhhfnnclfiaaGreat


namespace Go.Abs
open Go
inductive Ry (O O':List AObj) (j:Nat):List AV→List AV→Prop
 |nil:Ry O O' j [] []
 |any {V vs us}:Ry O O' j vs us→Ry O O' j (V::vs) (.any::us)
 |keep {V V' vs us}:V=V'→V'.still=true→Ry O O' j vs us→Ry O O' j (V::vs) (V'::us)
 |own {id ep ep' off len len' ob ob' vs us}:O[id]?=some ob→O'[id]?=some ob'→ob.ep=ep→ob'.ep=ep'→ob'.size=ob.size→len=len'→Ry O O' j vs us→Ry O O' j (.own id ep off len::vs) (.own id ep' off len'::us)
 |ptr {id ep ep' off ob ob' vs us}:O[id]?=some ob→O'[id]?=some ob'→ob.ep=ep→ob'.ep=ep'→Ry O O' j vs us→Ry O O' j (.ptr id ep off::vs) (.ptr id ep' off::us)
 |fn {f ds vs us}:ds.all AV.simple=true→Ry O O' j vs us→Ry O O' j (.fn f ds::vs) (.fn f ds::us)
 |agg {ds es vs us}:Ry O O' j ds es→Ry O O' j vs us→Ry O O' j (.agg ds::vs) (.agg es::us)
 |nilO {ob' k len vs us}:O'[k]?=some ob'→k=j→ob'.ep=0→0=len→Ry O O' j vs us→Ry O O' j (.nilS::vs) (.own k 0 0 len::us)
theorem simple_allI {S w ι ι' O O'}:∀{ds:List AV} {us f},LRel S w ι O ds us f→ds.all AV.simple=true→LRel S w ι' O' ds us f
 |[],us,f,h,_=>by cases h;exact .nil
 |d::ds,us,f,h,hs=>by
  simp only [List.all_cons,Bool.and_eq_true] at hs
  obtain ⟨v,vs,f1,f2,rfl,hv,hr,rfl⟩:=h.uncons
  have hst:d.still=true:=by cases d<;>simp_all [AV.simple,AV.still]
  exact LRel.cons (still_any hv hst O' (fun _ h=>h) (fun _ _=>rfl) (fun _ _=>rfl)) (simple_allI hr hs.2)
theorem Ry.same {O O':List AObj} {j:Nat} {cs cs':List AV} (h:cs=cs') (hs:cs'.all AV.still=true):Ry O O' j cs cs':=by
 subst h
 induction cs with
 |nil=>exact .nil
 |cons c cs ih=>
  simp only [List.all_cons,Bool.and_eq_true] at hs
  exact .keep rfl hs.1 (ih hs.2)
theorem Ry.rel {O O':List AObj} {j:Nat} {S w} {ι ι':Nat→Spot} (hj:ι' j=none) (hι:∀id,id<O.length→ι' id=ι id) {vs us:List AV} (h:Ry O O' j vs us):∀{xs f},LRel S w ι O vs xs f→∃f',LRel S w ι' O' us xs f'∧(∀ b∈f',b∈f)∧(f.Nodup→f'.Nodup):=by
 induction h with
 |nil=>intro xs f hl;cases hl;exact ⟨[],.nil,by simp,by simp⟩
 |any _ ih=>
  intro xs f hl
  obtain ⟨v,vs',f1,f2,rfl,hv,hr,rfl⟩:=hl.uncons
  obtain ⟨f',h1,h2,h3⟩:=ih hr
  exact ⟨f',.any h1,fun b hb=>List.mem_append_right _ (h2 b hb),fun hn=>h3 (List.nodup_append.1 hn).2.1⟩
 |keep he hs _ ih=>
  intro xs f hl
  subst he
  obtain ⟨v,vs',f1,f2,rfl,hv,hr,rfl⟩:=hl.uncons
  obtain ⟨f',h1,h2,h3⟩:=ih hr
  refine ⟨f1++f',LRel.cons (still_any hv hs O' (fun _ h=>h) (fun _ _=>rfl) (fun _ _=>rfl)) h1,?_,?_⟩
  ·intro b hb
   rcases List.mem_append.1 hb with hb|hb
   ·exact List.mem_append_left _ hb
   ·exact List.mem_append_right _ (h2 b hb)
  ·intro hn
   obtain ⟨n1,n2,n3⟩:=List.nodup_append.1 hn
   exact List.nodup_append.2 ⟨n1,h3 n2,fun a ha b hb=>n3 a ha b (h2 b hb)⟩
 |own ho ho' he he' hsz hln _ ih=>
  intro xs f hl
  subst hln
  obtain ⟨v,vs',f1,f2,rfl,hv,hr,rfl⟩:=hl.uncons
  obtain ⟨f',h1,h2,h3⟩:=ih hr
  refine ⟨f',?_,fun b hb=>List.mem_append_right _ (h2 b hb),fun hn=>h3 (List.nodup_append.1 hn).2.1⟩
  cases hv with
  |own q1 q2 q3 r=>
   rw [ho] at q1;cases q1
   exact .own ho' (by omega) (fun _=>by rw [hsz,hι _ (List.getElem?_eq_some_iff.1 ho).1];exact q3 he.symm) h1
 |ptr ho ho' he he' _ ih=>
  intro xs f hl
  obtain ⟨v,vs',f1,f2,rfl,hv,hr,rfl⟩:=hl.uncons
  obtain ⟨f',h1,h2,h3⟩:=ih hr
  refine ⟨f',?_,fun b hb=>List.mem_append_right _ (h2 b hb),fun hn=>h3 (List.nodup_append.1 hn).2.1⟩
  cases hv with
  |ptr q1 q2 q3 r=>
   rw [ho] at q1;cases q1
   exact .ptr ho' (by omega) (fun _=>by rw [hι _ (List.getElem?_eq_some_iff.1 ho).1];exact q3 he.symm) h1
 |fn hs _ ih=>
  intro xs f hl
  obtain ⟨v,vs',f1,f2,rfl,hv,hr,rfl⟩:=hl.uncons
  obtain ⟨f',h1,h2,h3⟩:=ih hr
  refine ⟨f',?_,fun b hb=>List.mem_append_right _ (h2 b hb),fun hn=>h3 (List.nodup_append.1 hn).2.1⟩
  cases hv with
  |fn a r=>cases r;exact .fn (simple_allI a hs) h1
 |agg _ _ ih1 ih2=>
  intro xs f hl
  obtain ⟨v,vs',f1,f2,rfl,hv,hr,rfl⟩:=hl.uncons
  obtain ⟨us',rfl,ha⟩:=LRel.agg_inv hv
  obtain ⟨g',a1,a2,a3⟩:=ih1 ha
  obtain ⟨f',h1,h2,h3⟩:=ih2 hr
  refine ⟨g'++f',.agg a1 h1,?_,?_⟩
  ·intro b hb
   rcases List.mem_append.1 hb with hb|hb
   ·exact List.mem_append_left _ (a2 b hb)
   ·exact List.mem_append_right _ (h2 b hb)
  ·intro hn
   obtain ⟨n1,n2,n3⟩:=List.nodup_append.1 hn
   exact List.nodup_append.2 ⟨a3 n1,h3 n2,fun a ha b hb=>n3 a (a2 a ha) b (h2 b hb)⟩
 |nilO hk hkj hep hlen _ ih=>
  intro xs f hl
  subst hkj;subst hlen
  obtain ⟨v,vs',f1,f2,rfl,hv,hr,rfl⟩:=hl.uncons
  obtain ⟨f',h1,h2,h3⟩:=ih hr
  refine ⟨f',?_,fun b hb=>List.mem_append_right _ (h2 b hb),fun hn=>h3 (List.nodup_append.1 hn).2.1⟩
  cases hv with
  |nilS r=>exact .own hk (by omega) (fun _=>by rw [hj];exact ⟨rfl,rfl,rfl⟩) h1
inductive RyT (O O':List AObj) (j:Nat) (T:List (Nat×AV)):List (Nat×AV)→Prop
 |nil:RyT O O' j T []
 |cons {t V T'}:Ry O O' j [look T t] [V]→RyT O O' j T T'→RyT O O' j T ((t,V)::T')
theorem RyT.at {O O' j T T'} (h:RyT O O' j T T') (t:Nat):Ry O O' j [look T t] [look T' t]:=by
 induction h with
 |nil=>exact .any .nil
 |@cons k V T' hk _ ih=>
  by_cases he:k=t
  ·subst he;rw [look_cons_same];exact hk
  ·rw [look_cons_other _ _ _ _ he];exact ih
inductive RyO (O O':List AObj) (j:Nat):List AObj→List AObj→Prop
 |last {ob'}:ob'.cells=[]→RyO O O' j [] [ob']
 |cons {ob ob' os os'}:Ry O O' j ob.cells ob'.cells→(ob'.ty=none∨ob'.ty=ob.ty)→RyO O O' j os os'→RyO O O' j (ob::os) (ob'::os')
theorem RyO.len {O O' j os os'} (h:RyO O O' j os os'):os'.length=os.length+1:=by
 induction h with
 |last=>rfl
 |cons _ _ _ ih=>simp [ih]
theorem RyO.at {O O' j os os'} (h:RyO O O' j os os') {id:Nat} {ob':AObj} (hi:os'[id]?=some ob'):(id=os.length∧ob'.cells=[])∨∃ob,os[id]?=some ob∧Ry O O' j ob.cells ob'.cells∧(ob'.ty=none∨ob'.ty=ob.ty):=by
 induction h generalizing id with
 |last h=>
  cases id with
  |zero=>simp at hi;subst hi;exact .inl ⟨rfl,h⟩
  |succ id=>simp at hi
 |cons h1 h2 _ ih=>
  cases id with
  |zero=>simp at hi;subst hi;exact .inr ⟨_,by simp,h1,h2⟩
  |succ id=>
   rcases ih (by simpa using hi) with ⟨h3,h4⟩|⟨ob,h3,h4⟩
   ·exact .inl ⟨by simp [h3],h4⟩
   ·exact .inr ⟨ob,by simpa using h3,h4⟩
theorem Weak.nil1f {m:Nat} {T T':List (Nat×AV)} {O O':List AObj} (hT:RyT O O' O.length T T') (hO:RyO O O' O.length O O') (hm:m≤O.length):Weak m ⟨T,O⟩ ⟨T',O'⟩:=by
 rintro n G a w ⟨S,ι,F,hr⟩
 have hlen:=hO.len
 have hι0:(fun id=>if id<O.length then ι id else none) O.length=none:=by simp
 have hι1:∀id,id<O.length→(fun id=>if id<O.length then ι id else none) id=ι id:=fun id h=>by simp [h]
 generalize (fun id=>if id<O.length then ι id else none)=ι' at hι0 hι1
 have hex:∀id,∃f,∀ob',O'[id]?=some ob'→ObjAt S w ι' O' ob' (ι' id) f∧(∀ b∈f,id<O.length∧b∈F id)∧f.Nodup:=by
  intro id
  cases hi:O'[id]? with
  |none=>exact ⟨[],by simp⟩
  |some ob'=>
   rcases hO.at hi with ⟨h1,h2⟩|⟨ob,ho,hre,hty⟩
   ·refine ⟨[],fun ob2 h3=>?_⟩
    cases h3
    refine ⟨?_,by simp,by simp⟩
    rw [h1,hι0]
    unfold ObjAt
    exact ⟨h2,rfl⟩
   have hid:id<O.length:=(List.getElem?_eq_some_iff.1 ho).1
   have hob:=hr.objs.obj id ob ho
   unfold ObjAt at hob
   cases hs:ι id with
   |none=>
    rw [hs] at hob
    refine ⟨[],fun ob2 h2=>?_⟩
    cases h2
    refine ⟨?_,by simp,by simp⟩
    rw [hob.1] at hre
    unfold ObjAt
    rw [hι1 id hid,hs]
    cases hc:ob'.cells with
    |nil=>exact ⟨rfl,rfl⟩
    |cons c cs=>rw [hc] at hre;cases hre
   |some p=>
    obtain ⟨b,k⟩:=p
    rw [hs] at hob
    obtain ⟨cur,t,fz,f',hF,h1,h2,h3,h4,h5,h6⟩:=hob
    obtain ⟨g,g1,g2,g3⟩:=hre.rel hι0 hι1 h6
    have hnd:(b::f').Nodup:=by rw [←hF];exact hr.objs.nodup id hid
    have hlen:ob'.cells.length=ob.cells.length:=by
     have e1:=g1.len
     have e2:=h6.len
     omega
    refine ⟨b::g,fun ob2 hh=>?_⟩
    cases hh
    rw [hι1 id hid,hs]
    refine ⟨⟨cur,t,fz,g,rfl,h1,h2,by omega,h4,fun e he=>?_,by rw [hlen];exact g1⟩,?_,?_⟩
    ·rcases hty with hty|hty
     ·rw [hty] at he;cases he
     ·exact h5 e (by rw [←hty];exact he)
    ·intro b' hb'
     rw [hF]
     rcases List.mem_cons.1 hb' with rfl|hb'
     ·simp [hid]
     ·simp [g2 b' hb',hid]
    ·exact List.nodup_cons.2 ⟨fun hb=>(List.nodup_cons.1 hnd).1 (g2 b hb),g3 (List.nodup_cons.1 hnd).2⟩
 have hFx:∃F':Nat→List Nat,∀id ob',O'[id]?=some ob'→ObjAt S w ι' O' ob' (ι' id) (F' id)∧(∀ b∈F' id,id<O.length∧b∈F id)∧(F' id).Nodup:=
  ⟨fun id=>(hex id).choose,fun id=>(hex id).choose_spec⟩
 obtain ⟨F',hF'⟩:=hFx
 refine ⟨S,ι',F',hr.defers,hr.size,fun t=>?_,⟨fun id ob' h=>(hF' id ob' h).1,fun id h=>(hF' id _ (List.getElem?_eq_getElem h)).2.2,fun i j hi hj hij b hb hb'=>?_⟩,fun id h b hb=>?_,hr.base,hr.stable,hr.keeps,fun id h=>?_,by show m≤O'.length;omega⟩
 ·obtain ⟨f',h1,h2,_⟩:=(hT.at t).rel hι0 hι1 (hr.tmps t)
  have:f'=[]:=List.eq_nil_iff_forall_not_mem.2 fun b hb=>by simpa using h2 b hb
  subst this
  exact h1
 ·have hi:i<O'.length:=hi
  have hj:j<O'.length:=hj
  obtain ⟨a1,a2⟩:=(hF' i _ (List.getElem?_eq_getElem hi)).2.1 b hb
  obtain ⟨b1,b2⟩:=(hF' j _ (List.getElem?_eq_getElem hj)).2.1 b hb'
  exact hr.objs.apart i j a1 b1 hij b a2 b2
 ·have h:id<O'.length:=h
  obtain ⟨a1,a2⟩:=(hF' id _ (List.getElem?_eq_getElem h)).2.1 b hb
  exact hr.foot id a1 b a2
 ·rw [hι1 id (by omega)];exact hr.spots id h
end Go.Abs


namespace Go.Abs
open Go
section
variable {P:Program} {n m:Nat} {G:Ctx} {ops:Array Oper} {T0:List (Nat×AV)} {O Oi:List AObj} {keep sh:List Nat}
theorem HeadR.consV {fs fs2 out:List (Nat×AV)} {gs gs2:List Fil} {o:Oper} {l:List Oper} {d:Nat} {b bv:Bool} {F:List (Nat×AV)} {ks:List Fil} {cur:List AObj} (k:Fil) (hd:o.dst=some d) (hF:depsF fs o.after.toList=some F) (hcur:fillAll gs Oi=cur)
 (h:∀Tv Ov,Oi.length≤Ov.length→(∀ p ob,k.spot=some (p,ob)→Ov[p]?=cur[p]?)→(∀ j f p ob,waits o j=true→gs[j]?=some f→f.spot=some (p,ob)→memB p sh=false→Ov[p]?=some ob)→(∀ q,memB q keep=true→Ov[q]?=Oi[q]?)→WpL P n m G false ops [o] ⟨F++(T0++Tv),O++Ov⟩ (Only ⟨(d,.sc (.bool b))::(F++(T0++Tv)),O++k.run Ov⟩)) (hb:b=bv) (hs:catF fs [(d,.sc (.bool bv))]=some fs2) (hg:catF gs [k]=some gs2) (r:HeadR P n m G ops T0 O Oi keep sh fs2 gs2 l out ks):HeadR P n m G ops T0 O Oi keep sh fs gs (o::l) out ks:=by
 subst hb
 exact HeadR.consF k hd hF hcur h hs hg r
end
section
variable {P:Program} {n m:Nat} {G:Ctx} {ops:Array Oper} {T0:List (Nat×AV)} {O:List AObj}
theorem HeadJ.consB0 {fs fs2 out:List (Nat×AV)} {o:Oper} {l:List Oper} {d:Nat} {b:Bool} {F:List (Nat×AV)} (hd:o.dst=some d) (hF:depsF fs o.after.toList=some F)
 (h:∀Tv,WpL P n m G false ops [o] ⟨F++(T0++Tv),O⟩ (Only ⟨(d,.sc (.bool b))::(F++(T0++Tv)),O⟩)) (hb:b=false) (hs:catF fs [(d,.sc (.bool false))]=some fs2) (r:HeadJ P n m G ops T0 O fs2 l out):HeadJ P n m G ops T0 O fs (o::l) out:=by
 subst hb
 exact HeadJ.consF hd hF h hs r
end
theorem WpA.cut {P:Program} {n m:Nat} {G:Ctx} {c:Code} {σ σ1:St} {Q:Exit→St→Prop} (h1:WpA P n m G c σ (fun e s=>e=.normal∧Weak m s σ1)) (h2:Q .normal σ1):WpA P n m G c σ Q:=fun a w hr=>by
 refine wp_mono (h1 a w hr) fun e a' w' hh=>?_
 obtain ⟨σ',⟨he,hw⟩,hR⟩:=hh
 subst he
 exact ⟨σ1,h2,hw n G a' w' hR⟩
end Go.Abs


namespace Go.Abs
open Go
theorem lrel_ints2 {S w ι O}:∀{xs:List Int} {us f},LRel S w ι O (ints xs) us f→us=xs.map (Value.int .i64)∧f=[]
 |[],us,f,h=>by cases h;exact ⟨rfl,rfl⟩
 |x::xs,us,f,h=>by
  cases h with
  |sc h=>obtain ⟨h1,h2⟩:=lrel_ints2 h;subst h1 h2;exact ⟨rfl,rfl⟩
theorem lrel_ints3 {S w ι O}:∀(xs:List Int),LRel S w ι O (ints xs) (xs.map (Value.int .i64)) []
 |[]=>.nil
 |x::xs=>.sc (lrel_ints3 xs)
theorem RelAt.pre {n m G S ι F T O a w} (hr:RelAt n m G S ι F ⟨T,O⟩ a w) {id j ep sz:Nat} {te:Option TypeId} {xs:List Int} (ho:O[id]?=some ⟨ints xs,ep,sz,te⟩):RelAt n m G S ι F ⟨T,O.set id ⟨ints (xs.take j),ep,sz,te⟩⟩ a w:=by
 have hid:id<O.length:=(List.getElem?_eq_some_iff.1 ho).1
 have hlat:Later S w ι O S w ι (O.set id ⟨ints (xs.take j),ep,sz,te⟩):=⟨fun _ h=>h,fun _ _=>rfl,fun i ob hi=>by
  by_cases e:i=id
  ·subst e;rw [ho] at hi;cases hi
   exact ⟨⟨ints (xs.take j),ep,sz,te⟩,by rw [List.getElem?_set_self hid],.inr ⟨rfl,rfl,rfl⟩⟩
  ·exact ⟨ob,by rw [List.getElem?_set,if_neg (fun h=>e h.symm)];exact hi,.inr ⟨rfl,rfl,rfl⟩⟩⟩
 refine ⟨hr.defers,hr.size,fun t=>(hr.tmps t).mono hlat (by simp),⟨fun i ob hi=>?_,fun i hi=>hr.objs.nodup i (by simpa using hi),fun i j' hi hj=>hr.objs.apart i j' (by simpa using hi) (by simpa using hj)⟩,fun i hi=>hr.foot i (by simpa using hi),hr.base,hr.stable,hr.keeps,hr.spots,by have:=hr.mle;simpa using this⟩
 have hi:(O.set id ⟨ints (xs.take j),ep,sz,te⟩)[i]?=some ob:=hi
 by_cases e:i=id
 ·subst e
  rw [List.getElem?_set_self hid] at hi;cases hi
  have h:=hr.objs.obj i _ ho
  unfold ObjAt at h ⊢
  cases hs:ι i with
  |none=>
   rw [hs] at h
   have h1:ints xs=[]:=h.1
   have:xs=[]:=by cases xs with|nil=>rfl|cons x xs=>cases h1
   subst this
   exact ⟨by simp [ints],h.2⟩
  |some p=>
   obtain ⟨b,k⟩:=p
   rw [hs] at h
   obtain ⟨cur,t,fz,f',h1,h2,h3,h4,h5,h6,h7⟩:=h
   obtain ⟨h8,h9⟩:=lrel_ints2 h7
   subst h9
   have hle:(xs.take j).length≤xs.length:=List.length_take_le' _ _
   have h4':xs.length≤k:=by simpa [ints] using h4
   refine ⟨cur,t,fz,[],h1,h2,h3,by show (ints (xs.take j)).length≤k;simp [ints];omega,h5,h6,?_⟩
   have e2:cur.toList.take (ints (xs.take j)).length=(xs.take j).map (Value.int .i64):=by
    have e3:(ints (xs.take j)).length=min j xs.length:=by simp [ints]
    have e4:cur.toList.take xs.length=xs.map (Value.int .i64):=by simpa [ints] using h8
    rw [e3,←List.take_take,e4,List.map_take]
   show LRel S w ι _ (ints (xs.take j)) (cur.toList.take (ints (xs.take j)).length) []
   rw [e2];exact lrel_ints3 _
 ·rw [List.getElem?_set,if_neg (fun h=>e h.symm)] at hi
  have h:=hr.objs.obj i ob hi
  unfold ObjAt at h ⊢
  cases hs:ι i with
  |none=>rw [hs] at h;exact h
  |some p=>
   obtain ⟨b,k⟩:=p
   rw [hs] at h
   obtain ⟨cur,t,fz,f',h1,h2,h3,h4,h5,h6,h7⟩:=h
   exact ⟨cur,t,fz,f',h1,h2,h3,h4,h5,h6,h7.mono hlat (fun _ _=>rfl)⟩
theorem Weak.pre {m id j ep sz:Nat} {T:List (Nat×AV)} {O:List AObj} {te:Option TypeId} {xs:List Int} (ho:O[id]?=some ⟨ints xs,ep,sz,te⟩):Weak m ⟨T,O⟩ ⟨T,O.set id ⟨ints (xs.take j),ep,sz,te⟩⟩:=by
 rintro n G a w ⟨S,ι,F,hr⟩
 exact ⟨S,ι,F,hr.pre ho⟩
section
variable {P:Program} {n m:Nat} {G:Ctx} {T:List (Nat×AV)} {O:List AObj} {Q:Exit→St→Prop} {ops:Array Oper} {l:List Oper} {d:Nat} {md:Bool} {tt:TypeId} {pos:String} {after:Array Edge} {tab:List (Nat×Ty)}
theorem WpL.subOwn (hP:TabOk P tab) {t e k b:Nat} {zs:List AV} {x y:Operand} {kk:IntKind} {id ep len j:Nat} {ob:AObj} (ht:tlook tab t=some (.slice e k b zs)) (hx:av T x=.own id ep 0 len) (ho:O[id]?=some ob) (he:ob.ep=ep) (hy:av T y=.sc (.int kk j)) (hj:j≤len) (hn:d<n)
 (h:WpL P n m G md ops l ⟨(d,.own id ep 0 j)::T,O⟩ Q):
 WpL P n m G md ops ({dst:=some d,op:=.slice t x none (some y) none,type:=tt,pos:=pos,after:=after,guard:=none}::l) ⟨T,O⟩ Q:=
 WpL.pure rfl rfl hn (fun S ι F a w hr=>by
  obtain ⟨hu,inf,z,hinf,_,hk,_,_,hk0,_⟩:=hP.slice ht
  have hv:=hr.eval x
  rw [show av (St.mk T O).T x=_ from hx] at hv
  have hye:=hr.sc hy
  have hown:OwnAt (ι id) ob.size 0 len (a.eval x):=by
   cases hv with
   |own q1 q2 q3 r=>
    rw [show (St.mk T O).O[id]?=some ob from ho] at q1
    cases q1
    exact q3 he.symm
  cases hs:ι id with
  |none=>
   rw [hs] at hown
   obtain ⟨hxe,h0,hl⟩:=hown
   have hj0:j=0:=by omega
   subst hj0
   refine ⟨.slice none 0 0,?_,.own ho (by omega) (fun _=>by rw [hs];exact ⟨rfl,rfl,rfl⟩) .nil⟩
   have hrun:(Instr.sliceAt t (.slice none 0 0) none (some (.int kk 0)) none).run P w=.ok (.slice none 0 0) w:=by
    simp [Instr.sliceAt,Instr.slice,run_underlying hu,Instr.sliceBounds,Instr.sliceBound,asIntOf,run_sizeOf hinf hk,Sem.run_bind]
   have hye':a.eval y=.int kk 0:=by rw [hye];rfl
   simp [execOp,hxe,hye',hrun,Sem.run_bind]
  |some p=>
   obtain ⟨bb,kb⟩:=p
   rw [hs] at hown
   obtain ⟨cap,hxe,h1,h2,h3⟩:=hown
   have hrun:=run_sliceSl hu hinf hk ⟨bb,0,none⟩ len cap none (some (.int kk j)) 0 j (.inl ⟨rfl,rfl⟩) (.inr ⟨kk,rfl⟩) (by omega) w
   have e1:(if cap=0 then (⟨bb,0,none⟩:Addr) else (⟨bb,0,none⟩:Addr).add (0*k))=⟨bb,0,none⟩:=by
    split
    ·rfl
    ·rw [addr_add];simp
   rw [e1,Nat.sub_zero,Nat.sub_zero] at hrun
   refine ⟨.slice (some ⟨bb,0,none⟩) j cap,by simp [execOp,hxe,hye,hrun,Sem.run_bind],.own ho (by omega) (fun _=>by rw [hs];exact ⟨cap,rfl,h1,by omega,h3⟩) .nil⟩) h
theorem WpL.appBools (hP:TabOk P tab) {t e b c:Nat} {zs:List AV} {xs ys:List Bool} {x y:Operand} {id ep len:Nat} {Vy:AV} (ht:tlook tab t=some (.slice e 1 b zs)) (hx:av T x=.own id ep 0 len)
 (ho:O[id]?=some ⟨bools xs,ep,1,some e⟩) (hm:m≤id) (hy:(av T y).force=some Vy) (hs:srcB O Vy=some (bools ys,c)) (hol:xs.length=len) (hc:ys.length=c)
 (hb:(len+c)*b≤140737488355328∧len+c≤9223372036854775807) (hn:d<n)
 (h:WpL P n m G false ops l ⟨(d,.own id (ep+1) 0 (len+c))::T,O.set id ⟨bools (xs++ys),ep+1,1,some e⟩⟩ Q):
 WpL P n m G false ops ({dst:=some d,op:=.call {callee:=.builtin .append,args:=#[x,y],argTypes:=#[t,t]},type:=tt,pos:=pos,after:=after,guard:=none}::l) ⟨T,O⟩ Q:=
 WpL.appOwn hP ht hx ho rfl rfl rfl (by simp [hol]) hm hy hs (by simp [hc]) (all_bools _ _) hb hn (by
  have e2:bools xs++bools ys=bools (xs++ys):=by simp [bools]
  simp only [e2];exact h)
end
theorem split1 {Ov:List AObj} {a:AObj} (h0:Ov[0]?=some a):∃R,Ov=a::R:=by
 match Ov,h0 with
 |a'::R,h0=>simp at h0;exact ⟨R,by rw [h0]⟩
 |[],h=>simp at h
theorem split5 {Ov:List AObj} {e:AObj} (h:Ov[4]?=some e):∃a b c d R,Ov=a::b::c::d::e::R:=by
 match Ov,h with
 |a::b::c::d::e'::R,h=>simp at h;exact ⟨a,b,c,d,R,by rw [h]⟩
 |[],h=>simp at h
 |[_],h=>simp at h
 |[_,_],h=>simp at h
 |[_,_,_],h=>simp at h
 |[_,_,_,_],h=>simp at h
section
variable {m:Nat} {T:List (Nat×AV)} {O:List AObj} {tab:List (Nat×Ty)} {e':Exit} {r1 r2:ResultVar} {r1v r2v r:AV} {N:List AObj}
theorem FinG.oI (ids:List (Option Nat)) (he:endB e'=true) (hv:ResV tab T O r1 r1v) (hx:Ex O ids [r1v] [r]) (hN:NEx O ids N) (hd:nodupB (ids.filterMap id)=true) (hp:preB ids m 0=true):FinG tab m #[r1] N r e' ⟨T,O⟩:=FinG.e he (.one hv hN (nodupB_spec hd) hp hx)
end
end Go.Abs


namespace Go.Proofs.YtainhhfnnclfiaaGreat
open Go Go.Abs
def bit1 (y:Int):Int:=IntKind.i64.wrap ((BitVec.ofInt IntKind.i64.bits y &&& BitVec.ofInt IntKind.i64.bits 1).toNat:Nat)
def btA (p:List UInt8) (i:Int):Int:=if i<0∨8*(p.length:Int)≤i then -1 else bit1 (((p.getD (i/8).toNat 0).toNat:Int)/2 ^ (7-i%8).toNat)
def bv (p:List UInt8) (i:Int):Int:=max (btA p i) 0
def numB (p:List UInt8) (s:Int):Nat→Int
 |0=>0
 |k+1=>numB p s k*2+bv p (s+k)
abbrev RdOk (p:List UInt8) (s:Int):Prop:=0≤s∧s≤8*(p.length:Int)
def lft (p:List UInt8) (s:Int):Int:=if RdOk p s then 8*(p.length:Int)-s else 0
abbrev RbOk (p:List UInt8) (s n:Int):Prop:=RdOk p s∧(0≤n∧n≤32)∧n≤lft p s
def rbA (p:List UInt8) (s n:Int):Int:=if RbOk p s n then s+n else s
def rbV (p:List UInt8) (s n:Int):Int:=if RbOk p s n then numB p s n.toNat else 0
def zrW (p:List UInt8) (s:Int):Nat→Nat→Nat
 |0,n=>n
 |f+1,n=>if btA p (s+n)=0 then zrW p s f (n+1) else n
def zrs (p:List UInt8) (s:Int):Nat:=zrW p s (lft p s).toNat 0
def ueA (p:List UInt8) (s:Int):Int:=if zrs p s≤15 then rbA p s (2*(zrs p s:Int)+1) else s
def ueC (p:List UInt8) (s:Int):Int:=if zrs p s≤15 then (if RbOk p s (2*(zrs p s:Int)+1) then 0 else 1) else 4
def ueV (p:List UInt8) (s:Int):Int:=if ueC p s=0 then rbV p s (2*(zrs p s:Int)+1)-1 else 0
def lvOf (n:Int):Int:=if n<0 then 0 else if n%2=0 then n/2+1 else -(n/2)-1
abbrev SymAt (p:List UInt8) (s:Int) (l:List Int) (m:Nat):Prop:=0<l.getD m 0∧RbOk p s (l.getD m 0)∧numB p s (l.getD m 0).toNat=(codes l).getD m 0
def symM (p:List UInt8) (s:Int) (l:List Int):Nat:=((List.range 6).find? fun m=>decide (SymAt p s l m)).getD 6
def smC (p:List UInt8) (s:Int) (l:List Int):Int:=if CodeOk l then (if symM p s l<6 then 0 else 1) else 4
def smA (p:List UInt8) (s:Int) (l:List Int):Int:=if smC p s l=0 then s+l.getD (symM p s l) 0 else s
def smV (p:List UInt8) (s:Int) (l:List Int):Int:=if smC p s l=0 then symM p s l else 0
end Go.Proofs.YtainhhfnnclfiaaGreat


namespace Go.Proofs.YtainhhfnnclfiaaGreat
open Go Go.Abs
def fbC (p:List UInt8) (s c n:Int) (k:Int→Int):Int:=if c=0 then (if RbOk p s n then k (rbV p s n) else 1) else c
def fbA (p:List UInt8) (s c n:Int) (k:Int→Int):Int:=if c=0∧fbC p s c n k=0 then rbA p s n else s
def fbV (p:List UInt8) (s c n:Int) (k:Int→Int):Int:=if fbC p s c n k=0 then rbV p s n else 0
def fuC (p:List UInt8) (s c:Int) (k:Int→Int):Int:=if c=0 then (if ueC p s=0 then k (ueV p s) else ueC p s) else c
def fuA (p:List UInt8) (s c:Int) (k:Int→Int):Int:=if fuC p s c k=0 then ueA p s else s
def fuV (p:List UInt8) (s c:Int) (k:Int→Int):Int:=if fuC p s c k=0 then ueV p s else 0
def ifE (b:Prop) [Decidable b] (e:Int):Int:=bif decide b then 0 else e
def lenAt (v:Int) (i:Nat):Int:=v/2 ^ (3*i)%8
def lensV (v:Int):List Int:=[lenAt v 5,lenAt v 4,lenAt v 3,lenAt v 2,lenAt v 1,lenAt v 0]
structure HdS where
 a:Int
 c:Int
 w:Int
 h:Int
 q:Int
 f:Int
 l:Int
abbrev hk1 (x:Int):Int:=ifE (x=183) 2
abbrev hk2 (x:Int):Int:=ifE (x≤3) 3
abbrev hk3 (x:Int):Int:=ifE (x≤51) 3
abbrev hk4 (x:Int):Int:=0
abbrev hk5 (x:Int):Int:=ifE (CodeOk (lensV x)) 4
def hdS (p:List UInt8) (s:Int):HdS:=
 let a1:=fbA p s 0 8 hk1
 let c1:=fbC p s 0 8 hk1
 let a2:=fuA p a1 c1 hk2
 let c2:=fuC p a1 c1 hk2
 let a3:=fuA p a2 c2 hk2
 let c3:=fuC p a2 c2 hk2
 let a4:=fbA p a3 c3 6 hk3
 let c4:=fbC p a3 c3 6 hk3
 let a5:=fbA p a4 c4 2 hk4
 let c5:=fbC p a4 c4 2 hk4
 let a6:=fbA p a5 c5 18 hk5
 let c6:=fbC p a5 c5 18 hk5
 ⟨a6,c6,fuV p a1 c1 hk2,fuV p a2 c2 hk2,fbV p a3 c3 6 hk3,fbV p a4 c4 2 hk4,fbV p a5 c5 18 hk5⟩
def HdS.W (x:HdS):Int:=if x.c=0 then 8*(x.w+1) else 0
def HdS.H (x:HdS):Int:=if x.c=0 then 8*(x.h+1) else 0
def HdS.Q (x:HdS):Int:=if x.c=0 then x.q else 0
def HdS.B (x:HdS):Bool:=decide (x.c=0∧x.f≥2)
def HdS.D (x:HdS):Bool:=decide (x.c=0∧x.f%2=1)
def HdS.L (x:HdS):List Int:=if x.c=0 then lensV x.l else []
structure LvS where
 a:Int
 c:Int
 at_:Int
 out:List Int
def lvStep (p:List UInt8) (nn:Int) (x:LvS):LvS:=
 if x.c=0 then
  let k1:=fun y:Int=>ifE (y<nn-x.at_) 5
  let k2:=fun y:Int=>ifE (-16383≤lvOf y∧lvOf y≤16383) 5
  let a1:=fuA p x.a 0 k1
  let c1:=fuC p x.a 0 k1
  let t1:=x.at_+fuV p x.a 0 k1
  let a2:=fuA p a1 c1 k2
  let c2:=fuC p a1 c1 k2
  if c2=0 then ⟨a2,c2,t1+1,x.out.set t1.toNat (lvOf (fuV p a1 c1 k2))⟩ else ⟨a2,c2,t1,x.out⟩
 else x
def lvRun (p:List UInt8) (nn:Int) (x:LvS):Nat→LvS
 |0=>x
 |k+1=>lvStep p nn (lvRun p nn x k)
def lvS (p:List UInt8) (s n:Int):LvS:=
 let nn:=n*n
 let z:=List.replicate nn.toNat 0
 let k0:=fun _:Int=>0
 let k1:=fun y:Int=>ifE (y<nn) 5
 let a1:=fbA p s 0 1 k0
 let c1:=fbC p s 0 1 k0
 if fbV p s 0 1 k0=0 then ⟨a1,c1,0,z⟩ else
  let a2:=fuA p a1 c1 k1
  let c2:=fuC p a1 c1 k1
  lvRun p nn ⟨a2,c2,0,z⟩ (1+fuV p a1 c1 k1).toNat
structure BlS where
 a:Int
 c:Int
 m:Int
 l:List Int
def blS (p:List UInt8) (s:Int) (lens:List Int) (n:Int):BlS:=
 if n=4∨n=8 then
  if smC p s lens=0 then
   let x:=lvS p (smA p s lens) n
   if x.c=0 then ⟨x.a,0,smV p s lens,x.out⟩ else ⟨x.a,x.c,0,[]⟩
  else ⟨s,smC p s lens,0,[]⟩
 else ⟨s,5,0,[]⟩
structure MbS where
 a:Int
 c:Int
 bs:List Blok
def mbRun (p:List UInt8) (s:Int) (lens:List Int) (n:Int):Nat→MbS
 |0=>⟨s,0,[]⟩
 |k+1=>
  let x:=mbRun p s lens n k
  if x.c=0 then
   let b:=blS p x.a lens n
   if b.c=0 then ⟨b.a,0,x.bs++[(b.m,b.l)]⟩ else ⟨b.a,b.c,[]⟩
  else x
def mbS (p:List UInt8) (s:Int) (lens:List Int):MbS×Bool:=
 if RbOk p s 1 then
  let e:=decide (rbV p s 1=1)
  let x:=mbRun p (s+1) lens (bif e then 8 else 4) (bif e then 1 else 4)
  (x,bif decide (x.c=0) then e else false)
 else (⟨s,1,[]⟩,false)
structure StS where
 a:Int
 c:Int
 ms:List Mbk
def stRun (p:List UInt8) (s:Int) (lens:List Int):Nat→StS
 |0=>⟨s,0,[]⟩
 |k+1=>
  let x:=stRun p s lens k
  if x.c=0 then
   let m:=mbS p x.a lens
   if m.1.c=0 then ⟨m.1.a,0,x.ms++[(m.2,m.1.bs)]⟩ else ⟨m.1.a,m.1.c,[]⟩
  else x
def endC (p:List UInt8) (s:Int):Int:=if lft p s=0 then 1 else if lft p s≤8∧numB p s (lft p s).toNat=2 ^ (lft p s-1).toNat then 0 else 6
end Go.Proofs.YtainhhfnnclfiaaGreat


namespace Go.Proofs.YtainhhfnnclfiaaGreat
open Go Go.Abs
attribute [local irreducible] WpA WpL Rnd Blk Abs.Seq Abs.Fin Abs.FinG FnC FnG Only
end Go.Proofs.YtainhhfnnclfiaaGreat


namespace Go.Proofs.YtainhhfnnclfiaaGreat
open Go Go.Abs
attribute [local irreducible] WpA WpL Rnd Blk Abs.Seq Abs.Fin Abs.FinG FnC FnG Only
def nolL (v:Int):Int:=if v>0 then 2*v-2 else if v<0 then -2*v-1 else -1
def ueL (n:Int):List Int:=if 0≤n∧n≤65534 then List.replicate (Nat.log2 (n.toNat+1)) 0++bitsL (n+1) (Nat.log2 (n.toNat+1)+1) else []
end Go.Proofs.YtainhhfnnclfiaaGreat


namespace Go.Proofs.YtainhhfnnclfiaaGreat
open Go Go.Abs
attribute [local irreducible] WpA WpL Rnd Blk Abs.Seq Abs.Fin Abs.FinG FnC FnG Only
end Go.Proofs.YtainhhfnnclfiaaGreat


namespace Go.Proofs.YtainhhfnnclfiaaGreat
open Go Go.Abs
attribute [local irreducible] WpA WpL Rnd Blk Abs.Seq Abs.Fin Abs.FinG FnC FnG Only
abbrev R0:AObj:=⟨[Z [],I 0],0,0,none⟩
end Go.Proofs.YtainhhfnnclfiaaGreat


namespace Go.Proofs.YtainhhfnnclfiaaGreat
open Go Go.Abs
attribute [local irreducible] WpA WpL Rnd Blk Abs.Seq Abs.Fin Abs.FinG FnC FnG Only
end Go.Proofs.YtainhhfnnclfiaaGreat


namespace Go.Proofs.YtainhhfnnclfiaaGreat
open Go Go.Abs
attribute [local irreducible] WpA WpL Rnd Blk Abs.Seq Abs.Fin Abs.FinG FnC FnG Only
end Go.Proofs.YtainhhfnnclfiaaGreat


namespace Go.Proofs.YtainhhfnnclfiaaGreat
open Go Go.Abs
attribute [local irreducible] WpA WpL Rnd Blk Abs.Seq Abs.Fin Abs.FinG FnC FnG Only
def sdV (p:List UInt8) (s:Int):Int:=if ueC p s=0∧ueV p s>3 then 0 else 8*ueV p s+8
def lnL (p:List UInt8) (s:Int):List Int:=if RbOk p s 18 then lensV (rbV p s 18) else []
attribute [local irreducible] rbA rbV ueA ueV ueC fuA fuC fuV fbA fbC fbV sdV lnL zrs numB lft hdS lensV
theorem WpA.hide {P:Program} {n m:Nat} {G:Ctx} {c:Code} {σ:St} {Q:Exit→St→Prop} (h:∀Q',Q'=Q→WpA P n m G c σ Q'):WpA P n m G c σ Q:=h Q rfl
end Go.Proofs.YtainhhfnnclfiaaGreat


namespace Go.Proofs.YtainhhfnnclfiaaGreat
open Go Go.Abs
attribute [local irreducible] WpA WpL Rnd Blk Abs.Seq Abs.Fin Abs.FinG FnC FnG Only
def mbG (b:Mbk):List AV:=[B b.1,.fre 2 b.2.length (rows blkI b.2)]
@[simp] theorem len_mG (l:List Mbk):(rows mbG l).length=l.length*2:=rows_len (f:=mbG) (fun _=>rfl) l
theorem snap_mG {O:List AObj} (b:Mbk):Snap O (mbG b) (mbI b):=.keep rfl rfl (.fre (Snap.same rfl (still_rows (fun _=>rfl) _) (nofre_rows (fun _=>rfl) _)) .nil)
theorem mG_at (M:List Mbk) (x y:AV):(rows mbG M++[x,y])[M.length*2+1]?=some y:=by
 rw [List.getElem?_append_right (by rw [len_mG];omega),len_mG,Nat.add_sub_cancel_left];rfl
theorem mG_set (M:List Mbk) (e:Bool) (y:AV) (bs:List Blok) {n:Nat} (h:bs.length=n):(rows mbG M++[B e,y]).set (M.length*2+1) (.fre 2 n (rows blkI bs))=rows mbG (M++[(e,bs)]):=by
 subst h
 rw [List.set_append_right _ _ (by rw [len_mG];omega),len_mG,Nat.add_sub_cancel_left,rows_append,rows_one];rfl
abbrev ChG (g:Nat) (cs:List AV) (ch:Chs):Prop:=∀(c:Nat) (k t l:List Int) (co:Int) (a b:Bool) (n:Int),c≤1048576∧k.length≤1024∧t.length≤1024∧l.length≤1024→Fn g [I c,IL k,NbA t l co a b,I n,.iptr cs 0] [] (I (ch c k t l co a b n))
def eiF (es:List Bool) (k:Nat):Bool:=if 0<es.length then es.getD (k%es.length) false else false
theorem eiF_1 {es:List Bool} (h:0<es.length) (k:Nat):eiF es k=es.getD (k%es.length) false:=if_pos h
theorem encB_snoc (a:EncA) (e:Bool) (k c:Nat) (P:List Int) (i:Nat):(encB a e k c P (i+1))=((encB a e k c P i).1++[(chM a.W a.H a.F a.ch (c+i) (encB a e k c P i).2 (plc1 a.W (sz8 e) k i).1 (plc1 a.W (sz8 e) k i).2.1 (sz8 e),
        chV a.W a.H a.F a.q a.b a.L (encB a e k c P i).2 (plc1 a.W (sz8 e) k i).1 (plc1 a.W (sz8 e) k i).2.1 (sz8 e) (chM a.W a.H a.F a.ch (c+i) (encB a e k c P i).2 (plc1 a.W (sz8 e) k i).1 (plc1 a.W (sz8 e) k i).2.1 (sz8 e)))],
 putL a.W a.H (encB a e k c P i).2 a.q a.b (plc1 a.W (sz8 e) k i).1 (plc1 a.W (sz8 e) k i).2.1 (chM a.W a.H a.F a.ch (c+i) (encB a e k c P i).2 (plc1 a.W (sz8 e) k i).1 (plc1 a.W (sz8 e) k i).2.1 (sz8 e))
  (chV a.W a.H a.F a.q a.b a.L (encB a e k c P i).2 (plc1 a.W (sz8 e) k i).1 (plc1 a.W (sz8 e) k i).2.1 (sz8 e) (chM a.W a.H a.F a.ch (c+i) (encB a e k c P i).2 (plc1 a.W (sz8 e) k i).1 (plc1 a.W (sz8 e) k i).2.1 (sz8 e)))):=rfl
theorem encB_zero (a:EncA) (e:Bool) (k c:Nat) (P:List Int):encB a e k c P 0=([],P):=rfl
theorem encM_zero (a:EncA) (E:Nat→Bool) (P:List Int):encM a E P 0=([],P,0):=rfl
theorem encM_snoc (a:EncA) (E:Nat→Bool) (P:List Int) (k:Nat):encM a E P (k+1)=((encM a E P k).1++[(E k,(encB a (E k) k (encM a E P k).2.2 (encM a E P k).2.1 (manyE (E k))).1)],
 (encB a (E k) k (encM a E P k).2.2 (encM a E P k).2.1 (manyE (E k))).2,(encM a E P k).2.2+manyE (E k)):=rfl
section
attribute [-instance] Clone_c FrameNew_c placesOf_c BlockAt_c NbAt_c Pred_c Residual_c LevelsFor_c PutRef_c
attribute [local irreducible] encB encM putL endL blkL topL lefL corL predS resS levL
theorem encode_o (w h q:Int) (b d:Bool) (L ms F:List Int) (es:List Bool) (g:Nat) (cs:List AV) (ch:Chs) (hF:FrameOk w h F) (ho:OptOk q L) (hl:ms.length≤1099511627776∧es.length≤1099511627776) (hg:ChG g cs ch):
 Fn 68 [FrA w h F,OpA q b d L ms es,.fn g [.iptr cs 0]] [⟨rows mbG (encM ⟨w,h,q,b,L,F,ch⟩ (eiF es) (zerP w h) (cntM w h).toNat).1,0,2,some 82⟩]
  (.tup [.agg [I w,I h,I q,B b,B d,IL L,.own 0 0 0 (cntM w h).toNat],FrA w h (endL w h q d (encM ⟨w,h,q,b,L,F,ch⟩ (eiF es) (zerP w h) (cntM w h).toNat).2.1)]):=by
 have hsd:=hF.1
 have hcm:=cntM_bd hsd
 have hL6:L.length=6:=ho.2.2.1
 have hz:(zerP w h).length≤1024:=by
  unfold zerP
  rw [List.length_replicate]
  have h2:w*h≤32*32:=Int.mul_le_mul hsd.2.1 hsd.2.2.2.1 (by have:=hsd.2.2.1;omega) (by omega)
  omega
 refine FnC.of_body tabOk Tryz.func68 Tryz.ntmps68 rfl (by decide +kernel) (by simp) fun G=>?_
 refine goR (r:=?_);and_intros<;>intros<;>try exact True.intro
 all_goals first|contradiction|omega|skip
 try dsimp only [List.append,List.cons_append,List.nil_append]
 apply WpA.regionGB 17 mixed (by decide +kernel)
 ·exact rfl
 ·apply HeadG.preF 2 rfl rfl rfl
  ·exact rfl
  ·exact in0
  ·exact rfl
  apply HeadG.preF 2 rfl rfl rfl
  ·exact rfl
  ·exact in0
  ·exact rfl
  apply HeadG.preF 2 rfl rfl rfl
  ·exact rfl
  ·exact in0
  ·exact rfl
  apply HeadG.preF 2 rfl rfl rfl
  ·exact rfl
  ·exact in0
  ·exact rfl
  apply HeadG.preF 2 rfl rfl rfl
  ·exact rfl
  ·exact in0
  ·exact rfl
  apply HeadG.preF 2 rfl rfl rfl
  ·exact rfl
  ·exact in0
  ·exact rfl
  apply HeadG.preF 2 rfl rfl rfl
  ·exact rfl
  ·exact in0
  ·exact rfl
  apply HeadG.preF 2 rfl rfl rfl
  ·exact rfl
  ·exact in0
  ·exact rfl
  apply HeadG.preF 2 rfl rfl rfl
  ·exact rfl
  ·exact in0
  ·exact rfl
  apply HeadG.preF 2 rfl rfl rfl
  ·exact rfl
  ·exact in0
  ·exact rfl
  apply HeadG.preF 2 rfl rfl rfl
  ·exact rfl
  ·exact in0
  ·exact rfl
  apply HeadG.preF 2 rfl rfl rfl
  ·exact rfl
  ·exact in0
  ·exact rfl
  apply HeadG.precF 0 rfl rfl
  ·exact rfl
  ·intro Tv Ov
   refine K.call ?_
   apply WpL.callI (Clone_c.ok L (by omega))
   ·exact snapA
   ·exact locA
   ·exact outA
   ·exact FrzR.one (.own rfl rfl rfl (by simp) rfl (Snap.same rfl (still_ints _) (nofre_ints _)) .nil)
   ·decide
   ·exact WpL.nil (Only.mk rfl)
  ·exact rfl
  apply HeadG.preF 0 rfl rfl rfl
  ·exact rfl
  ·exact in0
  ·exact rfl
  apply HeadG.preF 0 rfl rfl rfl
  ·exact rfl
  ·exact in0
  ·exact rfl
  apply HeadG.stepF rfl rfl
  ·exact rfl
  ·exact in1
  ·exact rfl
  apply HeadG.stepNF rfl
  ·exact rfl
  ·exact in1
  ·exact rfl
  exact Abs.HeadG.nil
 ·exact trueA
 ·exact trueA
 ·exact trueA
 ·exact demA
 ·exact rfl
 ·exact rfl
 refine goR (r:=?_);and_intros<;>intros<;>try exact True.intro
 all_goals first|contradiction|omega|skip
 refine K.call ?_
 apply WpL.callI (FrameNew_c.ok w h hsd)
 ·exact snapA
 ·exact locA
 ·exact outA
 ·exact frzA
 ·decide
 refine goR (r:=?_);and_intros<;>intros<;>try exact True.intro
 all_goals first|contradiction|omega|skip
 have hzl:(w*h).toNat=(zerP w h).length:=by simp [zerP]
 rw [show (List.replicate (w*h).toNat (0:Int))=zerP w h from rfl,hzl]
 have hP0:=zer_ok hsd
 generalize zerP w h=P0 at*
 have hmk:=fun k=>encM_ok (a:=⟨w,h,q,b,L,F,ch⟩) (E:=eiF es) hP0 k
 have hml:=encM_len ⟨w,h,q,b,L,F,ch⟩ (eiF es) P0
 have hmp:=encM_plen ⟨w,h,q,b,L,F,ch⟩ (eiF es) P0
 have hmc:=encM_cnt ⟨w,h,q,b,L,F,ch⟩ (eiF es) P0
 have hms:=encM_snoc ⟨w,h,q,b,L,F,ch⟩ (eiF es) P0
 have hm0:encM ⟨w,h,q,b,L,F,ch⟩ (eiF es) P0 0=([],P0,0):=encM_zero ..
 refine WpA.loop (fun k:Nat=>⟨[(2,.fn g [.iptr cs 0]),(3,.ptr 0 0 0),(4,.ptr 1 0 0),(6,.ptr 2 0 0),(7,.ptr 3 0 0),(8,.ptr 4 0 0),(9,.ptr 5 0 0),(10,I (encM ⟨w,h,q,b,L,F,ch⟩ (eiF es) P0 k).2.2),(41,I (cntM w h)),(42,I k)],[FrO w h F,OpO q b d L ms es,⟨[I 0,I 0,I 0,B false,B false,.nilS,.nilS],0,0,none⟩,⟨[I 0,I 0,.nilS],0,0,none⟩,⟨[I w,I h,I q,B b,B d,IL L,.own 6 0 0 k],0,0,none⟩,FrO w h (encM ⟨w,h,q,b,L,F,ch⟩ (eiF es) P0 k).2.1,⟨rows mbG (encM ⟨w,h,q,b,L,F,ch⟩ (eiF es) P0 k).1,0,2,some 82⟩]⟩) (fun k=>(k:Int)≤cntM w h) (fun k=>(cntM w h).toNat-k) 0 (by omega) ?_ (fun k hk=>?_)
 ·rw [hm0];exact Weak.nil1f (by first|(show 0≤_;exact Nat.zero_le _)|(repeat' (first|exact RyT.nil|refine RyT.cons ?_ ?_|exact Ry.nil|refine Ry.keep rfl rfl ?_|refine Ry.own rfl rfl rfl rfl rfl (by first|rfl|omega|(simp;done)) ?_|refine Ry.ptr rfl rfl rfl rfl ?_|refine Ry.nilO rfl rfl rfl (by first|rfl|omega|(simp;done)) ?_|refine Ry.fn rfl ?_|refine Ry.agg ?_ ?_|exact RyO.last rfl|(refine RyO.cons ?_ (.inr rfl) ?_)|exact Ry.same rfl (still_ints _)|exact Ry.same rfl (still_rows (fun _=>rfl) _)))) (by first|(show 0≤_;exact Nat.zero_le _)|(repeat' (first|exact RyT.nil|refine RyT.cons ?_ ?_|exact Ry.nil|refine Ry.keep rfl rfl ?_|refine Ry.own rfl rfl rfl rfl rfl (by first|rfl|omega|(simp;done)) ?_|refine Ry.ptr rfl rfl rfl rfl ?_|refine Ry.nilO rfl rfl rfl (by first|rfl|omega|(simp;done)) ?_|refine Ry.fn rfl ?_|refine Ry.agg ?_ ?_|exact RyO.last rfl|(refine RyO.cons ?_ (.inr rfl) ?_)|exact Ry.same rfl (still_ints _)|exact Ry.same rfl (still_rows (fun _=>rfl) _)))) (Nat.zero_le _)
 have hmk:=hmk k
 have hml:=hml k
 have hmp:=hmp k
 have hmc:=hmc k
 have hms:=hms k
 by_cases hlt:(k:Int)<cntM w h
 ·refine WpA.hide fun Q' hQ'=>?_
  have hm4:manyE (eiF es k)≤4:=by cases eiF es k<;>decide
  have hei:=fun hh=>eiF_1 (es:=es) hh k
  generalize he:eiF es k=e at*
  generalize encM ⟨w,h,q,b,L,F,ch⟩ (eiF es) P0 k=X at*
  obtain ⟨M,P,c⟩:=X
  dsimp only at hmk hml hmp hmc hms ⊢
  subst hml
  refine goR (r:=?_);and_intros<;>intros<;>try exact True.intro
  all_goals first|contradiction|omega|skip
  have hr1:=fun hh:0<es.length=>Int.emod_lt_of_pos (M.length:Int) (show (0:Int)<(es.length:Int) by omega)
  have hr0:=fun hh:0<es.length=>Int.emod_nonneg (M.length:Int) (show (es.length:Int)≠0 by omega)
  refine WpA.cut (σ1:=⟨[(2,.fn g [.iptr cs 0]),(3,.ptr 0 0 0),(4,.ptr 1 0 0),(6,.ptr 2 0 0),(7,.ptr 3 0 0),(8,.ptr 4 0 0),(9,.ptr 5 0 0),(10,I c),(11,I M.length),(12,.ptr 7 0 0),(41,I (cntM w h)),(42,I M.length)],[FrO w h F,OpO q b d L ms es,⟨[I 0,I 0,I 0,B false,B false,.nilS,.nilS],0,0,none⟩,⟨[I 0,I 0,.nilS],0,0,none⟩,⟨[I w,I h,I q,B b,B d,IL L,.own 6 0 0 M.length],0,0,none⟩,FrO w h P,⟨rows mbG M,0,2,some 82⟩,⟨[B e,.nilS],0,0,none⟩]⟩) ?_ ?_
  ·obtain ⟨g0,hg0⟩:∃g0,decide ((es.length:Int)>0)=g0:=⟨_,rfl⟩
   have hpos:g0=true→0<es.length:=fun hh=>by
    rw [hh] at hg0;have:=of_decide_eq_true hg0;omega
   have hev:g0=true→es.getD ((M.length:Int)%(es.length:Int)).toNat false=e:=fun hh=>by
    rw [hei (hpos hh)];congr 1
   have hef:g0=false→e=false:=fun hh=>by
    rw [←he];unfold eiF;rw [if_neg (fun h0=>by rw [hh] at hg0;have:=of_decide_eq_false hg0;omega)]
   have hr1:=fun hh=>hr1 (hpos hh)
   have hr0:=fun hh=>hr0 (hpos hh)
   clear hei he
   cases g0
   all_goals
    try (have hr1:=hr1 rfl)
    try (have hr0:=hr0 rfl)
    try (have hpos:=hpos rfl)
    try dsimp only [List.append,List.cons_append,List.nil_append]
    apply WpA.regionRF (O:=[FrO w h F,OpO q b d L ms es,⟨[I 0,I 0,I 0,B false,B false,.nilS,.nilS],0,0,none⟩,⟨[I 0,I 0,.nilS],0,0,none⟩,⟨[I w,I h,I q,B b,B d,IL L,.own 6 0 0 M.length],0,0,none⟩,FrO w h P,⟨rows mbG M,0,2,some 82⟩]) (Or:=[]) (O1:=[FrO w h F,OpO q b d L ms es,⟨[I 0,I 0,I 0,B false,B false,.nilS,.nilS],0,0,none⟩,⟨[I 0,I 0,.nilS],0,0,none⟩,⟨[I w,I h,I q,B b,B d,IL L,.own 6 0 0 M.length],0,0,none⟩,FrO w h P,⟨rows mbG M,0,2,some 82⟩,⟨[B e,.nilS],1,0,none⟩,deadO]) 18 1 [] [0] rfl mixed (by decide +kernel)
    ·exact rfl
    ·apply HeadR.consF .none rfl
     ·exact rfl
     ·exact rfl
     ·exact in1
     ·exact rfl
     ·exact rfl
     apply HeadR.consF .none rfl
     ·exact rfl
     ·exact rfl
     ·exact in1
     ·exact rfl
     ·exact rfl
     apply HeadR.consF .none rfl
     ·exact rfl
     ·exact rfl
     ·exact in1
     ·exact rfl
     ·exact rfl
     apply HeadR.consV .none rfl
     ·exact rfl
     ·exact rfl
     ·exact in1
     ·exact hg0
     ·exact rfl
     ·exact rfl
     apply HeadR.consF .none rfl
     ·exact rfl
     ·exact rfl
     ·exact in1
     ·exact rfl
     ·exact rfl
     apply HeadR.consF .none rfl
     ·exact rfl
     ·exact rfl
     ·(intro Tv Ov hc2 hp9 hd9 hk9;refine K.L ?_;refine K.gd ?_;first|(refine K.gT rfl (by decide) rfl ?_;exact in0)|(refine K.gF rfl (by decide) rfl ?_;exact WpL.nil (Only.mk rfl)))
     ·exact rfl
     ·exact rfl
     apply HeadR.consF .none rfl
     ·exact rfl
     ·exact rfl
     ·(intro Tv Ov hc2 hp9 hd9 hk9;refine K.L ?_;refine K.gd ?_;first|(refine K.gT rfl (by decide) rfl ?_;exact in0)|(refine K.gF rfl (by decide) rfl ?_;exact WpL.nil (Only.mk rfl)))
     ·exact rfl
     ·exact rfl
     apply HeadR.consF .none rfl
     ·exact rfl
     ·exact rfl
     ·(intro Tv Ov hc2 hp9 hd9 hk9;refine K.L ?_;refine K.gd ?_;first|(refine K.gT rfl (by decide) rfl ?_;exact in0)|(refine K.gF rfl (by decide) rfl ?_;exact WpL.nil (Only.mk rfl)))
     ·exact rfl
     ·exact rfl
     apply HeadR.consF .none rfl
     ·exact rfl
     ·exact rfl
     ·(intro Tv Ov hc2 hp9 hd9 hk9;refine K.L ?_;refine K.gd ?_;first|(refine K.gT rfl (by decide) rfl ?_;exact in0)|(refine K.gF rfl (by decide) rfl ?_;exact WpL.nil (Only.mk rfl)))
     ·exact rfl
     ·exact rfl
     apply HeadR.consF .none rfl
     ·exact rfl
     ·exact rfl
     ·(intro Tv Ov hc2 hp9 hd9 hk9;refine K.L ?_;refine K.gd ?_;first|(refine K.gT rfl (by decide) rfl ?_;exact in0)|(refine K.gF rfl (by decide) rfl ?_;exact WpL.nil (Only.mk rfl)))
     ·exact rfl
     ·exact rfl
     apply HeadR.consF .none rfl
     ·exact rfl
     ·exact rfl
     ·(intro Tv Ov hc2 hp9 hd9 hk9;refine K.L ?_;refine K.gd ?_;first|(refine K.gT rfl (by decide) rfl ?_;exact in0)|(refine K.gF rfl (by decide) rfl ?_;exact WpL.nil (Only.mk rfl)))
     ·exact rfl
     ·exact rfl
     apply HeadR.consF .none rfl
     ·exact rfl
     ·exact rfl
     ·(intro Tv Ov hc2 hp9 hd9 hk9;refine K.L ?_;refine K.gd ?_;first|(refine K.gT rfl (by decide) rfl ?_;exact in0)|(refine K.gF rfl (by decide) rfl ?_;exact WpL.nil (Only.mk rfl)))
     ·exact rfl
     ·exact rfl
     apply HeadR.consF .none rfl
     ·exact rfl
     ·exact rfl
     ·(intro Tv Ov hc2 hp9 hd9 hk9;refine K.L ?_;refine K.gd ?_;first|(refine K.gT rfl (by decide) rfl ?_;exact in0)|(refine K.gF rfl (by decide) rfl ?_;exact WpL.nil (Only.mk rfl)))
     ·exact rfl
     ·exact rfl
     apply HeadR.consF .none rfl
     ·exact rfl
     ·exact rfl
     ·(intro Tv Ov hc2 hp9 hd9 hk9;refine K.L ?_;refine K.gd ?_;first|(refine K.gT rfl (by decide) rfl ?_;exact in0)|(refine K.gF rfl (by decide) rfl ?_;exact WpL.nil (Only.mk rfl)))
     ·exact rfl
     ·exact rfl
     apply HeadR.consF (V:=B e) .none rfl
     ·exact rfl
     ·exact rfl
     ·first|(rw [←hev rfl];exact in1)|(rw [hef rfl];exact in1)
     ·exact rfl
     ·exact rfl
     apply HeadR.consF .none rfl
     ·exact rfl
     ·exact rfl
     ·exact in1
     ·exact rfl
     ·exact rfl
     apply HeadR.consF (V:=.ptr 7 1 0) (.put 0 ⟨[B false,.nilS],1,0,none⟩) rfl
     ·exact rfl
     ·exact rfl
     ·intro Tv Ov hc2 hp9 hd9 hk9
      refine WpL.allocStruct tabOk rfl (nid_len _ 0) (by decide) ?_
      apply WpL.putV (p:=0)
      ·exact .ptr (by first|rfl|exact Nat.zero_add _) .nil
      ·exact hp9 0 _ rfl
      ·exact Nat.zero_le _
      ·exact rfl
      ·exact rfl
     ·exact rfl
     ·exact rfl
     apply HeadR.consN (.step 0 ⟨[B e,.nilS],1,0,none⟩) 1000
     ·exact rfl
     ·exact rfl
     ·intro Tv Ov hc2 hp9 hd9 hk9
      obtain ⟨R0,rfl⟩:=split1 (hp9 0 _ rfl)
      refine K.st ?_
      refine WpL.store tabOk rfl rfl rfl rfl rfl rfl rfl rfl (Nat.le_of_ble_eq_true rfl) ?_
      refine WpL.weak (Weak.any1 (d:=1000)) ?_
      exact WpL.nil (Only.mk rfl)
     ·exact rfl
     ·exact rfl
     exact HeadR.nil
    ·exact rfl
    ·exact rfl
    ·exact rfl
    ·exact rfl
    ·exact rfl
    ·exact rfl
    ·exact rfl
    refine WpL.nil ⟨rfl,Weak.mk ?_ ?_ (Nat.zero_le _)⟩
    ·repeat (first
      |exact ReT.nil
      |refine ReT.cons (.keep rfl rfl .nil) ?_
      |refine ReT.cons (.fn rfl .nil) ?_
      |refine ReT.cons (.own rfl rfl rfl rfl rfl rfl .nil) ?_
      |refine ReT.cons (.ptr rfl rfl rfl rfl .nil) ?_
      |refine ReT.cons (.keep (congrArg (fun z=>AV.sc (Value.int .i64 z)) (by first|omega|(skip))) rfl .nil) ?_
      |refine ReT.cons (.keep (congrArg (fun z:List UInt8=>AV.sc (Value.string ⟨z.toArray⟩)) (by skip)) rfl .nil) ?_
      |refine ReT.cons (.own rfl rfl rfl rfl rfl (by first|omega|(simp;done)|(simp;omega)) .nil) ?_)
    ·repeat (first
      |exact ReO.nil
      |refine ReO.cons (Re.same rfl rfl) (.inr rfl) ?_
      |refine ReO.cons (Re.same rfl (still_rows (fun _=>rfl) _)) (.inr rfl) ?_
      |refine ReO.cons (.keep rfl rfl (.keep rfl rfl (.keep rfl rfl (.keep rfl rfl (.keep rfl rfl (.keep rfl rfl (.own rfl rfl rfl rfl rfl rfl .nil))))))) (.inr rfl) ?_)
  clear hei hr0 hr1
  refine goR (r:=?_);and_intros<;>intros<;>try exact True.intro
  all_goals first|contradiction|omega|skip
  refine K.call ?_
  apply WpL.callI (placesOf_c.ok w h q b d L M.length e ⟨by omega,by omega,by omega⟩)
  ·exact snapA
  ·exact locA
  ·exact outA
  ·exact FrzR.one (.own rfl rfl rfl (by rw [rows_len (k:=3) (fun _=>rfl),plsL_len]) rfl (Snap.same rfl (still_rows (fun _=>rfl) _) (nofre_rows (fun _=>rfl) _)) .nil)
  ·decide
  refine goR (r:=?_);and_intros<;>intros<;>try exact True.intro
  all_goals first|contradiction|omega|skip
  have hbl:=encB_len ⟨w,h,q,b,L,F,ch⟩ e M.length c P
  have hbp:=encB_plen ⟨w,h,q,b,L,F,ch⟩ e M.length c P
  have hbs:=encB_snoc ⟨w,h,q,b,L,F,ch⟩ e M.length c P
  have hb0:encB ⟨w,h,q,b,L,F,ch⟩ e M.length c P 0=([],P):=encB_zero ..
  refine WpA.loop (fun i:Nat=>⟨[(2,.fn g [.iptr cs 0]),(3,.ptr 0 0 0),(4,.ptr 1 0 0),(6,.ptr 2 0 0),(7,.ptr 3 0 0),(8,.ptr 4 0 0),(9,.ptr 5 0 0),(10,I ((c+i:Nat):Int)),(12,.ptr 7 0 0),(41,I (cntM w h)),(42,I M.length),(66,.imm 3 (manyE e) (rows plF (plsL w (sz8 e) M.length (manyE e)))),(67,I (manyE e)),(68,I i)],[FrO w h F,OpO q b d L ms es,⟨[I 0,I 0,I 0,B false,B false,.nilS,.nilS],0,0,none⟩,⟨[I 0,I 0,.nilS],0,0,none⟩,⟨[I w,I h,I q,B b,B d,IL L,.own 6 0 0 M.length],0,0,none⟩,FrO w h (encB ⟨w,h,q,b,L,F,ch⟩ e M.length c P i).2,⟨rows mbG M,0,2,some 82⟩,⟨[B e,.own 8 0 0 i],0,0,none⟩,⟨rows blkI (encB ⟨w,h,q,b,L,F,ch⟩ e M.length c P i).1,0,2,some 84⟩]⟩) (fun i=>i≤manyE e) (fun i=>manyE e-i) 0 (Nat.zero_le _) ?_ (fun i hi=>?_)
  ·rw [hb0];exact Weak.nil1f (by first|(show 0≤_;exact Nat.zero_le _)|(repeat' (first|exact RyT.nil|refine RyT.cons ?_ ?_|exact Ry.nil|refine Ry.keep rfl rfl ?_|refine Ry.own rfl rfl rfl rfl rfl (by first|rfl|omega|(simp;done)) ?_|refine Ry.ptr rfl rfl rfl rfl ?_|refine Ry.nilO rfl rfl rfl (by first|rfl|omega|(simp;done)) ?_|refine Ry.fn rfl ?_|refine Ry.agg ?_ ?_|exact RyO.last rfl|(refine RyO.cons ?_ (.inr rfl) ?_)|exact Ry.same rfl (still_ints _)|exact Ry.same rfl (still_rows (fun _=>rfl) _)))) (by first|(show 0≤_;exact Nat.zero_le _)|(repeat' (first|exact RyT.nil|refine RyT.cons ?_ ?_|exact Ry.nil|refine Ry.keep rfl rfl ?_|refine Ry.own rfl rfl rfl rfl rfl (by first|rfl|omega|(simp;done)) ?_|refine Ry.ptr rfl rfl rfl rfl ?_|refine Ry.nilO rfl rfl rfl (by first|rfl|omega|(simp;done)) ?_|refine Ry.fn rfl ?_|refine Ry.agg ?_ ?_|exact RyO.last rfl|(refine RyO.cons ?_ (.inr rfl) ?_)|exact Ry.same rfl (still_ints _)|exact Ry.same rfl (still_rows (fun _=>rfl) _)))) (Nat.zero_le _)
  have hbl:=hbl i
  have hbp:=hbp i
  have hbs:=hbs i
  by_cases hlt2:i<manyE e
  ·have hpl:=plsL_len w (sz8 e) M.length (manyE e)
   have hpg:(plsL w (sz8 e) M.length (manyE e)).getD i default=plc1 w (sz8 e) M.length i:=by
    unfold plsL
    simp [hlt2]
   obtain ⟨x,y,hxy⟩:∃x y,plc1 w (sz8 e) M.length i=(x,y,sz8 e):=⟨_,_,rfl⟩
   rw [hxy] at hpg hbs
   simp only [chM,chV,nbP] at hbs
   generalize encB ⟨w,h,q,b,L,F,ch⟩ e M.length c P i=Y at*
   obtain ⟨bs,Pi⟩:=Y
   dsimp only at hbl hbp hbs ⊢
   subst hbl
   have hn8:sz8 e=4∨sz8 e=8:=by cases e<;>simp [sz8]
   generalize hsz:sz8 e=n at*
   have hkB:=BlockAt_c.ok w h F x y n (by have:=hF.2.1;omega)
   have hkN:Fn 136 [FrA w h Pi,I x,I y,I n] [XI (topL w h Pi x y n),XI (lefL w h Pi x y n)] (.agg [.own 0 0 0 (topL w h Pi x y n).length,.own 1 0 0 (lefL w h Pi x y n).length,I (corL w h Pi x y n),B (hasT w h Pi x y n),B (hasE w h Pi x y n)]):=NbAt_c.ok w h Pi x y n (by omega)
   have hkb:=blkL_le w h F x y n
   have hkn:=nb_le w h Pi x y n
   generalize blkL w h F x y n=bk at*
   generalize topL w h Pi x y n=tp at*
   generalize lefL w h Pi x y n=lf at*
   generalize corL w h Pi x y n=co at*
   generalize hasT w h Pi x y n=hT at*
   generalize hasE w h Pi x y n=hE at*
   have hgc:=hg (c+bs.length) bk tp lf co hT hE n ⟨by omega,by omega,by omega,by omega⟩
   generalize ch (c+bs.length) bk tp lf co hT hE n=md at*
   refine goR (r:=?_);and_intros<;>intros<;>try exact True.intro
   all_goals first|contradiction|omega|skip
   rw [hpg]
   dsimp only
   try dsimp only [List.append,List.cons_append,List.nil_append]
   apply WpA.regionGB 19 mixed (by decide +kernel)
   ·exact rfl
   ·apply HeadG.preF 10 rfl rfl rfl
    ·exact rfl
    ·exact in0
    ·exact rfl
    apply HeadG.preF 10 rfl rfl rfl
    ·exact rfl
    ·exact in0
    ·exact rfl
    apply HeadG.preF 10 rfl rfl rfl
    ·exact rfl
    ·exact in0
    ·exact rfl
    apply HeadG.preF 10 rfl rfl rfl
    ·exact rfl
    ·exact in0
    ·exact rfl
    apply HeadG.preF 10 rfl rfl rfl
    ·exact rfl
    ·exact in0
    ·exact rfl
    apply HeadG.preF 10 rfl rfl rfl
    ·exact rfl
    ·exact in0
    ·exact rfl
    apply HeadG.preF 10 rfl rfl rfl
    ·exact rfl
    ·exact in0
    ·exact rfl
    apply HeadG.precF 0 rfl rfl
    ·exact rfl
    ·intro Tv Ov
     refine K.call ?_
     apply WpL.callI (hkB)
     ·exact snapA
     ·exact locA
     ·exact outA
     ·exact frzA
     ·decide
     ·exact WpL.nil (Only.mk rfl)
    ·exact rfl
    apply HeadG.preF 10 rfl rfl rfl
    ·exact rfl
    ·exact in0
    ·exact rfl
    apply HeadG.preF 10 rfl rfl rfl
    ·exact rfl
    ·exact in0
    ·exact rfl
    apply HeadG.preF 10 rfl rfl rfl
    ·exact rfl
    ·exact in0
    ·exact rfl
    apply HeadG.preF 10 rfl rfl rfl
    ·exact rfl
    ·exact in0
    ·exact rfl
    apply HeadG.preF 10 rfl rfl rfl
    ·exact rfl
    ·exact in0
    ·exact rfl
    apply HeadG.preF 10 rfl rfl rfl
    ·exact rfl
    ·exact in0
    ·exact rfl
    apply HeadG.preF 10 rfl rfl rfl
    ·exact rfl
    ·exact in0
    ·exact rfl
    apply HeadG.precF 0 rfl rfl
    ·exact rfl
    ·intro Tv Ov
     refine K.call ?_
     apply WpL.callI (hkN)
     ·exact snapA
     ·exact locA
     ·exact outA
     ·exact frzA
     ·decide
     ·exact WpL.nil (Only.mk rfl)
    ·exact rfl
    apply HeadG.stepF rfl rfl
    ·exact rfl
    ·exact in1
    ·exact rfl
    apply HeadG.preF 10 rfl rfl rfl
    ·exact rfl
    ·exact in0
    ·exact rfl
    apply HeadG.stepNF rfl
    ·exact rfl
    ·exact in1
    ·exact rfl
    exact Abs.HeadG.nil
   ·exact trueA
   ·exact trueA
   ·exact trueA
   ·exact demA
   ·exact rfl
   ·exact rfl
   refine goR (r:=?_);and_intros<;>intros<;>try exact True.intro
   all_goals first|contradiction|omega|skip
   refine K.callT ?_
   refine WpL.callV0 rfl hgc rfl snapA (.sc .nil) rfl rfl (by decide) ?_
   refine goR (r:=?_);and_intros<;>intros<;>try exact True.intro
   all_goals first|contradiction|omega|skip
   have hkP:=Pred_c.ok md tp lf co hT hE n ⟨by omega,by omega,by omega⟩
   have hpl:=predS_len md tp lf co hT hE n
   have hpl:(predS md tp lf co hT hE n).length≤64:=by
    rw [hpl];split
    ·rcases hn8 with rfl|rfl<;>decide
    ·decide
   generalize predS md tp lf co hT hE n=pr at*
   have hkR:=Residual_c.ok bk pr ⟨by omega,by omega⟩
   have hrl:(resS bk pr).length≤64:=by
    rw [resS_len];split<;>omega
   generalize resS bk pr=rs at*
   have hkL:=LevelsFor_c.ok q b d L ms es rs ⟨by omega,by omega⟩
   have hll:=levL_le b q L rs
   generalize levL b q L rs=lv at*
   have hkU:=PutRef_c.ok w h Pi w h q b d L x y md lv ⟨by omega,by omega⟩
   have hul:=putL_len w h Pi q b x y md lv
   generalize putL w h Pi q b x y md lv=Pu at*
   try dsimp only [List.append,List.cons_append,List.nil_append]
   apply WpA.regionGB 13 mixed (by decide +kernel)
   ·exact rfl
   ·apply HeadG.preF 11 rfl rfl rfl
    ·exact rfl
    ·exact in0
    ·exact rfl
    apply HeadG.preF 11 rfl rfl rfl
    ·exact rfl
    ·exact in0
    ·exact rfl
    apply HeadG.preF 11 rfl rfl rfl
    ·exact rfl
    ·exact in0
    ·exact rfl
    apply HeadG.preF 11 rfl rfl rfl
    ·exact rfl
    ·exact in0
    ·exact rfl
    apply HeadG.preF 11 rfl rfl rfl
    ·exact rfl
    ·exact in0
    ·exact rfl
    apply HeadG.preF 11 rfl rfl rfl
    ·exact rfl
    ·exact in0
    ·exact rfl
    apply HeadG.preF 11 rfl rfl rfl
    ·exact rfl
    ·exact in0
    ·exact rfl
    apply HeadG.precF 0 rfl rfl
    ·exact rfl
    ·intro Tv Ov
     refine K.call ?_
     apply WpL.callI (hkP)
     ·exact snapA
     ·exact locA
     ·exact outA
     ·exact frzA
     ·decide
     ·exact WpL.nil (Only.mk rfl)
    ·exact rfl
    apply HeadG.precF 0 rfl rfl
    ·exact rfl
    ·intro Tv Ov
     refine K.call ?_
     apply WpL.callI (hkR)
     ·exact snapA
     ·exact locA
     ·exact outA
     ·exact frzA
     ·decide
     ·exact WpL.nil (Only.mk rfl)
    ·exact rfl
    apply HeadG.precF 0 rfl rfl
    ·exact rfl
    ·intro Tv Ov
     refine K.call ?_
     apply WpL.callI (hkL)
     ·exact snapA
     ·exact locA
     ·exact outA
     ·exact frzA
     ·decide
     ·exact WpL.nil (Only.mk rfl)
    ·exact rfl
    apply HeadG.preF 11 rfl rfl rfl
    ·exact rfl
    ·exact in0
    ·exact rfl
    apply HeadG.stepF rfl rfl
    ·exact rfl
    ·exact in1
    ·exact rfl
    apply HeadG.stepNF rfl
    ·exact rfl
    ·exact in1
    ·exact rfl
    exact Abs.HeadG.nil
   ·exact trueA
   ·exact trueA
   ·exact trueA
   ·exact demA
   ·exact rfl
   ·exact rfl
   refine goR (r:=?_);and_intros<;>intros<;>try exact True.intro
   all_goals first|contradiction|omega|skip
   refine K.call ?_
   apply WpL.callI hkU
   ·exact snapA
   ·exact locA
   ·exact outA
   ·exact FrzR.tup (.agg (.keep rfl rfl (.keep rfl rfl (.own rfl rfl rfl (by show Pi.length*1=(List.map _ _).length;rw [Nat.mul_one,List.length_map];exact hul.symm) hul.symm (Snap.same rfl (still_ints _) (nofre_ints _)) .nil))) (.keep rfl rfl .nil))
   ·decide
   refine goR (r:=?_);and_intros<;>intros<;>try exact True.intro
   all_goals first|contradiction|omega|(rw [hbs];exact .keep rfl rfl .nil)|(rw [hbs];refine Re.same ?_ (still_rows (fun _=>rfl) _);show rows blkI bs++_=rows blkI (bs++[(md,lv)]);rw [rows_append,rows_one];rfl)
  ·obtain rfl:i=manyE e:=by omega
   refine goR (r:=?_);and_intros<;>intros<;>try exact True.intro
   all_goals first|contradiction|omega|skip
   subst hQ'
   refine Rnd.go (M.length+1) (by omega) (by omega) ?_
   rw [hms]
   generalize encB ⟨w,h,q,b,L,F,ch⟩ e M.length c P (manyE e)=Y at*
   obtain ⟨bs,Pi⟩:=Y
   dsimp only at hbl hbp ⊢
   refine Weak.trans (Weak.nest (id:=6) (j:=8) (off:=M.length*2+1) (ob:=⟨rows mbG M++[B e,.own 8 0 0 (manyE e)],1,2,some 82⟩) (oj:=⟨rows blkI bs,0,2,some 84⟩) rfl rfl rfl (Nat.zero_le _) (mG_at M _ _) rfl (still_rows (fun _=>rfl) _) ?_) ?_
   ·show manyE e*2=(rows blkI bs).length
    rw [len_bI];omega
   ·refine Weak.mk ?_ ?_ (Nat.zero_le _)
    ·repeat (first
      |exact ReT.nil
      |refine ReT.cons (.keep rfl rfl .nil) ?_
      |refine ReT.cons (.fn rfl .nil) ?_
      |refine ReT.cons (.own rfl rfl rfl rfl rfl rfl .nil) ?_
      |refine ReT.cons (.ptr rfl rfl rfl rfl .nil) ?_
      |refine ReT.cons (.keep (congrArg (fun z=>AV.sc (Value.int .i64 z)) (by first|omega|(skip))) rfl .nil) ?_
      |refine ReT.cons (.keep (congrArg (fun z:List UInt8=>AV.sc (Value.string ⟨z.toArray⟩)) (by skip)) rfl .nil) ?_
      |refine ReT.cons (.own rfl rfl rfl rfl rfl (by first|omega|(simp;done)|(simp;omega)) .nil) ?_)
    ·repeat (first
      |exact ReO.nil
      |refine ReO.cons (Re.same rfl rfl) (.inr rfl) ?_
      |refine ReO.cons (Re.same (mG_set M e _ bs hbl) (still_rows (fun _=>rfl) _)) (.inr rfl) ?_
      |refine ReO.cons (.keep rfl rfl (.keep rfl rfl (.keep rfl rfl (.keep rfl rfl (.keep rfl rfl (.keep rfl rfl (.own rfl rfl rfl rfl rfl rfl .nil))))))) (.inr rfl) ?_)
 ·obtain ek:(cntM w h).toNat=k:=by omega
  rw [ek]
  have hmk:=(hmk).2.1
  generalize encM ⟨w,h,q,b,L,F,ch⟩ (eiF es) P0 k=X at*
  obtain ⟨M,P,c⟩:=X
  dsimp only at hmk hml hmp hmc ⊢
  subst hml
  have hkE:=ended_c w h w h q b d L P (by omega)
  generalize endL w h q d P=Pe at*
  refine goR (r:=?_);and_intros<;>intros<;>try exact True.intro
  all_goals first|contradiction|omega|skip
  try dsimp only [List.append,List.cons_append,List.nil_append]
  apply WpA.regionGB 7 mixed (by decide +kernel)
  ·exact rfl
  ·apply HeadG.hole4 rfl rfl rfl
   ·exact rfl
   ·exact in0
   ·exact rfl
   apply HeadG.hole4 rfl rfl rfl
   ·exact rfl
   ·exact in0
   ·exact rfl
   apply HeadG.hole4 rfl rfl rfl
   ·exact rfl
   ·exact in0
   ·exact rfl
   apply HeadG.hole5 rfl rfl rfl
   ·exact rfl
   ·exact in0
   ·exact rfl
   apply HeadG.precF 0 rfl rfl
   ·exact rfl
   ·intro Tv Ov
    refine K.call ?_
    apply WpL.callK (hkE)
    ·exact .agg (.keep rfl rfl (.keep rfl rfl (.keep rfl rfl (.keep rfl rfl (.keep rfl rfl (.keep rfl rfl .nil)))))) (.agg (.keep rfl rfl (.keep rfl rfl (.keep rfl rfl .nil))) .nil)
    ·decide
    ·exact WpL.nil (Only.mk rfl)
   ·exact rfl
   apply HeadG.stepNF rfl
   ·exact rfl
   ·exact in1
   ·exact rfl
   apply HeadG.stepNF rfl
   ·exact rfl
   ·exact in1
   ·exact rfl
   exact Abs.HeadG.nil
  ·exact trueA
  ·exact trueA
  ·exact trueA
  ·exact demA
  ·exact rfl
  ·exact rfl
  refine goR (r:=?_);and_intros<;>intros<;>try exact True.intro
  all_goals first|contradiction|omega
end
end Go.Proofs.YtainhhfnnclfiaaGreat
