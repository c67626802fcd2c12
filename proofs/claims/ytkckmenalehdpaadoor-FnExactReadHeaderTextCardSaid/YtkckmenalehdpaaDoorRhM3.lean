/- Proved in this text: lemmas and contracts of functions that the claim uses (parts: AbsO, AbsP, AbsQ, AbsR). No condition. -/
import Derived.Test.YtkckmenalehdpaaDoorRhM2
set_option linter.unusedVariables false
set_option linter.unusedSimpArgs false
set_option maxRecDepth 100000
set_option maxHeartbeats 4000000


namespace Go.Abs
open Go
abbrev I (n : Int) : AV := .sc (.int .i64 n)
abbrev B (b : Bool) : AV := .sc (.bool b)
abbrev Z (p : List UInt8) : AV := .sc (.string ⟨p.toArray⟩)
abbrev U (n : Int) : AV := .sc (.int .u8 n)
abbrev IL (xs : List Int) : AV := .imm 1 xs.length (ints xs)
def cnt : Nat → Nat → Option Nat
  | 0, k => some k
  | n + 1, k => cnt n (k + 1)
theorem cnt_eq : ∀ {n k c : Nat}, cnt n k = some c → n + k = c
  | 0, k, c, h => by simp [cnt] at h; omega
  | n + 1, k, c, h => by rw [cnt] at h; have := cnt_eq h; omega
structure Hold (R : Prop) : Prop where
  out : R
theorem Hold.h {A B : Prop} (h : Hold (A ∧ B)) : A := h.out.1
structure IsT (R : Prop) : Prop where
  a : True
theorem IsT.t : IsT True := ⟨trivial⟩
theorem IsT.any {R : Prop} : IsT R := ⟨trivial⟩
theorem Hold.t {A B : Prop} (h : Hold (A ∧ B)) : Hold B := ⟨h.out.2⟩
section
variable {P : Program} {n m : Nat} {G : Ctx} {T : List (Nat × AV)} {O : List AObj} {Q : Exit → St → Prop} {ops : Array Oper} {l : List Oper} {d : Nat} {tt : TypeId} {pos : String} {after : Array Edge} {tab : List (Nat × Ty)}
theorem nid_len : ∀ (O : List AObj) (k : Nat), nid O k = some (k + O.length)
  | [], k => by simp [nid]
  | _ :: O, k => by rw [nid, nid_len O (k + 1)]; simp; omega
mutual
def AV.shF (k : Nat) : AV → Option AV
  | .own id ep off len => some (.own (id + k) ep off len)
  | .agg ds => match AV.shFL k ds with
    | some r => some (.agg r)
    | none => none
  | .tup ds => match AV.shFL k ds with
    | some r => some (.tup r)
    | none => none
  | .any => some .any
  | .sc v => some (.sc v)
  | .nilS => some .nilS
  | .imm s l ds => some (.imm s l ds)
  | .fre s l ds => some (.fre s l ds)
  | .ptr id ep off => some (.ptr id ep off)
  | .iptr ds off => some (.iptr ds off)
  | .fn f ds => some (.fn f ds)
  | .ifc t v => some (.ifc t v)
def AV.shFL (k : Nat) : List AV → Option (List AV)
  | [] => some []
  | V :: Vs => match AV.shF k V with
    | none => none
    | some W => match AV.shFL k Vs with
      | some r => some (W :: r)
      | none => none
end
mutual
theorem AV.shF_eq (k : Nat) : ∀ (V W : AV), AV.shF k V = some W → V.sh k = W
  | .own id ep off len, W, h => by rw [AV.shF] at h; rw [AV.sh]; exact Option.some.inj h
  | .agg ds, W, h => by
    rw [AV.shF] at h; rw [AV.sh]
    cases hr : AV.shFL k ds with
    | none => rw [hr] at h; cases h
    | some r => rw [hr] at h; rw [AV.shFL_eq k ds r hr]; exact Option.some.inj h
  | .tup ds, W, h => by
    rw [AV.shF] at h; rw [AV.sh]
    cases hr : AV.shFL k ds with
    | none => rw [hr] at h; cases h
    | some r => rw [hr] at h; rw [AV.shFL_eq k ds r hr]; exact Option.some.inj h
  | .any, W, h => by rw [AV.shF] at h; rw [AV.sh]; exact Option.some.inj h
  | .sc _, W, h => by rw [AV.shF] at h; rw [AV.sh]; exact Option.some.inj h
  | .nilS, W, h => by rw [AV.shF] at h; rw [AV.sh]; exact Option.some.inj h
  | .imm _ _ _, W, h => by rw [AV.shF] at h; rw [AV.sh]; exact Option.some.inj h
  | .fre _ _ _, W, h => by rw [AV.shF] at h; rw [AV.sh]; exact Option.some.inj h
  | .ptr _ _ _, W, h => by rw [AV.shF] at h; rw [AV.sh]; exact Option.some.inj h
  | .iptr _ _, W, h => by rw [AV.shF] at h; rw [AV.sh]; exact Option.some.inj h
  | .fn _ _, W, h => by rw [AV.shF] at h; rw [AV.sh]; exact Option.some.inj h
  | .ifc _ _, W, h => by rw [AV.shF] at h; rw [AV.sh]; exact Option.some.inj h
theorem AV.shFL_eq (k : Nat) : ∀ (Vs Ws : List AV), AV.shFL k Vs = some Ws → AV.shL k Vs = Ws
  | [], Ws, h => by rw [AV.shFL] at h; rw [AV.shL]; exact Option.some.inj h
  | V :: Vs, Ws, h => by
    rw [AV.shFL] at h; rw [AV.shL]
    cases hv : AV.shF k V with
    | none => rw [hv] at h; cases h
    | some W =>
      rw [hv] at h
      cases hr : AV.shFL k Vs with
      | none => simp only [hr] at h; cases h
      | some r => simp only [hr] at h; rw [AV.shF_eq k V W hv, AV.shFL_eq k Vs r hr]; exact Option.some.inj h
end
theorem AV.force_some (V : AV) : V.force = some V := by cases V <;> rfl
theorem WpL.callF {f : FuncId} {xs : List Operand} {ats : Array TypeId} {As : List AV} {N : List AObj} {r r' : AV} {id : Nat} (hc : FnC P f As N r) (hs : Snap O (xs.map (av T)) As) (hloc : Loc [r]) (hN : Out N)
    (hid : cnt O.length 0 = some id) (hok : r.shOk = true) (hre : r.shF id = some r') (hn : d < n) (h : WpL P n m G false ops l ⟨(d, r') :: T, O ++ N⟩ Q) :
    WpL P n m G false ops ({ dst := some d, op := .call { callee := .value (.func f), args := xs.toArray, argTypes := ats }, type := tt, pos := pos, after := after, guard := none } :: l) ⟨T, O⟩ Q := by
  have e : id = O.length := by have := cnt_eq hid; omega
  subst e
  exact WpL.call hc hs hloc hN (id := O.length) (by rw [nid_len, Nat.zero_add]) hok (by rw [AV.shF_eq _ _ _ hre]; exact AV.force_some _) hn h
theorem WpL.idxI1 (hP : TabOk P tab) {t e b : Nat} {zs cs : List AV} {x y : Operand} {len i : Nat} {kk : IntKind} (ht : tlook tab t = some (.slice e 1 b zs)) (hx : av T x = .imm 1 len cs) (hy : av T y = .sc (.int kk (i : Int)))
    (hj : i < len) (hn : d < n) {md : Bool} (h : WpL P n m G md ops l ⟨(d, .iptr cs i) :: T, O⟩ Q) :
    WpL P n m G md ops ({ dst := some d, op := .indexAddr t x y, type := tt, pos := pos, after := after, guard := none } :: l) ⟨T, O⟩ Q :=
  WpL.idxI hP ht hx hy (by omega) hn (by simpa using h)
theorem WpL.idxStr1 (hP : TabOk P tab) {t : Nat} {x y : Operand} {p : List UInt8} {kk : IntKind} {i : Nat} (ht : tlook tab t = some .string) (hx : av T x = .sc (.string ⟨p.toArray⟩)) (hy : av T y = .sc (.int kk (i : Int)))
    (hj : i < p.length) (hn : d < n) {md : Bool} (h : (p.getD i 0).toNat < 256 → WpL P n m G md ops l ⟨(d, .sc (.int .u8 ((p.getD i 0).toNat))) :: T, O⟩ Q) :
    WpL P n m G md ops ({ dst := some d, op := .index t x y, type := tt, pos := pos, after := after, guard := none } :: l) ⟨T, O⟩ Q :=
  WpL.idxStr hP ht hx hy (by omega) hn (by simpa using h (UInt8.toNat_lt _))
theorem WpL.idxStrB (hP : TabOk P tab) {t : Nat} {x y : Operand} {p : List UInt8} {kk : IntKind} {j : Int} (ht : tlook tab t = some .string) (hx : av T x = .sc (.string ⟨p.toArray⟩)) (hy : av T y = .sc (.int kk j))
    (hj : 0 ≤ j ∧ j < p.length) (hn : d < n) {md : Bool} (h : (p.getD j.toNat 0).toNat < 256 → WpL P n m G md ops l ⟨(d, .sc (.int .u8 ((p.getD j.toNat 0).toNat))) :: T, O⟩ Q) :
    WpL P n m G md ops ({ dst := some d, op := .index t x y, type := tt, pos := pos, after := after, guard := none } :: l) ⟨T, O⟩ Q :=
  WpL.idxStr hP ht hx hy hj hn (h (UInt8.toNat_lt _))
theorem WpL.subStrHi (hP : TabOk P tab) {t : Nat} {x y : Operand} {k : IntKind} {p : List UInt8} {i : Nat} (ht : tlook tab t = some .string) (hx : av T x = .sc (.string ⟨p.toArray⟩)) (hy : av T y = .sc (.int k (i : Int)))
    (hb : i ≤ p.length) (hn : d < n) {md : Bool} (h : WpL P n m G md ops l ⟨(d, Z (p.take i)) :: T, O⟩ Q) :
    WpL P n m G md ops ({ dst := some d, op := .slice t x none (some y) none, type := tt, pos := pos, after := after, guard := none } :: l) ⟨T, O⟩ Q :=
  WpL.subStr hP ht hx (.inl ⟨rfl, rfl⟩) (.inr ⟨_, _, rfl, hy⟩) (by omega) hn (by simpa using h)
theorem WpL.storeS (hP : TabOk P tab) {t : Nat} {ty : Ty} {x y : Operand} {id ep off : Nat} {ob : AObj} {V : AV} {Vs cs : List AV} (ht : tlook tab t = some ty) (hx : av T x = .ptr id ep off)
    (ho : O[id]? = some ob) (he : ob.ep = ep) (hy : (av T y).force = some V) (hV : cellsV O V = some Vs) (hk : ty.cellsN = some Vs.length) (hone : Vs.all (oneB O) = true) (hle : off + Vs.length ≤ ob.cells.length)
    (hset : setL ob.cells off Vs = cs) (h : WpL P n m G false ops l ⟨T, O.set id ⟨cs, ob.ep, ob.size, ob.ty⟩⟩ Q) :
    WpL P n m G false ops ({ dst := none, op := .store t x y, type := tt, pos := pos, after := after, guard := none } :: l) ⟨T, O⟩ Q :=
  WpL.store hP ht hx ho he hy hV hk hone hle (by subst hset; exact h)
def toInts : List AV → Option (List Int)
  | [] => some []
  | .sc (.int .i64 n) :: r => match toInts r with
    | some l => some (n :: l)
    | none => none
  | _ => none
theorem toInts_eq : ∀ {cs : List AV} {vs : List Int}, toInts cs = some vs → cs = ints vs
  | [], vs, h => by simp [toInts] at h; subst h; rfl
  | .sc (.int .i64 n) :: r, vs, h => by
    rw [toInts] at h
    cases hr : toInts r with
    | none => rw [hr] at h; cases h
    | some l => rw [hr] at h; cases h; rw [toInts_eq hr]; rfl
def toU8s : List AV → Option (List Int)
  | [] => some []
  | .sc (.int .u8 n) :: r => match toU8s r with
    | some l => some (n :: l)
    | none => none
  | _ => none
theorem toU8s_eq : ∀ {cs : List AV} {vs : List Int}, toU8s cs = some vs → cs = u8s vs
  | [], vs, h => by simp [toU8s] at h; subst h; rfl
  | .sc (.int .u8 n) :: r, vs, h => by
    rw [toU8s] at h
    cases hr : toU8s r with
    | none => rw [hr] at h; cases h
    | some l => rw [hr] at h; cases h; rw [toU8s_eq hr]; rfl
def toStrs : List AV → Option (List (List UInt8))
  | [] => some []
  | .sc (.string ⟨⟨p⟩⟩) :: r => match toStrs r with
    | some l => some (p :: l)
    | none => none
  | _ => none
theorem toStrs_eq : ∀ {cs : List AV} {vs : List (List UInt8)}, toStrs cs = some vs → cs = strs vs
  | [], vs, h => by simp [toStrs] at h; subst h; rfl
  | .sc (.string ⟨⟨p⟩⟩) :: r, vs, h => by
    rw [toStrs] at h
    cases hr : toStrs r with
    | none => rw [hr] at h; cases h
    | some l => rw [hr] at h; cases h; rw [toStrs_eq hr]; rfl
theorem WpL.litInts (hP : TabOk P tab) {t e k b len id : Nat} {zs cs : List AV} {vs : List Int} {parts : List (Nat × Operand)} (ht : tlook tab t = some (.slice e k b zs)) (hidx : parts.map (·.1) = List.range' 0 parts.length) (hlen : parts.length = len)
    (hlit : litC T O k (parts.map (·.2)) = some cs) (hc : toInts cs = some vs) (hsm : len * k ≤ 16777216) (hid : nid O 0 = some id) (hn : d < n)
    (h : WpL P n m G false ops l ⟨(d, .own id 0 0 len) :: T, O ++ [⟨ints vs, 0, k, some e⟩]⟩ Q) :
    WpL P n m G false ops ({ dst := some d, op := .buildSlice t len parts.toArray, type := tt, pos := pos, after := after, guard := none } :: l) ⟨T, O⟩ Q := by
  have := toInts_eq hc; subst this; exact WpL.litF hP ht hidx hlen hlit hsm hid hn h
theorem WpL.litU8s (hP : TabOk P tab) {t e k b len id : Nat} {zs cs : List AV} {vs : List Int} {parts : List (Nat × Operand)} (ht : tlook tab t = some (.slice e k b zs)) (hidx : parts.map (·.1) = List.range' 0 parts.length) (hlen : parts.length = len)
    (hlit : litC T O k (parts.map (·.2)) = some cs) (hc : toU8s cs = some vs) (hsm : len * k ≤ 16777216) (hid : nid O 0 = some id) (hn : d < n)
    (h : WpL P n m G false ops l ⟨(d, .own id 0 0 len) :: T, O ++ [⟨u8s vs, 0, k, some e⟩]⟩ Q) :
    WpL P n m G false ops ({ dst := some d, op := .buildSlice t len parts.toArray, type := tt, pos := pos, after := after, guard := none } :: l) ⟨T, O⟩ Q := by
  have := toU8s_eq hc; subst this; exact WpL.litF hP ht hidx hlen hlit hsm hid hn h
theorem WpL.litStrs (hP : TabOk P tab) {t e k b len id : Nat} {zs cs : List AV} {vs : List (List UInt8)} {parts : List (Nat × Operand)} (ht : tlook tab t = some (.slice e k b zs)) (hidx : parts.map (·.1) = List.range' 0 parts.length) (hlen : parts.length = len)
    (hlit : litC T O k (parts.map (·.2)) = some cs) (hc : toStrs cs = some vs) (hsm : len * k ≤ 16777216) (hid : nid O 0 = some id) (hn : d < n)
    (h : WpL P n m G false ops l ⟨(d, .own id 0 0 len) :: T, O ++ [⟨strs vs, 0, k, some e⟩]⟩ Q) :
    WpL P n m G false ops ({ dst := some d, op := .buildSlice t len parts.toArray, type := tt, pos := pos, after := after, guard := none } :: l) ⟨T, O⟩ Q := by
  have := toStrs_eq hc; subst this; exact WpL.litF hP ht hidx hlen hlit hsm hid hn h
variable {ids : List (Option Nat)} {vs us : List AV}
theorem Ex.i {a b : Int} (h : a = b) (r : Ex O ids vs us) : Ex O ids (I a :: vs) (I b :: us) := .keep (by rw [h]) rfl rfl r
theorem Ex.b {a b : Bool} (h : a = b) (r : Ex O ids vs us) : Ex O ids (B a :: vs) (B b :: us) := .keep (by rw [h]) rfl rfl r
theorem Ex.z {a b : List UInt8} (h : a = b) (r : Ex O ids vs us) : Ex O ids (Z a :: vs) (Z b :: us) := .keep (by rw [h]) rfl rfl r
theorem Ex.z0 {b : List UInt8} (h : [] = b) (r : Ex O ids vs us) : Ex O ids (.sc (.string ⟨#[]⟩) :: vs) (Z b :: us) := .keep (by rw [← h]) rfl rfl r
theorem NEx.ints {id ep sz : Nat} {ty : Option TypeId} {xs ys : List Int} {N : List AObj} (ho : O[id]? = some ⟨Abs.ints xs, ep, sz, ty⟩) (h : xs = ys) (r : NEx O ids N) : NEx O (some id :: ids) (⟨Abs.ints ys, 0, sz, ty⟩ :: N) :=
  .obj ho (by rw [h]) (still_ints _) rfl rfl (.inr rfl) r
theorem NEx.u8s {id ep sz : Nat} {ty : Option TypeId} {xs ys : List Int} {N : List AObj} (ho : O[id]? = some ⟨Abs.u8s xs, ep, sz, ty⟩) (h : xs = ys) (r : NEx O ids N) : NEx O (some id :: ids) (⟨Abs.u8s ys, 0, sz, ty⟩ :: N) :=
  .obj ho (by rw [h]) (still_u8s _) rfl rfl (.inr rfl) r
theorem NEx.bools {id ep sz : Nat} {ty : Option TypeId} {xs ys : List Bool} {N : List AObj} (ho : O[id]? = some ⟨Abs.bools xs, ep, sz, ty⟩) (h : xs = ys) (r : NEx O ids N) : NEx O (some id :: ids) (⟨Abs.bools ys, 0, sz, ty⟩ :: N) :=
  .obj ho (by rw [h]) (still_bools _) rfl rfl (.inr rfl) r
theorem NEx.strs {id ep sz : Nat} {ty : Option TypeId} {xs ys : List (List UInt8)} {N : List AObj} (ho : O[id]? = some ⟨Abs.strs xs, ep, sz, ty⟩) (h : xs = ys) (r : NEx O ids N) : NEx O (some id :: ids) (⟨Abs.strs ys, 0, sz, ty⟩ :: N) :=
  .obj ho (by rw [h]) (still_strs _) rfl rfl (.inr rfl) r
theorem NEx.noInts {sz : Nat} {ty : Option TypeId} {ys : List Int} {N : List AObj} (h : [] = ys) (r : NEx O ids N) : NEx O (none :: ids) (⟨Abs.ints ys, 0, sz, ty⟩ :: N) := .gone (by rw [← h]; rfl) rfl r
theorem Ex.nilO' {j len : Nat} (h : ids[j]? = some none) (hl : 0 = len) (r : Ex O ids vs us) : Ex O ids (.nilS :: vs) (.own j 0 0 len :: us) := by subst hl; exact .nilO h r
def endB : Exit → Bool
  | .ret => true
  | .normal => true
  | _ => false
theorem Fin.e {rs : Array ResultVar} {N : List AObj} {r : AV} {σ : St} {e : Exit} (he : endB e = true) (h : Res tab N r rs σ) : Fin tab rs N r e σ := by
  cases e <;> first | exact h | cases he
variable {r r1v r2v r3v : AV} {r1 r2 r3 : ResultVar} {e : Exit} {a b c : Option Nat} {oa ob oc : AObj}
theorem Fin.one0 (he : endB e = true) (hv : ResV tab T O r1 r1v) (hx : Ex O [] [r1v] [r]) : Fin tab #[r1] [] r e ⟨T, O⟩ := Fin.e he (.one hv .nil (by decide) hx)
theorem Fin.two0 (he : endB e = true) (hv : ResV tab T O r1 r1v) (hv2 : ResV tab T O r2 r2v) (hx : Ex O [] [.tup [r1v, r2v]] [r]) : Fin tab #[r1, r2] [] r e ⟨T, O⟩ := Fin.e he (.two hv hv2 .nil (by decide) hx)
theorem nd1 : ([a].filterMap id).Nodup := by cases a <;> simp
theorem Fin.two1 (he : endB e = true) (hv : ResV tab T O r1 r1v) (hv2 : ResV tab T O r2 r2v) (hx : Ex O [a] [.tup [r1v, r2v]] [r]) (hN : NEx O [a] [oa]) : Fin tab #[r1, r2] [oa] r e ⟨T, O⟩ := Fin.e he (.two hv hv2 hN nd1 hx)
end
section
variable {O O' : List AObj} {T T' : List (Nat × AV)} {t : Nat}
theorem ReT.same {V : AV} (h : look T t = V) (hs : V.still = true) (r : ReT O O' T T') : ReT O O' T ((t, V) :: T') := .cons (.keep h hs .nil) r
theorem ReT.i {a b : Int} (hl : look T t = I a) (h : a = b) (r : ReT O O' T T') : ReT O O' T ((t, I b) :: T') := .cons (.keep (by rw [hl, h]) rfl .nil) r
theorem ReT.u {a b : Int} (hl : look T t = U a) (h : a = b) (r : ReT O O' T T') : ReT O O' T ((t, U b) :: T') := .cons (.keep (by rw [hl, h]) rfl .nil) r
theorem ReT.b {a b : Bool} (hl : look T t = B a) (h : a = b) (r : ReT O O' T T') : ReT O O' T ((t, B b) :: T') := .cons (.keep (by rw [hl, h]) rfl .nil) r
theorem ReT.z0 {b : List UInt8} (hl : look T t = .sc (.string ⟨#[]⟩)) (h : [] = b) (r : ReT O O' T T') : ReT O O' T ((t, Z b) :: T') := .cons (.keep (by rw [hl, ← h]) rfl .nil) r
theorem ReT.own {id ep ep' off len len' : Nat} {ob ob' : AObj} (hl : look T t = .own id ep off len) (h1 : O[id]? = some ob) (h2 : O'[id]? = some ob') (h3 : ob.ep = ep) (h4 : ob'.ep = ep') (h5 : ob'.size = ob.size) (h : len = len') (r : ReT O O' T T') :
    ReT O O' T ((t, .own id ep' off len') :: T') := .cons (by rw [hl]; exact .own h1 h2 h3 h4 h5 h .nil) r
theorem ReT.ptr {id ep ep' off : Nat} {ob ob' : AObj} (hl : look T t = .ptr id ep off) (h1 : O[id]? = some ob) (h2 : O'[id]? = some ob') (h3 : ob.ep = ep) (h4 : ob'.ep = ep') (r : ReT O O' T T') : ReT O O' T ((t, .ptr id ep' off) :: T') :=
  .cons (by rw [hl]; exact .ptr h1 h2 h3 h4 .nil) r
variable {os os' : List AObj} {ep ep' sz sz' : Nat} {ty ty' : Option TypeId}
theorem ReO.ints {xs ys : List Int} (h : xs = ys) (ht : ty' = none ∨ ty' = ty) (r : ReO O O' os os') : ReO O O' (⟨Abs.ints xs, ep, sz, ty⟩ :: os) (⟨Abs.ints ys, ep', sz', ty'⟩ :: os') := .cons (Re.same (by rw [h]) (still_ints _)) ht r
theorem ReO.u8s {xs ys : List Int} (h : xs = ys) (ht : ty' = none ∨ ty' = ty) (r : ReO O O' os os') : ReO O O' (⟨Abs.u8s xs, ep, sz, ty⟩ :: os) (⟨Abs.u8s ys, ep', sz', ty'⟩ :: os') := .cons (Re.same (by rw [h]) (still_u8s _)) ht r
theorem ReO.bools {xs ys : List Bool} (h : xs = ys) (ht : ty' = none ∨ ty' = ty) (r : ReO O O' os os') : ReO O O' (⟨Abs.bools xs, ep, sz, ty⟩ :: os) (⟨Abs.bools ys, ep', sz', ty'⟩ :: os') := .cons (Re.same (by rw [h]) (still_bools _)) ht r
theorem ReO.strs {xs ys : List (List UInt8)} (h : xs = ys) (ht : ty' = none ∨ ty' = ty) (r : ReO O O' os os') : ReO O O' (⟨Abs.strs xs, ep, sz, ty⟩ :: os) (⟨Abs.strs ys, ep', sz', ty'⟩ :: os') := .cons (Re.same (by rw [h]) (still_strs _)) ht r
theorem Re.i {a b : Int} {vs us : List AV} (h : a = b) (r : Re O O' vs us) : Re O O' (I a :: vs) (I b :: us) := .keep (by rw [h]) rfl r
theorem Re.b {a b : Bool} {vs us : List AV} (h : a = b) (r : Re O O' vs us) : Re O O' (B a :: vs) (B b :: us) := .keep (by rw [h]) rfl r
end
theorem Rnd.succ {m : Nat} {Inv : Nat → St} {C : Nat → Prop} {μ : Nat → Nat} {x : Nat} {Q : Exit → St → Prop} {σ : St} (h1 : C (x + 1)) (h2 : μ (x + 1) < μ x) (h3 : Weak m σ (Inv (x + 1))) : Rnd m Inv C μ x Q .normal σ := Rnd.go (x + 1) h1 h2 h3
theorem Snap.ownL {O : List AObj} {id ep len len' sz : Nat} {ob : AObj} {es vs us : List AV} (h1 : O[id]? = some ob) (h2 : ob.ep = ep) (h3 : ob.size = sz) (r1 : Snap O ob.cells es) (h4 : len * ob.size = ob.cells.length) (h5 : len = len') (r2 : Snap O vs us) : Snap O (.own id ep 0 len :: vs) (.imm sz len' es :: us) := .own h1 h2 h3 h4 h5 r1 r2
def flatO : List AObj → Option (List AObj)
  | [] => some []
  | ⟨c, e, z, t⟩ :: O => match flatO O with
    | some r => some (⟨c, e, z, t⟩ :: r)
    | none => none
theorem flatO_eq : ∀ {O O2 : List AObj}, flatO O = some O2 → O = O2
  | [], O2, h => by simp [flatO] at h; exact h.symm
  | ⟨c, e, z, t⟩ :: O, O2, h => by
    rw [flatO] at h
    cases hr : flatO O with
    | none => rw [hr] at h; cases h
    | some r => rw [hr] at h; have := flatO_eq hr; subst this; simpa using h
theorem WpA.regionF {P : Program} {n m : Nat} {G : Ctx} {T : List (Nat × AV)} {O O2 : List AObj} {Q : Exit → St → Prop} {id : Nat} {l : List Oper} (hO : flatO O = some O2) (h : WpL P n m G false l.toArray l ⟨T, O2⟩ Q) : WpA P n m G (.region id l.toArray false) ⟨T, O⟩ Q := by
  have := flatO_eq hO; subst this; exact WpA.region h
theorem WpA.flat {P : Program} {n m : Nat} {G : Ctx} {T : List (Nat × AV)} {O O2 : List AObj} {Q : Exit → St → Prop} {c : Code} (hO : flatO O = some O2) (h : WpA P n m G c ⟨T, O2⟩ Q) : WpA P n m G c ⟨T, O⟩ Q := by
  have := flatO_eq hO; subst this; exact h
def catF {α : Type} : List α → List α → Option (List α)
  | [], B => some B
  | a :: A, B => match catF A B with
    | some r => some (a :: r)
    | none => none
theorem catF_eq {α : Type} : ∀ {A B C : List α}, catF A B = some C → A ++ B = C
  | [], B, C, h => by simp [catF] at h; simpa using h
  | a :: A, B, C, h => by
    rw [catF] at h
    cases hr : catF A B with
    | none => rw [hr] at h; cases h
    | some r => rw [hr] at h; have := catF_eq hr; subst this; simpa using h
def takeF {α : Type} : Nat → List α → Option (List α)
  | 0, _ => some []
  | _ + 1, [] => some []
  | n + 1, a :: A => match takeF n A with
    | some r => some (a :: r)
    | none => none
theorem takeF_eq {α : Type} : ∀ {n : Nat} {A C : List α}, takeF n A = some C → A.take n = C
  | 0, A, C, h => by simp [takeF] at h; simpa using h
  | n + 1, [], C, h => by simp [takeF] at h; simpa using h
  | n + 1, a :: A, C, h => by
    rw [takeF] at h
    cases hr : takeF n A with
    | none => rw [hr] at h; cases h
    | some r => rw [hr] at h; have := takeF_eq hr; subst this; simpa using h
def depsF (fs : List (Nat × AV)) : List Edge → Option (List (Nat × AV))
  | [] => some []
  | e :: es => match Region.binds .any e with
    | false => depsF fs es
    | true => match fs[e.on]? with
      | none => depsF fs es
      | some x => match depsF fs es with
        | some r => some (x :: r)
        | none => none
theorem depsF_eq {fs : List (Nat × AV)} : ∀ {es : List Edge} {F : List (Nat × AV)}, depsF fs es = some F → (es.filterMap fun e => if Region.binds .any e = true then fs[e.on]? else none) = F
  | [], F, h => by simp [depsF] at h; simpa using h
  | e :: es, F, h => by
    rw [depsF] at h
    rw [List.filterMap_cons]
    cases hb : Region.binds .any e with
    | false => rw [hb] at h; simpa using depsF_eq h
    | true =>
      rw [hb] at h
      cases hx : fs[e.on]? with
      | none => rw [hx] at h; simpa using depsF_eq h
      | some x =>
        rw [hx] at h
        cases hr : depsF fs es with
        | none => simp only [hr] at h; cases h
        | some r => simp only [hr] at h; have := depsF_eq hr; simp [this]; simpa using h
structure TrueB (b : Bool) : Prop where
  e : b = true
theorem HeadJ.consF {P : Program} {n m : Nat} {G : Ctx} {ops : Array Oper} {T0 : List (Nat × AV)} {O : List AObj} {fs fs2 out : List (Nat × AV)} {o : Oper} {l : List Oper} {d : Nat} {V : AV} {F : List (Nat × AV)} (hd : o.dst = some d) (hF : depsF fs o.after.toList = some F)
    (h : ∀ Tv, WpL P n m G false ops [o] ⟨F ++ (T0 ++ Tv), O⟩ (Only ⟨(d, V) :: (F ++ (T0 ++ Tv)), O⟩)) (hs : catF fs [(d, V)] = some fs2) (r : HeadJ P n m G ops T0 O fs2 l out) : HeadJ P n m G ops T0 O fs (o :: l) out := by
  have := catF_eq hs; subst this
  exact .cons hd (depsF_eq hF) h r
def noApp (o : Oper) : Bool := match o.op with
  | .call c => match c.callee with
    | .builtin .append => false
    | _ => true
  | _ => true
def bareM (ops : Array Oper) (k : Nat) : Bool := (List.range k).all fun i => match ops[i]? with
  | some o => o.guard.isNone && o.dst.isSome && noApp o && match o.op with
    | .call c => match c.callee with
      | .builtin _ => true
      | _ => false
    | .buildSlice .. => false
    | .makeSlice .. => false
    | .alloc .. => false
    | .box .. => false
    | _ => true
  | none => true
theorem WpA.regionMB {P : Program} {n m : Nat} {G : Ctx} {T0 : List (Nat × AV)} {O : List AObj} {l l1 l2 : List Oper} {id : Nat} {out T1 : List (Nat × AV)} {Q : Exit → St → Prop} (k : Nat) (hm : P.follows .mixedOrders = true) (hB : (mixB l.toArray k && bareM l.toArray k) = true)
    (hl : takeF k l = some l1) (hJ : HeadJ P n m G l.toArray T0 O [] l1 out) (hnd : TrueB (nodupB (out.map (·.1)))) (hfr : TrueB (out.all fun p => !has T0 p.1))
    (hT1 : catF out T0 = some T1) (h2 : l.drop k = l2) (h : WpL P n m G false l.toArray l2 ⟨T1, O⟩ Q) : WpA P n m G (.region id l.toArray true) ⟨T0, O⟩ Q := by
  have := takeF_eq hl; subst this; subst h2
  exact WpA.regionM k hm (by simp only [Bool.and_eq_true] at hB; exact hB.1) hJ hnd.e hfr.e (catF_eq hT1) h
end Go.Abs
namespace Go.Abs.K
open Go Go.Abs
theorem loop {P : Program} {n m : Nat} {G : Ctx} {σ : St} {Q : Exit → St → Prop} {c : Code} (h : WpA P n m G (.loop c) σ Q) : WpA P n m G (.loop c) σ Q := h
theorem W {m : Nat} {σ σ' : St} (h : Weak m σ σ') : Weak m σ σ' := h
theorem F {tab : List (Nat × Ty)} {rs : Array ResultVar} {N : List AObj} {r : AV} {e : Exit} {σ : St} (h : Abs.Fin tab rs N r e σ) : Abs.Fin tab rs N r e σ := h
theorem E {O : List AObj} {ids : List (Option Nat)} {vs us : List AV} (h : Ex O ids vs us) : Ex O ids vs us := h
theorem V {tab : List (Nat × Ty)} {T : List (Nat × AV)} {O : List AObj} {r : ResultVar} {V : AV} (h : ResV tab T O r V) : ResV tab T O r V := h
theorem NE {O : List AObj} {ids : List (Option Nat)} {N : List AObj} (h : NEx O ids N) : NEx O ids N := h
theorem RT {O O' : List AObj} {T T' : List (Nat × AV)} (h : ReT O O' T T') : ReT O O' T T' := h
theorem RO {O O' os os' : List AObj} (h : ReO O O' os os') : ReO O O' os os' := h
theorem R {m : Nat} {β : Type} {Inv : β → St} {C : β → Prop} {μ : β → Nat} {x : β} {Q : Exit → St → Prop} {e : Exit} {σ : St} (h : Rnd m Inv C μ x Q e σ) : Rnd m Inv C μ x Q e σ := h
theorem eq {α : Sort _} {a b : α} (h : a = b) : a = b := h
theorem le {α : Type} [LE α] {a b : α} (h : a ≤ b) : a ≤ b := h
theorem lt {α : Type} [LT α] {a b : α} (h : a < b) : a < b := h
section
variable {P : Program} {n m : Nat} {G : Ctx} {σ : St} {Q : Exit → St → Prop} {md : Bool} {ops : Array Oper} {l : List Oper} {dd : Option Nat} {tt : TypeId} {pos : String} {after : Array Edge}
theorem blen {xs : Array Operand} {ats : Array TypeId} (h : WpL P n m G md ops ({ dst := dd, op := .call { callee := .builtin .len, args := xs, argTypes := ats }, type := tt, pos := pos, after := after, guard := none } :: l) σ Q) : WpL P n m G md ops ({ dst := dd, op := .call { callee := .builtin .len, args := xs, argTypes := ats }, type := tt, pos := pos, after := after, guard := none } :: l) σ Q := h
theorem bapp {xs : Array Operand} {ats : Array TypeId} (h : WpL P n m G md ops ({ dst := dd, op := .call { callee := .builtin .append, args := xs, argTypes := ats }, type := tt, pos := pos, after := after, guard := none } :: l) σ Q) : WpL P n m G md ops ({ dst := dd, op := .call { callee := .builtin .append, args := xs, argTypes := ats }, type := tt, pos := pos, after := after, guard := none } :: l) σ Q := h
end
end Go.Abs.K


namespace Go.Abs
open Go
def FnG (P : Program) (f : FuncId) (args : List AV) (M M' N : List AObj) (r : AV) : Prop :=
  Runs P f ∧ ∀ (w : World) (S : Nat → Prop) (ι : Nat → Spot) (F : Nat → List Nat) (vs : List Value), (∀ b, S b → b < w.heap.size) → GlbOk S w → ORel S w ι M F → (∀ id, id < M.length → ∀ b ∈ F id, ¬ S b ∧ b < w.heap.size) →
    LRel S w ι M args vs [] → Calls P f vs.toArray w fun e w' => ∃ v S' ι' F', e = .returned v ∧ (∀ b, S b → S' b) ∧ (∀ b, S' b → S b ∨ w.heap.size ≤ b) ∧ (∀ b, S' b → b < w'.heap.size) ∧ (∀ id, id < M.length → ι' id = ι id) ∧
      ORel S' w' ι' (M' ++ N) F' ∧ (∀ id, id < (M' ++ N).length → ∀ b ∈ F' id, ((∃ i, i < M.length ∧ b ∈ F i) ∨ w.heap.size ≤ b) ∧ ¬ S' b ∧ b < w'.heap.size) ∧ VRel S' w' ι' (M' ++ N) r v [] ∧
      Keeps w (fun b => ∃ i, i < M.length ∧ b ∈ F i) w'
def preB : List (Option Nat) → Nat → Nat → Bool
  | _, 0, _ => true
  | some i :: ids, m + 1, k => Nat.beq i k && preB ids m (k + 1)
  | _, _ + 1, _ => false
theorem preB_at : ∀ {ids : List (Option Nat)} {m k : Nat}, preB ids m k = true → ∀ j, j < m → ids[j]? = some (some (k + j))
  | _, 0, _, _, j, hj => by omega
  | some i :: ids, m + 1, k, h, j, hj => by
    simp only [preB, Bool.and_eq_true] at h
    have h1 := Nat.eq_of_beq_eq_true h.1
    subst h1
    cases j with
    | zero => simp
    | succ j => have := preB_at h.2 j (by omega); rw [List.getElem?_cons_succ, this]; congr 2; omega
  | [], _ + 1, _, h, _, _ => by simp [preB] at h
  | none :: _, _ + 1, _, h, _, _ => by simp [preB] at h
inductive ResG (tab : List (Nat × Ty)) (m : Nat) (N : List AObj) (r : AV) : Array ResultVar → St → Prop
  | zero {T O ids} : NEx O ids N → (ids.filterMap id).Nodup → preB ids m 0 = true → Ex O ids [.tup []] [r] → ResG tab m N r #[] ⟨T, O⟩
  | one {r1 V1 T O ids} : ResV tab T O r1 V1 → NEx O ids N → (ids.filterMap id).Nodup → preB ids m 0 = true → Ex O ids [V1] [r] → ResG tab m N r #[r1] ⟨T, O⟩
  | two {r1 r2 V1 V2 T O ids} : ResV tab T O r1 V1 → ResV tab T O r2 V2 → NEx O ids N → (ids.filterMap id).Nodup → preB ids m 0 = true → Ex O ids [.tup [V1, V2]] [r] → ResG tab m N r #[r1, r2] ⟨T, O⟩
def FinG (tab : List (Nat × Ty)) (m : Nat) (rs : Array ResultVar) (N : List AObj) (r : AV) : Exit → St → Prop
  | .ret, σ => ResG tab m N r rs σ
  | .normal, σ => ResG tab m N r rs σ
  | _, _ => False
theorem run_results0 {P : Program} {fn : Func} {tmps : Array Value} {w : World} (h : fn.results = #[]) : (results fn tmps).run P w = .ok (.tuple #[]) w := by
  rw [results_eq, h]; simp
section
variable {P : Program} {n m : Nat} {G : Ctx} {T : List (Nat × AV)} {O : List AObj} {Q : Exit → St → Prop} {ops : Array Oper} {l : List Oper} {d : Nat} {tt : TypeId} {pos : String} {after : Array Edge} {tab : List (Nat × Ty)}
theorem ResG.out (hP : TabOk P tab) {rs : Array ResultVar} {N : List AObj} {r : AV} {σ : St} {a : Act} {w : World} {fn : Func} (hfr : fn.results = rs) (h : ResG tab m N r rs σ) (hr : Rel n m G σ a w) :
    ∃ v, (results fn a.tmps).run P w = .ok v w ∧ ∃ S' ι F, (∀ b, G.S0 b → S' b) ∧ (∀ b, S' b → G.S0 b ∨ G.w0.heap.size ≤ b) ∧ (∀ b, S' b → b < w.heap.size) ∧ (∀ id, id < m → ι id = G.ι0 id) ∧ ORel S' w ι N F ∧
      (∀ id, id < N.length → ∀ b ∈ F id, (G.M0 b ∨ G.w0.heap.size ≤ b) ∧ ¬ S' b ∧ b < w.heap.size) ∧ VRel S' w ι N r v [] ∧ Keeps G.w0 G.M0 w := by
  obtain ⟨S, ι, F, hr⟩ := hr
  have fin : ∀ {T O ids V v}, σ = ⟨T, O⟩ → NEx O ids N → (ids.filterMap id).Nodup → preB ids m 0 = true → Ex O ids [V] [r] → VRel S w ι O V v [] →
      ∃ S' ι F, (∀ b, G.S0 b → S' b) ∧ (∀ b, S' b → G.S0 b ∨ G.w0.heap.size ≤ b) ∧ (∀ b, S' b → b < w.heap.size) ∧ (∀ id, id < m → ι id = G.ι0 id) ∧ ORel S' w ι N F ∧
      (∀ id, id < N.length → ∀ b ∈ F id, (G.M0 b ∨ G.w0.heap.size ≤ b) ∧ ¬ S' b ∧ b < w.heap.size) ∧ VRel S' w ι N r v [] ∧ Keeps G.w0 G.M0 w := by
    rintro T O ids V v rfl hN hnd hpre hex hv
    have hids : ∀ (i j id : Nat), ids[i]? = some (some id) → ids[j]? = some (some id) → i = j := by
      clear hN hex hv hpre
      induction ids with
      | nil => intro i j id h; simp at h
      | cons x ids ih =>
        intro i j id hi hj
        cases x with
        | none =>
          cases i with
          | zero => simp at hi
          | succ i => cases j with
            | zero => simp at hj
            | succ j => rw [ih (by simpa using hnd) i j id (by simpa using hi) (by simpa using hj)]
        | some y =>
          have hnd' : y ∉ ids.filterMap _root_.id ∧ (ids.filterMap _root_.id).Nodup := by simpa using hnd
          have mem : ∀ k : Nat, ids[k]? = some (some id) → id ∈ ids.filterMap _root_.id := fun k hk => List.mem_filterMap.2 ⟨some id, List.mem_of_getElem? hk, rfl⟩
          cases i with
          | zero =>
            simp at hi; subst hi
            cases j with
            | zero => rfl
            | succ j => exact (hnd'.1 (mem j (by simpa using hj))).elim
          | succ i => cases j with
            | zero => simp at hj; subst hj; exact (hnd'.1 (mem i (by simpa using hi))).elim
            | succ j => rw [ih hnd'.2 i j id (by simpa using hi) (by simpa using hj)]
    have hcase : ∀ j : Nat, (∃ id, ids[j]? = some (some id) ∧ exSpot ι ids j = ι id ∧ exF F ids j = F id) ∨ ((∀ id, ids[j]? ≠ some (some id)) ∧ exSpot ι ids j = none ∧ exF F ids j = []) := by
      intro j
      unfold exSpot exF
      cases h : ids[j]? with
      | none => exact .inr ⟨by simp, rfl, rfl⟩
      | some o => cases o with
        | none => exact .inr ⟨by simp, rfl, rfl⟩
        | some id => exact .inl ⟨id, rfl, rfl, rfl⟩
    have hlt : ∀ (j id : Nat), j < N.length → ids[j]? = some (some id) → id < O.length := by
      intro j id hj hi
      obtain ⟨_, h1 | ⟨id2, ob2, h1, h2, _⟩⟩ := hN.at (List.getElem?_eq_getElem hj)
      · rw [hi] at h1; cases h1.1
      · rw [hi] at h1; cases h1; exact (List.getElem?_eq_some_iff.1 h2).1
    refine ⟨S, exSpot ι ids, exF F ids, hr.base.1, hr.base.2, hr.stable, fun j hj => ?_, ⟨fun j ob' hj => ?_, fun j hj => ?_, fun i j hi hj hij b hb => ?_⟩, fun j hj b hb => ?_, hex.rel hN hv, hr.keeps⟩
    · have h1 := preB_at hpre j hj
      rw [Nat.zero_add] at h1
      rcases hcase j with ⟨id, h, e1, _⟩ | ⟨h, _⟩
      · rw [h1] at h; cases h; rw [e1]; exact hr.spots j hj
      · exact (h _ h1).elim
    · obtain ⟨h0, h1 | ⟨id2, ob2, h1, h2, h3, h4, h5, h6⟩⟩ := hN.at hj
      · rcases hcase j with ⟨id, h, _⟩ | ⟨_, h, h'⟩
        · rw [h1.1] at h; cases h
        · rw [h, h']; exact ⟨h1.2, rfl⟩
      · rcases hcase j with ⟨id, h, e1, e2⟩ | ⟨h, h'⟩
        · rw [h1] at h; cases h
          rw [e1, e2]
          have ho := hr.objs.obj _ ob2 h2
          unfold ObjAt at ho ⊢
          cases hs : ι id2 with
          | none => rw [hs] at ho; rw [← h3]; exact ho
          | some p =>
            obtain ⟨b, k⟩ := p
            rw [hs] at ho
            obtain ⟨cur', t', fz', f2, q1, q2, q3, q4, q5, q6, q7⟩ := ho
            have q8 : LRel S w (exSpot ι ids) N ob'.cells (cur'.toList.take ob'.cells.length) f2 := by
              rw [h3] at q7
              have key : ∀ {cs : List AV} {xs f}, cs.all AV.still = true → LRel S w ι O cs xs f → LRel S w (exSpot ι ids) N cs xs f := by
                intro cs
                induction cs with
                | nil => intro xs f _ hl; cases hl; exact .nil
                | cons c cs ih =>
                  intro xs f hs hl
                  simp only [List.all_cons, Bool.and_eq_true] at hs
                  obtain ⟨v, vs', f1, f2, rfl, hv, hr, rfl⟩ := hl.uncons
                  exact LRel.cons (still_any hv hs.1 N (fun _ h => h) (fun _ _ => rfl) (fun _ _ => rfl)) (ih hs.2 hr)
              exact key h4 q7
            refine ⟨cur', t', fz', f2, q1, q2, q3, by rw [← h3]; exact q4, q5, fun e he => ?_, q8⟩
            rcases h6 with h6 | h6
            · rw [h6] at he; cases he
            · exact q6 e (by rw [← h6]; exact he)
        · exact (h _ h1).elim
    · rcases hcase j with ⟨id, h, _, e2⟩ | ⟨_, _, e2⟩
      · rw [e2]; exact hr.objs.nodup id (hlt j id hj h)
      · rw [e2]; simp
    · rcases hcase i with ⟨id1, h1, _, e1⟩ | ⟨_, _, e1⟩ <;> rcases hcase j with ⟨id2, h2, _, e2⟩ | ⟨_, _, e2⟩ <;> rw [e1] at hb <;> rw [e2]
      · exact hr.objs.apart id1 id2 (hlt i id1 hi h1) (hlt j id2 hj h2) (fun e => hij (hids i j id1 h1 (e ▸ h2))) b hb
      · simp
      · simp at hb
      · simp
    · rcases hcase j with ⟨id, h, _, e2⟩ | ⟨_, _, e2⟩
      · rw [e2] at hb
        exact hr.foot id (hlt j id hj h) b hb
      · rw [e2] at hb; simp at hb
  cases h with
  | zero hN hnd hpre hex => exact ⟨_, run_results0 hfr, fin rfl hN hnd hpre hex (by simpa using LRel.tup LRel.nil LRel.nil)⟩
  | one h1 hN hnd hpre hex =>
    obtain ⟨v, hv, hV⟩ := ResV.rel hP hr h1
    exact ⟨v, run_results1 hfr hv, fin rfl hN hnd hpre hex hV⟩
  | two h1 h2 hN hnd hpre hex =>
    obtain ⟨v1, hv1, hV1⟩ := ResV.rel hP hr h1
    obtain ⟨v2, hv2, hV2⟩ := ResV.rel hP hr h2
    exact ⟨_, run_results2 hfr hv1 hv2, fin rfl hN hnd hpre hex (by simpa using LRel.tup (LRel.cons hV1 hV2) .nil)⟩
theorem FnG.of_body (hP : TabOk P tab) {f : FuncId} {fn : Func} {c : Code} {args : List AV} {M M' N : List AObj} {r : AV} {k : Nat} (hf : P.funcs[f]? = some fn) (hnt : fn.ntmps = k) (hb : fn.body = some c) (hnm : (fn.name == "runtime.NumGoroutine") = false)
    (hal : args.length ≤ k) (hml : M.length = m) (h : ∀ G, WpA P k m G c ⟨enumT 0 args, M⟩ (FinG tab m fn.results (M' ++ N) r)) : FnG P f args M M' N r := by
  refine ⟨⟨fn, hf, by rw [hb]; rfl, hnm⟩, fun w S ι F vs hS hg hO hF hl => ?_⟩
  have hvl : vs.length = args.length := hl.len.symm
  refine calls_of_wp hf hb ?_
  have hrel : Rel k m ⟨w, S, fun b => ∃ i, i < M.length ∧ b ∈ F i, ι, hg.ctx hS fun b ⟨i, hi, hb⟩ => (hF i hi b hb).1⟩ ⟨enumT 0 args, M⟩ { tmps := vs.toArray ++ Array.replicate (fn.ntmps - vs.toArray.size) undef, defers := [] } w := by
    refine ⟨S, ι, F, rfl, ?_, fun t => ?_, hO, fun id hid b hb => ⟨.inl ⟨id, hid, hb⟩, hF id hid b hb⟩, ⟨fun _ h => h, fun _ h => .inl h⟩, hS, Keeps.refl _ _, fun _ _ => rfl, by show m ≤ M.length; omega⟩
    · simp [hnt]; omega
    · show VRel S w ι M (look (enumT 0 args) t) _ []
      rw [look_enumT]
      simp only [Nat.zero_le, if_true, Nat.sub_zero]
      by_cases ht : t < args.length
      · obtain ⟨x, g, hx, hV, hg⟩ := hl.get (List.getElem?_eq_getElem ht)
        have hg0 : g = [] := List.eq_nil_iff_forall_not_mem.2 fun b hb => by simpa using hg b hb
        subst hg0
        have e1 : args.getD t .any = args[t] := by simp [ht]
        have e2 : (vs.toArray ++ Array.replicate (fn.ntmps - vs.toArray.size) undef).getD t undef = x := by
          have : t < vs.length := by omega
          rw [List.getElem?_eq_getElem this] at hx
          simp only [Option.some.injEq] at hx
          simp [Array.getD_eq_getD_getElem?, Array.getElem?_append, this, hx]
        rw [e1, e2]; exact hV
      · have e1 : args.getD t .any = .any := by simp [List.getElem?_eq_none (Nat.le_of_not_lt ht)]
        rw [e1]; exact .any .nil
  refine wp_mono (h _ _ _ hrel) fun e a' w' ⟨σ', hq, hr'⟩ => ?_
  have hdef : a'.defers = [] := by obtain ⟨_, _, _, h⟩ := hr'; exact h.defers
  have key : ∀ v S' ι' F', ((∀ b, S b → S' b) ∧ (∀ b, S' b → S b ∨ w.heap.size ≤ b) ∧ (∀ b, S' b → b < w'.heap.size) ∧ (∀ id, id < m → ι' id = ι id) ∧ ORel S' w' ι' (M' ++ N) F' ∧
      (∀ id, id < (M' ++ N).length → ∀ b ∈ F' id, ((∃ i, i < M.length ∧ b ∈ F i) ∨ w.heap.size ≤ b) ∧ ¬ S' b ∧ b < w'.heap.size) ∧ VRel S' w' ι' (M' ++ N) r v [] ∧ Keeps w (fun b => ∃ i, i < M.length ∧ b ∈ F i) w') →
      ∃ v' S' ι' F', Ending.returned v = .returned v' ∧ (∀ b, S b → S' b) ∧ (∀ b, S' b → S b ∨ w.heap.size ≤ b) ∧ (∀ b, S' b → b < w'.heap.size) ∧ (∀ id, id < M.length → ι' id = ι id) ∧ ORel S' w' ι' (M' ++ N) F' ∧
      (∀ id, id < (M' ++ N).length → ∀ b ∈ F' id, ((∃ i, i < M.length ∧ b ∈ F i) ∨ w.heap.size ≤ b) ∧ ¬ S' b ∧ b < w'.heap.size) ∧ VRel S' w' ι' (M' ++ N) r v' [] ∧ Keeps w (fun b => ∃ i, i < M.length ∧ b ∈ F i) w' :=
    fun v S' ι' F' ⟨q1, q2, q3, q4, q5⟩ => ⟨v, S', ι', F', rfl, q1, q2, q3, by rw [hml]; exact q4, q5⟩
  cases e with
  | normal =>
    obtain ⟨v, hv, S', ι', F', q⟩ := ResG.out hP rfl hq hr'
    exact ⟨hdef, v, hv, key v S' ι' F' q⟩
  | ret =>
    obtain ⟨v, hv, S', ι', F', q⟩ := ResG.out hP rfl hq hr'
    exact ⟨hdef, v, hv, key v S' ι' F' q⟩
  | _ => exact hq.elim
end
end Go.Abs


namespace Go.Abs
open Go
def findN : List Nat → Nat → Nat → Option Nat
  | [], _, _ => none
  | h :: hs, i, k => match Nat.beq h i with
    | true => some k
    | false => findN hs i (k + 1)
theorem findN_some : ∀ {hs : List Nat} {i k j : Nat}, findN hs i k = some j → ∃ q, j = k + q ∧ hs[q]? = some i
  | [], _, _, _, h => by simp [findN] at h
  | a :: hs, i, k, j, h => by
    rw [findN] at h
    cases hb : Nat.beq a i with
    | true => rw [hb] at h; cases h; exact ⟨0, rfl, by simp [Nat.eq_of_beq_eq_true hb]⟩
    | false =>
      rw [hb] at h
      obtain ⟨q, h1, h2⟩ := findN_some h
      exact ⟨q + 1, by omega, by simpa using h2⟩
theorem findN_none : ∀ {hs : List Nat} {i k : Nat}, findN hs i k = none → i ∉ hs
  | [], _, _, _ => by simp
  | a :: hs, i, k, h => by
    rw [findN] at h
    cases hb : Nat.beq a i with
    | true => rw [hb] at h; cases h
    | false =>
      rw [hb] at h
      have h1 : a ≠ i := by rintro rfl; rw [Nat.beq_refl] at hb; cases hb
      have := findN_none h
      simp only [List.mem_cons, not_or]
      exact ⟨fun e => h1 e.symm, this⟩
inductive SnapX (O : List AObj) (hs : List Nat) : List AV → List AV → Prop
  | nil : SnapX O hs [] []
  | any {V vs us} : SnapX O hs vs us → SnapX O hs (V :: vs) (.any :: us)
  | keep {V vs us} : V.still = true → V.nofre = true → SnapX O hs vs us → SnapX O hs (V :: vs) (V :: us)
  | nilI {s vs us} : SnapX O hs vs us → SnapX O hs (.nilS :: vs) (.imm s 0 [] :: us)
  | own {id ep len len' sz ob es vs us} : findN hs id 0 = none → O[id]? = some ob → ob.ep = ep → ob.size = sz → len * ob.size = ob.cells.length → len = len' → SnapX O hs ob.cells es → SnapX O hs vs us → SnapX O hs (.own id ep 0 len :: vs) (.imm sz len' es :: us)
  | fre {s l ds es vs us} : SnapX O hs ds es → SnapX O hs vs us → SnapX O hs (.fre s l ds :: vs) (.imm s l es :: us)
  | ptr {id ep off ob es vs us} : findN hs id 0 = none → O[id]? = some ob → ob.ep = ep → SnapX O hs ob.cells es → SnapX O hs vs us → SnapX O hs (.ptr id ep off :: vs) (.iptr es off :: us)
  | agg {ds es vs us} : SnapX O hs ds es → SnapX O hs vs us → SnapX O hs (.agg ds :: vs) (.agg es :: us)
  | fn {f ds es vs us} : SnapX O hs ds es → SnapX O hs vs us → SnapX O hs (.fn f ds :: vs) (.fn f es :: us)
theorem SnapX.same {O : List AObj} {hs : List Nat} {cs cs' : List AV} (h : cs = cs') (hs' : cs'.all AV.still = true) (hf : cs'.all AV.nofre = true) : SnapX O hs cs cs' := by
  subst h
  induction cs with
  | nil => exact .nil
  | cons c cs ih =>
    simp only [List.all_cons, Bool.and_eq_true] at hs' hf
    exact .keep hs'.1 hf.1 (ih hs'.2 hf.2)
theorem SnapX.rel {O : List AObj} {hs : List Nat} {S S2 : Nat → Prop} {w ι ιM} {F : Nat → List Nat} (ho : ORel S w ι O F) (hS : ∀ b, S b → S2 b) (hS2 : ∀ b, b < w.heap.size → (∀ id ∈ hs, b ∉ F id) → S2 b) (hlt : ∀ id ∈ hs, id < O.length) {vs us : List AV} (h : SnapX O hs vs us) :
    ∀ {xs f}, LRel S w ι O vs xs f → (∀ b ∈ f, ∀ id ∈ hs, b ∉ F id) → LRel S2 w ιM [] us xs [] := by
  have blk : ∀ {b : Nat} {o : Obj}, w.heap[b]? = some o → b < w.heap.size := fun h => (Array.getElem?_eq_some_iff.1 h).1
  have apt : ∀ {id : Nat} {ob : AObj}, O[id]? = some ob → findN hs id 0 = none → ∀ b ∈ F id, ∀ id' ∈ hs, b ∉ F id' := fun {id ob} h1 h2 b hb id' hid' => by
    have hne : id ≠ id' := by rintro rfl; exact findN_none h2 hid'
    exact ho.apart id id' (List.getElem?_eq_some_iff.1 h1).1 (hlt id' hid') hne b hb
  induction h with
  | nil => intro xs f hl _; cases hl; exact .nil
  | any _ ih =>
    intro xs f hl hf
    obtain ⟨v, vs', f1, f2, rfl, hv, hr, rfl⟩ := hl.uncons
    exact .any (ih hr fun b hb => hf b (List.mem_append_right _ hb))
  | keep hs hn _ ih =>
    intro xs f hl hf
    obtain ⟨v, vs', f1, f2, rfl, hv, hr, rfl⟩ := hl.uncons
    have := nofre_nil hv hn
    subst this
    have := LRel.cons (still_any hv hs [] hS (fun _ _ => rfl) (by simp)) (ih hr fun b hb => hf b (List.mem_append_right _ hb))
    simpa using this
  | fn _ _ ih1 ih2 =>
    intro xs f hl hf
    obtain ⟨v, vs', f1, f2, rfl, hv, hr, rfl⟩ := hl.uncons
    cases hv with | fn a r => cases r; exact .fn (ih1 a (by simp)) (ih2 hr fun b hb => hf b (List.mem_append_right _ hb))
  | nilI _ ih =>
    intro xs f hl hf
    obtain ⟨v, vs', f1, f2, rfl, hv, hr, rfl⟩ := hl.uncons
    have := (LRel.slice_len hv).2.2 rfl
    subst this
    exact .imm0 (by simp) (ih hr fun b hb => hf b (List.mem_append_right _ hb))
  | @own id ep len len' sz ob es vs us hnf hob hep hsz hlen hll _ _ ih1 ih2 =>
    intro xs f hl hf
    subst hll hsz
    obtain ⟨v, vs', f1, f2, rfl, hv, hr, rfl⟩ := hl.uncons
    have hr2 := ih2 hr fun b hb => hf b (List.mem_append_right _ hb)
    have hoa := ho.obj id ob hob
    unfold ObjAt at hoa
    cases hv with
    | own q1 q2 q3 r =>
      rw [hob] at q1; cases q1
      have hc := q3 hep.symm
      cases hs : ι id with
      | none =>
        rw [hs] at hc hoa
        obtain ⟨h1, _, h3⟩ := hc
        subst h1; subst h3
        have : es = [] := by
          have := ih1 (xs := []) (f := []) (by rw [hoa.1]; exact .nil) (by simp)
          cases this; rfl
        subst this
        exact .imm0 (by simp) hr2
      | some p =>
        obtain ⟨b, k⟩ := p
        rw [hs] at hc hoa
        obtain ⟨cap, h1, _, h3, h4⟩ := hc
        obtain ⟨cur, t, fz, f', hF, hh, _, _, _, _, hl'⟩ := hoa
        subst h1
        have hap := apt hob hnf
        rw [hF] at hap
        have hi := ih1 hl' fun b hb => hap b (by simp [hb])
        refine .imm (us := cur.toList.take ob.cells.length) (hS2 _ (blk hh) (hap b (by simp))) (fun i hi => cell_of_heap hh _ i hi) ?_ ?_ h3 h4 hr2
        · exact hi
        · rw [hlen, hl'.len, hi.len]
  | @fre s l ds es vs us _ _ ih1 ih2 =>
    intro xs f hl hf
    obtain ⟨v, vs', f1, f2, rfl, hv, hr, rfl⟩ := hl.uncons
    have hr2 := ih2 hr fun b hb => hf b (List.mem_append_right _ hb)
    cases hv with
    | fre0 r =>
      have := ih1 (xs := []) (f := []) .nil (by simp)
      cases this
      exact .imm0 (by simp) hr2
    | @fre _ _ b _ cap cur t fz _ us' f' _ _ _ hh0 hsz hu hl' h1 h2 h3 r =>
      have hh := hh0.1
      have hi := ih1 hl'.lift fun b hb => hf b (by simp [hb])
      subst hu
      refine .imm (us := cur.toList.take ds.length) (hS2 _ (blk hh) (hf b (by simp))) (fun i hi => cell_of_heap hh _ i hi) hi ?_ h2 h3 hr2
      rw [h1, hl'.len, hi.len]
  | @ptr id ep off ob es vs us hnf hob hep _ _ ih1 ih2 =>
    intro xs f hl hf
    obtain ⟨v, vs', f1, f2, rfl, hv, hr, rfl⟩ := hl.uncons
    have hr2 := ih2 hr fun b hb => hf b (List.mem_append_right _ hb)
    have hoa := ho.obj id ob hob
    unfold ObjAt at hoa
    cases hv with
    | ptr q1 q2 q3 r =>
      rw [hob] at q1; cases q1
      have hc := q3 hep.symm
      cases hs : ι id with
      | none => rw [hs] at hc; exact hc.elim
      | some p =>
        obtain ⟨b, k⟩ := p
        rw [hs] at hc hoa
        obtain ⟨cur, t, fz, f', hF, hh, _, _, _, _, hl'⟩ := hoa
        have h1 : _ = Value.pointer (some ⟨b, off, none⟩) := hc
        subst h1
        have hap := apt hob hnf
        rw [hF] at hap
        have := LRel.iptr (O := []) (ι := ιM) (off := off) (S := S2) (us := cur.toList.take ob.cells.length) (hS2 _ (blk hh) (hap b (by simp))) (fun i hi => cell_of_heap hh _ i hi) (ih1 hl' fun b hb => hap b (by simp [hb])) hr2
        rwa [Nat.zero_add] at this
  | agg _ _ ih1 ih2 =>
    intro xs f hl hf
    obtain ⟨v, vs', f1, f2, rfl, hv, hr, rfl⟩ := hl.uncons
    obtain ⟨us', rfl, ha⟩ := LRel.agg_inv hv
    have := LRel.agg (ih1 ha fun b hb => hf b (List.mem_append_left _ hb)) (ih2 hr fun b hb => hf b (List.mem_append_right _ hb))
    simpa using this
inductive Hand (O : List AObj) (hs : List Nat) : List AV → List AV → Prop
  | nil : Hand O hs [] []
  | any {V vs us} : Hand O hs vs us → Hand O hs (V :: vs) (.any :: us)
  | keep {V vs us} : V.still = true → V.nofre = true → Hand O hs vs us → Hand O hs (V :: vs) (V :: us)
  | own {id ep off len len' j ob vs us} : hs[j]? = some id → O[id]? = some ob → ob.ep = ep → len = len' → Hand O hs vs us → Hand O hs (.own id ep off len :: vs) (.own j 0 off len' :: us)
  | ptr {id ep off j ob vs us} : hs[j]? = some id → O[id]? = some ob → ob.ep = ep → Hand O hs vs us → Hand O hs (.ptr id ep off :: vs) (.ptr j 0 off :: us)
  | agg {ds es vs us} : Hand O hs ds es → Hand O hs vs us → Hand O hs (.agg ds :: vs) (.agg es :: us)
  | snap {V U vs us} : SnapX O hs [V] [U] → Hand O hs vs us → Hand O hs (V :: vs) (U :: us)
inductive HandO (O : List AObj) : List Nat → List AObj → Prop
  | nil : HandO O [] []
  | cons {id hs ob mb M} : O[id]? = some ob → ob.cells = mb.cells → mb.cells.all AV.still = true → mb.ep = 0 → mb.size = ob.size → (mb.ty = none ∨ mb.ty = ob.ty) → HandO O hs M → HandO O (id :: hs) (mb :: M)
theorem HandO.at {O hs M} (h : HandO O hs M) : hs.length = M.length ∧ ∀ (j : Nat) (mb : AObj), M[j]? = some mb → ∃ id ob, hs[j]? = some id ∧ O[id]? = some ob ∧ ob.cells = mb.cells ∧ mb.cells.all AV.still = true ∧ mb.ep = 0 ∧ mb.size = ob.size ∧ (mb.ty = none ∨ mb.ty = ob.ty) := by
  induction h with
  | nil => exact ⟨rfl, by simp⟩
  | cons h1 h2 h3 h4 h5 h6 _ ih =>
    refine ⟨by simp [ih.1], fun j mb hj => ?_⟩
    cases j with
    | zero => simp at hj; subst hj; exact ⟨_, _, by simp, h1, h2, h3, h4, h5, h6⟩
    | succ j => simpa using ih.2 j mb (by simpa using hj)
def newOb (hs : List Nat) (M' : List AObj) (i : Nat) (ob : AObj) : AObj := match findN hs i 0 with
  | none => ob
  | some j => match M'[j]? with
    | none => ob
    | some mb => ⟨mb.cells, ob.ep, mb.size, mb.ty⟩
def newO (hs : List Nat) (M' : List AObj) : Nat → List AObj → List AObj
  | _, [] => []
  | k, ob :: O => newOb hs M' k ob :: newO hs M' (k + 1) O
theorem newO_len (hs : List Nat) (M' : List AObj) : ∀ (k : Nat) (O : List AObj), (newO hs M' k O).length = O.length
  | _, [] => rfl
  | k, _ :: O => by simp [newO, newO_len hs M' (k + 1) O]
theorem newO_at (hs : List Nat) (M' : List AObj) : ∀ (k : Nat) (O : List AObj) (i : Nat), (newO hs M' k O)[i]? = (O[i]?).map (newOb hs M' (k + i))
  | _, [], i => by simp [newO]
  | k, ob :: O, 0 => by simp [newO]
  | k, ob :: O, i + 1 => by rw [newO, List.getElem?_cons_succ, List.getElem?_cons_succ, newO_at hs M' (k + 1) O i]; congr 2; omega
def obF (hs : List Nat) (M' : List AObj) (i : Nat) (ob : AObj) : Option AObj := match findN hs i 0 with
  | none => match ob with
    | ⟨c, e, z, t⟩ => some ⟨c, e, z, t⟩
  | some j => match M'[j]? with
    | none => none
    | some ⟨c, _, z, t⟩ => match ob with
      | ⟨_, e, _, _⟩ => some ⟨c, e, z, t⟩
theorem obF_eq {hs : List Nat} {M' : List AObj} {i : Nat} {ob x : AObj} (h : obF hs M' i ob = some x) : newOb hs M' i ob = x := by
  unfold obF at h; unfold newOb
  cases hf : findN hs i 0 with
  | none => rw [hf] at h; exact Option.some.inj h
  | some j =>
    rw [hf] at h
    simp only at h ⊢
    cases hm : M'[j]? with
    | none => rw [hm] at h; cases h
    | some mb => rw [hm] at h; exact Option.some.inj h
def newF (hs : List Nat) (M' : List AObj) : Nat → List AObj → List AObj → Option (List AObj)
  | _, [], N => flatO N
  | k, ob :: O, N => match obF hs M' k ob with
    | none => none
    | some x => match newF hs M' (k + 1) O N with
      | none => none
      | some r => some (x :: r)
theorem newF_eq {hs : List Nat} {M' : List AObj} : ∀ {k : Nat} {O N O2 : List AObj}, newF hs M' k O N = some O2 → newO hs M' k O ++ N = O2
  | _, [], N, O2, h => by rw [newF] at h; rw [newO]; exact flatO_eq h
  | k, ob :: O, N, O2, h => by
    rw [newF] at h
    cases hx : obF hs M' k ob with
    | none => rw [hx] at h; cases h
    | some x =>
      rw [hx] at h
      cases hr : newF hs M' (k + 1) O N with
      | none => simp only [hr] at h; cases h
      | some r => simp only [hr] at h; rw [newO, obF_eq hx, List.cons_append, newF_eq hr]; exact Option.some.inj h
mutual
def AV.reF (m base : Nat) : AV → Option AV
  | .own id ep off len => match Nat.ble m id with
    | true => some (.own (id - m + base) ep off len)
    | false => none
  | .agg ds => match AV.reFL m base ds with
    | some r => some (.agg r)
    | none => none
  | .tup ds => match AV.reFL m base ds with
    | some r => some (.tup r)
    | none => none
  | .any => some .any
  | .sc v => some (.sc v)
  | .nilS => some .nilS
  | .imm s 0 [] => some (.imm s 0 [])
  | _ => none
def AV.reFL (m base : Nat) : List AV → Option (List AV)
  | [] => some []
  | V :: Vs => match AV.reF m base V with
    | none => none
    | some W => match AV.reFL m base Vs with
      | some r => some (W :: r)
      | none => none
end
section
variable {S S3 : Nat → Prop} {w : World} {ι ι3 : Nat → Spot} {O O3 : List AObj} {m base : Nat}
mutual
theorem AV.reF_rel (hι : ∀ id, m ≤ id → ι3 (id - m + base) = ι id) (hO : ∀ id ob, m ≤ id → O[id]? = some ob → O3[id - m + base]? = some ob) : ∀ (V W : AV), V.reF m base = some W → ∀ {x f}, VRel S w ι O V x f → VRel S3 w ι3 O3 W x f
  | .own id ep off len, W, h, x, f, hv => by
    rw [AV.reF] at h
    cases hb : Nat.ble m id with
    | false => rw [hb] at h; cases h
    | true =>
      rw [hb] at h; cases h
      have hle := Nat.le_of_ble_eq_true hb
      cases hv with | own a b c r => cases r; exact .own (hO _ _ hle a) b (fun e => by rw [hι _ hle]; exact c e) .nil
  | .agg ds, W, h, x, f, hv => by
    rw [AV.reF] at h
    cases hr : AV.reFL m base ds with
    | none => rw [hr] at h; cases h
    | some r =>
      rw [hr] at h; cases h
      cases hv with | agg a r' => cases r'; exact .agg (AV.reFL_rel hι hO ds r hr a) .nil
  | .tup ds, W, h, x, f, hv => by
    rw [AV.reF] at h
    cases hr : AV.reFL m base ds with
    | none => rw [hr] at h; cases h
    | some r =>
      rw [hr] at h; cases h
      cases hv with | tup a r' => cases r'; exact .tup (AV.reFL_rel hι hO ds r hr a) .nil
  | .any, W, h, x, f, hv => by rw [AV.reF] at h; cases h; cases hv with | any r => cases r; exact .any .nil
  | .sc _, W, h, x, f, hv => by rw [AV.reF] at h; cases h; cases hv with | sc r => cases r; exact .sc .nil
  | .nilS, W, h, x, f, hv => by rw [AV.reF] at h; cases h; cases hv with | nilS r => cases r; exact .nilS .nil
  | .imm s l cs, W, h, x, f, hv => by
    match l, cs, h, hv with
    | 0, [], h, hv =>
      rw [AV.reF] at h; cases h
      cases hv with
      | imm0 h0 r => cases r; exact .imm0 h0 .nil
      | imm a b c d e f r => cases r; exact .imm0 ⟨fun h => (by cases h), f⟩ .nil
    | l + 1, cs, h, hv => simp [AV.reF] at h
    | 0, c :: cs, h, hv => simp [AV.reF] at h
  | .fre _ _ _, W, h, x, f, hv => by simp [AV.reF] at h
  | .ptr _ _ _, W, h, x, f, hv => by simp [AV.reF] at h
  | .iptr _ _, W, h, x, f, hv => by simp [AV.reF] at h
  | .fn _ _, W, h, x, f, hv => by simp [AV.reF] at h
  | .ifc _ _, W, h, x, f, hv => by simp [AV.reF] at h
theorem AV.reFL_rel (hι : ∀ id, m ≤ id → ι3 (id - m + base) = ι id) (hO : ∀ id ob, m ≤ id → O[id]? = some ob → O3[id - m + base]? = some ob) : ∀ (Vs Ws : List AV), AV.reFL m base Vs = some Ws → ∀ {xs f}, LRel S w ι O Vs xs f → LRel S3 w ι3 O3 Ws xs f
  | [], Ws, h, xs, f, hl => by rw [AV.reFL] at h; cases h; cases hl; exact .nil
  | V :: Vs, Ws, h, xs, f, hl => by
    rw [AV.reFL] at h
    cases hv : AV.reF m base V with
    | none => rw [hv] at h; cases h
    | some W =>
      rw [hv] at h
      cases hr : AV.reFL m base Vs with
      | none => simp only [hr] at h; cases h
      | some r =>
        simp only [hr] at h; cases h
        obtain ⟨v, vs', f1, f2, rfl, hv1, hr1, rfl⟩ := hl.uncons
        exact LRel.cons (AV.reF_rel hι hO V W hv hv1) (AV.reFL_rel hι hO Vs r hr hr1)
end
end
theorem still_all {S w ι O S' w' ι' O'} : ∀ {cs : List AV} {xs f}, cs.all AV.still = true → LRel S w ι O cs xs f → (∀ b, S b → S' b) → (∀ b, S b → w'.heap[b]? = w.heap[b]?) → (∀ b ∈ f, w'.heap[b]? = w.heap[b]?) → LRel S' w' ι' O' cs xs f := by
  intro cs
  induction cs with
  | nil => intro xs f _ hl _ _ _; cases hl; exact .nil
  | cons c cs ih =>
    intro xs f hs hl h1 h2 h3
    simp only [List.all_cons, Bool.and_eq_true] at hs
    obtain ⟨v, vs', f1, f2, rfl, hv, hr, rfl⟩ := hl.uncons
    exact LRel.cons (still_any hv hs.1 O' h1 h2 fun b hb => h3 b (by simp [hb])) (ih hs.2 hr h1 h2 fun b hb => h3 b (by simp [hb]))
theorem Hand.rel {O : List AObj} {hs : List Nat} {M : List AObj} {S S2 : Nat → Prop} {w ι ιM} (hM : HandO O hs M) (hι : ∀ (j id : Nat), hs[j]? = some id → ιM j = ι id) (hS : ∀ b, S b → S2 b) {F : Nat → List Nat} (hO : ORel S w ι O F) (hS2 : ∀ b, b < w.heap.size → (∀ id ∈ hs, b ∉ F id) → S2 b) (hlt : ∀ id ∈ hs, id < O.length) {vs us} (h : Hand O hs vs us) : ∀ {xs f}, LRel S w ι O vs xs f → (∀ b ∈ f, ∀ id ∈ hs, b ∉ F id) → ∃ f', LRel S2 w ιM M us xs f' ∧ (∀ b ∈ f', b ∈ f) := by
  induction h with
  | nil => intro xs f hl _; cases hl; exact ⟨[], .nil, by simp⟩
  | any _ ih =>
    intro xs f hl hfn
    obtain ⟨v, vs', f1, f2, rfl, hv, hr, rfl⟩ := hl.uncons
    obtain ⟨f', h1, h2⟩ := ih hr fun b hb => hfn b (List.mem_append_right _ hb)
    exact ⟨f', .any h1, fun b hb => List.mem_append_right _ (h2 b hb)⟩
  | keep hs hn _ ih =>
    intro xs f hl hfn
    obtain ⟨v, vs', f1, f2, rfl, hv, hr, rfl⟩ := hl.uncons
    have := nofre_nil hv hn
    subst this
    obtain ⟨f', h1, h2⟩ := ih hr fun b hb => hfn b (List.mem_append_right _ hb)
    exact ⟨f', by simpa using LRel.cons (still_any hv hs M hS (fun _ _ => rfl) (by simp)) h1, fun b hb => List.mem_append_right _ (h2 b hb)⟩
  | @own id ep off len len' j ob vs us hj ho he hln _ ih =>
    intro xs f hl hfn
    subst hln
    obtain ⟨v, vs', f1, f2, rfl, hv, hr, rfl⟩ := hl.uncons
    obtain ⟨f', h1, h2⟩ := ih hr fun b hb => hfn b (List.mem_append_right _ hb)
    refine ⟨f', ?_, fun b hb => List.mem_append_right _ (h2 b hb)⟩
    cases hv with
    | own q1 q2 q3 r =>
      rw [ho] at q1; cases q1
      have hjl : j < M.length := by rw [← hM.at.1]; exact (List.getElem?_eq_some_iff.1 hj).1
      obtain ⟨id', ob', e1, e2, _, _, e5, e6, _⟩ := hM.at.2 j _ (List.getElem?_eq_getElem hjl)
      rw [hj] at e1; cases e1
      rw [ho] at e2; cases e2
      exact .own (List.getElem?_eq_getElem hjl) (by omega) (fun _ => by rw [hι j _ hj, e6]; exact q3 he.symm) h1
  | @ptr id ep off j ob vs us hj ho he _ ih =>
    intro xs f hl hfn
    obtain ⟨v, vs', f1, f2, rfl, hv, hr, rfl⟩ := hl.uncons
    obtain ⟨f', h1, h2⟩ := ih hr fun b hb => hfn b (List.mem_append_right _ hb)
    refine ⟨f', ?_, fun b hb => List.mem_append_right _ (h2 b hb)⟩
    cases hv with
    | ptr q1 q2 q3 r =>
      rw [ho] at q1; cases q1
      have hjl : j < M.length := by rw [← hM.at.1]; exact (List.getElem?_eq_some_iff.1 hj).1
      obtain ⟨id', ob', e1, e2, _, _, e5, e6, _⟩ := hM.at.2 j _ (List.getElem?_eq_getElem hjl)
      rw [hj] at e1; cases e1
      rw [ho] at e2; cases e2
      exact .ptr (List.getElem?_eq_getElem hjl) (by omega) (fun _ => by rw [hι j _ hj]; exact q3 he.symm) h1
  | agg _ _ ih1 ih2 =>
    intro xs f hl hfn
    obtain ⟨v, vs', f1, f2, rfl, hv, hr, rfl⟩ := hl.uncons
    obtain ⟨us', rfl, ha⟩ := LRel.agg_inv hv
    obtain ⟨g', a1, a2⟩ := ih1 ha fun b hb => hfn b (List.mem_append_left _ hb)
    obtain ⟨f', h1, h2⟩ := ih2 hr fun b hb => hfn b (List.mem_append_right _ hb)
    refine ⟨g' ++ f', .agg a1 h1, fun b hb => ?_⟩
    rcases List.mem_append.1 hb with hb | hb
    · exact List.mem_append_left _ (a2 b hb)
    · exact List.mem_append_right _ (h2 b hb)
  | snap hx _ ih =>
    intro xs f hl hfn
    obtain ⟨v, vs', f1, f2, rfl, hv, hr, rfl⟩ := hl.uncons
    obtain ⟨f', h1, h2⟩ := ih hr fun b hb => hfn b (List.mem_append_right _ hb)
    have := SnapX.rel (ιM := ιM) hO hS hS2 hlt hx hv fun b hb => hfn b (List.mem_append_left _ hb)
    exact ⟨[] ++ f', LRel.cons this.lift h1, fun b hb => List.mem_append_right _ (h2 b (by simpa using hb))⟩
section
variable {P : Program} {n m : Nat} {G : Ctx} {T : List (Nat × AV)} {O : List AObj} {Q : Exit → St → Prop} {ops : Array Oper} {l : List Oper} {tt : TypeId} {pos : String} {after : Array Edge} {tab : List (Nat × Ty)}
theorem nodup_get {hs : List Nat} (h : hs.Nodup) {i j id : Nat} (h1 : hs[i]? = some id) (h2 : hs[j]? = some id) : i = j :=
  (List.getElem?_inj (List.getElem?_eq_some_iff.1 h1).1 h).1 (h1.trans h2.symm)
theorem callG_rel {f : FuncId} {xs : List Operand} {As : List AV} {M M' N : List AObj} {r r' : AV} {hs : List Nat} (hc : FnG P f As M M' N r) (hh : Hand O hs (xs.map (av T)) As) (hM : HandO O hs M) (hnd : hs.Nodup) (hlen : M'.length = M.length)
    (hsz : ∀ (j : Nat) (a b : AObj), M[j]? = some a → M'[j]? = some b → b.size = a.size) (hM' : Out M') (hN : Out N) (hre : r.reF M.length O.length = some r') {a : Act} {w : World} (hr : Rel n m G ⟨T, O⟩ a w) :
    Calls P f (xs.map a.eval).toArray w fun e w' => ∃ v, e = .returned v ∧ ∃ S ι F, RelAt n m G S ι F ⟨T, newO hs M' 0 O ++ N⟩ a w' ∧ VRel S w' ι (newO hs M' 0 O ++ N) r' v [] := by
  obtain ⟨S, ι, F, hr⟩ := hr
  obtain ⟨⟨fn, hf, hb, hnm⟩, hcall⟩ := hc
  obtain ⟨hlM, hatM⟩ := hM.at
  let S2 : Nat → Prop := fun b => b < w.heap.size ∧ ∀ id ∈ hs, b ∉ F id
  let ιM : Nat → Spot := fun j => match hs[j]? with | some id => ι id | none => none
  let FM : Nat → List Nat := fun j => match hs[j]? with | some id => F id | none => []
  have hιM : ∀ (j id : Nat), hs[j]? = some id → ιM j = ι id := fun j id h => by show (match hs[j]? with | some id => ι id | none => none) = _; rw [h]
  have hFM : ∀ (j id : Nat), hs[j]? = some id → FM j = F id := fun j id h => by show (match hs[j]? with | some id => F id | none => []) = _; rw [h]
  have hidl : ∀ (j id : Nat), hs[j]? = some id → id < O.length := fun j id h => by
    have hj : j < M.length := by rw [← hlM]; exact (List.getElem?_eq_some_iff.1 h).1
    obtain ⟨id', ob, e1, e2, _⟩ := hatM j _ (List.getElem?_eq_getElem hj)
    rw [h] at e1; cases e1; exact (List.getElem?_eq_some_iff.1 e2).1
  have hmem : ∀ id ∈ hs, ∃ j, j < M.length ∧ hs[j]? = some id := fun id h => by
    obtain ⟨j, hj, e⟩ := List.getElem_of_mem h
    exact ⟨j, by omega, by rw [List.getElem?_eq_getElem hj, e]⟩
  have hex : ∀ j, j < M.length → ∃ id, hs[j]? = some id := fun j hj => ⟨hs[j], List.getElem?_eq_getElem (by omega)⟩
  have hSS : ∀ b, S b → S2 b := fun b hb => ⟨hr.stable b hb, fun id hid hbf => by
    obtain ⟨j, hj, e⟩ := hmem id hid
    exact (hr.foot id (hidl j id e) b hbf).2.1 hb⟩
  have hOM : ORel S2 w ιM M FM := by
    refine ⟨fun j mb hj => ?_, fun j hj => ?_, fun i j hi hj hij b hb => ?_⟩
    · obtain ⟨id, ob, e1, e2, e3, e4, e5, e6, e7⟩ := hatM j mb hj
      rw [hιM j id e1, hFM j id e1]
      have ho := hr.objs.obj id ob e2
      unfold ObjAt at ho ⊢
      cases hs' : ι id with
      | none => rw [hs'] at ho; rw [← e3]; exact ho
      | some p =>
        obtain ⟨b, k⟩ := p
        rw [hs'] at ho
        obtain ⟨cur', t', fz', f2, q1, q2, q3, q4, q5, q6, q7⟩ := ho
        refine ⟨cur', t', fz', f2, q1, q2, q3, by rw [← e3]; exact q4, q5, fun e he => ?_, ?_⟩
        · rcases e7 with e7 | e7
          · rw [e7] at he; cases he
          · exact q6 e (by rw [← e7]; exact he)
        · rw [← e3]
          exact still_all (by rw [e3]; exact e4) q7 hSS (fun _ _ => rfl) (fun _ _ => rfl)
    · obtain ⟨id, e⟩ := hex j hj
      rw [hFM j id e]; exact hr.objs.nodup id (hidl j id e)
    · obtain ⟨id1, e1⟩ := hex i hi
      obtain ⟨id2, e2⟩ := hex j hj
      rw [hFM i id1 e1] at hb; rw [hFM j id2 e2]
      exact hr.objs.apart id1 id2 (hidl i id1 e1) (hidl j id2 e2) (fun e => hij (nodup_get hnd e1 (e ▸ e2))) b hb
  have hl := hr.evals xs
  obtain ⟨f', hl2, hf'⟩ := hh.rel (S2 := S2) (ιM := ιM) hM hιM hSS hr.objs (fun b h1 h2 => ⟨h1, h2⟩) (fun id hid => by obtain ⟨j, hj, e⟩ := hmem id hid; exact hidl j id e) hl (by simp)
  have hf0 : f' = [] := List.eq_nil_iff_forall_not_mem.2 fun b hb => by simpa using hf' b hb
  subst hf0
  refine (hcall w S2 ιM FM (xs.map a.eval) (fun b h => h.1) (hr.glb.mono hSS) hOM (fun j hj b hb => ?_) hl2).mono fun e w' he => ?_
  · obtain ⟨id, e⟩ := hex j hj
    rw [hFM j id e] at hb
    exact ⟨fun h => h.2 id (List.mem_of_getElem? e) hb, (hr.foot id (hidl j id e) b hb).2.2⟩
  obtain ⟨v, S', ι', F', rfl, hS1, hS2, hS3, hι', hO', hF', hv, hk⟩ := he
  refine ⟨v, rfl, ?_⟩
  have hold : ∀ b, b < w.heap.size → (∀ id ∈ hs, b ∉ F id) → w'.heap[b]? = w.heap[b]? := fun b hb hn => hk.block b hb (by
    rintro ⟨i, hi, hbf⟩
    obtain ⟨id, e⟩ := hex i hi
    rw [hFM i id e] at hbf
    exact hn id (List.mem_of_getElem? e) hbf)
  let S3 : Nat → Prop := fun b => S b ∨ (S' b ∧ w.heap.size ≤ b)
  let ι3 : Nat → Spot := fun i => if i < O.length then ι i else ι' (M.length + (i - O.length))
  let F3 : Nat → List Nat := fun i => if i < O.length then (match findN hs i 0 with | some j => F' j | none => F i) else F' (M.length + (i - O.length))
  let O3 := newO hs M' 0 O ++ N
  have hl3 : (newO hs M' 0 O).length = O.length := newO_len hs M' 0 O
  have hO3lt : ∀ i, i < O.length → O3[i]? = (O[i]?).map (newOb hs M' i) := fun i hi => by
    show (newO hs M' 0 O ++ N)[i]? = _
    rw [List.getElem?_append_left (by omega), newO_at, Nat.zero_add]
  have hO3ge : ∀ i, O.length ≤ i → O3[i]? = N[i - O.length]? := fun i hi => by
    show (newO hs M' 0 O ++ N)[i]? = _
    rw [List.getElem?_append_right (by omega), hl3]
  have hob : ∀ i ob, O[i]? = some ob → (newOb hs M' i ob).ep = ob.ep ∧ (newOb hs M' i ob).size = ob.size := fun i ob h => by
    unfold newOb
    cases hfd : findN hs i 0 with
    | none => exact ⟨rfl, rfl⟩
    | some j =>
      cases hmj : M'[j]? with
      | none => exact ⟨by simp [hmj], by simp [hmj]⟩
      | some mb =>
        obtain ⟨q, rfl, hq⟩ := findN_some hfd
        rw [Nat.zero_add] at hmj
        have hqm : q < M.length := by rw [← hlM]; exact (List.getElem?_eq_some_iff.1 hq).1
        obtain ⟨id', ob', e1, e2, _, _, _, e6, _⟩ := hatM q _ (List.getElem?_eq_getElem hqm)
        rw [hq] at e1; cases e1
        rw [h] at e2; cases e2
        simp only [Nat.zero_add, hmj, true_and]
        exact (hsz q _ _ (List.getElem?_eq_getElem hqm) hmj).trans e6
  have hlat : Later S w ι O S3 w' ι3 O3 := by
    refine ⟨fun b h => .inl h, fun b hb => hold b (hr.stable b hb) (hSS b hb).2, fun id ob h => ?_⟩
    have hlt : id < O.length := (List.getElem?_eq_some_iff.1 h).1
    obtain ⟨h1, h2⟩ := hob id ob h
    exact ⟨newOb hs M' id ob, by rw [hO3lt id hlt, h]; rfl, .inr ⟨h1, h2, by show (if _ then _ else _) = _; rw [if_pos hlt]⟩⟩
  have hF3f : ∀ (i j : Nat), i < O.length → findN hs i 0 = some j → F3 i = F' j := fun i j hi h => by show (if _ then _ else _) = _; rw [if_pos hi, h]
  have hF3n : ∀ (i : Nat), i < O.length → findN hs i 0 = none → F3 i = F i := fun i hi h => by show (if _ then _ else _) = _; rw [if_pos hi, h]
  have hF3g : ∀ (i : Nat), O.length ≤ i → F3 i = F' (M.length + (i - O.length)) := fun i hi => by show (if _ then _ else _) = _; rw [if_neg (by omega)]
  have hlMN : (M' ++ N).length = M.length + N.length := by rw [List.length_append, hlen]
  have hfind : ∀ (i j : Nat), findN hs i 0 = some j → j < M.length ∧ hs[j]? = some i := fun i j h => by
    obtain ⟨q, rfl, hq⟩ := findN_some h
    rw [Nat.zero_add]
    exact ⟨by rw [← hlM]; exact (List.getElem?_eq_some_iff.1 hq).1, hq⟩
  have hl3' : O3.length = O.length + N.length := by show (newO hs M' 0 O ++ N).length = _; rw [List.length_append, hl3]
  -- each place's blocks: where they come from
  have hsrc : ∀ k, k < (M' ++ N).length → ∀ b ∈ F' k, ((∃ id, id ∈ hs ∧ id < O.length ∧ b ∈ F id) ∨ w.heap.size ≤ b) ∧ ¬ S' b ∧ b < w'.heap.size := fun k hk' b hb => by
    obtain ⟨q1, q2, q3⟩ := hF' k hk' b hb
    refine ⟨?_, q2, q3⟩
    rcases q1 with ⟨i, hi, hbf⟩ | q1
    · obtain ⟨id, e⟩ := hex i hi
      rw [hFM i id e] at hbf
      exact .inl ⟨id, List.mem_of_getElem? e, hidl i id e, hbf⟩
    · exact .inr q1
  have hnoS : ∀ k, k < (M' ++ N).length → ∀ b ∈ F' k, (G.M0 b ∨ G.w0.heap.size ≤ b) ∧ ¬ S3 b ∧ b < w'.heap.size := fun k hk' b hb => by
    obtain ⟨q1, q2, q3⟩ := hsrc k hk' b hb
    rcases q1 with ⟨id, hid, hlt, hbf⟩ | q1
    · obtain ⟨p1, p2, p3⟩ := hr.foot id hlt b hbf
      refine ⟨p1, ?_, q3⟩
      rintro (h | ⟨h, _⟩)
      · exact p2 h
      · exact q2 h
    · refine ⟨.inr (by have := hr.keeps.size; omega), ?_, q3⟩
      rintro (h | ⟨h, _⟩)
      · have := hr.stable b h; omega
      · exact q2 h
  have hnotin : ∀ i, i < O.length → findN hs i 0 = none → ∀ b ∈ F i, w'.heap[b]? = w.heap[b]? := fun i hi h b hb => hold b (hr.foot i hi b hb).2.2 fun id hid hbf => by
    obtain ⟨j, hj, e⟩ := hmem id hid
    have hne : i ≠ id := by rintro rfl; exact findN_none h hid
    exact hr.objs.apart i id hi (hidl j id e) hne b hb hbf
  have hcells : ∀ {cs : List AV} {us g}, cs.all AV.still = true → Loc cs → LRel S' w' ι' (M' ++ N) cs us g → LRel S3 w' ι3 O3 cs us g := fun h1 h2 hl =>
    Loc.rel h2 (still_all (S' := S') h1 hl (fun _ h => h) (fun _ _ => rfl) (fun _ _ => rfl))
  refine ⟨S3, ι3, F3, ⟨hr.defers, hr.size, fun t => (hr.tmps t).mono hlat (by simp), ⟨fun i ob h => ?_, fun i h => ?_, fun i j hi hj hij b hb => ?_⟩, fun i h b hb => ?_, ⟨fun b hb => .inl (hr.base.1 b hb), ?_⟩, ?_, ?_, fun i h => ?_, ?_⟩, ?_⟩
  · have h : O3[i]? = some ob := h
    by_cases hlt : i < O.length
    · rw [hO3lt i hlt, List.getElem?_eq_getElem hlt] at h
      simp only [Option.map_some, Option.some.injEq] at h
      rw [show ι3 i = ι i from if_pos hlt]
      cases hfd : findN hs i 0 with
      | some j =>
        obtain ⟨hjm, hji⟩ := hfind i j hfd
        rw [hF3f i j hlt hfd]
        have hjM' : j < M'.length := by omega
        have hmb : M'[j]? = some M'[j] := List.getElem?_eq_getElem hjM'
        have h' : ob = ⟨M'[j].cells, (O[i]).ep, M'[j].size, M'[j].ty⟩ := by
          rw [← h]; unfold newOb; rw [hfd]; simp only [hmb]
        have ho := hO'.obj j M'[j] (by rw [List.getElem?_append_left hjM']; exact hmb)
        rw [hι' j hjm, hιM j i hji] at ho
        have hout := hM'.at hmb
        rw [h']
        unfold ObjAt at ho ⊢
        cases hs' : ι i with
        | none => rw [hs'] at ho; exact ho
        | some p =>
          obtain ⟨b, k⟩ := p
          rw [hs'] at ho
          obtain ⟨cur', t', fz', f2, q1, q2, q3, q4, q5, q6, q7⟩ := ho
          exact ⟨cur', t', fz', f2, q1, q2, q3, q4, q5, q6, hcells hout.1 hout.2 q7⟩
      | none =>
        rw [hF3n i hlt hfd]
        have h' : ob = O[i] := by rw [← h]; unfold newOb; rw [hfd]
        subst h'
        have ho := hr.objs.obj i O[i] (List.getElem?_eq_getElem hlt)
        have key := hnotin i hlt hfd
        unfold ObjAt at ho ⊢
        cases hs' : ι i with
        | none => rw [hs'] at ho; exact ho
        | some p =>
          obtain ⟨b, k⟩ := p
          rw [hs'] at ho
          obtain ⟨cur', t', fz', f2, q1, q2, q3, q4, q5, q6, q7⟩ := ho
          exact ⟨cur', t', fz', f2, q1, by rw [key b (by rw [q1]; simp)]; exact q2, q3, q4, q5, q6, q7.mono hlat fun b' hb' => key b' (by rw [q1]; simp [hb'])⟩
    · rw [hO3ge i (by omega)] at h
      rw [show ι3 i = ι' (M.length + (i - O.length)) from if_neg hlt, hF3g i (by omega)]
      have ho := hO'.obj (M.length + (i - O.length)) ob (by rw [List.getElem?_append_right (by omega), hlen, Nat.add_sub_cancel_left]; exact h)
      have hout := hN.at h
      unfold ObjAt at ho ⊢
      cases hs' : ι' (M.length + (i - O.length)) with
      | none => rw [hs'] at ho; exact ho
      | some p =>
        obtain ⟨b, k⟩ := p
        rw [hs'] at ho
        obtain ⟨cur', t', fz', f2, q1, q2, q3, q4, q5, q6, q7⟩ := ho
        exact ⟨cur', t', fz', f2, q1, q2, q3, q4, q5, q6, hcells hout.1 hout.2 q7⟩
  · have h : i < O3.length := h
    by_cases hlt : i < O.length
    · cases hfd : findN hs i 0 with
      | some j => rw [hF3f i j hlt hfd]; exact hO'.nodup j (by have := (hfind i j hfd).1; omega)
      | none => rw [hF3n i hlt hfd]; exact hr.objs.nodup i hlt
    · rw [hF3g i (by omega)]; exact hO'.nodup _ (by omega)
  · have hi : i < O3.length := hi
    have hj : j < O3.length := hj
    -- the place in the callee's list, if there is one
    have hpl : ∀ k, k < O3.length → (∃ q, q < (M' ++ N).length ∧ F3 k = F' q ∧ ((q < M.length ∧ hs[q]? = some k) ∨ (O.length ≤ k ∧ q = M.length + (k - O.length)))) ∨ (k < O.length ∧ findN hs k 0 = none ∧ F3 k = F k) := fun k hk' => by
      by_cases hlt : k < O.length
      · cases hfd : findN hs k 0 with
        | some q => obtain ⟨h1, h2⟩ := hfind k q hfd; exact .inl ⟨q, by omega, hF3f k q hlt hfd, .inl ⟨h1, h2⟩⟩
        | none => exact .inr ⟨hlt, rfl, hF3n k hlt hfd⟩
      · exact .inl ⟨_, by omega, hF3g k (by omega), .inr ⟨by omega, rfl⟩⟩
    have hcross : ∀ k q, k < O.length → findN hs k 0 = none → q < (M' ++ N).length → ∀ b ∈ F k, b ∉ F' q := fun k q hk' hn hq b hb hb' => by
      rcases (hsrc q hq b hb').1 with ⟨id, hid, hlt, hbf⟩ | h
      · have hne : k ≠ id := by rintro rfl; exact findN_none hn hid
        exact hr.objs.apart k id hk' hlt hne b hb hbf
      · have := (hr.foot k hk' b hb).2.2; omega
    rcases hpl i hi with ⟨q1, p1, p2, p3⟩ | ⟨p1, p2, p3⟩ <;> rcases hpl j hj with ⟨q2, r1, r2, r3⟩ | ⟨r1, r2, r3⟩
    · rw [p2] at hb; rw [r2]
      refine hO'.apart q1 q2 p1 r1 (fun e => ?_) b hb
      subst e
      rcases p3 with ⟨a1, a2⟩ | ⟨a1, a2⟩ <;> rcases r3 with ⟨b1, b2⟩ | ⟨b1, b2⟩
      · rw [a2] at b2; cases b2; exact hij rfl
      · omega
      · omega
      · omega
    · rw [p2] at hb; rw [r3]; intro hb'; exact hcross j q1 r1 r2 p1 b hb' hb
    · rw [p3] at hb; rw [r2]; exact hcross i q2 p1 p2 r1 b hb
    · rw [p3] at hb; rw [r3]; exact hr.objs.apart i j p1 r1 hij b hb
  · have h : i < O3.length := h
    by_cases hlt : i < O.length
    · cases hfd : findN hs i 0 with
      | some j => rw [hF3f i j hlt hfd] at hb; exact hnoS j (by have := (hfind i j hfd).1; omega) b hb
      | none =>
        rw [hF3n i hlt hfd] at hb
        obtain ⟨q1, q2, q3⟩ := hr.foot i hlt b hb
        refine ⟨q1, ?_, by have := hk.size; omega⟩
        rintro (h' | ⟨_, h'⟩)
        · exact q2 h'
        · omega
    · rw [hF3g i (by omega)] at hb; exact hnoS _ (by omega) b hb
  · rintro b (h' | ⟨_, h'⟩)
    · exact hr.base.2 b h'
    · exact .inr (by have := hr.keeps.size; omega)
  · rintro b (h' | ⟨h', _⟩)
    · have := hr.stable b h'; have := hk.size; omega
    · exact hS3 b h'
  · refine ⟨hk.os.trans hr.keeps.os, hk.tape.trans hr.keeps.tape, hk.output.trans hr.keeps.output, by have := hr.keeps.size; have := hk.size; omega, fun b hb hM0 => ?_⟩
    rw [hold b (by have := hr.keeps.size; omega) fun id hid hbf => ?_]
    · exact hr.keeps.block b hb hM0
    · obtain ⟨j, hj, e⟩ := hmem id hid
      rcases (hr.foot id (hidl j id e) b hbf).1 with h | h
      · exact hM0 h
      · omega
  · have hm : m ≤ O.length := hr.mle
    rw [show ι3 i = ι i from if_pos (by omega)]; exact hr.spots i h
  · have hm : m ≤ O.length := hr.mle
    show m ≤ O3.length
    omega
  · refine AV.reF_rel (S := S') (ι := ι') (O := M' ++ N) (fun id hid => ?_) (fun id ob hid h => ?_) r r' hre hv
    · show (if _ then _ else _) = _
      rw [if_neg (by omega)]; congr 1; omega
    · show O3[id - M.length + O.length]? = some ob
      rw [hO3ge _ (by omega), Nat.add_sub_cancel]
      rw [List.getElem?_append_right (by omega), hlen] at h
      exact h
theorem WpL.callG {f : FuncId} {xs : List Operand} {ats : Array TypeId} {As : List AV} {M M' N O2 : List AObj} {r r' : AV} {hs : List Nat} {k base d : Nat} (hc : FnG P f As M M' N r) (hh : Hand O hs (xs.map (av T)) As) (hM : HandO O hs M) (hnd : nodupB hs = true)
    (hlen : (M'.map AObj.size) = (M.map AObj.size)) (hM' : Out M') (hN : Out N) (hk : cnt M.length 0 = some k) (hb : cnt O.length 0 = some base) (hre : r.reF k base = some r') (hO2 : newF hs M' 0 O N = some O2) (hn : d < n) (h : WpL P n m G false ops l ⟨(d, r') :: T, O2⟩ Q) :
    WpL P n m G false ops ({ dst := some d, op := .call { callee := .value (.func f), args := xs.toArray, argTypes := ats }, type := tt, pos := pos, after := after, guard := none } :: l) ⟨T, O⟩ Q :=
  WpL.op rfl (fun a w hr => by
    have := newF_eq hO2; subst this
    have e1 := cnt_eq hk; rw [Nat.add_zero] at e1; subst e1
    have e2 := cnt_eq hb; rw [Nat.add_zero] at e2; subst e2
    have hl : M'.length = M.length := by have := congrArg List.length hlen; simpa using this
    have hcl := callG_rel hc hh hM (nodupB_spec hnd) hl (fun j x y hx hy => by
      have := congrArg (fun l : List Nat => l[j]?) hlen
      simp only [List.getElem?_map, hx, hy, Option.map_some, Option.some.injEq] at this
      exact this) hM' hN hre hr
    obtain ⟨⟨fn, hf, hbd, hnm⟩, _⟩ := hc
    have hex : (execOp a.eval { dst := some d, op := .call { callee := .value (.func f), args := xs.toArray, argTypes := ats }, type := tt, pos := pos, after := after, guard := none }).run P w = .ok (.enter f (xs.map a.eval).toArray) w := by
      simp only [execOp, resolve, Act.eval, Deferred.ofValue, invoke, callFunc, Sem.run_bind, Sem.run_pure, Result.andThen_ok, program, Sem.run, hf, hnm, hbd, Bool.false_eq_true, if_false]
      simp
    unfold Oper.wp
    rw [hex]
    refine hcl.mono fun e w' ⟨v, he, S, ι, F, hr', hv⟩ => ?_
    subst he
    exact ⟨S, ι, F, hr'.put hn hv⟩) h
end
def HandM (O : List AObj) (hs : List Nat) (M : List AObj) (vs us : List AV) : Prop := Hand O hs vs us
section
variable {O : List AObj} {hs : List Nat} {M : List AObj} {vs us : List AV}
theorem HandM.nil : HandM O hs M [] [] := Hand.nil
theorem HandM.any {V} (r : HandM O hs M vs us) : HandM O hs M (V :: vs) (.any :: us) := Hand.any r
theorem HandM.keep {V : AV} (h1 : V.still = true) (h2 : V.nofre = true) (r : HandM O hs M vs us) : HandM O hs M (V :: vs) (V :: us) := Hand.keep h1 h2 r
theorem HandM.own {id ep off len len' j : Nat} {ob mb : AObj} (hj : hs[j]? = some id) (ho : O[id]? = some ob) (he : ob.ep = ep) (hm : M[j]? = some mb) (hc : ob.cells = mb.cells) (hl : len = len') (r : HandM O hs M vs us) : HandM O hs M (.own id ep off len :: vs) (.own j 0 off len' :: us) := Hand.own hj ho he hl r
theorem HandM.ptr {id ep off j : Nat} {ob mb : AObj} (hj : hs[j]? = some id) (ho : O[id]? = some ob) (he : ob.ep = ep) (hm : M[j]? = some mb) (hc : ob.cells = mb.cells) (r : HandM O hs M vs us) : HandM O hs M (.ptr id ep off :: vs) (.ptr j 0 off :: us) := Hand.ptr hj ho he r
theorem HandM.agg {ds es} (r1 : HandM O hs M ds es) (r : HandM O hs M vs us) : HandM O hs M (.agg ds :: vs) (.agg es :: us) := Hand.agg r1 r
end
section
variable {P : Program} {n m : Nat} {G : Ctx} {T : List (Nat × AV)} {O : List AObj} {Q : Exit → St → Prop} {ops : Array Oper} {l : List Oper} {tt : TypeId} {pos : String} {after : Array Edge} {tab : List (Nat × Ty)}
theorem WpL.callM {f : FuncId} {xs : List Operand} {ats : Array TypeId} {As : List AV} {M M' N O2 : List AObj} {r r' : AV} {hs : List Nat} {k base d : Nat} (hc : FnG P f As M M' N r) (hh : HandM O hs M (xs.map (av T)) As) (hM : HandO O hs M) (hnd : nodupB hs = true)
    (hlen : (M'.map AObj.size) = (M.map AObj.size)) (hM' : Out M') (hN : Out N) (hk : cnt M.length 0 = some k) (hb : cnt O.length 0 = some base) (hre : r.reF k base = some r') (hO2 : newF hs M' 0 O N = some O2) (hn : d < n) (h : WpL P n m G false ops l ⟨(d, r') :: T, O2⟩ Q) :
    WpL P n m G false ops ({ dst := some d, op := .call { callee := .value (.func f), args := xs.toArray, argTypes := ats }, type := tt, pos := pos, after := after, guard := none } :: l) ⟨T, O⟩ Q := WpL.callG hc hh hM hnd hlen hM' hN hk hb hre hO2 hn h
theorem FnG.of_bodyF (hP : TabOk P tab) {f : FuncId} {fn : Func} {c : Code} {args : List AV} {M M' N MN : List AObj} {r : AV} {k : Nat} (hf : P.funcs[f]? = some fn) (hnt : fn.ntmps = k) (hb : fn.body = some c) (hnm : (fn.name == "runtime.NumGoroutine") = false)
    (hal : args.length ≤ k) (hml : cnt M.length 0 = some m) (hMN : catF M' N = some MN) (h : ∀ G, WpA P k m G c ⟨enumT 0 args, M⟩ (FinG tab m fn.results MN r)) : FnG P f args M M' N r := by
  have := catF_eq hMN; subst this
  exact FnG.of_body hP hf hnt hb hnm hal (cnt_eq hml) h
variable {r r1v r2v : AV} {r1 r2 : ResultVar} {e' : Exit} {a b : Option Nat} {o1 o2 o3 o4 o5 : AObj}
theorem FinG.e {rs : Array ResultVar} {N : List AObj} {r : AV} {σ : St} {e : Exit} (he : endB e = true) (h : ResG tab m N r rs σ) : FinG tab m rs N r e σ := by
  cases e <;> first | exact h | cases he
theorem FinG.o10 (he : endB e' = true) (hv : ResV tab T O r1 r1v) (hx : Ex O [some 0] [r1v] [r]) (hN : NEx O [some 0] [o1]) : FinG tab 1 #[r1] [o1] r e' ⟨T, O⟩ := FinG.e he (.one hv hN (nodupB_spec rfl) rfl hx)
end
end Go.Abs
namespace Go.Abs.K
theorem FG {tab : List (Nat × Ty)} {m : Nat} {rs : Array ResultVar} {N : List AObj} {r : AV} {e : Exit} {σ : St} (h : Abs.FinG tab m rs N r e σ) : Abs.FinG tab m rs N r e σ := h
end Go.Abs.K


namespace Go.Abs
open Go
theorem LRel.at {S w ι O cs vs f} (h : LRel S w ι O cs vs f) {i : Nat} {V : AV} (hi : cs[i]? = some V) : ∃ x f1 g f2, vs[i]? = some x ∧ f = f1 ++ (g ++ f2) ∧ VRel S w ι O V x g ∧
    ∀ {S' w' ι' O'}, (∀ {as1 us e}, LRel S w ι O as1 us e → LRel S' w' ι' O' as1 us e) → ∀ V' g', VRel S' w' ι' O' V' x g' → LRel S' w' ι' O' (cs.set i V') vs (f1 ++ (g' ++ f2)) := by
  have hlt : i < cs.length := (List.getElem?_eq_some_iff.1 hi).1
  have hV : cs[i] = V := (List.getElem?_eq_some_iff.1 hi).2
  have e : cs = cs.take i ++ ([V] ++ cs.drop (i + 1)) := by
    rw [List.singleton_append, ← hV, ← List.drop_eq_getElem_cons hlt, List.take_append_drop]
  rw [e] at h
  obtain ⟨us, vs2, f1, f3, rfl, h1, h2, rfl⟩ := h.split
  obtain ⟨xs, vs3, g, f2, rfl, h3, h4, rfl⟩ := h2.split
  have hl1 := h1.len
  have hl3 := h3.len
  have hul : us.length = i := by rw [← hl1, List.length_take]; omega
  obtain ⟨x, rfl⟩ : ∃ x, xs = [x] := by
    cases xs with
    | nil => simp at hl3
    | cons x xs => cases xs with
      | nil => exact ⟨x, rfl⟩
      | cons y ys => simp at hl3
  refine ⟨x, f1, g, f2, by rw [List.getElem?_append_right (by omega), hul]; simp, rfl, h3, fun {S' w' ι' O'} mono V' g' hv => ?_⟩
  have e2 : cs.set i V' = cs.take i ++ ([V'] ++ cs.drop (i + 1)) := by
    rw [List.set_eq_take_append_cons_drop, if_pos hlt]; simp
  rw [e2]
  exact LRel.append (mono h1) (LRel.append hv (mono h4))
end Go.Abs
