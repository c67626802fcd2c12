/- The rules of slice literals, make, build and the conversions of bytes and strings. No condition. -/
import Derived.Test.YtepfjefdbpmobaaAbsH
import Derived.Lib.ConvBytes
namespace Go.Abs
open Go
set_option linter.unusedVariables false
set_option linter.unusedSimpArgs false

theorem fold_set (xs : List Value) : ∀ (s off : Nat) (arr : Array Value), off + s + xs.length ≤ arr.size →
    ((xs.zipIdx s).foldl (fun cs (c, j) => cs.setIfInBounds (off + j) c) arr).toList = arr.toList.take (off + s) ++ xs ++ arr.toList.drop (off + s + xs.length) := by
  induction xs with
  | nil => intro s off arr h; simp
  | cons x xs ih =>
    intro s off arr h
    simp only [List.length_cons] at h
    simp only [List.zipIdx_cons, List.foldl_cons]
    rw [ih (s + 1) off _ (by simp; omega)]
    rw [Array.toList_setIfInBounds]
    have hlt : off + s < arr.toList.length := by simp; omega
    rw [show off + (s + 1) = off + s + 1 from by omega, List.take_set, List.drop_set]
    rw [if_pos (by omega)]
    rw [List.take_succ_eq_append_getElem hlt, List.set_append_right _ _ (by simp; omega)]
    simp only [List.length_take, List.length_cons]
    rw [show off + s - min (off + s) arr.toList.length = 0 from by omega]
    simp only [List.set_cons_zero, List.append_assoc, List.cons_append, List.nil_append]
    rw [show off + s + (xs.length + 1) = off + s + 1 + xs.length from by omega]

theorem fill_in_order (k : Nat) : ∀ (vs : List Value) (j : Nat) (arr : Array Value), (∀ v, v ∈ vs → v.cells.size = k) → (j + vs.length) * k ≤ arr.size →
    ∃ out, Instr.fill (fun i => some (i * k, k)) arr ((vs.zipIdx j).map (fun (v, i) => (i, v))) = some out ∧
      out.toList = arr.toList.take (j * k) ++ (vs.flatMap fun v => v.cells.toList) ++ arr.toList.drop ((j + vs.length) * k) := by
  intro vs
  induction vs with
  | nil => intro j arr _ _; exact ⟨arr, by simp [Instr.fill], by simp⟩
  | cons v vs ih =>
    intro j arr hk hle
    simp only [List.length_cons] at hle
    have hv := hk v (by simp)
    have hjk : j * k + k ≤ arr.size := by
      have : (j + 1) * k ≤ (j + (vs.length + 1)) * k := Nat.mul_le_mul_right _ (by omega)
      rw [Nat.add_mul] at this; omega
    have hcl : v.cells.toList.length = k := by simpa using hv
    have hf := fold_set v.cells.toList 0 (j * k) arr (by rw [hcl]; omega)
    have hz : v.cells.zipIdx.foldl (fun cs (c, q) => cs.setIfInBounds (j * k + q) c) arr = (v.cells.toList.zipIdx 0).foldl (fun cs (c, q) => cs.setIfInBounds (j * k + q) c) arr := by
      rw [← Array.foldl_toList, Array.toList_zipIdx]
    generalize harr : (v.cells.toList.zipIdx 0).foldl (fun cs (c, q) => cs.setIfInBounds (j * k + q) c) arr = arr' at hf hz
    have hsz : arr'.size = arr.size := by
      have h := congrArg List.length hf
      rw [List.length_append, List.length_append, List.length_take, List.length_drop, hcl, Array.length_toList, Array.length_toList] at h
      omega
    obtain ⟨out, ho, hol⟩ := ih (j + 1) arr' (fun v hv => hk v (by simp [hv])) (by rw [hsz]; rw [show j + 1 + vs.length = j + (vs.length + 1) from by omega]; exact hle)
    refine ⟨out, ?_, ?_⟩
    · simp only [List.zipIdx_cons, List.map_cons]
      rw [Instr.fill]
      have hng : ¬ (j * k + k > arr.size) := by omega
      simp only [hv, ne_eq, not_true_eq_false, decide_false, hng, Bool.or_false, Bool.false_eq_true, if_false]
      exact hz ▸ ho
    · rw [hol, hf]
      simp only [Nat.add_zero, hcl]
      have h1 : (j + 1) * k = j * k + k := by rw [Nat.add_mul]; omega
      have htl : (arr.toList.take (j * k) ++ v.cells.toList).length = j * k + k := by simp [hcl]; omega
      rw [h1, List.take_left' htl]
      rw [List.flatMap_cons]
      have h2 : (j + 1 + vs.length) * k = (j * k + k) + vs.length * k := by rw [Nat.add_mul, Nat.add_mul]; omega
      have h3 : (j + (v :: vs).length) * k = j * k + k + vs.length * k := by rw [List.length_cons, Nat.add_mul, Nat.add_mul]; omega
      have hd : List.drop ((j + 1 + vs.length) * k) (List.take (j * k) arr.toList ++ v.cells.toList ++ List.drop (j * k + k) arr.toList) = List.drop ((j + (v :: vs).length) * k) arr.toList := by
        rw [h2, h3, List.drop_append, htl, List.drop_eq_nil_of_le (by rw [htl]; omega), List.nil_append, List.drop_drop]
        congr 1; omega
      rw [hd]
      simp only [List.append_assoc]

theorem RelAt.evals {n m G S ι F T O a w} (hr : RelAt n m G S ι F ⟨T, O⟩ a w) (xs : List Operand) : LRel S w ι O (xs.map (av T)) (xs.map a.eval) [] := by
  induction xs with
  | nil => exact .nil
  | cons x xs ih => simpa using LRel.cons (hr.eval x) ih

/-- The cells of the elements of a literal. -/
inductive Lit (T : List (Nat × AV)) (O : List AObj) (k : Nat) : List Operand → List AV → Prop
  | nil : Lit T O k [] []
  | cons {x xs V ds cs} (hx : (av T x).force = some V) (hV : cellsV O V = some ds) (hk : ds.length = k) (h : Lit T O k xs cs) : Lit T O k (x :: xs) (ds ++ cs)
  | one {x xs V cs} (hx : (av T x).force = some V) (hV : oneB O V = true) (hk : k = 1) (h : Lit T O k xs cs) : Lit T O k (x :: xs) (V :: cs)

theorem Lit.rel {n m G S ι F T O a w k} (hr : RelAt n m G S ι F ⟨T, O⟩ a w) {xs cs} (h : Lit T O k xs cs) :
    LRel S w ι O cs ((xs.map a.eval).flatMap fun v => v.cells.toList) [] ∧ (∀ v, v ∈ xs.map a.eval → v.cells.size = k) ∧ cs.length = xs.length * k := by
  induction h with
  | nil => exact ⟨.nil, by simp, by simp⟩
  | cons hx hV hk _ ih =>
    rename_i x xs V ds cs _
    have hv := hr.eval x
    rw [show av (St.mk T O).T x = V from AV.force_eq hx] at hv
    obtain ⟨h1, h2, h3⟩ := ih
    have hc := cellsV_rel hv hV
    refine ⟨by simpa using hc.append h1, ?_, ?_⟩
    · intro u hu
      rcases List.mem_cons.1 hu with rfl | hu
      · have := hc.len; simp at this; omega
      · exact h2 u hu
    · rw [List.length_append, h3, hk, List.length_cons, Nat.add_mul]; omega
  | one hx hV hk _ ih =>
    rename_i x xs V cs _
    have hv := hr.eval x
    rw [show av (St.mk T O).T x = V from AV.force_eq hx] at hv
    obtain ⟨h1, h2, h3⟩ := ih
    have hc := (one_of hv hV).2.1
    refine ⟨by simpa [hc] using LRel.cons hv h1, ?_, ?_⟩
    · intro u hu
      rcases List.mem_cons.1 hu with rfl | hu
      · rw [hc, hk]; rfl
      · exact h2 u hu
    · subst hk; simp only [List.length_cons, h3]; omega

section
variable {P : Program} {n m : Nat} {G : Ctx} {T : List (Nat × AV)} {O : List AObj} {Q : Exit → St → Prop} {ops : Array Oper} {l : List Oper} {d : Nat} {tt : TypeId} {pos : String} {after : Array Edge} {tab : List (Nat × Ty)}

theorem zip_parts (ρ : Operand → Value) : ∀ (parts : List (Nat × Operand)) (j : Nat), parts.map (·.1) = List.range' j parts.length →
    parts.map (fun (i, x) => (i, ρ x)) = (((parts.map (·.2)).map ρ).zipIdx j).map (fun (v, i) => (i, v)) := by
  intro parts
  induction parts with
  | nil => intro j _; rfl
  | cons p parts ih =>
    intro j h
    simp only [List.map_cons, List.length_cons, List.range'_succ, List.cons.injEq] at h
    simp only [List.map_cons, List.zipIdx_cons]
    rw [ih (j + 1) h.2, h.1]

/-- A slice literal whose elements are given in order. -/
theorem WpL.lit (hP : TabOk P tab) {t e k b len id : Nat} {zs cs : List AV} {parts : List (Nat × Operand)} (ht : tlook tab t = some (.slice e k b zs)) (hidx : parts.map (·.1) = List.range' 0 parts.length) (hlen : parts.length = len)
    (hlit : Lit T O k (parts.map (·.2)) cs) (hsm : len * k ≤ 16777216) (hid : nid O 0 = some id) (hn : d < n)
    (h : WpL P n m G false ops l ⟨(d, .own id 0 0 len) :: T, O ++ [⟨cs, 0, k, some e⟩]⟩ Q) :
    WpL P n m G false ops ({ dst := some d, op := .buildSlice t len parts.toArray, type := tt, pos := pos, after := after, guard := none } :: l) ⟨T, O⟩ Q :=
  WpL.value rfl (fun a w hr => by
    obtain ⟨S, ι, F, hr⟩ := hr
    have hid : id = O.length := by have := nid_eq hid; omega
    subst hid
    obtain ⟨hu, i, z, hi, hz, hk, hby, hzk, hk0, _⟩ := hP.slice ht
    obtain ⟨h1, h2, h3⟩ := hlit.rel hr
    have hvl : (parts.map (·.2)).length = len := by simpa using hlen
    obtain ⟨out, ho, hol⟩ := fill_in_order k ((parts.map (·.2)).map a.eval) 0 ((Array.range (len * k)).map (z.cells[· % z.cells.size]!)) h2 (by simp [hlen])
    have hout : out.toList = ((parts.map (·.2)).map a.eval).flatMap fun v => v.cells.toList := by
      rw [hol]; simp [hlen]
    have hosz : out.size = len * k := by
      have := congrArg List.length hout
      rw [← h1.len, h3, hvl] at this
      simpa using this
    have hrun : (Instr.buildSlice t len (parts.toArray.map fun (i, x) => (i, a.eval x))).run P w = .ok (.slice (some ⟨w.heap.size, 0, none⟩) len len) (w.alloc (.cells out e)) := by
      have hpl : (parts.toArray.map fun (i, x) => (i, a.eval x)).toList = (((parts.map (·.2)).map a.eval).zipIdx 0).map fun (v, i) => (i, v) := by
        rw [Array.toList_map]; exact zip_parts a.eval parts 0 hidx
      unfold Instr.buildSlice
      simp only [Sem.run_bind, run_underlying hu, Result.andThen_ok, run_sizeOf hi hk]
      rw [if_neg (by omega)]
      by_cases hlk : len * k = 0
      · have hr0 : (Array.range (len * k)) = #[] := by rw [hlk]; rfl
        simp only [hlk, if_true, Sem.run_pure, Result.andThen_ok]
        simp only [hlk, Array.range_zero', Array.map_empty] at ho
        rw [hpl]
        have hr1 : Array.range 0 = #[] := rfl
        simp only [hr1, Array.map_empty, ho, newRow, newObj, Sem.run_bind, Sem.run, Result.andThen_ok, Sem.run_pure]
        rfl
      · simp only [hlk, if_false, Sem.run_bind, zeroValue, typeInfo, hi, hz, Sem.run_pure, Result.andThen_ok, program, Sem.run]
        rw [hpl, ho]
        simp only [newRow, newObj, Sem.run_bind, Sem.run, Result.andThen_ok, Sem.run_pure]
        rfl
    have hr' := hr.alloc (ob := ⟨cs, 0, k, some e⟩) (cur := out) (t := e) (fz := (0, 0)) (Adds.alloc w _) (by
      have : out.toList.take cs.length = out.toList := List.take_of_length_le (by simp [hosz, h3, hvl])
      show LRel _ _ _ _ cs (out.toList.take cs.length) []
      rw [this, hout]; exact h1) (by show cs.length ≤ _; rw [h3, hvl, hosz]; exact Nat.le_refl _) (by simp) (by simp)
    refine ⟨.slice (some ⟨w.heap.size, 0, none⟩) len len, w.alloc (.cells out e), by simp only [execOp, Sem.run_bind, hrun, Result.andThen_ok, Sem.run_pure], _, _, _, hr'.put hn ?_⟩
    exact own_new (ob := ⟨cs, 0, k, some e⟩) hosz.symm (Nat.le_refl _) (by have : len ≤ len * k := Nat.le_mul_of_pos_right _ hk0; simp only [maxLen]; omega)) h


theorem made_flat (z : Array Value) (n : Nat) : (madeCells z (n * z.size)).toList = (List.replicate n z.toList).flatten := by
  induction n with
  | zero => simp [madeCells]
  | succ n ih =>
    rw [List.replicate_succ', List.flatten_append, ← ih]
    simp only [madeCells, Array.toList_map, Array.toList_range]
    rw [Nat.add_mul, Nat.one_mul, List.range_add, List.map_append]
    congr 1
    simp only [List.flatten_cons, List.flatten_nil, List.append_nil, List.map_map]
    apply List.ext_getElem
    · simp
    · intro i h1 h2
      have hi : i < z.size := by simpa using h1
      simp [Nat.mul_add_mod_self_right, Nat.mod_eq_of_lt hi, hi, Nat.add_comm (n * z.size) i, Nat.add_mul_mod_self_right]

theorem lrel_flat {S w ι O} (vs : List Value) (n : Nat) : LRel S w ι O (List.replicate n (vs.map zav)).flatten (List.replicate n vs).flatten [] := by
  induction n with
  | zero => exact .nil
  | succ n ih =>
    rw [List.replicate_succ, List.replicate_succ, List.flatten_cons, List.flatten_cons]
    simpa using (lrel_zav vs).append ih

theorem WpL.make (hP : TabOk P tab) {t e k b id : Nat} {zs : List AV} {x y : Operand} {kl kc : IntKind} {p : Int} (ht : tlook tab t = some (.slice e k b zs)) (hx : av T x = .sc (.int kl p)) (hy : av T y = .sc (.int kc p))
    (hp : 0 ≤ p) (hb : (b : Int) * p ≤ 281474976710656 ∧ p ≤ 9223372036854775807) (hid : nid O 0 = some id) (hn : d < n)
    (h : WpL P n m G false ops l ⟨(d, .own id 0 0 p.toNat) :: T, O ++ [⟨(List.replicate p.toNat zs).flatten, 0, k, some e⟩]⟩ Q) :
    WpL P n m G false ops ({ dst := some d, op := .makeSlice t x y, type := tt, pos := pos, after := after, guard := none } :: l) ⟨T, O⟩ Q :=
  WpL.value rfl (fun a w hr => by
    obtain ⟨S, ι, F, hr⟩ := hr
    have hid : id = O.length := by have := nid_eq hid; omega
    subst hid
    obtain ⟨hu, i, z, hi, hz, hk, hby, hzk, hk0, rfl⟩ := hP.slice ht
    have hrun := run_make (P := P) w t e i z hu hi hz kl kc p p hp (Int.le_refl _) (by rw [hby]; exact hb.1) hb.2
    have hcl : (madeCells z.cells (p.toNat * i.size)).toList = (List.replicate p.toNat z.cells.toList).flatten := by rw [hk, ← hzk]; exact made_flat _ _
    have hsz : (madeCells z.cells (p.toNat * i.size)).size = p.toNat * k := by rw [size_madeCells, hk]
    have hlen : (List.replicate p.toNat (z.cells.toList.map zav)).flatten.length = p.toNat * k := by simp [hzk]
    have hr' := hr.alloc (ob := ⟨(List.replicate p.toNat (z.cells.toList.map zav)).flatten, 0, k, some e⟩) (cur := madeCells z.cells (p.toNat * i.size)) (t := e) (fz := (0, 0)) (Adds.alloc w _) (by
      show LRel _ _ _ _ (List.replicate p.toNat (z.cells.toList.map zav)).flatten ((madeCells z.cells (p.toNat * i.size)).toList.take _) []
      rw [hcl, List.take_of_length_le (by rw [hlen]; simp [hzk])]
      exact lrel_flat _ _) (by rw [hsz]; show (List.replicate p.toNat (z.cells.toList.map zav)).flatten.length ≤ _; rw [hlen]; exact Nat.le_refl _) (by simp) (by simp)
    refine ⟨.slice (some ⟨w.heap.size, 0, none⟩) p.toNat p.toNat, _, by simp only [execOp, hr.sc hx, hr.sc hy, Sem.run_bind, hrun, Result.andThen_ok, Sem.run_pure], _, _, _, hr'.put hn ?_⟩
    exact own_new (ob := ⟨(List.replicate p.toNat (z.cells.toList.map zav)).flatten, 0, k, some e⟩) hsz.symm (Nat.le_refl _) (by simp only [maxLen]; omega)) h

theorem flat_ints (n : Nat) : (List.replicate n [AV.sc (.int .i64 0)]).flatten = ints (List.replicate n 0) := by
  induction n with
  | zero => rfl
  | succ n ih => rw [List.replicate_succ, List.flatten_cons, ih, List.replicate_succ]; rfl
theorem flat_u8s (n : Nat) : (List.replicate n [AV.sc (.int .u8 0)]).flatten = u8s (List.replicate n 0) := by
  induction n with
  | zero => rfl
  | succ n ih => rw [List.replicate_succ, List.flatten_cons, ih, List.replicate_succ]; rfl

theorem WpL.makeInts (hP : TabOk P tab) {t e b id : Nat} {x y : Operand} {kl kc : IntKind} {p : Int} (ht : tlook tab t = some (.slice e 1 b [.sc (.int .i64 0)])) (hx : av T x = .sc (.int kl p)) (hy : av T y = .sc (.int kc p))
    (hp : 0 ≤ p) (hb : (b : Int) * p ≤ 281474976710656 ∧ p ≤ 9223372036854775807) (hid : nid O 0 = some id) (hn : d < n)
    (h : WpL P n m G false ops l ⟨(d, .own id 0 0 p.toNat) :: T, O ++ [⟨ints (List.replicate p.toNat 0), 0, 1, some e⟩]⟩ Q) :
    WpL P n m G false ops ({ dst := some d, op := .makeSlice t x y, type := tt, pos := pos, after := after, guard := none } :: l) ⟨T, O⟩ Q :=
  WpL.make hP ht hx hy hp hb hid hn (by rw [flat_ints]; exact h)
theorem WpL.makeU8s (hP : TabOk P tab) {t e b id : Nat} {x y : Operand} {kl kc : IntKind} {p : Int} (ht : tlook tab t = some (.slice e 1 b [.sc (.int .u8 0)])) (hx : av T x = .sc (.int kl p)) (hy : av T y = .sc (.int kc p))
    (hp : 0 ≤ p) (hb : (b : Int) * p ≤ 281474976710656 ∧ p ≤ 9223372036854775807) (hid : nid O 0 = some id) (hn : d < n)
    (h : WpL P n m G false ops l ⟨(d, .own id 0 0 p.toNat) :: T, O ++ [⟨u8s (List.replicate p.toNat 0), 0, 1, some e⟩]⟩ Q) :
    WpL P n m G false ops ({ dst := some d, op := .makeSlice t x y, type := tt, pos := pos, after := after, guard := none } :: l) ⟨T, O⟩ Q :=
  WpL.make hP ht hx hy hp hb hid hn (by rw [flat_u8s]; exact h)

theorem all_u8s (O : List AObj) (xs : List Int) : (u8s xs).all (oneB O) = true := by
  rw [List.all_eq_true]; intro V hV; simp only [u8s, List.mem_map] at hV; obtain ⟨x, _, rfl⟩ := hV; rfl
theorem all_ints (O : List AObj) (xs : List Int) : (ints xs).all (oneB O) = true := by
  rw [List.all_eq_true]; intro V hV; simp only [ints, List.mem_map] at hV; obtain ⟨x, _, rfl⟩ := hV; rfl
theorem all_bools (O : List AObj) (xs : List Bool) : (bools xs).all (oneB O) = true := by
  rw [List.all_eq_true]; intro V hV; simp only [bools, List.mem_map] at hV; obtain ⟨x, _, rfl⟩ := hV; rfl
theorem all_strs (O : List AObj) (xs : List (List UInt8)) : (strs xs).all (oneB O) = true := by
  rw [List.all_eq_true]; intro V hV; simp only [strs, List.mem_map] at hV; obtain ⟨x, _, rfl⟩ := hV; rfl
theorem lrel_u8s {S w ι O xs us f} (hl : LRel S w ι O (u8s xs) us f) : us = xs.map (Value.int .u8) := by
  induction xs generalizing us f with
  | nil => cases hl; rfl
  | cons x xs ih =>
    obtain ⟨v, vs', f1, f2, rfl, hv, hr, hf⟩ := LRel.uncons hl
    rw [hv.sc_eq, ih hr]; rfl

/-- '[]byte(s)'. -/
theorem WpL.toBytes (hP : TabOk P tab) {s t e b id : Nat} {zs : List AV} {x : Operand} {p : List UInt8} (hs : tlook tab s = some .string) (ht : tlook tab t = some (.slice e 1 b zs)) (he : tlook tab e = some (.int .u8))
    (hx : av T x = .sc (.string ⟨p.toArray⟩)) (hb : p.length ≤ 9223372036854775807) (hid : nid O 0 = some id) (hn : d < n)
    (h : WpL P n m G false ops l ⟨(d, .own id 0 0 p.length) :: T, O ++ [⟨u8s (p.map fun b => (b.toNat : Int)), 0, 1, none⟩]⟩ Q) :
    WpL P n m G false ops ({ dst := some d, op := .convert s t x, type := tt, pos := pos, after := after, guard := none } :: l) ⟨T, O⟩ Q :=
  WpL.value rfl (fun a w hr => by
    obtain ⟨S, ι, F, hr⟩ := hr
    have hid : id = O.length := by have := nid_eq hid; omega
    subst hid
    have hsu := (hP.ty hs).1
    have htu := (hP.slice ht).1
    have heu := (hP.ty he).1
    have hrun := Lib.run_convert_string_bytes (P := P) w s t e ⟨p.toArray⟩ hsu htu heu
    have hpl : (ByteArray.mk p.toArray).size = p.length := by simp [ByteArray.size]
    rw [hpl] at hrun
    have hA : Adds w (Lib.bytesWorld w e ⟨p.toArray⟩) (.cells (Lib.bytesCells w e ⟨p.toArray⟩) e ((Lib.bytesCells w e ⟨p.toArray⟩).size, (Lib.bytesCells w e ⟨p.toArray⟩).size + 1)) :=
      ⟨rfl, rfl, rfl, Lib.bytesWorld_size _ _ _, fun hb => Lib.bytesWorld_at_old _ _ _ _ hb, Lib.bytesWorld_at_new _ _ _⟩
    have hge := grownCap_ge w p.length 0 e
    have hsz : (Lib.bytesCells w e ⟨p.toArray⟩).size = grownCap w p.length 0 e := by
      simp [Lib.bytesCells, hpl]; omega
    have hl : ∀ q : List UInt8, LRel S w ι O (u8s (q.map fun b => (b.toNat : Int))) (q.map fun b => Value.int .u8 b.toNat) [] := by
      intro q
      induction q with
      | nil => exact .nil
      | cons c q ih => exact .sc ih
    have hr' := hr.alloc (ob := ⟨u8s (p.map fun b => (b.toNat : Int)), 0, 1, none⟩) hA (by
      have htk : (Lib.bytesCells w e ⟨p.toArray⟩).toList.take (u8s (p.map fun b => (b.toNat : Int))).length = p.map fun b => Value.int .u8 b.toNat := by
        simp only [Lib.bytesCells, Array.toList_append, Array.toList_map]
        refine List.take_left' (by simp)
      show LRel _ _ _ _ (u8s _) _ []
      rw [htk]; exact hl p) (by show (u8s _).length ≤ _; rw [hsz]; simp; exact hge) (by intro i hi; simp; omega) (by simp)
    refine ⟨.slice (some ⟨w.heap.size, 0, none⟩) p.length (grownCap w p.length 0 e), _, by simp only [execOp, hr.sc hx, Sem.run_bind, hrun, Result.andThen_ok, Sem.run_pure], _, _, _, hr'.put hn ?_⟩
    exact own_new (ob := ⟨u8s (p.map fun b => (b.toNat : Int)), 0, 1, none⟩) (k := (Lib.bytesCells w e ⟨p.toArray⟩).size) (by rw [hsz]; exact Nat.mul_one _) hge (grownCap_le_maxLen w p.length 0 e (by simp only [maxLen]; omega))) h

/-- 'string(b)'. -/
theorem WpL.ofBytes (hP : TabOk P tab) {s t e b c : Nat} {zs : List AV} {x : Operand} {Vx : AV} {xs : List Int} (hs : tlook tab s = some (.slice e 1 b zs)) (ht : tlook tab t = some .string) (he : tlook tab e = some (.int .u8))
    (hx : (av T x).force = some Vx) (hsrc : srcB O Vx = some (u8s xs, c)) (hc : xs.length = c) (hn : d < n)
    (h : WpL P n m G false ops l ⟨(d, .sc (.string ⟨(xs.map fun n => UInt8.ofNat n.toNat).toArray⟩)) :: T, O⟩ Q) :
    WpL P n m G false ops ({ dst := some d, op := .convert s t x, type := tt, pos := pos, after := after, guard := none } :: l) ⟨T, O⟩ Q :=
  WpL.pure rfl rfl hn (fun S ι F a w hr => by
    have hsu := (hP.slice hs).1
    have htu := (hP.ty ht).1
    have heu := (hP.ty he).1
    have hv := hr.eval x
    rw [show av (St.mk T O).T x = Vx from AV.force_eq hx] at hv
    have hone : (u8s xs).all (oneB O) = true := all_u8s O xs
    obtain ⟨us, hl, _, hcase⟩ := src_cells (k := 1) hr.objs hv hsrc (by simp [hc]) hone
    have hus : us = xs.map (Value.int .u8) := lrel_u8s hl
    refine ⟨_, ?_, .sc .nil⟩
    rcases hcase with ⟨ad, cp, h1, _, h2, h3⟩ | ⟨b', o, cap, h1, hcell⟩
    · subst h3
      have hx0 : xs = [] := by cases xs with | nil => rfl | cons x xs => simp at hus
      subst hx0
      have hrun : ∀ dst, P.underlying dst = some .string → (convert s dst (.slice ad 0 cp)).run P w = .ok (.string ByteArray.empty) w := by
        intro dst hd
        cases ad with
        | none => exact run_convert_bytes_nil (P := P) w s e hsu heu 0 cp dst hd
        | some ad =>
          rw [run_convert_bytes_string w s dst e _ 0 cp hsu heu hd]
          simp [Conv.bytesToString, loadCells, loadCellsFrom]
      have := hrun
      simp only [execOp, h1, Sem.run_bind, this t htu, Result.andThen_ok, Sem.run_pure]
      rfl
    · have := run_convert_bytes_arg (P := P) w s e hsu heu b' o c cap xs hc (by
        intro i hi
        rw [hcell i (by rw [hus]; simp; omega), hus]
        simp [hc, hi, List.getD]) t htu
      simp only [execOp, h1, Sem.run_bind, this, Result.andThen_ok, Sem.run_pure]
      rfl) h
end
end Go.Abs
