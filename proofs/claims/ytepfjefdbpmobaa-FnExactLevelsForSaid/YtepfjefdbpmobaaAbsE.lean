/- The rules of addresses, indexes and slice expressions. No condition. -/
import Derived.Test.YtepfjefdbpmobaaAbsD
namespace Go.Abs
open Go
set_option linter.unusedVariables false
set_option linter.unusedSimpArgs false

theorem iptr_inv {S w ι O cs off x f} (h : VRel S w ι O (.iptr cs off) x f) : ∃ b o us, x = .pointer (some ⟨b, o + off, none⟩) ∧ S b ∧ (∀ i, i < us.length → w.cell? ⟨b, o + i, none⟩ = us[i]?) ∧ LRel S w ι [] cs us [] ∧ f = [] := by
  cases h with
  | iptr hS hc hl r => cases r; exact ⟨_, _, _, rfl, hS, hc, hl, rfl⟩
theorem imm_inv {S w ι O k len cs x f} (h : VRel S w ι O (.imm k len cs) x f) : f = [] ∧ ((∃ a cap, x = .slice a 0 cap ∧ ((a = none → cap = 0) ∧ cap ≤ maxLen) ∧ len = 0 ∧ cs = []) ∨
    ∃ b o cap us, x = .slice (some ⟨b, o, none⟩) len cap ∧ S b ∧ (∀ i, i < us.length → w.cell? ⟨b, o + i, none⟩ = us[i]?) ∧ LRel S w ι [] cs us [] ∧ len * k = cs.length ∧ len ≤ cap ∧ cap ≤ maxLen) := by
  cases h with
  | imm0 h0 r => cases r; exact ⟨rfl, .inl ⟨_, _, rfl, h0, rfl, rfl⟩⟩
  | imm hS hc hl h1 h2 h3 r => cases r; exact ⟨rfl, .inr ⟨_, _, _, _, rfl, hS, hc, hl, h1, h2, h3⟩⟩

section
variable {P : Program} {n m : Nat} {G : Ctx} {md : Bool} {T : List (Nat × AV)} {O : List AObj} {Q : Exit → St → Prop} {ops : Array Oper} {l : List Oper} {d : Nat} {tt : TypeId} {pos : String} {after : Array Edge} {tab : List (Nat × Ty)}

theorem addr_add (b o k : Nat) : ((⟨b, o, none⟩ : Addr).add k) = ⟨b, o + k, none⟩ := by
  unfold Addr.add
  split
  · rename_i h; subst h; rfl
  · rfl

theorem run_fieldPlace {P : Program} {fs : Array Field} {f o : Nat} (h : fieldB P fs f = some o) (b c : Nat) (w : World) :
    ∃ fl, fs[f]? = some fl ∧ (fieldPlace ⟨b, c, none⟩ fl).run P w = .ok ⟨b, c + o, none⟩ w := by
  unfold fieldB at h
  split at h
  · rename_i fl hfl
    split at h
    · rename_i i hi
      split at h
      · simp at h
      · rename_i h0
        simp only [Option.some.injEq] at h
        subst h
        exact ⟨fl, hfl, by simp [fieldPlace, run_sizeOf hi rfl, h0, addr_add, Sem.run_bind]⟩
    · simp at h
  · simp at h

theorem run_fieldAt (hP : TabOk P tab) {t f o k : Nat} {offs : List Nat} {zs : List AV} (ht : tlook tab t = some (.struct offs k zs)) (hf : offs[f]? = some o) (b c : Nat) (w : World) :
    (Instr.fieldAt t (.pointer (some ⟨b, c, none⟩)) f).run P w = .ok (.pointer (some ⟨b, c + o, none⟩)) w := by
  obtain ⟨fs, hu, _, hfs⟩ := hP.ty ht
  obtain ⟨fl, h1, h2⟩ := run_fieldPlace (hfs f o hf) b c w
  simp [Instr.fieldAt, run_underlying hu, h1, Instr.sureAddr, h2, Sem.run_bind]

theorem WpL.fieldP (hP : TabOk P tab) {t f o k : Nat} {offs : List Nat} {zs : List AV} {x : Operand} {id ep off : Nat} {ob : AObj} (ht : tlook tab t = some (.struct offs k zs)) (hf : offs[f]? = some o) (hx : av T x = .ptr id ep off)
    (ho : O[id]? = some ob) (he : ob.ep = ep) (hn : d < n) (h : WpL P n m G md ops l ⟨(d, .ptr id ep (off + o)) :: T, O⟩ Q) :
    WpL P n m G md ops ({ dst := some d, op := .fieldAddr t x f, type := tt, pos := pos, after := after, guard := none } :: l) ⟨T, O⟩ Q :=
  WpL.pure rfl rfl hn (fun S ι F a w hr => by
    have hv := hr.eval x
    rw [show av (St.mk T O).T x = _ from hx] at hv
    cases hv with
    | ptr q1 q2 q3 r =>
      rw [show (St.mk T O).O[id]? = some ob from ho] at q1
      cases q1
      have hc := q3 he.symm
      cases hs : ι id with
      | none => rw [hs] at hc; exact hc.elim
      | some p =>
        obtain ⟨b, kk⟩ := p
        rw [hs] at hc
        have hc : a.eval x = .pointer (some ⟨b, off, none⟩) := hc
        refine ⟨.pointer (some ⟨b, off + o, none⟩), by simp [execOp, hc, run_fieldAt hP ht hf, Sem.run_bind], .ptr ho q2 (fun _ => ?_) .nil⟩
        rw [hs]; rfl) h

theorem WpL.fieldI (hP : TabOk P tab) {t f o k : Nat} {offs : List Nat} {zs cs : List AV} {x : Operand} {off : Nat} (ht : tlook tab t = some (.struct offs k zs)) (hf : offs[f]? = some o) (hx : av T x = .iptr cs off) (hn : d < n)
    (h : WpL P n m G md ops l ⟨(d, .iptr cs (off + o)) :: T, O⟩ Q) :
    WpL P n m G md ops ({ dst := some d, op := .fieldAddr t x f, type := tt, pos := pos, after := after, guard := none } :: l) ⟨T, O⟩ Q :=
  WpL.pure rfl rfl hn (fun S ι F a w hr => by
    have hv := hr.eval x
    rw [show av (St.mk T O).T x = _ from hx] at hv
    obtain ⟨b, o', us, hpt, hS, hc, hl, _⟩ := iptr_inv hv
    exact ⟨.pointer (some ⟨b, o' + off + o, none⟩), by simp [execOp, hpt, run_fieldAt hP ht hf, Sem.run_bind], by
      have := LRel.iptr (O := O) (off := off + o) hS hc hl .nil
      rwa [← Nat.add_assoc] at this⟩) h

theorem WpL.nilCheckP {x : Operand} {id ep off : Nat} {ob : AObj} (hx : av T x = .ptr id ep off) (ho : O[id]? = some ob) (he : ob.ep = ep) (hn : d < n) (h : WpL P n m G md ops l ⟨(d, .ptr id ep off) :: T, O⟩ Q) :
    WpL P n m G md ops ({ dst := some d, op := .nilCheck x, type := tt, pos := pos, after := after, guard := none } :: l) ⟨T, O⟩ Q :=
  WpL.pure rfl rfl hn (fun S ι F a w hr => by
    have hv := hr.eval x
    have hv0 := hv
    rw [show av (St.mk T O).T x = _ from hx] at hv
    rw [show av (St.mk T O).T x = _ from hx] at hv0
    cases hv with
    | ptr q1 q2 q3 r =>
      rw [show (St.mk T O).O[id]? = some ob from ho] at q1
      cases q1
      have hc := q3 he.symm
      cases hs : ι id with
      | none => rw [hs] at hc; exact hc.elim
      | some p =>
        obtain ⟨b, kk⟩ := p
        rw [hs] at hc
        have hc : a.eval x = .pointer (some ⟨b, off, none⟩) := hc
        exact ⟨a.eval x, by simp [execOp, hc], hv0⟩) h
theorem WpL.nilCheckI {x : Operand} {cs : List AV} {off : Nat} (hx : av T x = .iptr cs off) (hn : d < n) (h : WpL P n m G md ops l ⟨(d, .iptr cs off) :: T, O⟩ Q) :
    WpL P n m G md ops ({ dst := some d, op := .nilCheck x, type := tt, pos := pos, after := after, guard := none } :: l) ⟨T, O⟩ Q :=
  WpL.pure rfl rfl hn (fun S ι F a w hr => by
    have hv := hr.eval x
    have hv0 := hv
    rw [show av (St.mk T O).T x = _ from hx] at hv
    rw [show av (St.mk T O).T x = _ from hx] at hv0
    obtain ⟨b, o', us, hpt, _⟩ := iptr_inv hv
    exact ⟨a.eval x, by simp [execOp, hpt], hv0⟩) h

theorem run_indexAt {P : Program} {t e k : Nat} {i : TypeInfo} (ht : P.underlying t = some (.slice e)) (hi : P.info? e = some i) (hk : i.size = k) (b o len cap : Nat) (kk : IntKind) (j : Int) (hj : 0 ≤ j ∧ j < len) (w : World) :
    (Instr.indexAt t (.slice (some ⟨b, o, none⟩) len cap) (.int kk j)).run P w = .ok (.pointer (some ⟨b, o + j.toNat * k, none⟩)) w := by
  simp [Instr.indexAt, asIntOf, run_underlying ht, run_sizeOf hi hk, hj, addr_add, Sem.run_bind]

theorem TabOk.slice (hP : TabOk P tab) {t e k b : Nat} {zs : List AV} (ht : tlook tab t = some (.slice e k b zs)) :
    P.underlying t = some (.slice e) ∧ ∃ i z, P.info? e = some i ∧ i.zero = some z ∧ i.size = k ∧ i.bytes = b ∧ z.cells.size = k ∧ 0 < k ∧ zs = z.cells.toList.map zav := by
  obtain ⟨h1, _, z, h2, h3, h4, h5⟩ := hP.ty ht
  refine ⟨h1, ?_⟩
  cases hh : P.info? e with
  | none => simp [hh] at h2
  | some i =>
    rw [hh] at h2
    simp at h2
    exact ⟨i, z, rfl, h2.1, h2.2.1, h2.2.2, h3, h4, h5⟩

/-- The address of an element of a slice that stays; the test on the index is a premise. -/
theorem WpL.idxI (hP : TabOk P tab) {t e k b : Nat} {zs cs : List AV} {x y : Operand} {len : Nat} {kk : IntKind} {j : Int} (ht : tlook tab t = some (.slice e k b zs)) (hx : av T x = .imm k len cs) (hy : av T y = .sc (.int kk j))
    (hj : 0 ≤ j ∧ j < len) (hn : d < n) (h : WpL P n m G md ops l ⟨(d, .iptr cs (j.toNat * k)) :: T, O⟩ Q) :
    WpL P n m G md ops ({ dst := some d, op := .indexAddr t x y, type := tt, pos := pos, after := after, guard := none } :: l) ⟨T, O⟩ Q :=
  WpL.pure rfl rfl hn (fun S ι F a w hr => by
    obtain ⟨hu, i, z, hi, _, hk, _⟩ := hP.slice ht
    have hv := hr.eval x
    rw [show av (St.mk T O).T x = _ from hx] at hv
    rcases (imm_inv hv).2 with ⟨_, _, _, _, h0, _⟩ | ⟨b', o, cap, us, hpt, hS, hc, hl, _⟩
    · omega
    · exact ⟨.pointer (some ⟨b', o + j.toNat * k, none⟩), by simp [execOp, hpt, hr.sc hy, run_indexAt hu hi hk _ _ _ _ _ _ hj, Sem.run_bind], .iptr hS hc hl .nil⟩) h

/-- The address of an element of a slice of the call's own. -/
theorem WpL.idxO (hP : TabOk P tab) {t e k b : Nat} {zs : List AV} {x y : Operand} {id ep off len : Nat} {ob : AObj} {kk : IntKind} {j : Int} (ht : tlook tab t = some (.slice e k b zs)) (hx : av T x = .own id ep off len)
    (ho : O[id]? = some ob) (he : ob.ep = ep) (hy : av T y = .sc (.int kk j))
    (hj : 0 ≤ j ∧ j < len) (hn : d < n) (h : WpL P n m G md ops l ⟨(d, .ptr id ep (off + j.toNat * k)) :: T, O⟩ Q) :
    WpL P n m G md ops ({ dst := some d, op := .indexAddr t x y, type := tt, pos := pos, after := after, guard := none } :: l) ⟨T, O⟩ Q :=
  WpL.pure rfl rfl hn (fun S ι F a w hr => by
    obtain ⟨hu, i, z, hi, _, hk, _⟩ := hP.slice ht
    have hv := hr.eval x
    rw [show av (St.mk T O).T x = _ from hx] at hv
    cases hv with
    | own q1 q2 q3 r =>
      rw [show (St.mk T O).O[id]? = some ob from ho] at q1
      cases q1
      have hc := q3 he.symm
      cases hs : ι id with
      | none => rw [hs] at hc; obtain ⟨_, _, h0⟩ := hc; omega
      | some p =>
        obtain ⟨b', kk'⟩ := p
        rw [hs] at hc
        obtain ⟨cap, hpt, _⟩ := hc
        refine ⟨.pointer (some ⟨b', off + j.toNat * k, none⟩), by simp [execOp, hpt, hr.sc hy, run_indexAt hu hi hk _ _ _ _ _ _ hj, Sem.run_bind], .ptr ho q2 (fun _ => ?_) .nil⟩
        rw [hs]; rfl) h

theorem WpL.idxStr (hP : TabOk P tab) {t : Nat} {x y : Operand} {p : List UInt8} {kk : IntKind} {j : Int} (ht : tlook tab t = some .string) (hx : av T x = .sc (.string ⟨p.toArray⟩)) (hy : av T y = .sc (.int kk j))
    (hj : 0 ≤ j ∧ j < p.length) (hn : d < n) (h : WpL P n m G md ops l ⟨(d, .sc (.int .u8 ((p.getD j.toNat 0).toNat))) :: T, O⟩ Q) :
    WpL P n m G md ops ({ dst := some d, op := .index t x y, type := tt, pos := pos, after := after, guard := none } :: l) ⟨T, O⟩ Q :=
  WpL.pure rfl rfl hn (fun S ι F a w hr => by
    have hu := (hP.ty ht).1
    have hlt : j.toNat < p.length := by omega
    have hg : (ByteArray.mk p.toArray)[(j.toNat : Nat)]? = some (p.getD j.toNat 0) := by
      have h1 : j.toNat < (ByteArray.mk p.toArray).size := by simp [ByteArray.size]; exact hlt
      rw [getElem?_pos (ByteArray.mk p.toArray) j.toNat h1]
      congr 1
      rw [ByteArray.getElem_eq_getElem_data]
      simp [hlt]
    refine ⟨_, ?_, .sc .nil⟩
    simp only [execOp, Instr.index, hr.sc hx, hr.sc hy, asIntOf, Sem.run_bind, Sem.run_pure, Result.andThen_ok, run_underlying hu, if_pos hj.1, hg]) h

/-- A part of a string. -/
theorem run_sliceStr {P : Program} {t : Nat} (hu : P.underlying t = some .string) (p : List UInt8) (lo hi : Option Value) (a b : Nat) (hlo : (lo = none ∧ a = 0) ∨ ∃ k, lo = some (.int k a)) (hhi : (hi = none ∧ b = p.length) ∨ ∃ k, hi = some (.int k b))
    (hab : a ≤ b ∧ b ≤ p.length) (w : World) : (Instr.sliceAt t (.string ⟨p.toArray⟩) lo hi none).run P w = .ok (.string ⟨((p.drop a).take (b - a)).toArray⟩) w := by
  have hsz : (ByteArray.mk p.toArray).size = p.length := by simp [ByteArray.size]
  have h1 : b ≤ p.length := hab.2
  have h2 : a ≤ b := hab.1
  rcases hlo with ⟨rfl, rfl⟩ | ⟨k1, rfl⟩ <;> rcases hhi with ⟨rfl, rfl⟩ | ⟨k2, rfl⟩ <;>
    simp [Instr.sliceAt, Instr.slice, run_underlying hu, Instr.sliceBounds, Instr.sliceBound, asIntOf, hsz, h1, h2, ByteArray.extract_mk, Sem.run_bind]

theorem WpL.subStr (hP : TabOk P tab) {t : Nat} {x : Operand} {lo hi : Option Operand} {p : List UInt8} {i j : Int} (ht : tlook tab t = some .string) (hx : av T x = .sc (.string ⟨p.toArray⟩))
    (hlo : (lo = none ∧ i = 0) ∨ ∃ y k, lo = some y ∧ av T y = .sc (.int k i)) (hhi : (hi = none ∧ j = p.length) ∨ ∃ y k, hi = some y ∧ av T y = .sc (.int k j))
    (hb : 0 ≤ i ∧ i ≤ j ∧ j ≤ p.length) (hn : d < n) (h : WpL P n m G md ops l ⟨(d, .sc (.string ⟨((p.drop i.toNat).take (j.toNat - i.toNat)).toArray⟩)) :: T, O⟩ Q) :
    WpL P n m G md ops ({ dst := some d, op := .slice t x lo hi none, type := tt, pos := pos, after := after, guard := none } :: l) ⟨T, O⟩ Q :=
  WpL.pure rfl rfl hn (fun S ι F a w hr => by
    have hu := (hP.ty ht).1
    refine ⟨_, ?_, .sc .nil⟩
    have hi' : (i.toNat : Int) = i := by omega
    have hj' : (j.toNat : Int) = j := by omega
    have := run_sliceStr hu p (lo.map a.eval) (hi.map a.eval) i.toNat j.toNat ?_ ?_ (by omega) w
    · simp [execOp, hr.sc hx, this, Sem.run_bind]
    · rcases hlo with ⟨rfl, rfl⟩ | ⟨y, k, rfl, hy⟩
      · exact .inl ⟨rfl, rfl⟩
      · exact .inr ⟨k, by simp [hr.sc hy, hi']⟩
    · rcases hhi with ⟨rfl, rfl⟩ | ⟨y, k, rfl, hy⟩
      · exact .inl ⟨rfl, by simp⟩
      · exact .inr ⟨k, by simp [hr.sc hy, hj']⟩) h

theorem run_sliceSl {P : Program} {t e k : Nat} {i : TypeInfo} (hu : P.underlying t = some (.slice e)) (hi : P.info? e = some i) (hk : i.size = k) (ad : Addr) (len cap : Nat) (lo hi' : Option Value) (a b : Nat)
    (hlo : (lo = none ∧ a = 0) ∨ ∃ k, lo = some (.int k a)) (hhi : (hi' = none ∧ b = len) ∨ ∃ k, hi' = some (.int k b)) (hab : a ≤ b ∧ b ≤ cap) (w : World) :
    (Instr.sliceAt t (.slice (some ad) len cap) lo hi' none).run P w = .ok (.slice (some (if cap = a then ad else ad.add (a * k))) (b - a) (cap - a)) w := by
  have h1 : b ≤ cap := hab.2
  have h2 : a ≤ b := hab.1
  rcases hlo with ⟨rfl, rfl⟩ | ⟨k1, rfl⟩ <;> rcases hhi with ⟨rfl, rfl⟩ | ⟨k2, rfl⟩ <;>
    simp [Instr.sliceAt, Instr.slice, run_underlying hu, Instr.sliceBounds, Instr.sliceBound, asIntOf, h1, h2, run_sizeOf hi hk, Sem.run_bind] <;> split <;> rfl

/-- A part of a slice that stays. -/
theorem WpL.subImm (hP : TabOk P tab) {t e k b : Nat} {zs cs : List AV} {x : Operand} {lo hi : Option Operand} {len : Nat} {i j : Int} (ht : tlook tab t = some (.slice e k b zs)) (hx : av T x = .imm k len cs)
    (hlo : (lo = none ∧ i = 0) ∨ ∃ y k, lo = some y ∧ av T y = .sc (.int k i)) (hhi : (hi = none ∧ j = len) ∨ ∃ y k, hi = some y ∧ av T y = .sc (.int k j))
    (hb : 0 ≤ i ∧ i ≤ j ∧ j ≤ len) (hn : d < n) (h : WpL P n m G md ops l ⟨(d, .imm k (j.toNat - i.toNat) ((cs.drop (i.toNat * k)).take ((j.toNat - i.toNat) * k))) :: T, O⟩ Q) :
    WpL P n m G md ops ({ dst := some d, op := .slice t x lo hi none, type := tt, pos := pos, after := after, guard := none } :: l) ⟨T, O⟩ Q :=
  WpL.pure rfl rfl hn (fun S ι F a w hr => by
    obtain ⟨hu, inf, z, hinf, _, hk, _, _, hk0, _⟩ := hP.slice ht
    have hi' : (i.toNat : Int) = i := by omega
    have hj' : (j.toNat : Int) = j := by omega
    have e1 : (lo.map a.eval = none ∧ i.toNat = 0) ∨ ∃ k, lo.map a.eval = some (.int k i.toNat) := by
      rcases hlo with ⟨rfl, rfl⟩ | ⟨y, k, rfl, hy⟩
      · exact .inl ⟨rfl, rfl⟩
      · exact .inr ⟨k, by simp [hr.sc hy, hi']⟩
    have e2 : (hi.map a.eval = none ∧ j.toNat = len) ∨ ∃ k, hi.map a.eval = some (.int k j.toNat) := by
      rcases hhi with ⟨rfl, rfl⟩ | ⟨y, k, rfl, hy⟩
      · exact .inl ⟨rfl, by simp⟩
      · exact .inr ⟨k, by simp [hr.sc hy, hj']⟩
    have hv := hr.eval x
    rw [show av (St.mk T O).T x = _ from hx] at hv
    rcases (imm_inv hv).2 with ⟨ad, cap, hpt, hca, h0, hcs0⟩ | ⟨b', o, cap, us, hpt, hS, hc, hl, h1, h2, h3⟩
    · subst hcs0
      have hi0 : i.toNat = 0 := by omega
      have hj0 : j.toNat = 0 := by omega
      cases ad with
      | some ad =>
        subst h0
        have hrun := run_sliceSl hu hinf hk ad 0 cap _ _ i.toNat j.toNat e1 e2 (by omega) w
        refine ⟨_, by simp [execOp, hpt, hrun, Sem.run_bind]; rfl, ?_⟩
        simp only [hi0, hj0, Nat.sub_zero, Nat.zero_mul, List.drop_zero, List.take_zero]
        exact .imm0 ⟨by simp, hca.2⟩ .nil
      | none =>
      obtain rfl := hca.1 rfl
      refine ⟨.slice none 0 0, ?_, ?_⟩
      · have hrun : (Instr.sliceAt t (.slice none 0 0) (lo.map a.eval) (hi.map a.eval) none).run P w = .ok (.slice none 0 0) w := by
          rcases e1 with ⟨h1, _⟩ | ⟨k1, h1⟩ <;> rcases e2 with ⟨h2, _⟩ | ⟨k2, h2⟩ <;>
            simp [h1, h2, hi0, hj0, Instr.sliceAt, Instr.slice, run_underlying hu, Instr.sliceBounds, Instr.sliceBound, asIntOf, run_sizeOf hinf hk, Sem.run_bind]
        simp [execOp, hpt, hrun, Sem.run_bind]
      · simp [hi0, hj0]; exact .imm0 (by simp) .nil
    · have hrun := run_sliceSl hu hinf hk ⟨b', o, none⟩ len cap _ _ i.toNat j.toNat e1 e2 (by omega) w
      refine ⟨_, by simp [execOp, hpt, hrun, Sem.run_bind]; rfl, ?_⟩
      have hsl : LRel S w ι [] ((cs.drop (i.toNat * k)).take ((j.toNat - i.toNat) * k)) ((us.drop (i.toNat * k)).take ((j.toNat - i.toNat) * k)) [] := by
        obtain ⟨g1, hd, hg1, _⟩ := hl.drop (i.toNat * k)
        obtain ⟨g2, ht', hg2, _⟩ := hd.take ((j.toNat - i.toNat) * k)
        have : g2 = [] := List.eq_nil_iff_forall_not_mem.2 fun x hx => by simpa using hg1 x (hg2 x hx)
        rw [this] at ht'; exact ht'
      have hlen : (j.toNat - i.toNat) * k = ((cs.drop (i.toNat * k)).take ((j.toNat - i.toNat) * k)).length := by
        rw [List.length_take, List.length_drop, ← h1, ← Nat.sub_mul]
        have : (j.toNat - i.toNat) * k ≤ (len - i.toNat) * k := Nat.mul_le_mul_right _ (by omega)
        omega
      by_cases hcap : cap = i.toNat
      · have hz : (j.toNat - i.toNat) = 0 := by omega
        have hcs : ((cs.drop (i.toNat * k)).take ((j.toNat - i.toNat) * k)) = [] := by rw [hz]; simp
        rw [if_pos hcap, hcs, hz]
        exact .imm (us := []) hS (by simp) .nil (by simp) (by omega) (by omega) .nil
      · rw [if_neg hcap, addr_add]
        refine .imm hS (fun q hq => ?_) hsl hlen (by omega) (by omega) .nil
        rw [List.length_take, List.length_drop] at hq
        have h4 := hc (i.toNat * k + q) (by omega)
        rw [← Nat.add_assoc] at h4
        rw [h4, List.getElem?_take, if_pos (by omega), List.getElem?_drop]) h

end
end Go.Abs
