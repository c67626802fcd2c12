/- Proved in this text: lemmas and contracts of functions that the claim uses (parts: Read, Read2). No condition. -/
import Derived.Test.YtkckmenalehdpaaDoorRhM8
import Derived.ChangeArms
import Derived.Test.YtkckmenalehdpaaDoorRhM3
set_option linter.unusedVariables false
set_option linter.unusedSimpArgs false
set_option maxRecDepth 100000
set_option maxHeartbeats 4000000


namespace Go.Abs
open Go Go.RowKit
inductive Sp where
  | int (k : IntKind) | bool | str | struct (fs : List Sp) | slice (k : Nat) (e : Sp)
mutual
inductive SpOk (P : Program) : TypeId → Sp → Prop
  | int {t k} : P.underlying t = some (.int k) → SpOk P t (.int k)
  | bool {t} : P.underlying t = some .bool → SpOk P t .bool
  | str {t} : P.underlying t = some .string → SpOk P t .str
  | struct {t fs sps n} : P.underlying t = some (.struct fs) → P.cellsOf t = n → SpF P 0 fs.toList sps n → SpOk P t (.struct sps)
  | slice {t e k sp} : P.underlying t = some (.slice e) → P.cellsOf e = k → 0 < k → SpOk P e sp → SpOk P t (.slice k sp)
inductive SpF (P : Program) : Nat → List Field → List Sp → Nat → Prop
  | nil {k} : SpF P k [] [] k
  | cons {k c f fs sp sps n} : f.offset = k → P.cellsOf f.type = c → SpOk P f.type sp → SpF P (k + c) fs sps n → SpF P k (f :: fs) (sp :: sps) n
end
mutual
inductive Rd : Sp → List AV → Prop
  | int {k n} : (Lit.int k n).wf = true → Rd (.int k) [.sc (.int k n)]
  | bool {b} : Rd .bool [.sc (.bool b)]
  | str {p : List UInt8} : p.length ≤ maxLen → Rd .str [.sc (.string ⟨p.toArray⟩)]
  | struct {sps cs} : RdF sps cs → Rd (.struct sps) cs
  | slice {sp len k cs} : len ≤ maxLen → RdN sp len k cs → Rd (.slice k sp) [.imm k len cs]
inductive RdF : List Sp → List AV → Prop
  | nil : RdF [] []
  | cons {sp sps a b} : Rd sp a → RdF sps b → RdF (sp :: sps) (a ++ b)
inductive RdN : Sp → Nat → Nat → List AV → Prop
  | nil {sp k} : RdN sp 0 k []
  | snoc {sp n k a b} : RdN sp n k a → Rd sp b → b.length = k → RdN sp (n + 1) k (a ++ b)
end
theorem RdN.len {sp n k cs} (h : RdN sp n k cs) : cs.length = n * k := by
  induction n generalizing cs with
  | zero => cases h; simp
  | succ n ih => cases h with | snoc h1 h2 h3 => rw [List.length_append, ih h1, h3, Nat.add_mul]; omega
section
variable {H : Type} {enc : TypeId × Value → H} {P : Program} {w : World} {base : Nat} {spare : Nat → Bool} {held : Bool}
theorem read {S : Nat → Prop} {ι : Nat → Spot} (hS : ∀ b, b < w.heap.size → S b) : ∀ (fuel : Nat) (t : TypeId) (sp : Sp) (cs : List Value) (x : DataW H × List MemPlace), SpOk P t sp →
    DataW.trod enc P w base spare held fuel t cs = some x → ∃ ds, Rd sp ds ∧ ∀ O, LRel S w ι O ds cs [] := by
  intro fuel
  induction fuel with
  | zero => intro t sp cs x _ h; simp [DataW.trod] at h
  | succ fuel ih =>
    intro t sp cs x hsp h
    cases hsp with
    | int ht =>
      obtain ⟨n, rfl, _, hw⟩ := DataW.trod_int ht h
      exact ⟨_, .int hw, fun O => .sc .nil⟩
    | bool ht =>
      obtain ⟨b, rfl, _⟩ := DataW.trod_bool ht h
      exact ⟨_, .bool, fun O => .sc .nil⟩
    | str ht =>
      obtain ⟨s, rfl, _, hs⟩ := DataW.trod_string ht h
      exact ⟨[.sc (.string ⟨s.data.toList.toArray⟩)], .str (by have : s.data.toList.length = s.size := rfl; omega), fun O => .sc .nil⟩
    | @struct _ fs sps n ht hn hf =>
      obtain ⟨xs, m, hm, _, hlen, hxl, hel⟩ := DataW.trod_struct ht h
      obtain rfl : fuel = m := by omega
      have key : ∀ (fl : List Field) (k : Nat) (sps : List Sp), SpF P k fl sps n → (∀ f ∈ fl, ∃ x, DataW.trod enc P w base spare held fuel f.type ((cs.drop f.offset).take (P.cellsOf f.type)) = some x) →
          k ≤ n → ∃ ds, RdF sps ds ∧ ∀ O, LRel S w ι O ds (cs.drop k) [] := by
        intro fl
        induction fl with
        | nil =>
          intro k sps hF _ _
          cases hF
          exact ⟨[], .nil, fun O => by rw [List.drop_eq_nil_of_le (by omega)]; exact .nil⟩
        | cons f fl ihf =>
          intro k sps hF hx hk
          cases hF with
          | cons h1 h2 h3 h4 =>
            obtain ⟨y, hy⟩ := hx f (by simp)
            obtain ⟨d1, r1, l1⟩ := ih _ _ _ _ h3 hy
            have hkn : ∀ {k fl sps}, SpF P k fl sps n → k ≤ n := by
              intro k fl
              induction fl generalizing k with
              | nil => intro sps h; cases h; exact Nat.le_refl _
              | cons f fl ih2 => intro sps h; cases h with | cons _ _ _ h => have := ih2 h; omega
            obtain ⟨d2, r2, l2⟩ := ihf _ _ h4 (fun g hg => hx g (by simp [hg])) (hkn h4)
            refine ⟨d1 ++ d2, .cons r1 r2, fun O => ?_⟩
            have e : cs.drop k = (cs.drop f.offset).take (P.cellsOf f.type) ++ cs.drop (k + P.cellsOf f.type) := by
              rw [h1, ← List.drop_drop, List.take_append_drop]
            rw [e, h2]
            rw [h2] at l1
            simpa using (l1 O).append (l2 O)
      obtain ⟨ds, r, l⟩ := key fs.toList 0 sps hf (fun f hf' => by
        obtain ⟨i, hi⟩ := List.getElem?_of_mem hf'
        have hi' : fs[i]? = some f := by simpa using hi
        have := hel i f hi'
        have hlt : i < xs.length := by have := (Array.getElem?_eq_some_iff.1 hi').1; omega
        exact ⟨xs[i], by rw [this]; simp [hlt]⟩) (Nat.zero_le _)
      exact ⟨ds, .struct r, fun O => by simpa using l O⟩
    | @slice _ e k sp ht hk hk0 he =>
      rcases DataW.trod_slice ht h with ⟨rfl, _⟩ | ⟨a, len, cap, elems, rest, m, hm, rfl, _, hb, hl, hc, hlen, hel, _, _⟩
      · exact ⟨[.imm k 0 []], .slice (by simp) .nil, fun O => .imm0 (by simp) .nil⟩
      obtain rfl : fuel = m := by omega
      have cells : ∀ j, j ≤ len → ∃ ds us, RdN sp j k ds ∧ us.length = j * k ∧ (∀ i, i < us.length → w.cell? (a.add i) = us[i]?) ∧ LRel S w ι [] ds us [] := by
        intro j
        induction j with
        | zero => intro _; exact ⟨[], [], .nil, by simp, by simp, .nil⟩
        | succ j ihj =>
          intro hj
          obtain ⟨ds, us, h1, h2, h3, h4⟩ := ihj (by omega)
          have hx := hel j (by omega)
          have hlt : j < elems.length := by omega
          rw [List.getElem?_eq_getElem hlt, Option.bind_eq_some_iff, hk] at hx
          obtain ⟨us2, hu, ht2⟩ := hx
          obtain ⟨d2, r2, l2⟩ := ih _ _ _ _ he ht2
          obtain ⟨_, c2, c3⟩ := World.cells?_some hu
          have l2' := l2 []
          have hd2 : d2.length = k := by rw [l2'.len, c2]
          refine ⟨ds ++ d2, us ++ us2, .snoc h1 r2 hd2, by rw [List.length_append, h2, c2, Nat.add_mul]; omega, fun i hi => ?_, by simpa using h4.append l2'⟩
          rw [List.length_append] at hi
          by_cases hlt2 : i < us.length
          · rw [h3 i hlt2, List.getElem?_append_left hlt2]
          · have hadd : a.add i = (a.add (j * k)).add (i - j * k) := by
              unfold Addr.add
              by_cases hz : j * k = 0
              · simp [hz]
              · by_cases hz2 : i - j * k = 0
                · have : i = j * k := by omega
                  simp [this]
                · rw [if_neg (by omega), if_neg hz, if_neg hz2]
                  simp only [Addr.mk.injEq, true_and, and_true]
                  omega
            rw [hadd, c3 (i - j * k) (by omega), List.getElem?_append_right (by omega), h2]
      obtain ⟨ds, us, h1, h2, h3, h4⟩ := cells len (Nat.le_refl _)
      refine ⟨[.imm k len ds], .slice (by omega) h1, fun O => ?_⟩
      by_cases h0 : len = 0
      · subst h0
        cases h1
        exact .imm0 ⟨by simp, hc⟩ .nil
      · have hul : 0 < us.length := by rw [h2]; exact Nat.mul_pos (by omega) hk0
        have hsp := spot_none (w := w) (x := a) (n := us.length) hul fun i hi => ⟨us[i], by rw [h3 i hi]; simp [hi]⟩
        obtain ⟨b, o, q⟩ := a
        simp only at hsp
        subst hsp
        have hcell : ∀ i, i < us.length → w.cell? ⟨b, o + i, none⟩ = us[i]? := fun i hi => by have := h3 i hi; rwa [addr_add] at this
        refine .imm (us := us) (hS _ ?_) hcell h4 (by rw [h1.len]) hl hc .nil
        by_cases hb' : b < w.heap.size
        · exact hb'
        · have := hcell 0 hul
          simp [World.cell?, Array.getElem?_eq_none (Nat.le_of_not_lt hb'), hul] at this
end
end Go.Abs


namespace Go.Abs
open Go Go.RowKit
abbrev i64 (n : Int) : Prop := -9223372036854775808 ≤ n ∧ n ≤ 9223372036854775807
theorem rd_str {ds : List AV} (h : Rd .str ds) : ∃ p : List UInt8, ds = [Z p] ∧ p.length ≤ 9223372036854775807 := by
  cases h with | str hp => exact ⟨_, rfl, by simp only [maxLen] at hp; omega⟩
theorem lrel_cons0 {S : Nat → Prop} {w : World} {ι : Nat → Spot} {O : List AObj} {V : AV} {v : Value} {cs : List AV} {vs : List Value} (h1 : VRel S w ι O V v []) (h2 : LRel S w ι O cs vs []) : LRel S w ι O (V :: cs) (v :: vs) [] := LRel.cons h1 h2
end Go.Abs
