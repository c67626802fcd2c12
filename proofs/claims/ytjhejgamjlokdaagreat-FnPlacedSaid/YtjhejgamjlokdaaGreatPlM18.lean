/- Proved in this text: lemmas and contracts of functions that the claim uses (parts: PlX, Bridge, Read, Read2, Read3). No condition. -/
import Derived.Test.YtjhejgamjlokdaaGreatPlM17
import Derived.Test.YtjhejgamjlokdaaGreatPlM2
import Derived.Below
import Derived.ChangeArms
import Derived.Test.YtjhejgamjlokdaaGreatPlM3
import Derived.Test.YtjhejgamjlokdaaGreatPlM9
set_option linter.unusedVariables false
set_option linter.unusedSimpArgs false
set_option maxRecDepth 100000
set_option maxHeartbeats 16000000


namespace Go.Proofs.YtjhejgamjlokdaaGreat
open Go Go.Abs
attribute [local irreducible] WpA WpL Rnd Blk Abs.Seq Abs.Fin Abs.FinG FnC FnG FnX FnP FinX Only
attribute [local irreducible] putL putD
attribute [-instance] DrawPutRef_c
theorem FnPlaced_c (l : List Int) (hl : l.length ≤ 9223372036854775807) : Fn 4 [CodA l] [] (B true) := by
  by_cases hb : (l.length : Int) > 1048576
  · refine FnC.of_body tabOk Tryz.func4 Tryz.ntmps4 rfl (by decide +kernel) (by simp) fun G => ?_
    refine go (r := ?_); and_intros <;> intros <;> try exact True.intro
  · have hl2 : l.length ≤ 1048576 := by omega
    obtain ⟨_, hp, h6, h64⟩ := putD_ok (newD_ok hl2)
    have hdc := put_i (DrawPutRef_c.ok l hl2)
    refine FnC.of_body tabOk Tryz.func4 Tryz.ntmps4 rfl (by decide +kernel) (by simp) fun G => ?_
    generalize (putD l (newD l)).2 = A at *
    obtain ⟨⟨⟨W, H, p0, o0⟩, x, y, n⟩, ⟨w, h, q, b, d, lens⟩, m, lv⟩ := A
    simp only at hp h6 h64 hdc
    have hp2 : (p0.drop o0).length ≤ 384 := by rw [List.length_drop]; omega
    clear hp
    change Fn _ _ _ (.tup [FrA W H (p0.drop o0), HdA w h q b d lens, I x, I y, .agg [I m, IL lv]]) at hdc
    generalize p0.drop o0 = p at *
    have hpl := putL_len W H p q b x y m lv
    by_cases hok : PutOk W H p q x y m lv
    · have hd := decide_eq_true hok
      have hfo := putL_ok (q := q) (b := b) (x := x) (y := y) (m := m) (lv := lv) hok.1.1
      have hfd := decide_eq_true hfo
      have hsd := hok.1.1.1
      have hW := hsd.1
      have hout := fun i => putL_out (b := b) (i := i) hok
      have hn48 := hok.2.1.1.2
      refine goR (r := ?_); and_intros <;> intros <;> try exact True.intro
      all_goals first | contradiction | omega | skip
      refine K.call ?_
      apply WpL.callK hdc
      · exact .keep rfl rfl .nil
      · decide
      by_cases h8 : lv.length = 64
      · have hs8 : side lv.length = 8 := by rw [h8]; rfl
        rw [hs8] at hout
        refine goR (r := ?_); and_intros <;> intros <;> try exact True.intro
        all_goals first | contradiction | omega | (rename_i hg; exact absurd (by simp) hg) | skip
        refine WpA.loop (fun k : Nat => ⟨[(3, .ptr 0 0 0), (5, I x), (6, I y), (8, .ptr 4 0 0), (14, I 8), (15, I k)], [FrO W H p, ⟨[I w, I h, I q, B b, B d, IL lens], 0, 0, none⟩, ⟨[I m, IL lv], 0, 0, none⟩, XI (putL W H p q b x y m lv), ⟨[I W, I H, .own 3 0 0 p.length], 0, 0, none⟩]⟩) (fun k => k ≤ p.length) (fun k => p.length - k) 0 (by omega) (go (r := ?_)) (fun k hk => ?_)
        · and_intros <;> first | exact True.intro | rfl | trace_state
        have ho := hout k
        have hWk : 1 ≤ W := by omega
        by_cases c1 : (k : Int) % W < x
        · replace ho := ho (.inl c1)
          clear hout hfo hdc hok hd hn48 hsd h6 h64
          refine go (r := ?_); and_intros <;> intros <;> try exact True.intro
          all_goals first | contradiction | omega | (exfalso; rename_i hne; rw [Int.toNat_natCast] at hne; exact hne ho.symm) | trace_state
        by_cases c2 : x + 8 ≤ (k : Int) % W
        · replace ho := ho (.inr (.inl c2))
          clear hout hfo hdc hok hd hn48 hsd h6 h64
          refine go (r := ?_); and_intros <;> intros <;> try exact True.intro
          all_goals first | contradiction | omega | (exfalso; rename_i hne; rw [Int.toNat_natCast] at hne; exact hne ho.symm) | trace_state
        by_cases c3 : (k : Int) / W < y
        · replace ho := ho (.inr (.inr (.inl c3)))
          clear hout hfo hdc hok hd hn48 hsd h6 h64
          refine go (r := ?_); and_intros <;> intros <;> try exact True.intro
          all_goals first | contradiction | omega | (exfalso; rename_i hne; rw [Int.toNat_natCast] at hne; exact hne ho.symm) | trace_state
        by_cases c4 : y + 8 ≤ (k : Int) / W
        · replace ho := ho (.inr (.inr (.inr c4)))
          clear hout hfo hdc hok hd hn48 hsd h6 h64
          refine go (r := ?_); and_intros <;> intros <;> try exact True.intro
          all_goals first | contradiction | omega | (exfalso; rename_i hne; rw [Int.toNat_natCast] at hne; exact hne ho.symm) | trace_state
        clear ho
        clear hout hfo hdc hok hd hn48 hsd h6 h64
        refine go (r := ?_); and_intros <;> intros <;> try exact True.intro
        all_goals first | contradiction | omega | (exfalso; rename_i hne; rw [Int.toNat_natCast] at hne; exact hne ho.symm) | trace_state
      · have hs4 : side lv.length = 4 := by rw [hn48.resolve_right h8]; rfl
        rw [hs4] at hout
        refine goR (r := ?_); and_intros <;> intros <;> try exact True.intro
        all_goals first | contradiction | omega | (rename_i hg; exact absurd (by simp) hg) | skip
        refine WpA.loop (fun k : Nat => ⟨[(3, .ptr 0 0 0), (5, I x), (6, I y), (8, .ptr 4 0 0), (14, I 4), (15, I k)], [FrO W H p, ⟨[I w, I h, I q, B b, B d, IL lens], 0, 0, none⟩, ⟨[I m, IL lv], 0, 0, none⟩, XI (putL W H p q b x y m lv), ⟨[I W, I H, .own 3 0 0 p.length], 0, 0, none⟩]⟩) (fun k => k ≤ p.length) (fun k => p.length - k) 0 (by omega) (go (r := ?_)) (fun k hk => ?_)
        · and_intros <;> first | exact True.intro | rfl | trace_state
        have ho := hout k
        have hWk : 1 ≤ W := by omega
        by_cases c1 : (k : Int) % W < x
        · replace ho := ho (.inl c1)
          clear hout hfo hdc hok hd hn48 hsd h6 h64
          refine go (r := ?_); and_intros <;> intros <;> try exact True.intro
          all_goals first | contradiction | omega | (exfalso; rename_i hne; rw [Int.toNat_natCast] at hne; exact hne ho.symm) | trace_state
        by_cases c2 : x + 4 ≤ (k : Int) % W
        · replace ho := ho (.inr (.inl c2))
          clear hout hfo hdc hok hd hn48 hsd h6 h64
          refine go (r := ?_); and_intros <;> intros <;> try exact True.intro
          all_goals first | contradiction | omega | (exfalso; rename_i hne; rw [Int.toNat_natCast] at hne; exact hne ho.symm) | trace_state
        by_cases c3 : (k : Int) / W < y
        · replace ho := ho (.inr (.inr (.inl c3)))
          clear hout hfo hdc hok hd hn48 hsd h6 h64
          refine go (r := ?_); and_intros <;> intros <;> try exact True.intro
          all_goals first | contradiction | omega | (exfalso; rename_i hne; rw [Int.toNat_natCast] at hne; exact hne ho.symm) | trace_state
        by_cases c4 : y + 4 ≤ (k : Int) / W
        · replace ho := ho (.inr (.inr (.inr c4)))
          clear hout hfo hdc hok hd hn48 hsd h6 h64
          refine go (r := ?_); and_intros <;> intros <;> try exact True.intro
          all_goals first | contradiction | omega | (exfalso; rename_i hne; rw [Int.toNat_natCast] at hne; exact hne ho.symm) | trace_state
        clear ho
        clear hout hfo hdc hok hd hn48 hsd h6 h64
        refine go (r := ?_); and_intros <;> intros <;> try exact True.intro
        all_goals first | contradiction | omega | (exfalso; rename_i hne; rw [Int.toNat_natCast] at hne; exact hne ho.symm) | trace_state
    · have hd := decide_eq_false hok
      have hq0 := put_no (q := q) (b := b) hok
      refine goR (r := ?_); and_intros <;> intros <;> try exact True.intro
      all_goals first | contradiction | omega | skip
      refine K.call ?_
      apply WpL.callK hdc
      · exact .keep rfl rfl .nil
      · decide
      refine goR (r := ?_); and_intros <;> intros <;> try exact True.intro
      all_goals first | contradiction | omega | (rename_i hg; exact absurd (by simp) hg) | (rw [hq0]; simp; done) | trace_state
end Go.Proofs.YtjhejgamjlokdaaGreat


namespace Go.Abs
open Go Go.RowKit
theorem FnC.walk {P : Program} {f : FuncId} {args : List AV} {N : List AObj} {x : Value} (hc : FnC P f args N (.sc x)) {w : World} {S : Nat → Prop} {vs : List Value} (hS : ∀ b, S b → b < w.heap.size)
    (hl : LRel S w (fun _ => none) [] args vs []) : Calls P f vs.toArray w fun e w' => e = .returned x ∧ Below w.heap.size w w' := by
  refine (hc.2 w S vs hS hl).mono fun e w' h => ?_
  obtain ⟨v, S', ι, F, rfl, _, _, _, _, _, hv, hk⟩ := h
  cases hv with
  | sc r => exact ⟨rfl, hk.os, hk.tape, hk.output, hk.size, fun b hb => hk.block b hb (fun h => h)⟩
theorem spot_none {w : World} {x : Addr} {n : Nat} (h : 0 < n) (hc : ∀ i, i < n → ∃ v, w.cell? (x.add i) = some v) : x.spot = none := by
  obtain ⟨v, hv⟩ := hc 0 h
  simpa [Addr.add] using World.cell?_spot hv
end Go.Abs


namespace Go.Abs
open Go Go.RowKit
inductive Sp where
  | int (k : IntKind) | bool | str | struct (fs : List Sp) | slice (k : Nat) (e : Sp)
mutual
inductive SpOk (P : Program) : TypeId → Sp → Prop
  | int {t k} : P.underlying t = some (.int k) → SpOk P t (.int k)
  | bool {t} : P.underlying t = some .bool → SpOk P t .bool
  | str {t} : P.underlying t = some .string → SpOk P t .str
  | struct {t fs sps n} : P.underlying t = some (.struct fs) → P.cellsOf t = n → SpF P 0 fs.toList sps n → SpOk P t (.struct sps)
  | slice {t e k sp} : P.underlying t = some (.slice e) → P.cellsOf e = k → 0 < k → SpOk P e sp → SpOk P t (.slice k sp)
inductive SpF (P : Program) : Nat → List Field → List Sp → Nat → Prop
  | nil {k} : SpF P k [] [] k
  | cons {k c f fs sp sps n} : f.offset = k → P.cellsOf f.type = c → SpOk P f.type sp → SpF P (k + c) fs sps n → SpF P k (f :: fs) (sp :: sps) n
end
mutual
inductive Rd : Sp → List AV → Prop
  | int {k n} : (Lit.int k n).wf = true → Rd (.int k) [.sc (.int k n)]
  | bool {b} : Rd .bool [.sc (.bool b)]
  | str {p : List UInt8} : p.length ≤ maxLen → Rd .str [.sc (.string ⟨p.toArray⟩)]
  | struct {sps cs} : RdF sps cs → Rd (.struct sps) cs
  | slice {sp len k cs} : len ≤ maxLen → RdN sp len k cs → Rd (.slice k sp) [.imm k len cs]
inductive RdF : List Sp → List AV → Prop
  | nil : RdF [] []
  | cons {sp sps a b} : Rd sp a → RdF sps b → RdF (sp :: sps) (a ++ b)
inductive RdN : Sp → Nat → Nat → List AV → Prop
  | nil {sp k} : RdN sp 0 k []
  | snoc {sp n k a b} : RdN sp n k a → Rd sp b → b.length = k → RdN sp (n + 1) k (a ++ b)
end
theorem RdN.len {sp n k cs} (h : RdN sp n k cs) : cs.length = n * k := by
  induction n generalizing cs with
  | zero => cases h; simp
  | succ n ih => cases h with | snoc h1 h2 h3 => rw [List.length_append, ih h1, h3, Nat.add_mul]; omega
section
variable {H : Type} {enc : TypeId × Value → H} {P : Program} {w : World} {base : Nat} {spare : Nat → Bool} {held : Bool}
theorem read {S : Nat → Prop} {ι : Nat → Spot} (hS : ∀ b, b < w.heap.size → S b) : ∀ (fuel : Nat) (t : TypeId) (sp : Sp) (cs : List Value) (x : DataW H × List MemPlace), SpOk P t sp →
    DataW.trod enc P w base spare held fuel t cs = some x → ∃ ds, Rd sp ds ∧ ∀ O, LRel S w ι O ds cs [] := by
  intro fuel
  induction fuel with
  | zero => intro t sp cs x _ h; simp [DataW.trod] at h
  | succ fuel ih =>
    intro t sp cs x hsp h
    cases hsp with
    | int ht =>
      obtain ⟨n, rfl, _, hw⟩ := DataW.trod_int ht h
      exact ⟨_, .int hw, fun O => .sc .nil⟩
    | bool ht =>
      obtain ⟨b, rfl, _⟩ := DataW.trod_bool ht h
      exact ⟨_, .bool, fun O => .sc .nil⟩
    | str ht =>
      obtain ⟨s, rfl, _, hs⟩ := DataW.trod_string ht h
      exact ⟨[.sc (.string ⟨s.data.toList.toArray⟩)], .str (by have : s.data.toList.length = s.size := rfl; omega), fun O => .sc .nil⟩
    | @struct _ fs sps n ht hn hf =>
      obtain ⟨xs, m, hm, _, hlen, hxl, hel⟩ := DataW.trod_struct ht h
      obtain rfl : fuel = m := by omega
      have key : ∀ (fl : List Field) (k : Nat) (sps : List Sp), SpF P k fl sps n → (∀ f ∈ fl, ∃ x, DataW.trod enc P w base spare held fuel f.type ((cs.drop f.offset).take (P.cellsOf f.type)) = some x) →
          k ≤ n → ∃ ds, RdF sps ds ∧ ∀ O, LRel S w ι O ds (cs.drop k) [] := by
        intro fl
        induction fl with
        | nil =>
          intro k sps hF _ _
          cases hF
          exact ⟨[], .nil, fun O => by rw [List.drop_eq_nil_of_le (by omega)]; exact .nil⟩
        | cons f fl ihf =>
          intro k sps hF hx hk
          cases hF with
          | cons h1 h2 h3 h4 =>
            obtain ⟨y, hy⟩ := hx f (by simp)
            obtain ⟨d1, r1, l1⟩ := ih _ _ _ _ h3 hy
            have hkn : ∀ {k fl sps}, SpF P k fl sps n → k ≤ n := by
              intro k fl
              induction fl generalizing k with
              | nil => intro sps h; cases h; exact Nat.le_refl _
              | cons f fl ih2 => intro sps h; cases h with | cons _ _ _ h => have := ih2 h; omega
            obtain ⟨d2, r2, l2⟩ := ihf _ _ h4 (fun g hg => hx g (by simp [hg])) (hkn h4)
            refine ⟨d1 ++ d2, .cons r1 r2, fun O => ?_⟩
            have e : cs.drop k = (cs.drop f.offset).take (P.cellsOf f.type) ++ cs.drop (k + P.cellsOf f.type) := by
              rw [h1, ← List.drop_drop, List.take_append_drop]
            rw [e, h2]
            rw [h2] at l1
            simpa using (l1 O).append (l2 O)
      obtain ⟨ds, r, l⟩ := key fs.toList 0 sps hf (fun f hf' => by
        obtain ⟨i, hi⟩ := List.getElem?_of_mem hf'
        have hi' : fs[i]? = some f := by simpa using hi
        have := hel i f hi'
        have hlt : i < xs.length := by have := (Array.getElem?_eq_some_iff.1 hi').1; omega
        exact ⟨xs[i], by rw [this]; simp [hlt]⟩) (Nat.zero_le _)
      exact ⟨ds, .struct r, fun O => by simpa using l O⟩
    | @slice _ e k sp ht hk hk0 he =>
      rcases DataW.trod_slice ht h with ⟨rfl, _⟩ | ⟨a, len, cap, elems, rest, m, hm, rfl, _, hb, hl, hc, hlen, hel, _, _⟩
      · exact ⟨[.imm k 0 []], .slice (by simp) .nil, fun O => .imm0 (by simp) .nil⟩
      obtain rfl : fuel = m := by omega
      have cells : ∀ j, j ≤ len → ∃ ds us, RdN sp j k ds ∧ us.length = j * k ∧ (∀ i, i < us.length → w.cell? (a.add i) = us[i]?) ∧ LRel S w ι [] ds us [] := by
        intro j
        induction j with
        | zero => intro _; exact ⟨[], [], .nil, by simp, by simp, .nil⟩
        | succ j ihj =>
          intro hj
          obtain ⟨ds, us, h1, h2, h3, h4⟩ := ihj (by omega)
          have hx := hel j (by omega)
          have hlt : j < elems.length := by omega
          rw [List.getElem?_eq_getElem hlt, Option.bind_eq_some_iff, hk] at hx
          obtain ⟨us2, hu, ht2⟩ := hx
          obtain ⟨d2, r2, l2⟩ := ih _ _ _ _ he ht2
          obtain ⟨_, c2, c3⟩ := World.cells?_some hu
          have l2' := l2 []
          have hd2 : d2.length = k := by rw [l2'.len, c2]
          refine ⟨ds ++ d2, us ++ us2, .snoc h1 r2 hd2, by rw [List.length_append, h2, c2, Nat.add_mul]; omega, fun i hi => ?_, by simpa using h4.append l2'⟩
          rw [List.length_append] at hi
          by_cases hlt2 : i < us.length
          · rw [h3 i hlt2, List.getElem?_append_left hlt2]
          · have hadd : a.add i = (a.add (j * k)).add (i - j * k) := by
              unfold Addr.add
              by_cases hz : j * k = 0
              · simp [hz]
              · by_cases hz2 : i - j * k = 0
                · have : i = j * k := by omega
                  simp [this]
                · rw [if_neg (by omega), if_neg hz, if_neg hz2]
                  simp only [Addr.mk.injEq, true_and, and_true]
                  omega
            rw [hadd, c3 (i - j * k) (by omega), List.getElem?_append_right (by omega), h2]
      obtain ⟨ds, us, h1, h2, h3, h4⟩ := cells len (Nat.le_refl _)
      refine ⟨[.imm k len ds], .slice (by omega) h1, fun O => ?_⟩
      by_cases h0 : len = 0
      · subst h0
        cases h1
        exact .imm0 ⟨by simp, hc⟩ .nil
      · have hul : 0 < us.length := by rw [h2]; exact Nat.mul_pos (by omega) hk0
        have hsp := spot_none (w := w) (x := a) (n := us.length) hul fun i hi => ⟨us[i], by rw [h3 i hi]; simp [hi]⟩
        obtain ⟨b, o, q⟩ := a
        simp only at hsp
        subst hsp
        have hcell : ∀ i, i < us.length → w.cell? ⟨b, o + i, none⟩ = us[i]? := fun i hi => by have := h3 i hi; rwa [addr_add] at this
        refine .imm (us := us) (hS _ ?_) hcell h4 (by rw [h1.len]) hl hc .nil
        by_cases hb' : b < w.heap.size
        · exact hb'
        · have := hcell 0 hul
          simp [World.cell?, Array.getElem?_eq_none (Nat.le_of_not_lt hb'), hul] at this
end
end Go.Abs


namespace Go.Abs
open Go Go.RowKit
abbrev i64 (n : Int) : Prop := -9223372036854775808 ≤ n ∧ n ≤ 9223372036854775807
theorem lrel_cons0 {S : Nat → Prop} {w : World} {ι : Nat → Spot} {O : List AObj} {V : AV} {v : Value} {cs : List AV} {vs : List Value} (h1 : VRel S w ι O V v []) (h2 : LRel S w ι O cs vs []) : LRel S w ι O (V :: cs) (v :: vs) [] := LRel.cons h1 h2
end Go.Abs


namespace Go.Proofs.YtjhejgamjlokdaaGreat
open Go Go.Abs Go.RowKit
theorem rdN_u8s {n : Nat} {cs : List AV} (h : RdN (.int .u8) n 1 cs) : ∃ xs : List Int, cs = u8s xs ∧ xs.length = n ∧ ∀ x ∈ xs, 0 ≤ x ∧ x ≤ 255 := by
  induction n generalizing cs with
  | zero => cases h; exact ⟨[], rfl, rfl, by simp⟩
  | succ n ih =>
    cases h with
    | snoc h1 h2 h3 =>
      obtain ⟨xs, rfl, h5, h6⟩ := ih h1
      cases h2 with
      | @int k m hw =>
        refine ⟨xs ++ [m], by simp [u8s], by simp [h5], fun x hx => ?_⟩
        rcases List.mem_append.1 hx with hx | hx
        · exact h6 x hx
        · have : x = m := by simpa using hx
          subst this
          simpa [Lit.wf, show IntKind.u8.min = 0 from rfl, show IntKind.u8.max = 255 from rfl] using hw
theorem rd_u8s {ds : List AV} (h : Rd (.slice 1 (.int .u8)) ds) : ∃ xs : List Int, ds = [.imm 1 xs.length (u8s xs)] ∧ xs.length ≤ 9223372036854775807 ∧ ∀ x ∈ xs, 0 ≤ x ∧ x ≤ 255 := by
  cases h with
  | slice hl hn =>
    obtain ⟨xs, rfl, h1, h2⟩ := rdN_u8s hn
    subst h1
    exact ⟨xs, rfl, by simp only [maxLen] at hl; omega, h2⟩
end Go.Proofs.YtjhejgamjlokdaaGreat
