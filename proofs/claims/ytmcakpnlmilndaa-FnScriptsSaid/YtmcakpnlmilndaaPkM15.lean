/- Proved in this text: lemmas and contracts of functions that the claim uses (parts: Read3). No condition. -/
import Derived.Test.YtmcakpnlmilndaaPkM14
import Derived.Test.YtmcakpnlmilndaaPkM13

/- What a value that came in is, further: options, headers, blocks, streams, neighbours, caches, entries, bytes. No condition. -/
namespace Go.Proofs.Ytmcakpnlmilndaa
open Go Go.Abs Go.RowKit
set_option linter.unusedVariables false

theorem rdN_rows {sp : Sp} {k : Nat} {α : Type} {f : α → List AV} {C : α → Prop} (inv : ∀ ds, Rd sp ds → ∃ a, ds = f a ∧ C a) {n : Nat} {cs : List AV} (h : RdN sp n k cs) : ∃ l : List α, cs = rows f l ∧ l.length = n ∧ ∀ a ∈ l, C a := by
  induction n generalizing cs with
  | zero => cases h; exact ⟨[], rfl, rfl, by simp⟩
  | succ n ih =>
    cases h with
    | snoc h1 h2 h3 =>
      obtain ⟨l, rfl, h5, h6⟩ := ih h1
      obtain ⟨a, rfl, ha⟩ := inv _ h2
      refine ⟨l ++ [a], by rw [rows_append, rows_one], by simp [h5], fun x hx => ?_⟩
      rcases List.mem_append.1 hx with hx | hx
      · exact h6 x hx
      · have : x = a := by simpa using hx
        subst this; exact ha
theorem rd_rows {sp : Sp} {k : Nat} {α : Type} {f : α → List AV} {C : α → Prop} (inv : ∀ ds, Rd sp ds → ∃ a, ds = f a ∧ C a) {ds : List AV} (h : Rd (.slice k sp) ds) : ∃ l : List α, ds = [.imm k l.length (rows f l)] ∧ l.length ≤ 9223372036854775807 ∧ ∀ a ∈ l, C a := by
  cases h with
  | slice hl hn =>
    obtain ⟨l, rfl, h1, h2⟩ := rdN_rows inv hn
    subst h1
    exact ⟨l, rfl, by simp only [maxLen] at hl; omega, h2⟩

@[irreducible] def WfI (l : List Int) : Prop := ∀ x ∈ l, i64 x
theorem wfI_get {l : List Int} (h : WfI l) {k : Nat} (hk : k < l.length) : i64 (l.getD k 0) := by
  unfold WfI at h; exact h _ (by simp [hk])
theorem wfI_of {l : List Int} (h : ∀ x ∈ l, i64 x) : WfI l := by unfold WfI; exact h
abbrev spBs : Sp := .slice 1 .bool
abbrev spBk : Sp := .struct [spI, spIs]
abbrev spMb : Sp := .struct [.bool, .slice 2 spBk]
abbrev spHd : Sp := .struct [spI, spI, spI, .bool, .bool, spIs]
theorem rd_options {ds : List AV} (h : Rd (.struct [spI, .bool, .bool, spIs, spIs, spBs]) ds) : ∃ (q : Int) (b d : Bool) (l m : List Int) (e : List Bool), ds = [I q, B b, B d, IL l, IL m, BL e] ∧ i64 q ∧ l.length ≤ 9223372036854775807 ∧ WfI l ∧ m.length ≤ 9223372036854775807 ∧ WfI m ∧ e.length ≤ 9223372036854775807 := by
  obtain ⟨_, _, rfl, h1, h⟩ := rdF_cons (rd_struct h)
  obtain ⟨_, _, rfl, h2, h⟩ := rdF_cons h
  obtain ⟨_, _, rfl, h3, h⟩ := rdF_cons h
  obtain ⟨_, _, rfl, h4, h⟩ := rdF_cons h
  obtain ⟨_, _, rfl, h5, h⟩ := rdF_cons h
  obtain ⟨_, _, rfl, h6, h⟩ := rdF_cons h
  obtain rfl := rdF_nil h
  obtain ⟨q, rfl, a1⟩ := rd_int h1
  obtain ⟨b, rfl⟩ := rd_bool h2
  obtain ⟨d, rfl⟩ := rd_bool h3
  obtain ⟨l, rfl, a2, a3⟩ := rd_ints h4
  obtain ⟨m, rfl, a4, a5⟩ := rd_ints h5
  obtain ⟨e, rfl, a6⟩ := rd_bools h6
  exact ⟨q, b, d, l, m, e, rfl, a1, a2, wfI_of a3, a4, wfI_of a5, a6⟩
theorem rd_headF {ds : List AV} (h : Rd spHd ds) : ∃ (w hh q : Int) (b d : Bool) (l : List Int), ds = [I w, I hh, I q, B b, B d, IL l] ∧ i64 w ∧ i64 hh ∧ i64 q ∧ l.length ≤ 9223372036854775807 ∧ WfI l := by
  obtain ⟨_, _, rfl, h1, h⟩ := rdF_cons (rd_struct h)
  obtain ⟨_, _, rfl, h2, h⟩ := rdF_cons h
  obtain ⟨_, _, rfl, h3, h⟩ := rdF_cons h
  obtain ⟨_, _, rfl, h4, h⟩ := rdF_cons h
  obtain ⟨_, _, rfl, h5, h⟩ := rdF_cons h
  obtain ⟨_, _, rfl, h6, h⟩ := rdF_cons h
  obtain rfl := rdF_nil h
  obtain ⟨w, rfl, a1⟩ := rd_int h1
  obtain ⟨hh, rfl, a2⟩ := rd_int h2
  obtain ⟨q, rfl, a3⟩ := rd_int h3
  obtain ⟨b, rfl⟩ := rd_bool h4
  obtain ⟨d, rfl⟩ := rd_bool h5
  obtain ⟨l, rfl, a4, a5⟩ := rd_ints h6
  exact ⟨w, hh, q, b, d, l, rfl, a1, a2, a3, a4, wfI_of a5⟩
theorem rd_header {ds : List AV} (h : Rd spHd ds) : ∃ (w hh q : Int) (b d : Bool) (l : List Int), ds = [I w, I hh, I q, B b, B d, IL l] ∧ i64 w ∧ i64 hh ∧ i64 q ∧ l.length ≤ 9223372036854775807 ∧ WfI l := rd_headF h
def CBk (b : Blok) : Prop := b.2.length ≤ 9223372036854775807 ∧ i64 b.1 ∧ WfI b.2
theorem rd_bk (ds : List AV) (h : Rd spBk ds) : ∃ b : Blok, ds = blkI b ∧ CBk b := by
  obtain ⟨_, _, rfl, h1, h⟩ := rdF_cons (rd_struct h)
  obtain ⟨_, _, rfl, h2, h⟩ := rdF_cons h
  obtain rfl := rdF_nil h
  obtain ⟨m, rfl, a1⟩ := rd_int h1
  obtain ⟨l, rfl, a2, a3⟩ := rd_ints h2
  exact ⟨(m, l), rfl, a2, a1, wfI_of a3⟩
theorem rd_block {ds : List AV} (h : Rd spBk ds) : ∃ (m : Int) (l : List Int), ds = [I m, IL l] ∧ i64 m ∧ l.length ≤ 9223372036854775807 ∧ WfI l := by
  obtain ⟨b, rfl, h1, h2, h3⟩ := rd_bk _ h
  exact ⟨b.1, b.2, rfl, h2, h1, h3⟩
def CMb (m : Mbk) : Prop := m.2.length ≤ 9223372036854775807 ∧ ∀ b ∈ m.2, CBk b
theorem rd_mb (ds : List AV) (h : Rd spMb ds) : ∃ m : Mbk, ds = mbI m ∧ CMb m := by
  obtain ⟨_, _, rfl, h1, h⟩ := rdF_cons (rd_struct h)
  obtain ⟨_, _, rfl, h2, h⟩ := rdF_cons h
  obtain rfl := rdF_nil h
  obtain ⟨e, rfl⟩ := rd_bool h1
  obtain ⟨l, rfl, a2, a3⟩ := rd_rows rd_bk h2
  exact ⟨(e, l), rfl, a2, a3⟩
@[irreducible] def WfM (M : List Mbk) : Prop := ∀ m ∈ M, ∀ b ∈ m.2, i64 b.1 ∧ WfI b.2
theorem rd_stream {ds : List AV} (h : Rd (.struct [spHd, .slice 2 spMb]) ds) : ∃ (w hh q : Int) (b d : Bool) (l : List Int) (M : List Mbk), ds = [I w, I hh, I q, B b, B d, IL l, .imm 2 M.length (rows mbI M)] ∧ i64 w ∧ i64 hh ∧ i64 q ∧ l.length ≤ 9223372036854775807 ∧ WfI l ∧ M.length ≤ 9223372036854775807 ∧ SmM 9223372036854775807 M ∧ WfM M := by
  obtain ⟨_, _, rfl, h1, h⟩ := rdF_cons (rd_struct h)
  obtain ⟨_, _, rfl, h2, h⟩ := rdF_cons h
  obtain rfl := rdF_nil h
  obtain ⟨w, hh, q, b, d, l, rfl, a1, a2, a3, a4, a5⟩ := rd_headF h1
  obtain ⟨M, rfl, b1, b2⟩ := rd_rows rd_mb h2
  refine ⟨w, hh, q, b, d, l, M, rfl, a1, a2, a3, a4, a5, b1, ?_, ?_⟩
  · unfold SmM; intro m hm; exact ⟨(b2 m hm).1, by unfold SmB; intro x hx; exact ((b2 m hm).2 x hx).1⟩
  · unfold WfM; intro m hm x hx; exact ((b2 m hm).2 x hx).2
theorem rd_nb {ds : List AV} (h : Rd (.struct [spIs, spIs, spI, .bool, .bool]) ds) : ∃ (t l : List Int) (c : Int) (a b : Bool), ds = [IL t, IL l, I c, B a, B b] ∧ t.length ≤ 9223372036854775807 ∧ WfI t ∧ l.length ≤ 9223372036854775807 ∧ WfI l ∧ i64 c := by
  obtain ⟨_, _, rfl, h1, h⟩ := rdF_cons (rd_struct h)
  obtain ⟨_, _, rfl, h2, h⟩ := rdF_cons h
  obtain ⟨_, _, rfl, h3, h⟩ := rdF_cons h
  obtain ⟨_, _, rfl, h4, h⟩ := rdF_cons h
  obtain ⟨_, _, rfl, h5, h⟩ := rdF_cons h
  obtain rfl := rdF_nil h
  obtain ⟨t, rfl, a1, a2⟩ := rd_ints h1
  obtain ⟨l, rfl, a3, a4⟩ := rd_ints h2
  obtain ⟨c, rfl, a5⟩ := rd_int h3
  obtain ⟨a, rfl⟩ := rd_bool h4
  obtain ⟨b, rfl⟩ := rd_bool h5
  exact ⟨t, l, c, a, b, rfl, a1, wfI_of a2, a3, wfI_of a4, a5⟩
theorem rd_cache {ds : List AV} (h : Rd (.struct [.str, spI, spI, spI]) ds) : ∃ (s : List UInt8) (p w v : Int), ds = [Z s, I p, I w, I v] ∧ s.length ≤ 9223372036854775807 ∧ i64 p ∧ i64 w ∧ i64 v := by
  obtain ⟨_, _, rfl, h1, h⟩ := rdF_cons (rd_struct h)
  obtain ⟨_, _, rfl, h2, h⟩ := rdF_cons h
  obtain ⟨_, _, rfl, h3, h⟩ := rdF_cons h
  obtain ⟨_, _, rfl, h4, h⟩ := rdF_cons h
  obtain rfl := rdF_nil h
  obtain ⟨s, rfl, a1⟩ := rd_str h1
  obtain ⟨p, rfl, a2⟩ := rd_int h2
  obtain ⟨w, rfl, a3⟩ := rd_int h3
  obtain ⟨v, rfl, a4⟩ := rd_int h4
  exact ⟨s, p, w, v, rfl, a1, a2, a3, a4⟩
def CPr (a : Int × Int) : Prop := i64 a.1 ∧ i64 a.2
theorem rd_pr (ds : List AV) (h : Rd (.struct [spI, spI]) ds) : ∃ a : Int × Int, ds = prF a ∧ CPr a := by
  obtain ⟨_, _, rfl, h1, h⟩ := rdF_cons (rd_struct h)
  obtain ⟨_, _, rfl, h2, h⟩ := rdF_cons h
  obtain rfl := rdF_nil h
  obtain ⟨m, rfl, a1⟩ := rd_int h1
  obtain ⟨n, rfl, a2⟩ := rd_int h2
  exact ⟨(m, n), rfl, a1, a2⟩
@[irreducible] def WfP (l : List (Int × Int)) : Prop := ∀ a ∈ l, CPr a
theorem rd_entries {ds : List AV} (h : Rd (.slice 2 (.struct [spI, spI])) ds) : ∃ l : List (Int × Int), ds = [.imm 2 l.length (rows prF l)] ∧ l.length ≤ 9223372036854775807 ∧ WfP l := by
  obtain ⟨l, rfl, h1, h2⟩ := rd_rows rd_pr h
  exact ⟨l, rfl, h1, by unfold WfP; exact h2⟩
theorem rdN_u8s {n : Nat} {cs : List AV} (h : RdN (.int .u8) n 1 cs) : ∃ xs : List Int, cs = u8s xs ∧ xs.length = n ∧ ∀ x ∈ xs, 0 ≤ x ∧ x ≤ 255 := by
  induction n generalizing cs with
  | zero => cases h; exact ⟨[], rfl, rfl, by simp⟩
  | succ n ih =>
    cases h with
    | snoc h1 h2 h3 =>
      obtain ⟨xs, rfl, h5, h6⟩ := ih h1
      cases h2 with
      | @int k m hw =>
        refine ⟨xs ++ [m], by simp [u8s], by simp [h5], fun x hx => ?_⟩
        rcases List.mem_append.1 hx with hx | hx
        · exact h6 x hx
        · have : x = m := by simpa using hx
          subst this
          simpa [Lit.wf, show IntKind.u8.min = 0 from rfl, show IntKind.u8.max = 255 from rfl] using hw
theorem rd_u8s {ds : List AV} (h : Rd (.slice 1 (.int .u8)) ds) : ∃ xs : List Int, ds = [.imm 1 xs.length (u8s xs)] ∧ xs.length ≤ 9223372036854775807 ∧ ∀ x ∈ xs, 0 ≤ x ∧ x ≤ 255 := by
  cases h with
  | slice hl hn =>
    obtain ⟨xs, rfl, h1, h2⟩ := rdN_u8s hn
    subst h1
    exact ⟨xs, rfl, by simp only [maxLen] at hl; omega, h2⟩
end Go.Proofs.Ytmcakpnlmilndaa
