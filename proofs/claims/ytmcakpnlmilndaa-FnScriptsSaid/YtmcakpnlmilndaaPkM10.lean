/- Proved in this text: lemmas and contracts of functions that the claim uses (parts: Tab). No condition. -/
import Derived.Test.YtmcakpnlmilndaaProg
import Derived.Test.YtmcakpnlmilndaaPkM7
import Derived.KernelRfl

/- The table of this translation's types, for the abstract rules. Written by a program of mine. No condition. -/
namespace Go.Proofs.Ytmcakpnlmilndaa
open Go Go.Abs
set_option maxRecDepth 100000
theorem ty1 : TyOk Try.prog 1 (.func) := ⟨⟨_, _, _, Try.underlying1⟩, by unfold ScOk; kernel_rfl⟩
theorem ty2 : TyOk Try.prog 2 (.int .i64) := ⟨Try.underlying2, by unfold ScOk; kernel_rfl⟩
theorem ty3 : TyOk Try.prog 3 (.int .i64) := ⟨Try.underlying3, by unfold ScOk; kernel_rfl⟩
theorem ty4 : TyOk Try.prog 4 (.bool) := ⟨Try.underlying4, by unfold ScOk; kernel_rfl⟩
theorem ty5 : TyOk Try.prog 5 (.int .u8) := ⟨Try.underlying5, by unfold ScOk; kernel_rfl⟩
theorem ty6 : TyOk Try.prog 6 (.int .u8) := ⟨Try.underlying6, by unfold ScOk; kernel_rfl⟩
theorem ty7 : TyOk Try.prog 7 (.struct [0, 1, 2, 3] 4 [.sc (.int .i64 0), .sc (.int .i64 0), .sc (.bool false), .sc (.int .u8 0)]) := ⟨_, Try.underlying7, ⟨.agg #[.int .i64 0, .int .i64 0, .bool false, .int .u8 0], by kernel_rfl, rfl, rfl⟩, fun f o h => match f, h with | 0, h => by cases h; kernel_rfl | 1, h => by cases h; kernel_rfl | 2, h => by cases h; kernel_rfl | 3, h => by cases h; kernel_rfl | (f + 4), h => by simp at h⟩
theorem ty8 : TyOk Try.prog 8 (.struct [0, 1, 2, 3] 4 [.sc (.int .i64 0), .sc (.int .i64 0), .sc (.bool false), .sc (.int .u8 0)]) := ⟨_, Try.underlying8, ⟨.agg #[.int .i64 0, .int .i64 0, .bool false, .int .u8 0], by kernel_rfl, rfl, rfl⟩, fun f o h => match f, h with | 0, h => by cases h; kernel_rfl | 1, h => by cases h; kernel_rfl | 2, h => by cases h; kernel_rfl | 3, h => by cases h; kernel_rfl | (f + 4), h => by simp at h⟩
theorem ty9 : TyOk Try.prog 9 (.string) := ⟨Try.underlying9, by unfold ScOk; kernel_rfl⟩
theorem ty10 : TyOk Try.prog 10 (.string) := ⟨Try.underlying10, by unfold ScOk; kernel_rfl⟩
theorem ty11 : TyOk Try.prog 11 (.string) := ⟨Try.underlying11, by unfold ScOk; kernel_rfl⟩
theorem ty12 : TyOk Try.prog 12 (.int .u64) := ⟨Try.underlying12, by unfold ScOk; kernel_rfl⟩
theorem ty13 : TyOk Try.prog 13 (.struct [0, 1] 2 [.sc (.string ⟨#[]⟩), .sc (.int .u64 0)]) := ⟨_, Try.underlying13, ⟨.agg #[.string ⟨#[]⟩, .int .u64 0], by kernel_rfl, rfl, rfl⟩, fun f o h => match f, h with | 0, h => by cases h; kernel_rfl | 1, h => by cases h; kernel_rfl | (f + 2), h => by simp at h⟩
theorem ty14 : TyOk Try.prog 14 (.struct [0, 1] 2 [.sc (.string ⟨#[]⟩), .sc (.int .u64 0)]) := ⟨_, Try.underlying14, ⟨.agg #[.string ⟨#[]⟩, .int .u64 0], by kernel_rfl, rfl, rfl⟩, fun f o h => match f, h with | 0, h => by cases h; kernel_rfl | 1, h => by cases h; kernel_rfl | (f + 2), h => by simp at h⟩
theorem ty15 : TyOk Try.prog 15 (.ptr) := ⟨⟨_, Try.underlying15⟩, by unfold ScOk; kernel_rfl⟩
theorem ty16 : TyOk Try.prog 16 (.ptr) := ⟨⟨_, Try.underlying16⟩, by unfold ScOk; kernel_rfl⟩
theorem ty17 : TyOk Try.prog 17 (.ptr) := ⟨⟨_, Try.underlying17⟩, by unfold ScOk; kernel_rfl⟩
theorem ty18 : TyOk Try.prog 18 (.struct [0] 1 [.sc (.pointer none)]) := ⟨_, Try.underlying18, ⟨.agg #[.pointer none], by kernel_rfl, rfl, rfl⟩, fun f o h => match f, h with | 0, h => by cases h; kernel_rfl | (f + 1), h => by simp at h⟩
theorem ty19 : TyOk Try.prog 19 (.struct [0] 1 [.sc (.pointer none)]) := ⟨_, Try.underlying19, ⟨.agg #[.pointer none], by kernel_rfl, rfl, rfl⟩, fun f o h => match f, h with | 0, h => by cases h; kernel_rfl | (f + 1), h => by simp at h⟩
theorem ty20 : TyOk Try.prog 20 (.iface) := ⟨⟨_, Try.underlying20⟩, by unfold ScOk; kernel_rfl⟩
theorem ty21 : TyOk Try.prog 21 (.int .i32) := ⟨Try.underlying21, by unfold ScOk; kernel_rfl⟩
theorem ty22 : TyOk Try.prog 22 (.slice 5 1 1 [.sc (.int .u8 0)]) := ⟨Try.underlying22, by unfold ScOk; kernel_rfl, .int .u8 0, by kernel_rfl, rfl, by decide, rfl⟩
theorem ty23 : TyOk Try.prog 23 (.func) := ⟨⟨_, _, _, Try.underlying23⟩, by unfold ScOk; kernel_rfl⟩
theorem ty24 : TyOk Try.prog 24 (.slice 3 1 8 [.sc (.int .i64 0)]) := ⟨Try.underlying24, by unfold ScOk; kernel_rfl, .int .i64 0, by kernel_rfl, rfl, by decide, rfl⟩
theorem ty25 : TyOk Try.prog 25 (.slice 4 1 1 [.sc (.bool false)]) := ⟨Try.underlying25, by unfold ScOk; kernel_rfl, .bool false, by kernel_rfl, rfl, by decide, rfl⟩
theorem ty26 : TyOk Try.prog 26 (.struct [0, 1, 2, 3, 4, 5] 6 [.sc (.int .i64 0), .sc (.bool false), .sc (.bool false), .nilS, .nilS, .nilS]) := ⟨_, Try.underlying26, ⟨.agg #[.int .i64 0, .bool false, .bool false, .slice none 0 0, .slice none 0 0, .slice none 0 0], by kernel_rfl, rfl, rfl⟩, fun f o h => match f, h with | 0, h => by cases h; kernel_rfl | 1, h => by cases h; kernel_rfl | 2, h => by cases h; kernel_rfl | 3, h => by cases h; kernel_rfl | 4, h => by cases h; kernel_rfl | 5, h => by cases h; kernel_rfl | (f + 6), h => by simp at h⟩
theorem ty27 : TyOk Try.prog 27 (.struct [0, 1, 2, 3, 4, 5] 6 [.sc (.int .i64 0), .sc (.bool false), .sc (.bool false), .nilS, .nilS, .nilS]) := ⟨_, Try.underlying27, ⟨.agg #[.int .i64 0, .bool false, .bool false, .slice none 0 0, .slice none 0 0, .slice none 0 0], by kernel_rfl, rfl, rfl⟩, fun f o h => match f, h with | 0, h => by cases h; kernel_rfl | 1, h => by cases h; kernel_rfl | 2, h => by cases h; kernel_rfl | 3, h => by cases h; kernel_rfl | 4, h => by cases h; kernel_rfl | 5, h => by cases h; kernel_rfl | (f + 6), h => by simp at h⟩
theorem ty29 : TyOk Try.prog 29 (.func) := ⟨⟨_, _, _, Try.underlying29⟩, by unfold ScOk; kernel_rfl⟩
theorem ty30 : TyOk Try.prog 30 (.func) := ⟨⟨_, _, _, Try.underlying30⟩, by unfold ScOk; kernel_rfl⟩
theorem ty31 : TyOk Try.prog 31 (.func) := ⟨⟨_, _, _, Try.underlying31⟩, by unfold ScOk; kernel_rfl⟩
theorem ty32 : TyOk Try.prog 32 (.func) := ⟨⟨_, _, _, Try.underlying32⟩, by unfold ScOk; kernel_rfl⟩
theorem ty33 : TyOk Try.prog 33 (.ptr) := ⟨⟨_, Try.underlying33⟩, by unfold ScOk; kernel_rfl⟩
theorem ty34 : TyOk Try.prog 34 (.func) := ⟨⟨_, _, _, Try.underlying34⟩, by unfold ScOk; kernel_rfl⟩
theorem ty35 : TyOk Try.prog 35 (.func) := ⟨⟨_, _, _, Try.underlying35⟩, by unfold ScOk; kernel_rfl⟩
theorem ty36 : TyOk Try.prog 36 (.func) := ⟨⟨_, _, _, Try.underlying36⟩, by unfold ScOk; kernel_rfl⟩
theorem ty37 : TyOk Try.prog 37 (.func) := ⟨⟨_, _, _, Try.underlying37⟩, by unfold ScOk; kernel_rfl⟩
theorem ty38 : TyOk Try.prog 38 (.func) := ⟨⟨_, _, _, Try.underlying38⟩, by unfold ScOk; kernel_rfl⟩
theorem ty39 : TyOk Try.prog 39 (.func) := ⟨⟨_, _, _, Try.underlying39⟩, by unfold ScOk; kernel_rfl⟩
theorem ty40 : TyOk Try.prog 40 (.func) := ⟨⟨_, _, _, Try.underlying40⟩, by unfold ScOk; kernel_rfl⟩
theorem ty41 : TyOk Try.prog 41 (.func) := ⟨⟨_, _, _, Try.underlying41⟩, by unfold ScOk; kernel_rfl⟩
theorem ty42 : TyOk Try.prog 42 (.func) := ⟨⟨_, _, _, Try.underlying42⟩, by unfold ScOk; kernel_rfl⟩
theorem ty43 : TyOk Try.prog 43 (.struct [0, 1, 2] 3 [.nilS, .sc (.int .i64 0), .sc (.int .i64 0)]) := ⟨_, Try.underlying43, ⟨.agg #[.slice none 0 0, .int .i64 0, .int .i64 0], by kernel_rfl, rfl, rfl⟩, fun f o h => match f, h with | 0, h => by cases h; kernel_rfl | 1, h => by cases h; kernel_rfl | 2, h => by cases h; kernel_rfl | (f + 3), h => by simp at h⟩
theorem ty44 : TyOk Try.prog 44 (.struct [0, 1, 2] 3 [.nilS, .sc (.int .i64 0), .sc (.int .i64 0)]) := ⟨_, Try.underlying44, ⟨.agg #[.slice none 0 0, .int .i64 0, .int .i64 0], by kernel_rfl, rfl, rfl⟩, fun f o h => match f, h with | 0, h => by cases h; kernel_rfl | 1, h => by cases h; kernel_rfl | 2, h => by cases h; kernel_rfl | (f + 3), h => by simp at h⟩
theorem ty45 : TyOk Try.prog 45 (.func) := ⟨⟨_, _, _, Try.underlying45⟩, by unfold ScOk; kernel_rfl⟩
theorem ty46 : TyOk Try.prog 46 (.func) := ⟨⟨_, _, _, Try.underlying46⟩, by unfold ScOk; kernel_rfl⟩
theorem ty47 : TyOk Try.prog 47 (.func) := ⟨⟨_, _, _, Try.underlying47⟩, by unfold ScOk; kernel_rfl⟩
theorem ty48 : TyOk Try.prog 48 (.func) := ⟨⟨_, _, _, Try.underlying48⟩, by unfold ScOk; kernel_rfl⟩
theorem ty49 : TyOk Try.prog 49 (.int .u64) := ⟨Try.underlying49, by unfold ScOk; kernel_rfl⟩
theorem ty50 : TyOk Try.prog 50 (.slice 24 1 24 [.nilS]) := ⟨Try.underlying50, by unfold ScOk; kernel_rfl, .slice none 0 0, by kernel_rfl, rfl, by decide, rfl⟩
theorem ty51 : TyOk Try.prog 51 (.func) := ⟨⟨_, _, _, Try.underlying51⟩, by unfold ScOk; kernel_rfl⟩
theorem ty52 : TyOk Try.prog 52 (.struct [0, 1, 2, 3] 4 [.sc (.pointer none), .sc (.pointer none), .sc (.pointer none), .sc (.string ⟨#[]⟩)]) := ⟨_, Try.underlying52, ⟨.agg #[.pointer none, .pointer none, .pointer none, .string ⟨#[]⟩], by kernel_rfl, rfl, rfl⟩, fun f o h => match f, h with | 0, h => by cases h; kernel_rfl | 1, h => by cases h; kernel_rfl | 2, h => by cases h; kernel_rfl | 3, h => by cases h; kernel_rfl | (f + 4), h => by simp at h⟩
theorem ty53 : TyOk Try.prog 53 (.struct [0, 1, 2, 3] 4 [.sc (.pointer none), .sc (.pointer none), .sc (.pointer none), .sc (.string ⟨#[]⟩)]) := ⟨_, Try.underlying53, ⟨.agg #[.pointer none, .pointer none, .pointer none, .string ⟨#[]⟩], by kernel_rfl, rfl, rfl⟩, fun f o h => match f, h with | 0, h => by cases h; kernel_rfl | 1, h => by cases h; kernel_rfl | 2, h => by cases h; kernel_rfl | 3, h => by cases h; kernel_rfl | (f + 4), h => by simp at h⟩
theorem ty57 : TyOk Try.prog 57 (.func) := ⟨⟨_, _, _, Try.underlying57⟩, by unfold ScOk; kernel_rfl⟩
theorem ty58 : TyOk Try.prog 58 (.int .u32) := ⟨Try.underlying58, by unfold ScOk; kernel_rfl⟩
theorem ty59 : TyOk Try.prog 59 (.int .u8) := ⟨Try.underlying59, by unfold ScOk; kernel_rfl⟩
theorem ty60 : TyOk Try.prog 60 (.int .u8) := ⟨Try.underlying60, by unfold ScOk; kernel_rfl⟩
theorem ty61 : TyOk Try.prog 61 (.func) := ⟨⟨_, _, _, Try.underlying61⟩, by unfold ScOk; kernel_rfl⟩
theorem ty62 : TyOk Try.prog 62 (.ptr) := ⟨⟨_, Try.underlying62⟩, by unfold ScOk; kernel_rfl⟩
theorem ty63 : TyOk Try.prog 63 (.int .i32) := ⟨Try.underlying63, by unfold ScOk; kernel_rfl⟩
theorem ty64 : TyOk Try.prog 64 (.int .i32) := ⟨Try.underlying64, by unfold ScOk; kernel_rfl⟩
def tab : List (Nat × Ty) := [(1, .func), (2, .int .i64), (3, .int .i64), (4, .bool), (5, .int .u8), (6, .int .u8), (7, .struct [0, 1, 2, 3] 4 [.sc (.int .i64 0), .sc (.int .i64 0), .sc (.bool false), .sc (.int .u8 0)]), (8, .struct [0, 1, 2, 3] 4 [.sc (.int .i64 0), .sc (.int .i64 0), .sc (.bool false), .sc (.int .u8 0)]), (9, .string), (10, .string), (11, .string), (12, .int .u64), (13, .struct [0, 1] 2 [.sc (.string ⟨#[]⟩), .sc (.int .u64 0)]), (14, .struct [0, 1] 2 [.sc (.string ⟨#[]⟩), .sc (.int .u64 0)]), (15, .ptr), (16, .ptr), (17, .ptr), (18, .struct [0] 1 [.sc (.pointer none)]), (19, .struct [0] 1 [.sc (.pointer none)]), (20, .iface), (21, .int .i32), (22, .slice 5 1 1 [.sc (.int .u8 0)]), (23, .func), (24, .slice 3 1 8 [.sc (.int .i64 0)]), (25, .slice 4 1 1 [.sc (.bool false)]), (26, .struct [0, 1, 2, 3, 4, 5] 6 [.sc (.int .i64 0), .sc (.bool false), .sc (.bool false), .nilS, .nilS, .nilS]), (27, .struct [0, 1, 2, 3, 4, 5] 6 [.sc (.int .i64 0), .sc (.bool false), .sc (.bool false), .nilS, .nilS, .nilS]), (29, .func), (30, .func), (31, .func), (32, .func), (33, .ptr), (34, .func), (35, .func), (36, .func), (37, .func), (38, .func), (39, .func), (40, .func), (41, .func), (42, .func), (43, .struct [0, 1, 2] 3 [.nilS, .sc (.int .i64 0), .sc (.int .i64 0)]), (44, .struct [0, 1, 2] 3 [.nilS, .sc (.int .i64 0), .sc (.int .i64 0)]), (45, .func), (46, .func), (47, .func), (48, .func), (49, .int .u64), (50, .slice 24 1 24 [.nilS]), (51, .func), (52, .struct [0, 1, 2, 3] 4 [.sc (.pointer none), .sc (.pointer none), .sc (.pointer none), .sc (.string ⟨#[]⟩)]), (53, .struct [0, 1, 2, 3] 4 [.sc (.pointer none), .sc (.pointer none), .sc (.pointer none), .sc (.string ⟨#[]⟩)]), (57, .func), (58, .int .u32), (59, .int .u8), (60, .int .u8), (61, .func), (62, .ptr), (63, .int .i32), (64, .int .i32)]
theorem tabOk : TabOk Try.prog tab := by
  intro p hp
  simp only [tab, List.mem_cons, List.not_mem_nil, or_false] at hp
  rcases hp with rfl | rfl | rfl | rfl | rfl | rfl | rfl | rfl | rfl | rfl | rfl | rfl | rfl | rfl | rfl | rfl | rfl | rfl | rfl | rfl | rfl | rfl | rfl | rfl | rfl | rfl | rfl | rfl | rfl | rfl | rfl | rfl | rfl | rfl | rfl | rfl | rfl | rfl | rfl | rfl | rfl | rfl | rfl | rfl | rfl | rfl | rfl | rfl | rfl | rfl | rfl | rfl | rfl | rfl | rfl | rfl | rfl | rfl | rfl | rfl
  · exact ty1
  · exact ty2
  · exact ty3
  · exact ty4
  · exact ty5
  · exact ty6
  · exact ty7
  · exact ty8
  · exact ty9
  · exact ty10
  · exact ty11
  · exact ty12
  · exact ty13
  · exact ty14
  · exact ty15
  · exact ty16
  · exact ty17
  · exact ty18
  · exact ty19
  · exact ty20
  · exact ty21
  · exact ty22
  · exact ty23
  · exact ty24
  · exact ty25
  · exact ty26
  · exact ty27
  · exact ty29
  · exact ty30
  · exact ty31
  · exact ty32
  · exact ty33
  · exact ty34
  · exact ty35
  · exact ty36
  · exact ty37
  · exact ty38
  · exact ty39
  · exact ty40
  · exact ty41
  · exact ty42
  · exact ty43
  · exact ty44
  · exact ty45
  · exact ty46
  · exact ty47
  · exact ty48
  · exact ty49
  · exact ty50
  · exact ty51
  · exact ty52
  · exact ty53
  · exact ty57
  · exact ty58
  · exact ty59
  · exact ty60
  · exact ty61
  · exact ty62
  · exact ty63
  · exact ty64
end Go.Proofs.Ytmcakpnlmilndaa
