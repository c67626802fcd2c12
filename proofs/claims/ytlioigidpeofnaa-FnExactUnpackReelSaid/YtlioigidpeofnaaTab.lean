/- The table of this translation's types, for the abstract rules. Written by a program of mine. No condition. -/
import Derived.Test.YtlioigidpeofnaaProg
import Derived.Test.YtlioigidpeofnaaAbsQ
import Derived.KernelRfl
namespace Go.Proofs.Ytlioigidpeofnaa
open Go Go.Abs
set_option maxRecDepth 100000
theorem ty2 : TyOk Try.prog 2 (.int .i64) := ⟨Try.underlying2, by unfold ScOk; kernel_rfl⟩
theorem ty3 : TyOk Try.prog 3 (.int .i64) := ⟨Try.underlying3, by unfold ScOk; kernel_rfl⟩
theorem ty4 : TyOk Try.prog 4 (.bool) := ⟨Try.underlying4, by unfold ScOk; kernel_rfl⟩
theorem ty5 : TyOk Try.prog 5 (.int .u8) := ⟨Try.underlying5, by unfold ScOk; kernel_rfl⟩
theorem ty6 : TyOk Try.prog 6 (.int .u8) := ⟨Try.underlying6, by unfold ScOk; kernel_rfl⟩
theorem ty7 : TyOk Try.prog 7 (.struct [0, 1, 2, 3] 4 [.sc (.int .i64 0), .sc (.int .i64 0), .sc (.bool false), .sc (.int .u8 0)]) := ⟨_, Try.underlying7, ⟨.agg #[.int .i64 0, .int .i64 0, .bool false, .int .u8 0], by kernel_rfl, rfl, rfl⟩, fun f o h => match f, h with | 0, h => by cases h; kernel_rfl | 1, h => by cases h; kernel_rfl | 2, h => by cases h; kernel_rfl | 3, h => by cases h; kernel_rfl | (f + 4), h => by simp at h⟩
theorem ty8 : TyOk Try.prog 8 (.struct [0, 1, 2, 3] 4 [.sc (.int .i64 0), .sc (.int .i64 0), .sc (.bool false), .sc (.int .u8 0)]) := ⟨_, Try.underlying8, ⟨.agg #[.int .i64 0, .int .i64 0, .bool false, .int .u8 0], by kernel_rfl, rfl, rfl⟩, fun f o h => match f, h with | 0, h => by cases h; kernel_rfl | 1, h => by cases h; kernel_rfl | 2, h => by cases h; kernel_rfl | 3, h => by cases h; kernel_rfl | (f + 4), h => by simp at h⟩
theorem ty9 : TyOk Try.prog 9 (.string) := ⟨Try.underlying9, by unfold ScOk; kernel_rfl⟩
theorem ty10 : TyOk Try.prog 10 (.string) := ⟨Try.underlying10, by unfold ScOk; kernel_rfl⟩
theorem ty11 : TyOk Try.prog 11 (.string) := ⟨Try.underlying11, by unfold ScOk; kernel_rfl⟩
theorem ty12 : TyOk Try.prog 12 (.int .u64) := ⟨Try.underlying12, by unfold ScOk; kernel_rfl⟩
theorem ty13 : TyOk Try.prog 13 (.struct [0, 1] 2 [.sc (.string ⟨#[]⟩), .sc (.int .u64 0)]) := ⟨_, Try.underlying13, ⟨.agg #[.string ⟨#[]⟩, .int .u64 0], by kernel_rfl, rfl, rfl⟩, fun f o h => match f, h with | 0, h => by cases h; kernel_rfl | 1, h => by cases h; kernel_rfl | (f + 2), h => by simp at h⟩
theorem ty14 : TyOk Try.prog 14 (.struct [0, 1] 2 [.sc (.string ⟨#[]⟩), .sc (.int .u64 0)]) := ⟨_, Try.underlying14, ⟨.agg #[.string ⟨#[]⟩, .int .u64 0], by kernel_rfl, rfl, rfl⟩, fun f o h => match f, h with | 0, h => by cases h; kernel_rfl | 1, h => by cases h; kernel_rfl | (f + 2), h => by simp at h⟩
theorem ty15 : TyOk Try.prog 15 (.ptr) := ⟨⟨_, Try.underlying15⟩, by unfold ScOk; kernel_rfl⟩
theorem ty16 : TyOk Try.prog 16 (.ptr) := ⟨⟨_, Try.underlying16⟩, by unfold ScOk; kernel_rfl⟩
theorem ty17 : TyOk Try.prog 17 (.ptr) := ⟨⟨_, Try.underlying17⟩, by unfold ScOk; kernel_rfl⟩
theorem ty18 : TyOk Try.prog 18 (.struct [0] 1 [.sc (.pointer none)]) := ⟨_, Try.underlying18, ⟨.agg #[.pointer none], by kernel_rfl, rfl, rfl⟩, fun f o h => match f, h with | 0, h => by cases h; kernel_rfl | (f + 1), h => by simp at h⟩
theorem ty19 : TyOk Try.prog 19 (.struct [0] 1 [.sc (.pointer none)]) := ⟨_, Try.underlying19, ⟨.agg #[.pointer none], by kernel_rfl, rfl, rfl⟩, fun f o h => match f, h with | 0, h => by cases h; kernel_rfl | (f + 1), h => by simp at h⟩
theorem ty21 : TyOk Try.prog 21 (.int .i32) := ⟨Try.underlying21, by unfold ScOk; kernel_rfl⟩
theorem ty25 : TyOk Try.prog 25 (.slice 3 1 8 [.sc (.int .i64 0)]) := ⟨Try.underlying25, by unfold ScOk; kernel_rfl, .int .i64 0, by kernel_rfl, rfl, by decide, rfl⟩
theorem ty30 : TyOk Try.prog 30 (.slice 9 1 16 [.sc (.string ⟨#[]⟩)]) := ⟨Try.underlying30, by unfold ScOk; kernel_rfl, .string ⟨#[]⟩, by kernel_rfl, rfl, by decide, rfl⟩
theorem ty36 : TyOk Try.prog 36 (.struct [0, 1, 2] 3 [.sc (.int .i64 0), .sc (.int .i64 0), .nilS]) := ⟨_, Try.underlying36, ⟨.agg #[.int .i64 0, .int .i64 0, .slice none 0 0], by kernel_rfl, rfl, rfl⟩, fun f o h => match f, h with | 0, h => by cases h; kernel_rfl | 1, h => by cases h; kernel_rfl | 2, h => by cases h; kernel_rfl | (f + 3), h => by simp at h⟩
theorem ty37 : TyOk Try.prog 37 (.struct [0, 1, 2] 3 [.sc (.int .i64 0), .sc (.int .i64 0), .nilS]) := ⟨_, Try.underlying37, ⟨.agg #[.int .i64 0, .int .i64 0, .slice none 0 0], by kernel_rfl, rfl, rfl⟩, fun f o h => match f, h with | 0, h => by cases h; kernel_rfl | 1, h => by cases h; kernel_rfl | 2, h => by cases h; kernel_rfl | (f + 3), h => by simp at h⟩
theorem ty40 : TyOk Try.prog 40 (.struct [0, 1, 2] 3 [.sc (.int .i64 0), .sc (.int .i64 0), .nilS]) := ⟨_, Try.underlying40, ⟨.agg #[.int .i64 0, .int .i64 0, .slice none 0 0], by kernel_rfl, rfl, rfl⟩, fun f o h => match f, h with | 0, h => by cases h; kernel_rfl | 1, h => by cases h; kernel_rfl | 2, h => by cases h; kernel_rfl | (f + 3), h => by simp at h⟩
theorem ty49 : TyOk Try.prog 49 (.slice 5 1 1 [.sc (.int .u8 0)]) := ⟨Try.underlying49, by unfold ScOk; kernel_rfl, .int .u8 0, by kernel_rfl, rfl, by decide, rfl⟩
theorem ty57 : TyOk Try.prog 57 (.int .u64) := ⟨Try.underlying57, by unfold ScOk; kernel_rfl⟩
theorem ty61 : TyOk Try.prog 61 (.struct [0, 1, 2, 3] 4 [.sc (.pointer none), .sc (.pointer none), .sc (.pointer none), .sc (.string ⟨#[]⟩)]) := ⟨_, Try.underlying61, ⟨.agg #[.pointer none, .pointer none, .pointer none, .string ⟨#[]⟩], by kernel_rfl, rfl, rfl⟩, fun f o h => match f, h with | 0, h => by cases h; kernel_rfl | 1, h => by cases h; kernel_rfl | 2, h => by cases h; kernel_rfl | 3, h => by cases h; kernel_rfl | (f + 4), h => by simp at h⟩
theorem ty62 : TyOk Try.prog 62 (.struct [0, 1, 2, 3] 4 [.sc (.pointer none), .sc (.pointer none), .sc (.pointer none), .sc (.string ⟨#[]⟩)]) := ⟨_, Try.underlying62, ⟨.agg #[.pointer none, .pointer none, .pointer none, .string ⟨#[]⟩], by kernel_rfl, rfl, rfl⟩, fun f o h => match f, h with | 0, h => by cases h; kernel_rfl | 1, h => by cases h; kernel_rfl | 2, h => by cases h; kernel_rfl | 3, h => by cases h; kernel_rfl | (f + 4), h => by simp at h⟩
theorem ty67 : TyOk Try.prog 67 (.int .u32) := ⟨Try.underlying67, by unfold ScOk; kernel_rfl⟩
theorem ty68 : TyOk Try.prog 68 (.int .u8) := ⟨Try.underlying68, by unfold ScOk; kernel_rfl⟩
theorem ty69 : TyOk Try.prog 69 (.int .u8) := ⟨Try.underlying69, by unfold ScOk; kernel_rfl⟩
theorem ty71 : TyOk Try.prog 71 (.ptr) := ⟨⟨_, Try.underlying71⟩, by unfold ScOk; kernel_rfl⟩
theorem ty72 : TyOk Try.prog 72 (.int .i32) := ⟨Try.underlying72, by unfold ScOk; kernel_rfl⟩
theorem ty73 : TyOk Try.prog 73 (.int .i32) := ⟨Try.underlying73, by unfold ScOk; kernel_rfl⟩
def tab : List (Nat × Ty) := [(2, .int .i64), (3, .int .i64), (4, .bool), (5, .int .u8), (6, .int .u8), (7, .struct [0, 1, 2, 3] 4 [.sc (.int .i64 0), .sc (.int .i64 0), .sc (.bool false), .sc (.int .u8 0)]), (8, .struct [0, 1, 2, 3] 4 [.sc (.int .i64 0), .sc (.int .i64 0), .sc (.bool false), .sc (.int .u8 0)]), (9, .string), (10, .string), (11, .string), (12, .int .u64), (13, .struct [0, 1] 2 [.sc (.string ⟨#[]⟩), .sc (.int .u64 0)]), (14, .struct [0, 1] 2 [.sc (.string ⟨#[]⟩), .sc (.int .u64 0)]), (15, .ptr), (16, .ptr), (17, .ptr), (18, .struct [0] 1 [.sc (.pointer none)]), (19, .struct [0] 1 [.sc (.pointer none)]), (21, .int .i32), (25, .slice 3 1 8 [.sc (.int .i64 0)]), (30, .slice 9 1 16 [.sc (.string ⟨#[]⟩)]), (36, .struct [0, 1, 2] 3 [.sc (.int .i64 0), .sc (.int .i64 0), .nilS]), (37, .struct [0, 1, 2] 3 [.sc (.int .i64 0), .sc (.int .i64 0), .nilS]), (40, .struct [0, 1, 2] 3 [.sc (.int .i64 0), .sc (.int .i64 0), .nilS]), (49, .slice 5 1 1 [.sc (.int .u8 0)]), (57, .int .u64), (61, .struct [0, 1, 2, 3] 4 [.sc (.pointer none), .sc (.pointer none), .sc (.pointer none), .sc (.string ⟨#[]⟩)]), (62, .struct [0, 1, 2, 3] 4 [.sc (.pointer none), .sc (.pointer none), .sc (.pointer none), .sc (.string ⟨#[]⟩)]), (67, .int .u32), (68, .int .u8), (69, .int .u8), (71, .ptr), (72, .int .i32), (73, .int .i32)]
theorem tabOk : TabOk Try.prog tab := by
  intro p hp
  simp only [tab, List.mem_cons, List.not_mem_nil, or_false] at hp
  rcases hp with rfl | rfl | rfl | rfl | rfl | rfl | rfl | rfl | rfl | rfl | rfl | rfl | rfl | rfl | rfl | rfl | rfl | rfl | rfl | rfl | rfl | rfl | rfl | rfl | rfl | rfl | rfl | rfl | rfl | rfl | rfl | rfl | rfl | rfl
  · exact ty2
  · exact ty3
  · exact ty4
  · exact ty5
  · exact ty6
  · exact ty7
  · exact ty8
  · exact ty9
  · exact ty10
  · exact ty11
  · exact ty12
  · exact ty13
  · exact ty14
  · exact ty15
  · exact ty16
  · exact ty17
  · exact ty18
  · exact ty19
  · exact ty21
  · exact ty25
  · exact ty30
  · exact ty36
  · exact ty37
  · exact ty40
  · exact ty49
  · exact ty57
  · exact ty61
  · exact ty62
  · exact ty67
  · exact ty68
  · exact ty69
  · exact ty71
  · exact ty72
  · exact ty73
end Go.Proofs.Ytlioigidpeofnaa
