/- The table of this translation's types, for the abstract rules. Written by a program of mine. No condition. -/
import Derived.Test.YtepfjefdbpmobaaProg
import Derived.Test.YtepfjefdbpmobaaAbsW
import Derived.KernelRfl
namespace Go.Proofs.Ytepfjefdbpmobaa
open Go Go.Abs
set_option maxRecDepth 100000
theorem ty2 : TyOk Try.prog 2 (.int .i64) := ⟨Try.underlying2, by unfold ScOk; kernel_rfl⟩
theorem ty3 : TyOk Try.prog 3 (.int .i64) := ⟨Try.underlying3, by unfold ScOk; kernel_rfl⟩
theorem ty4 : TyOk Try.prog 4 (.bool) := ⟨Try.underlying4, by unfold ScOk; kernel_rfl⟩
theorem ty5 : TyOk Try.prog 5 (.int .u8) := ⟨Try.underlying5, by unfold ScOk; kernel_rfl⟩
theorem ty6 : TyOk Try.prog 6 (.int .u8) := ⟨Try.underlying6, by unfold ScOk; kernel_rfl⟩
theorem ty7 : TyOk Try.prog 7 (.struct [0, 1, 2, 3] 4 [.sc (.int .i64 0), .sc (.int .i64 0), .sc (.bool false), .sc (.int .u8 0)]) := ⟨_, Try.underlying7, ⟨.agg #[.int .i64 0, .int .i64 0, .bool false, .int .u8 0], by kernel_rfl, rfl, rfl⟩, fun f o h => match f, h with | 0, h => by cases h; kernel_rfl | 1, h => by cases h; kernel_rfl | 2, h => by cases h; kernel_rfl | 3, h => by cases h; kernel_rfl | (f + 4), h => by simp at h⟩
theorem ty8 : TyOk Try.prog 8 (.struct [0, 1, 2, 3] 4 [.sc (.int .i64 0), .sc (.int .i64 0), .sc (.bool false), .sc (.int .u8 0)]) := ⟨_, Try.underlying8, ⟨.agg #[.int .i64 0, .int .i64 0, .bool false, .int .u8 0], by kernel_rfl, rfl, rfl⟩, fun f o h => match f, h with | 0, h => by cases h; kernel_rfl | 1, h => by cases h; kernel_rfl | 2, h => by cases h; kernel_rfl | 3, h => by cases h; kernel_rfl | (f + 4), h => by simp at h⟩
theorem ty9 : TyOk Try.prog 9 (.string) := ⟨Try.underlying9, by unfold ScOk; kernel_rfl⟩
theorem ty10 : TyOk Try.prog 10 (.string) := ⟨Try.underlying10, by unfold ScOk; kernel_rfl⟩
theorem ty11 : TyOk Try.prog 11 (.string) := ⟨Try.underlying11, by unfold ScOk; kernel_rfl⟩
theorem ty12 : TyOk Try.prog 12 (.int .u64) := ⟨Try.underlying12, by unfold ScOk; kernel_rfl⟩
theorem ty13 : TyOk Try.prog 13 (.struct [0, 1] 2 [.sc (.string ⟨#[]⟩), .sc (.int .u64 0)]) := ⟨_, Try.underlying13, ⟨.agg #[.string ⟨#[]⟩, .int .u64 0], by kernel_rfl, rfl, rfl⟩, fun f o h => match f, h with | 0, h => by cases h; kernel_rfl | 1, h => by cases h; kernel_rfl | (f + 2), h => by simp at h⟩
theorem ty14 : TyOk Try.prog 14 (.struct [0, 1] 2 [.sc (.string ⟨#[]⟩), .sc (.int .u64 0)]) := ⟨_, Try.underlying14, ⟨.agg #[.string ⟨#[]⟩, .int .u64 0], by kernel_rfl, rfl, rfl⟩, fun f o h => match f, h with | 0, h => by cases h; kernel_rfl | 1, h => by cases h; kernel_rfl | (f + 2), h => by simp at h⟩
theorem ty15 : TyOk Try.prog 15 (.ptr) := ⟨⟨_, Try.underlying15⟩, by unfold ScOk; kernel_rfl⟩
theorem ty16 : TyOk Try.prog 16 (.ptr) := ⟨⟨_, Try.underlying16⟩, by unfold ScOk; kernel_rfl⟩
theorem ty17 : TyOk Try.prog 17 (.ptr) := ⟨⟨_, Try.underlying17⟩, by unfold ScOk; kernel_rfl⟩
theorem ty18 : TyOk Try.prog 18 (.struct [0] 1 [.sc (.pointer none)]) := ⟨_, Try.underlying18, ⟨.agg #[.pointer none], by kernel_rfl, rfl, rfl⟩, fun f o h => match f, h with | 0, h => by cases h; kernel_rfl | (f + 1), h => by simp at h⟩
theorem ty19 : TyOk Try.prog 19 (.struct [0] 1 [.sc (.pointer none)]) := ⟨_, Try.underlying19, ⟨.agg #[.pointer none], by kernel_rfl, rfl, rfl⟩, fun f o h => match f, h with | 0, h => by cases h; kernel_rfl | (f + 1), h => by simp at h⟩
theorem ty21 : TyOk Try.prog 21 (.int .i32) := ⟨Try.underlying21, by unfold ScOk; kernel_rfl⟩
theorem ty22 : TyOk Try.prog 22 (.slice 3 1 8 [.sc (.int .i64 0)]) := ⟨Try.underlying22, by unfold ScOk; kernel_rfl, .int .i64 0, by kernel_rfl, rfl, by decide, rfl⟩
theorem ty23 : TyOk Try.prog 23 (.slice 4 1 1 [.sc (.bool false)]) := ⟨Try.underlying23, by unfold ScOk; kernel_rfl, .bool false, by kernel_rfl, rfl, by decide, rfl⟩
theorem ty24 : TyOk Try.prog 24 (.struct [0, 1, 2, 3, 4, 5] 6 [.sc (.int .i64 0), .sc (.bool false), .sc (.bool false), .nilS, .nilS, .nilS]) := ⟨_, Try.underlying24, ⟨.agg #[.int .i64 0, .bool false, .bool false, .slice none 0 0, .slice none 0 0, .slice none 0 0], by kernel_rfl, rfl, rfl⟩, fun f o h => match f, h with | 0, h => by cases h; kernel_rfl | 1, h => by cases h; kernel_rfl | 2, h => by cases h; kernel_rfl | 3, h => by cases h; kernel_rfl | 4, h => by cases h; kernel_rfl | 5, h => by cases h; kernel_rfl | (f + 6), h => by simp at h⟩
theorem ty25 : TyOk Try.prog 25 (.struct [0, 1, 2, 3, 4, 5] 6 [.sc (.int .i64 0), .sc (.bool false), .sc (.bool false), .nilS, .nilS, .nilS]) := ⟨_, Try.underlying25, ⟨.agg #[.int .i64 0, .bool false, .bool false, .slice none 0 0, .slice none 0 0, .slice none 0 0], by kernel_rfl, rfl, rfl⟩, fun f o h => match f, h with | 0, h => by cases h; kernel_rfl | 1, h => by cases h; kernel_rfl | 2, h => by cases h; kernel_rfl | 3, h => by cases h; kernel_rfl | 4, h => by cases h; kernel_rfl | 5, h => by cases h; kernel_rfl | (f + 6), h => by simp at h⟩
theorem ty28 : TyOk Try.prog 28 (.struct [0, 1, 2, 3, 4, 5] 6 [.sc (.int .i64 0), .sc (.bool false), .sc (.bool false), .nilS, .nilS, .nilS]) := ⟨_, Try.underlying28, ⟨.agg #[.int .i64 0, .bool false, .bool false, .slice none 0 0, .slice none 0 0, .slice none 0 0], by kernel_rfl, rfl, rfl⟩, fun f o h => match f, h with | 0, h => by cases h; kernel_rfl | 1, h => by cases h; kernel_rfl | 2, h => by cases h; kernel_rfl | 3, h => by cases h; kernel_rfl | 4, h => by cases h; kernel_rfl | 5, h => by cases h; kernel_rfl | (f + 6), h => by simp at h⟩
theorem ty32 : TyOk Try.prog 32 (.struct [0, 1, 2] 3 [.sc (.int .i64 0), .sc (.int .i64 0), .nilS]) := ⟨_, Try.underlying32, ⟨.agg #[.int .i64 0, .int .i64 0, .slice none 0 0], by kernel_rfl, rfl, rfl⟩, fun f o h => match f, h with | 0, h => by cases h; kernel_rfl | 1, h => by cases h; kernel_rfl | 2, h => by cases h; kernel_rfl | (f + 3), h => by simp at h⟩
theorem ty33 : TyOk Try.prog 33 (.struct [0, 1, 2] 3 [.sc (.int .i64 0), .sc (.int .i64 0), .nilS]) := ⟨_, Try.underlying33, ⟨.agg #[.int .i64 0, .int .i64 0, .slice none 0 0], by kernel_rfl, rfl, rfl⟩, fun f o h => match f, h with | 0, h => by cases h; kernel_rfl | 1, h => by cases h; kernel_rfl | 2, h => by cases h; kernel_rfl | (f + 3), h => by simp at h⟩
theorem ty36 : TyOk Try.prog 36 (.struct [0, 1, 2] 3 [.sc (.int .i64 0), .sc (.int .i64 0), .nilS]) := ⟨_, Try.underlying36, ⟨.agg #[.int .i64 0, .int .i64 0, .slice none 0 0], by kernel_rfl, rfl, rfl⟩, fun f o h => match f, h with | 0, h => by cases h; kernel_rfl | 1, h => by cases h; kernel_rfl | 2, h => by cases h; kernel_rfl | (f + 3), h => by simp at h⟩
theorem ty40 : TyOk Try.prog 40 (.struct [0, 1, 2, 3, 4, 5] 6 [.sc (.int .i64 0), .sc (.int .i64 0), .sc (.int .i64 0), .sc (.bool false), .sc (.bool false), .nilS]) := ⟨_, Try.underlying40, ⟨.agg #[.int .i64 0, .int .i64 0, .int .i64 0, .bool false, .bool false, .slice none 0 0], by kernel_rfl, rfl, rfl⟩, fun f o h => match f, h with | 0, h => by cases h; kernel_rfl | 1, h => by cases h; kernel_rfl | 2, h => by cases h; kernel_rfl | 3, h => by cases h; kernel_rfl | 4, h => by cases h; kernel_rfl | 5, h => by cases h; kernel_rfl | (f + 6), h => by simp at h⟩
theorem ty41 : TyOk Try.prog 41 (.struct [0, 1, 2, 3, 4, 5] 6 [.sc (.int .i64 0), .sc (.int .i64 0), .sc (.int .i64 0), .sc (.bool false), .sc (.bool false), .nilS]) := ⟨_, Try.underlying41, ⟨.agg #[.int .i64 0, .int .i64 0, .int .i64 0, .bool false, .bool false, .slice none 0 0], by kernel_rfl, rfl, rfl⟩, fun f o h => match f, h with | 0, h => by cases h; kernel_rfl | 1, h => by cases h; kernel_rfl | 2, h => by cases h; kernel_rfl | 3, h => by cases h; kernel_rfl | 4, h => by cases h; kernel_rfl | 5, h => by cases h; kernel_rfl | (f + 6), h => by simp at h⟩
theorem ty42 : TyOk Try.prog 42 (.slice 124 2 32 [.sc (.bool false), .nilS]) := ⟨Try.underlying42, by unfold ScOk; kernel_rfl, .agg #[.bool false, .slice none 0 0], by kernel_rfl, rfl, by decide, rfl⟩
theorem ty43 : TyOk Try.prog 43 (.struct [0, 6] 7 [.sc (.int .i64 0), .sc (.int .i64 0), .sc (.int .i64 0), .sc (.bool false), .sc (.bool false), .nilS, .nilS]) := ⟨_, Try.underlying43, ⟨.agg #[.int .i64 0, .int .i64 0, .int .i64 0, .bool false, .bool false, .slice none 0 0, .slice none 0 0], by kernel_rfl, rfl, rfl⟩, fun f o h => match f, h with | 0, h => by cases h; kernel_rfl | 1, h => by cases h; kernel_rfl | (f + 2), h => by simp at h⟩
theorem ty44 : TyOk Try.prog 44 (.struct [0, 6] 7 [.sc (.int .i64 0), .sc (.int .i64 0), .sc (.int .i64 0), .sc (.bool false), .sc (.bool false), .nilS, .nilS]) := ⟨_, Try.underlying44, ⟨.agg #[.int .i64 0, .int .i64 0, .int .i64 0, .bool false, .bool false, .slice none 0 0, .slice none 0 0], by kernel_rfl, rfl, rfl⟩, fun f o h => match f, h with | 0, h => by cases h; kernel_rfl | 1, h => by cases h; kernel_rfl | (f + 2), h => by simp at h⟩
theorem ty47 : TyOk Try.prog 47 (.struct [0, 1, 2, 3, 4, 5] 6 [.sc (.int .i64 0), .sc (.int .i64 0), .sc (.int .i64 0), .sc (.bool false), .sc (.bool false), .nilS]) := ⟨_, Try.underlying47, ⟨.agg #[.int .i64 0, .int .i64 0, .int .i64 0, .bool false, .bool false, .slice none 0 0], by kernel_rfl, rfl, rfl⟩, fun f o h => match f, h with | 0, h => by cases h; kernel_rfl | 1, h => by cases h; kernel_rfl | 2, h => by cases h; kernel_rfl | 3, h => by cases h; kernel_rfl | 4, h => by cases h; kernel_rfl | 5, h => by cases h; kernel_rfl | (f + 6), h => by simp at h⟩
theorem ty48 : TyOk Try.prog 48 (.slice 93 2 32 [.sc (.bool false), .nilS]) := ⟨Try.underlying48, by unfold ScOk; kernel_rfl, .agg #[.bool false, .slice none 0 0], by kernel_rfl, rfl, by decide, rfl⟩
theorem ty49 : TyOk Try.prog 49 (.struct [0, 6] 7 [.sc (.int .i64 0), .sc (.int .i64 0), .sc (.int .i64 0), .sc (.bool false), .sc (.bool false), .nilS, .nilS]) := ⟨_, Try.underlying49, ⟨.agg #[.int .i64 0, .int .i64 0, .int .i64 0, .bool false, .bool false, .slice none 0 0, .slice none 0 0], by kernel_rfl, rfl, rfl⟩, fun f o h => match f, h with | 0, h => by cases h; kernel_rfl | 1, h => by cases h; kernel_rfl | (f + 2), h => by simp at h⟩
theorem ty50 : TyOk Try.prog 50 (.struct [0, 6] 7 [.sc (.int .i64 0), .sc (.int .i64 0), .sc (.int .i64 0), .sc (.bool false), .sc (.bool false), .nilS, .nilS]) := ⟨_, Try.underlying50, ⟨.agg #[.int .i64 0, .int .i64 0, .int .i64 0, .bool false, .bool false, .slice none 0 0, .slice none 0 0], by kernel_rfl, rfl, rfl⟩, fun f o h => match f, h with | 0, h => by cases h; kernel_rfl | 1, h => by cases h; kernel_rfl | (f + 2), h => by simp at h⟩
theorem ty60 : TyOk Try.prog 60 (.struct [0, 1, 2, 3, 4] 5 [.nilS, .nilS, .sc (.int .i64 0), .sc (.bool false), .sc (.bool false)]) := ⟨_, Try.underlying60, ⟨.agg #[.slice none 0 0, .slice none 0 0, .int .i64 0, .bool false, .bool false], by kernel_rfl, rfl, rfl⟩, fun f o h => match f, h with | 0, h => by cases h; kernel_rfl | 1, h => by cases h; kernel_rfl | 2, h => by cases h; kernel_rfl | 3, h => by cases h; kernel_rfl | 4, h => by cases h; kernel_rfl | (f + 5), h => by simp at h⟩
theorem ty61 : TyOk Try.prog 61 (.struct [0, 1, 2, 3, 4] 5 [.nilS, .nilS, .sc (.int .i64 0), .sc (.bool false), .sc (.bool false)]) := ⟨_, Try.underlying61, ⟨.agg #[.slice none 0 0, .slice none 0 0, .int .i64 0, .bool false, .bool false], by kernel_rfl, rfl, rfl⟩, fun f o h => match f, h with | 0, h => by cases h; kernel_rfl | 1, h => by cases h; kernel_rfl | 2, h => by cases h; kernel_rfl | 3, h => by cases h; kernel_rfl | 4, h => by cases h; kernel_rfl | (f + 5), h => by simp at h⟩
theorem ty65 : TyOk Try.prog 65 (.struct [0, 1, 2, 3, 4] 5 [.nilS, .nilS, .sc (.int .i64 0), .sc (.bool false), .sc (.bool false)]) := ⟨_, Try.underlying65, ⟨.agg #[.slice none 0 0, .slice none 0 0, .int .i64 0, .bool false, .bool false], by kernel_rfl, rfl, rfl⟩, fun f o h => match f, h with | 0, h => by cases h; kernel_rfl | 1, h => by cases h; kernel_rfl | 2, h => by cases h; kernel_rfl | 3, h => by cases h; kernel_rfl | 4, h => by cases h; kernel_rfl | (f + 5), h => by simp at h⟩
theorem ty79 : TyOk Try.prog 79 (.slice 5 1 1 [.sc (.int .u8 0)]) := ⟨Try.underlying79, by unfold ScOk; kernel_rfl, .int .u8 0, by kernel_rfl, rfl, by decide, rfl⟩
theorem ty80 : TyOk Try.prog 80 (.ptr) := ⟨⟨_, Try.underlying80⟩, by unfold ScOk; kernel_rfl⟩
theorem ty81 : TyOk Try.prog 81 (.struct [0, 1] 2 [.sc (.pointer none), .nilS]) := ⟨_, Try.underlying81, ⟨.agg #[.pointer none, .slice none 0 0], by kernel_rfl, rfl, rfl⟩, fun f o h => match f, h with | 0, h => by cases h; kernel_rfl | 1, h => by cases h; kernel_rfl | (f + 2), h => by simp at h⟩
theorem ty82 : TyOk Try.prog 82 (.struct [0, 1] 2 [.sc (.pointer none), .nilS]) := ⟨_, Try.underlying82, ⟨.agg #[.pointer none, .slice none 0 0], by kernel_rfl, rfl, rfl⟩, fun f o h => match f, h with | 0, h => by cases h; kernel_rfl | 1, h => by cases h; kernel_rfl | (f + 2), h => by simp at h⟩
theorem ty91 : TyOk Try.prog 91 (.slice 95 2 32 [.sc (.int .i64 0), .nilS]) := ⟨Try.underlying91, by unfold ScOk; kernel_rfl, .agg #[.int .i64 0, .slice none 0 0], by kernel_rfl, rfl, by decide, rfl⟩
theorem ty92 : TyOk Try.prog 92 (.struct [0, 1] 2 [.sc (.bool false), .nilS]) := ⟨_, Try.underlying92, ⟨.agg #[.bool false, .slice none 0 0], by kernel_rfl, rfl, rfl⟩, fun f o h => match f, h with | 0, h => by cases h; kernel_rfl | 1, h => by cases h; kernel_rfl | (f + 2), h => by simp at h⟩
theorem ty93 : TyOk Try.prog 93 (.struct [0, 1] 2 [.sc (.bool false), .nilS]) := ⟨_, Try.underlying93, ⟨.agg #[.bool false, .slice none 0 0], by kernel_rfl, rfl, rfl⟩, fun f o h => match f, h with | 0, h => by cases h; kernel_rfl | 1, h => by cases h; kernel_rfl | (f + 2), h => by simp at h⟩
theorem ty94 : TyOk Try.prog 94 (.struct [0, 1] 2 [.sc (.int .i64 0), .nilS]) := ⟨_, Try.underlying94, ⟨.agg #[.int .i64 0, .slice none 0 0], by kernel_rfl, rfl, rfl⟩, fun f o h => match f, h with | 0, h => by cases h; kernel_rfl | 1, h => by cases h; kernel_rfl | (f + 2), h => by simp at h⟩
theorem ty95 : TyOk Try.prog 95 (.struct [0, 1] 2 [.sc (.int .i64 0), .nilS]) := ⟨_, Try.underlying95, ⟨.agg #[.int .i64 0, .slice none 0 0], by kernel_rfl, rfl, rfl⟩, fun f o h => match f, h with | 0, h => by cases h; kernel_rfl | 1, h => by cases h; kernel_rfl | (f + 2), h => by simp at h⟩
theorem ty112 : TyOk Try.prog 112 (.slice 142 2 16 [.sc (.int .i64 0), .sc (.int .i64 0)]) := ⟨Try.underlying112, by unfold ScOk; kernel_rfl, .agg #[.int .i64 0, .int .i64 0], by kernel_rfl, rfl, by decide, rfl⟩
theorem ty119 : TyOk Try.prog 119 (.int .u64) := ⟨Try.underlying119, by unfold ScOk; kernel_rfl⟩
theorem ty120 : TyOk Try.prog 120 (.ptr) := ⟨⟨_, Try.underlying120⟩, by unfold ScOk; kernel_rfl⟩
theorem ty122 : TyOk Try.prog 122 (.slice 164 2 32 [.sc (.int .i64 0), .nilS]) := ⟨Try.underlying122, by unfold ScOk; kernel_rfl, .agg #[.int .i64 0, .slice none 0 0], by kernel_rfl, rfl, by decide, rfl⟩
theorem ty123 : TyOk Try.prog 123 (.struct [0, 1] 2 [.sc (.bool false), .nilS]) := ⟨_, Try.underlying123, ⟨.agg #[.bool false, .slice none 0 0], by kernel_rfl, rfl, rfl⟩, fun f o h => match f, h with | 0, h => by cases h; kernel_rfl | 1, h => by cases h; kernel_rfl | (f + 2), h => by simp at h⟩
theorem ty124 : TyOk Try.prog 124 (.struct [0, 1] 2 [.sc (.bool false), .nilS]) := ⟨_, Try.underlying124, ⟨.agg #[.bool false, .slice none 0 0], by kernel_rfl, rfl, rfl⟩, fun f o h => match f, h with | 0, h => by cases h; kernel_rfl | 1, h => by cases h; kernel_rfl | (f + 2), h => by simp at h⟩
theorem ty128 : TyOk Try.prog 128 (.slice 9 1 16 [.sc (.string ⟨#[]⟩)]) := ⟨Try.underlying128, by unfold ScOk; kernel_rfl, .string ⟨#[]⟩, by kernel_rfl, rfl, by decide, rfl⟩
theorem ty136 : TyOk Try.prog 136 (.slice 22 1 24 [.nilS]) := ⟨Try.underlying136, by unfold ScOk; kernel_rfl, .slice none 0 0, by kernel_rfl, rfl, by decide, rfl⟩
theorem ty141 : TyOk Try.prog 141 (.struct [0, 1] 2 [.sc (.int .i64 0), .sc (.int .i64 0)]) := ⟨_, Try.underlying141, ⟨.agg #[.int .i64 0, .int .i64 0], by kernel_rfl, rfl, rfl⟩, fun f o h => match f, h with | 0, h => by cases h; kernel_rfl | 1, h => by cases h; kernel_rfl | (f + 2), h => by simp at h⟩
theorem ty142 : TyOk Try.prog 142 (.struct [0, 1] 2 [.sc (.int .i64 0), .sc (.int .i64 0)]) := ⟨_, Try.underlying142, ⟨.agg #[.int .i64 0, .int .i64 0], by kernel_rfl, rfl, rfl⟩, fun f o h => match f, h with | 0, h => by cases h; kernel_rfl | 1, h => by cases h; kernel_rfl | (f + 2), h => by simp at h⟩
theorem ty164 : TyOk Try.prog 164 (.struct [0, 1] 2 [.sc (.int .i64 0), .nilS]) := ⟨_, Try.underlying164, ⟨.agg #[.int .i64 0, .slice none 0 0], by kernel_rfl, rfl, rfl⟩, fun f o h => match f, h with | 0, h => by cases h; kernel_rfl | 1, h => by cases h; kernel_rfl | (f + 2), h => by simp at h⟩
theorem ty169 : TyOk Try.prog 169 (.int .u32) := ⟨Try.underlying169, by unfold ScOk; kernel_rfl⟩
theorem ty171 : TyOk Try.prog 171 (.int .u64) := ⟨Try.underlying171, by unfold ScOk; kernel_rfl⟩
theorem ty173 : TyOk Try.prog 173 (.struct [0, 1, 2, 3] 4 [.sc (.pointer none), .sc (.pointer none), .sc (.pointer none), .sc (.string ⟨#[]⟩)]) := ⟨_, Try.underlying173, ⟨.agg #[.pointer none, .pointer none, .pointer none, .string ⟨#[]⟩], by kernel_rfl, rfl, rfl⟩, fun f o h => match f, h with | 0, h => by cases h; kernel_rfl | 1, h => by cases h; kernel_rfl | 2, h => by cases h; kernel_rfl | 3, h => by cases h; kernel_rfl | (f + 4), h => by simp at h⟩
theorem ty174 : TyOk Try.prog 174 (.struct [0, 1, 2, 3] 4 [.sc (.pointer none), .sc (.pointer none), .sc (.pointer none), .sc (.string ⟨#[]⟩)]) := ⟨_, Try.underlying174, ⟨.agg #[.pointer none, .pointer none, .pointer none, .string ⟨#[]⟩], by kernel_rfl, rfl, rfl⟩, fun f o h => match f, h with | 0, h => by cases h; kernel_rfl | 1, h => by cases h; kernel_rfl | 2, h => by cases h; kernel_rfl | 3, h => by cases h; kernel_rfl | (f + 4), h => by simp at h⟩
theorem ty178 : TyOk Try.prog 178 (.int .u8) := ⟨Try.underlying178, by unfold ScOk; kernel_rfl⟩
theorem ty179 : TyOk Try.prog 179 (.int .u8) := ⟨Try.underlying179, by unfold ScOk; kernel_rfl⟩
theorem ty181 : TyOk Try.prog 181 (.int .i32) := ⟨Try.underlying181, by unfold ScOk; kernel_rfl⟩
theorem ty182 : TyOk Try.prog 182 (.int .i32) := ⟨Try.underlying182, by unfold ScOk; kernel_rfl⟩
def tab : List (Nat × Ty) := [(2, .int .i64), (3, .int .i64), (4, .bool), (5, .int .u8), (6, .int .u8), (7, .struct [0, 1, 2, 3] 4 [.sc (.int .i64 0), .sc (.int .i64 0), .sc (.bool false), .sc (.int .u8 0)]), (8, .struct [0, 1, 2, 3] 4 [.sc (.int .i64 0), .sc (.int .i64 0), .sc (.bool false), .sc (.int .u8 0)]), (9, .string), (10, .string), (11, .string), (12, .int .u64), (13, .struct [0, 1] 2 [.sc (.string ⟨#[]⟩), .sc (.int .u64 0)]), (14, .struct [0, 1] 2 [.sc (.string ⟨#[]⟩), .sc (.int .u64 0)]), (15, .ptr), (16, .ptr), (17, .ptr), (18, .struct [0] 1 [.sc (.pointer none)]), (19, .struct [0] 1 [.sc (.pointer none)]), (21, .int .i32), (22, .slice 3 1 8 [.sc (.int .i64 0)]), (23, .slice 4 1 1 [.sc (.bool false)]), (24, .struct [0, 1, 2, 3, 4, 5] 6 [.sc (.int .i64 0), .sc (.bool false), .sc (.bool false), .nilS, .nilS, .nilS]), (25, .struct [0, 1, 2, 3, 4, 5] 6 [.sc (.int .i64 0), .sc (.bool false), .sc (.bool false), .nilS, .nilS, .nilS]), (28, .struct [0, 1, 2, 3, 4, 5] 6 [.sc (.int .i64 0), .sc (.bool false), .sc (.bool false), .nilS, .nilS, .nilS]), (32, .struct [0, 1, 2] 3 [.sc (.int .i64 0), .sc (.int .i64 0), .nilS]), (33, .struct [0, 1, 2] 3 [.sc (.int .i64 0), .sc (.int .i64 0), .nilS]), (36, .struct [0, 1, 2] 3 [.sc (.int .i64 0), .sc (.int .i64 0), .nilS]), (40, .struct [0, 1, 2, 3, 4, 5] 6 [.sc (.int .i64 0), .sc (.int .i64 0), .sc (.int .i64 0), .sc (.bool false), .sc (.bool false), .nilS]), (41, .struct [0, 1, 2, 3, 4, 5] 6 [.sc (.int .i64 0), .sc (.int .i64 0), .sc (.int .i64 0), .sc (.bool false), .sc (.bool false), .nilS]), (42, .slice 124 2 32 [.sc (.bool false), .nilS]), (43, .struct [0, 6] 7 [.sc (.int .i64 0), .sc (.int .i64 0), .sc (.int .i64 0), .sc (.bool false), .sc (.bool false), .nilS, .nilS]), (44, .struct [0, 6] 7 [.sc (.int .i64 0), .sc (.int .i64 0), .sc (.int .i64 0), .sc (.bool false), .sc (.bool false), .nilS, .nilS]), (47, .struct [0, 1, 2, 3, 4, 5] 6 [.sc (.int .i64 0), .sc (.int .i64 0), .sc (.int .i64 0), .sc (.bool false), .sc (.bool false), .nilS]), (48, .slice 93 2 32 [.sc (.bool false), .nilS]), (49, .struct [0, 6] 7 [.sc (.int .i64 0), .sc (.int .i64 0), .sc (.int .i64 0), .sc (.bool false), .sc (.bool false), .nilS, .nilS]), (50, .struct [0, 6] 7 [.sc (.int .i64 0), .sc (.int .i64 0), .sc (.int .i64 0), .sc (.bool false), .sc (.bool false), .nilS, .nilS]), (60, .struct [0, 1, 2, 3, 4] 5 [.nilS, .nilS, .sc (.int .i64 0), .sc (.bool false), .sc (.bool false)]), (61, .struct [0, 1, 2, 3, 4] 5 [.nilS, .nilS, .sc (.int .i64 0), .sc (.bool false), .sc (.bool false)]), (65, .struct [0, 1, 2, 3, 4] 5 [.nilS, .nilS, .sc (.int .i64 0), .sc (.bool false), .sc (.bool false)]), (79, .slice 5 1 1 [.sc (.int .u8 0)]), (80, .ptr), (81, .struct [0, 1] 2 [.sc (.pointer none), .nilS]), (82, .struct [0, 1] 2 [.sc (.pointer none), .nilS]), (91, .slice 95 2 32 [.sc (.int .i64 0), .nilS]), (92, .struct [0, 1] 2 [.sc (.bool false), .nilS]), (93, .struct [0, 1] 2 [.sc (.bool false), .nilS]), (94, .struct [0, 1] 2 [.sc (.int .i64 0), .nilS]), (95, .struct [0, 1] 2 [.sc (.int .i64 0), .nilS]), (112, .slice 142 2 16 [.sc (.int .i64 0), .sc (.int .i64 0)]), (119, .int .u64), (120, .ptr), (122, .slice 164 2 32 [.sc (.int .i64 0), .nilS]), (123, .struct [0, 1] 2 [.sc (.bool false), .nilS]), (124, .struct [0, 1] 2 [.sc (.bool false), .nilS]), (128, .slice 9 1 16 [.sc (.string ⟨#[]⟩)]), (136, .slice 22 1 24 [.nilS]), (141, .struct [0, 1] 2 [.sc (.int .i64 0), .sc (.int .i64 0)]), (142, .struct [0, 1] 2 [.sc (.int .i64 0), .sc (.int .i64 0)]), (164, .struct [0, 1] 2 [.sc (.int .i64 0), .nilS]), (169, .int .u32), (171, .int .u64), (173, .struct [0, 1, 2, 3] 4 [.sc (.pointer none), .sc (.pointer none), .sc (.pointer none), .sc (.string ⟨#[]⟩)]), (174, .struct [0, 1, 2, 3] 4 [.sc (.pointer none), .sc (.pointer none), .sc (.pointer none), .sc (.string ⟨#[]⟩)]), (178, .int .u8), (179, .int .u8), (181, .int .i32), (182, .int .i32)]
theorem tabOk : TabOk Try.prog tab := by
  intro p hp
  simp only [tab, List.mem_cons, List.not_mem_nil, or_false] at hp
  rcases hp with rfl | rfl | rfl | rfl | rfl | rfl | rfl | rfl | rfl | rfl | rfl | rfl | rfl | rfl | rfl | rfl | rfl | rfl | rfl | rfl | rfl | rfl | rfl | rfl | rfl | rfl | rfl | rfl | rfl | rfl | rfl | rfl | rfl | rfl | rfl | rfl | rfl | rfl | rfl | rfl | rfl | rfl | rfl | rfl | rfl | rfl | rfl | rfl | rfl | rfl | rfl | rfl | rfl | rfl | rfl | rfl | rfl | rfl | rfl | rfl | rfl | rfl | rfl | rfl | rfl | rfl | rfl
  · exact ty2
  · exact ty3
  · exact ty4
  · exact ty5
  · exact ty6
  · exact ty7
  · exact ty8
  · exact ty9
  · exact ty10
  · exact ty11
  · exact ty12
  · exact ty13
  · exact ty14
  · exact ty15
  · exact ty16
  · exact ty17
  · exact ty18
  · exact ty19
  · exact ty21
  · exact ty22
  · exact ty23
  · exact ty24
  · exact ty25
  · exact ty28
  · exact ty32
  · exact ty33
  · exact ty36
  · exact ty40
  · exact ty41
  · exact ty42
  · exact ty43
  · exact ty44
  · exact ty47
  · exact ty48
  · exact ty49
  · exact ty50
  · exact ty60
  · exact ty61
  · exact ty65
  · exact ty79
  · exact ty80
  · exact ty81
  · exact ty82
  · exact ty91
  · exact ty92
  · exact ty93
  · exact ty94
  · exact ty95
  · exact ty112
  · exact ty119
  · exact ty120
  · exact ty122
  · exact ty123
  · exact ty124
  · exact ty128
  · exact ty136
  · exact ty141
  · exact ty142
  · exact ty164
  · exact ty169
  · exact ty171
  · exact ty173
  · exact ty174
  · exact ty178
  · exact ty179
  · exact ty181
  · exact ty182
end Go.Proofs.Ytepfjefdbpmobaa
