/- Proved in this text: lemmas and contracts of functions that the claim uses (parts: Tab). No condition. -/
import Derived.Test.YtgbahnaejajdgaaProg
import Derived.Test.YtgbahnaejajdgaaPkM7
import Derived.KernelRfl

/- The table of this translation's types, for the abstract rules. Written by a program of mine. No condition. -/
namespace Go.Proofs.Ytgbahnaejajdgaa
open Go Go.Abs
set_option maxRecDepth 100000
theorem ty1 : TyOk Try.prog 1 (.func) := ⟨⟨_, _, _, Try.underlying1⟩, by unfold ScOk; kernel_rfl⟩
theorem ty2 : TyOk Try.prog 2 (.int .i64) := ⟨Try.underlying2, by unfold ScOk; kernel_rfl⟩
theorem ty3 : TyOk Try.prog 3 (.int .i64) := ⟨Try.underlying3, by unfold ScOk; kernel_rfl⟩
theorem ty4 : TyOk Try.prog 4 (.bool) := ⟨Try.underlying4, by unfold ScOk; kernel_rfl⟩
theorem ty5 : TyOk Try.prog 5 (.int .u8) := ⟨Try.underlying5, by unfold ScOk; kernel_rfl⟩
theorem ty6 : TyOk Try.prog 6 (.int .u8) := ⟨Try.underlying6, by unfold ScOk; kernel_rfl⟩
theorem ty7 : TyOk Try.prog 7 (.struct [0, 1, 2, 3] 4 [.sc (.int .i64 0), .sc (.int .i64 0), .sc (.bool false), .sc (.int .u8 0)]) := ⟨_, Try.underlying7, ⟨.agg #[.int .i64 0, .int .i64 0, .bool false, .int .u8 0], by kernel_rfl, rfl, rfl⟩, fun f o h => match f, h with | 0, h => by cases h; kernel_rfl | 1, h => by cases h; kernel_rfl | 2, h => by cases h; kernel_rfl | 3, h => by cases h; kernel_rfl | (f + 4), h => by simp at h⟩
theorem ty8 : TyOk Try.prog 8 (.struct [0, 1, 2, 3] 4 [.sc (.int .i64 0), .sc (.int .i64 0), .sc (.bool false), .sc (.int .u8 0)]) := ⟨_, Try.underlying8, ⟨.agg #[.int .i64 0, .int .i64 0, .bool false, .int .u8 0], by kernel_rfl, rfl, rfl⟩, fun f o h => match f, h with | 0, h => by cases h; kernel_rfl | 1, h => by cases h; kernel_rfl | 2, h => by cases h; kernel_rfl | 3, h => by cases h; kernel_rfl | (f + 4), h => by simp at h⟩
theorem ty9 : TyOk Try.prog 9 (.string) := ⟨Try.underlying9, by unfold ScOk; kernel_rfl⟩
theorem ty10 : TyOk Try.prog 10 (.string) := ⟨Try.underlying10, by unfold ScOk; kernel_rfl⟩
theorem ty11 : TyOk Try.prog 11 (.string) := ⟨Try.underlying11, by unfold ScOk; kernel_rfl⟩
theorem ty12 : TyOk Try.prog 12 (.int .u64) := ⟨Try.underlying12, by unfold ScOk; kernel_rfl⟩
theorem ty13 : TyOk Try.prog 13 (.struct [0, 1] 2 [.sc (.string ⟨#[]⟩), .sc (.int .u64 0)]) := ⟨_, Try.underlying13, ⟨.agg #[.string ⟨#[]⟩, .int .u64 0], by kernel_rfl, rfl, rfl⟩, fun f o h => match f, h with | 0, h => by cases h; kernel_rfl | 1, h => by cases h; kernel_rfl | (f + 2), h => by simp at h⟩
theorem ty14 : TyOk Try.prog 14 (.struct [0, 1] 2 [.sc (.string ⟨#[]⟩), .sc (.int .u64 0)]) := ⟨_, Try.underlying14, ⟨.agg #[.string ⟨#[]⟩, .int .u64 0], by kernel_rfl, rfl, rfl⟩, fun f o h => match f, h with | 0, h => by cases h; kernel_rfl | 1, h => by cases h; kernel_rfl | (f + 2), h => by simp at h⟩
theorem ty15 : TyOk Try.prog 15 (.ptr) := ⟨⟨_, Try.underlying15⟩, by unfold ScOk; kernel_rfl⟩
theorem ty16 : TyOk Try.prog 16 (.ptr) := ⟨⟨_, Try.underlying16⟩, by unfold ScOk; kernel_rfl⟩
theorem ty17 : TyOk Try.prog 17 (.ptr) := ⟨⟨_, Try.underlying17⟩, by unfold ScOk; kernel_rfl⟩
theorem ty18 : TyOk Try.prog 18 (.struct [0] 1 [.sc (.pointer none)]) := ⟨_, Try.underlying18, ⟨.agg #[.pointer none], by kernel_rfl, rfl, rfl⟩, fun f o h => match f, h with | 0, h => by cases h; kernel_rfl | (f + 1), h => by simp at h⟩
theorem ty19 : TyOk Try.prog 19 (.struct [0] 1 [.sc (.pointer none)]) := ⟨_, Try.underlying19, ⟨.agg #[.pointer none], by kernel_rfl, rfl, rfl⟩, fun f o h => match f, h with | 0, h => by cases h; kernel_rfl | (f + 1), h => by simp at h⟩
theorem ty20 : TyOk Try.prog 20 (.iface) := ⟨⟨_, Try.underlying20⟩, by unfold ScOk; kernel_rfl⟩
theorem ty21 : TyOk Try.prog 21 (.int .i32) := ⟨Try.underlying21, by unfold ScOk; kernel_rfl⟩
theorem ty22 : TyOk Try.prog 22 (.struct [0, 1, 2, 3] 4 [.sc (.string ⟨#[]⟩), .sc (.int .i64 0), .sc (.int .i64 0), .sc (.int .i64 0)]) := ⟨_, Try.underlying22, ⟨.agg #[.string ⟨#[]⟩, .int .i64 0, .int .i64 0, .int .i64 0], by kernel_rfl, rfl, rfl⟩, fun f o h => match f, h with | 0, h => by cases h; kernel_rfl | 1, h => by cases h; kernel_rfl | 2, h => by cases h; kernel_rfl | 3, h => by cases h; kernel_rfl | (f + 4), h => by simp at h⟩
theorem ty23 : TyOk Try.prog 23 (.struct [0, 1, 2, 3] 4 [.sc (.string ⟨#[]⟩), .sc (.int .i64 0), .sc (.int .i64 0), .sc (.int .i64 0)]) := ⟨_, Try.underlying23, ⟨.agg #[.string ⟨#[]⟩, .int .i64 0, .int .i64 0, .int .i64 0], by kernel_rfl, rfl, rfl⟩, fun f o h => match f, h with | 0, h => by cases h; kernel_rfl | 1, h => by cases h; kernel_rfl | 2, h => by cases h; kernel_rfl | 3, h => by cases h; kernel_rfl | (f + 4), h => by simp at h⟩
theorem ty24 : TyOk Try.prog 24 (.slice 86 2 16 [.sc (.int .i64 0), .sc (.int .i64 0)]) := ⟨Try.underlying24, by unfold ScOk; kernel_rfl, .agg #[.int .i64 0, .int .i64 0], by kernel_rfl, rfl, by decide, rfl⟩
theorem ty25 : TyOk Try.prog 25 (.func) := ⟨⟨_, _, _, Try.underlying25⟩, by unfold ScOk; kernel_rfl⟩
theorem ty26 : TyOk Try.prog 26 (.func) := ⟨⟨_, _, _, Try.underlying26⟩, by unfold ScOk; kernel_rfl⟩
theorem ty27 : TyOk Try.prog 27 (.struct [0, 1, 2, 3] 4 [.sc (.string ⟨#[]⟩), .sc (.int .i64 0), .sc (.int .i64 0), .sc (.int .i64 0)]) := ⟨_, Try.underlying27, ⟨.agg #[.string ⟨#[]⟩, .int .i64 0, .int .i64 0, .int .i64 0], by kernel_rfl, rfl, rfl⟩, fun f o h => match f, h with | 0, h => by cases h; kernel_rfl | 1, h => by cases h; kernel_rfl | 2, h => by cases h; kernel_rfl | 3, h => by cases h; kernel_rfl | (f + 4), h => by simp at h⟩
theorem ty28 : TyOk Try.prog 28 (.slice 3 1 8 [.sc (.int .i64 0)]) := ⟨Try.underlying28, by unfold ScOk; kernel_rfl, .int .i64 0, by kernel_rfl, rfl, by decide, rfl⟩
theorem ty30 : TyOk Try.prog 30 (.func) := ⟨⟨_, _, _, Try.underlying30⟩, by unfold ScOk; kernel_rfl⟩
theorem ty31 : TyOk Try.prog 31 (.func) := ⟨⟨_, _, _, Try.underlying31⟩, by unfold ScOk; kernel_rfl⟩
theorem ty32 : TyOk Try.prog 32 (.slice 84 2 16 [.sc (.int .i64 0), .sc (.int .i64 0)]) := ⟨Try.underlying32, by unfold ScOk; kernel_rfl, .agg #[.int .i64 0, .int .i64 0], by kernel_rfl, rfl, by decide, rfl⟩
theorem ty33 : TyOk Try.prog 33 (.func) := ⟨⟨_, _, _, Try.underlying33⟩, by unfold ScOk; kernel_rfl⟩
theorem ty34 : TyOk Try.prog 34 (.func) := ⟨⟨_, _, _, Try.underlying34⟩, by unfold ScOk; kernel_rfl⟩
theorem ty35 : TyOk Try.prog 35 (.func) := ⟨⟨_, _, _, Try.underlying35⟩, by unfold ScOk; kernel_rfl⟩
theorem ty36 : TyOk Try.prog 36 (.func) := ⟨⟨_, _, _, Try.underlying36⟩, by unfold ScOk; kernel_rfl⟩
theorem ty37 : TyOk Try.prog 37 (.func) := ⟨⟨_, _, _, Try.underlying37⟩, by unfold ScOk; kernel_rfl⟩
theorem ty38 : TyOk Try.prog 38 (.func) := ⟨⟨_, _, _, Try.underlying38⟩, by unfold ScOk; kernel_rfl⟩
theorem ty39 : TyOk Try.prog 39 (.func) := ⟨⟨_, _, _, Try.underlying39⟩, by unfold ScOk; kernel_rfl⟩
theorem ty40 : TyOk Try.prog 40 (.func) := ⟨⟨_, _, _, Try.underlying40⟩, by unfold ScOk; kernel_rfl⟩
theorem ty41 : TyOk Try.prog 41 (.func) := ⟨⟨_, _, _, Try.underlying41⟩, by unfold ScOk; kernel_rfl⟩
theorem ty42 : TyOk Try.prog 42 (.struct [0, 1, 2, 3, 4, 5] 6 [.sc (.int .i64 0), .sc (.int .i64 0), .sc (.int .i64 0), .sc (.bool false), .sc (.bool false), .nilS]) := ⟨_, Try.underlying42, ⟨.agg #[.int .i64 0, .int .i64 0, .int .i64 0, .bool false, .bool false, .slice none 0 0], by kernel_rfl, rfl, rfl⟩, fun f o h => match f, h with | 0, h => by cases h; kernel_rfl | 1, h => by cases h; kernel_rfl | 2, h => by cases h; kernel_rfl | 3, h => by cases h; kernel_rfl | 4, h => by cases h; kernel_rfl | 5, h => by cases h; kernel_rfl | (f + 6), h => by simp at h⟩
theorem ty43 : TyOk Try.prog 43 (.struct [0, 1, 2, 3, 4, 5] 6 [.sc (.int .i64 0), .sc (.int .i64 0), .sc (.int .i64 0), .sc (.bool false), .sc (.bool false), .nilS]) := ⟨_, Try.underlying43, ⟨.agg #[.int .i64 0, .int .i64 0, .int .i64 0, .bool false, .bool false, .slice none 0 0], by kernel_rfl, rfl, rfl⟩, fun f o h => match f, h with | 0, h => by cases h; kernel_rfl | 1, h => by cases h; kernel_rfl | 2, h => by cases h; kernel_rfl | 3, h => by cases h; kernel_rfl | 4, h => by cases h; kernel_rfl | 5, h => by cases h; kernel_rfl | (f + 6), h => by simp at h⟩
theorem ty44 : TyOk Try.prog 44 (.slice 54 2 32 [.sc (.bool false), .nilS]) := ⟨Try.underlying44, by unfold ScOk; kernel_rfl, .agg #[.bool false, .slice none 0 0], by kernel_rfl, rfl, by decide, rfl⟩
theorem ty45 : TyOk Try.prog 45 (.struct [0, 6] 7 [.sc (.int .i64 0), .sc (.int .i64 0), .sc (.int .i64 0), .sc (.bool false), .sc (.bool false), .nilS, .nilS]) := ⟨_, Try.underlying45, ⟨.agg #[.int .i64 0, .int .i64 0, .int .i64 0, .bool false, .bool false, .slice none 0 0, .slice none 0 0], by kernel_rfl, rfl, rfl⟩, fun f o h => match f, h with | 0, h => by cases h; kernel_rfl | 1, h => by cases h; kernel_rfl | (f + 2), h => by simp at h⟩
theorem ty46 : TyOk Try.prog 46 (.struct [0, 6] 7 [.sc (.int .i64 0), .sc (.int .i64 0), .sc (.int .i64 0), .sc (.bool false), .sc (.bool false), .nilS, .nilS]) := ⟨_, Try.underlying46, ⟨.agg #[.int .i64 0, .int .i64 0, .int .i64 0, .bool false, .bool false, .slice none 0 0, .slice none 0 0], by kernel_rfl, rfl, rfl⟩, fun f o h => match f, h with | 0, h => by cases h; kernel_rfl | 1, h => by cases h; kernel_rfl | (f + 2), h => by simp at h⟩
theorem ty48 : TyOk Try.prog 48 (.func) := ⟨⟨_, _, _, Try.underlying48⟩, by unfold ScOk; kernel_rfl⟩
theorem ty49 : TyOk Try.prog 49 (.func) := ⟨⟨_, _, _, Try.underlying49⟩, by unfold ScOk; kernel_rfl⟩
theorem ty50 : TyOk Try.prog 50 (.func) := ⟨⟨_, _, _, Try.underlying50⟩, by unfold ScOk; kernel_rfl⟩
theorem ty51 : TyOk Try.prog 51 (.func) := ⟨⟨_, _, _, Try.underlying51⟩, by unfold ScOk; kernel_rfl⟩
theorem ty52 : TyOk Try.prog 52 (.slice 142 2 32 [.sc (.int .i64 0), .nilS]) := ⟨Try.underlying52, by unfold ScOk; kernel_rfl, .agg #[.int .i64 0, .slice none 0 0], by kernel_rfl, rfl, by decide, rfl⟩
theorem ty53 : TyOk Try.prog 53 (.struct [0, 1] 2 [.sc (.bool false), .nilS]) := ⟨_, Try.underlying53, ⟨.agg #[.bool false, .slice none 0 0], by kernel_rfl, rfl, rfl⟩, fun f o h => match f, h with | 0, h => by cases h; kernel_rfl | 1, h => by cases h; kernel_rfl | (f + 2), h => by simp at h⟩
theorem ty54 : TyOk Try.prog 54 (.struct [0, 1] 2 [.sc (.bool false), .nilS]) := ⟨_, Try.underlying54, ⟨.agg #[.bool false, .slice none 0 0], by kernel_rfl, rfl, rfl⟩, fun f o h => match f, h with | 0, h => by cases h; kernel_rfl | 1, h => by cases h; kernel_rfl | (f + 2), h => by simp at h⟩
theorem ty56 : TyOk Try.prog 56 (.func) := ⟨⟨_, _, _, Try.underlying56⟩, by unfold ScOk; kernel_rfl⟩
theorem ty57 : TyOk Try.prog 57 (.func) := ⟨⟨_, _, _, Try.underlying57⟩, by unfold ScOk; kernel_rfl⟩
theorem ty58 : TyOk Try.prog 58 (.func) := ⟨⟨_, _, _, Try.underlying58⟩, by unfold ScOk; kernel_rfl⟩
theorem ty59 : TyOk Try.prog 59 (.func) := ⟨⟨_, _, _, Try.underlying59⟩, by unfold ScOk; kernel_rfl⟩
theorem ty60 : TyOk Try.prog 60 (.slice 5 1 1 [.sc (.int .u8 0)]) := ⟨Try.underlying60, by unfold ScOk; kernel_rfl, .int .u8 0, by kernel_rfl, rfl, by decide, rfl⟩
theorem ty61 : TyOk Try.prog 61 (.func) := ⟨⟨_, _, _, Try.underlying61⟩, by unfold ScOk; kernel_rfl⟩
theorem ty62 : TyOk Try.prog 62 (.slice 4 1 1 [.sc (.bool false)]) := ⟨Try.underlying62, by unfold ScOk; kernel_rfl, .bool false, by kernel_rfl, rfl, by decide, rfl⟩
theorem ty63 : TyOk Try.prog 63 (.struct [0, 1, 2, 3, 4, 5] 6 [.sc (.int .i64 0), .sc (.bool false), .sc (.bool false), .nilS, .nilS, .nilS]) := ⟨_, Try.underlying63, ⟨.agg #[.int .i64 0, .bool false, .bool false, .slice none 0 0, .slice none 0 0, .slice none 0 0], by kernel_rfl, rfl, rfl⟩, fun f o h => match f, h with | 0, h => by cases h; kernel_rfl | 1, h => by cases h; kernel_rfl | 2, h => by cases h; kernel_rfl | 3, h => by cases h; kernel_rfl | 4, h => by cases h; kernel_rfl | 5, h => by cases h; kernel_rfl | (f + 6), h => by simp at h⟩
theorem ty64 : TyOk Try.prog 64 (.struct [0, 1, 2, 3, 4, 5] 6 [.sc (.int .i64 0), .sc (.bool false), .sc (.bool false), .nilS, .nilS, .nilS]) := ⟨_, Try.underlying64, ⟨.agg #[.int .i64 0, .bool false, .bool false, .slice none 0 0, .slice none 0 0, .slice none 0 0], by kernel_rfl, rfl, rfl⟩, fun f o h => match f, h with | 0, h => by cases h; kernel_rfl | 1, h => by cases h; kernel_rfl | 2, h => by cases h; kernel_rfl | 3, h => by cases h; kernel_rfl | 4, h => by cases h; kernel_rfl | 5, h => by cases h; kernel_rfl | (f + 6), h => by simp at h⟩
theorem ty66 : TyOk Try.prog 66 (.func) := ⟨⟨_, _, _, Try.underlying66⟩, by unfold ScOk; kernel_rfl⟩
theorem ty67 : TyOk Try.prog 67 (.func) := ⟨⟨_, _, _, Try.underlying67⟩, by unfold ScOk; kernel_rfl⟩
theorem ty68 : TyOk Try.prog 68 (.func) := ⟨⟨_, _, _, Try.underlying68⟩, by unfold ScOk; kernel_rfl⟩
theorem ty69 : TyOk Try.prog 69 (.func) := ⟨⟨_, _, _, Try.underlying69⟩, by unfold ScOk; kernel_rfl⟩
theorem ty70 : TyOk Try.prog 70 (.func) := ⟨⟨_, _, _, Try.underlying70⟩, by unfold ScOk; kernel_rfl⟩
theorem ty72 : TyOk Try.prog 72 (.func) := ⟨⟨_, _, _, Try.underlying72⟩, by unfold ScOk; kernel_rfl⟩
theorem ty73 : TyOk Try.prog 73 (.func) := ⟨⟨_, _, _, Try.underlying73⟩, by unfold ScOk; kernel_rfl⟩
theorem ty74 : TyOk Try.prog 74 (.func) := ⟨⟨_, _, _, Try.underlying74⟩, by unfold ScOk; kernel_rfl⟩
theorem ty75 : TyOk Try.prog 75 (.func) := ⟨⟨_, _, _, Try.underlying75⟩, by unfold ScOk; kernel_rfl⟩
theorem ty76 : TyOk Try.prog 76 (.func) := ⟨⟨_, _, _, Try.underlying76⟩, by unfold ScOk; kernel_rfl⟩
theorem ty77 : TyOk Try.prog 77 (.struct [0, 1] 2 [.sc (.string ⟨#[]⟩), .sc (.int .i64 0)]) := ⟨_, Try.underlying77, ⟨.agg #[.string ⟨#[]⟩, .int .i64 0], by kernel_rfl, rfl, rfl⟩, fun f o h => match f, h with | 0, h => by cases h; kernel_rfl | 1, h => by cases h; kernel_rfl | (f + 2), h => by simp at h⟩
theorem ty78 : TyOk Try.prog 78 (.struct [0, 1] 2 [.sc (.string ⟨#[]⟩), .sc (.int .i64 0)]) := ⟨_, Try.underlying78, ⟨.agg #[.string ⟨#[]⟩, .int .i64 0], by kernel_rfl, rfl, rfl⟩, fun f o h => match f, h with | 0, h => by cases h; kernel_rfl | 1, h => by cases h; kernel_rfl | (f + 2), h => by simp at h⟩
theorem ty80 : TyOk Try.prog 80 (.func) := ⟨⟨_, _, _, Try.underlying80⟩, by unfold ScOk; kernel_rfl⟩
theorem ty81 : TyOk Try.prog 81 (.func) := ⟨⟨_, _, _, Try.underlying81⟩, by unfold ScOk; kernel_rfl⟩
theorem ty82 : TyOk Try.prog 82 (.func) := ⟨⟨_, _, _, Try.underlying82⟩, by unfold ScOk; kernel_rfl⟩
theorem ty83 : TyOk Try.prog 83 (.struct [0, 1] 2 [.sc (.int .i64 0), .sc (.int .i64 0)]) := ⟨_, Try.underlying83, ⟨.agg #[.int .i64 0, .int .i64 0], by kernel_rfl, rfl, rfl⟩, fun f o h => match f, h with | 0, h => by cases h; kernel_rfl | 1, h => by cases h; kernel_rfl | (f + 2), h => by simp at h⟩
theorem ty84 : TyOk Try.prog 84 (.struct [0, 1] 2 [.sc (.int .i64 0), .sc (.int .i64 0)]) := ⟨_, Try.underlying84, ⟨.agg #[.int .i64 0, .int .i64 0], by kernel_rfl, rfl, rfl⟩, fun f o h => match f, h with | 0, h => by cases h; kernel_rfl | 1, h => by cases h; kernel_rfl | (f + 2), h => by simp at h⟩
theorem ty85 : TyOk Try.prog 85 (.func) := ⟨⟨_, _, _, Try.underlying85⟩, by unfold ScOk; kernel_rfl⟩
theorem ty86 : TyOk Try.prog 86 (.struct [0, 1] 2 [.sc (.int .i64 0), .sc (.int .i64 0)]) := ⟨_, Try.underlying86, ⟨.agg #[.int .i64 0, .int .i64 0], by kernel_rfl, rfl, rfl⟩, fun f o h => match f, h with | 0, h => by cases h; kernel_rfl | 1, h => by cases h; kernel_rfl | (f + 2), h => by simp at h⟩
theorem ty87 : TyOk Try.prog 87 (.ptr) := ⟨⟨_, Try.underlying87⟩, by unfold ScOk; kernel_rfl⟩
theorem ty88 : TyOk Try.prog 88 (.func) := ⟨⟨_, _, _, Try.underlying88⟩, by unfold ScOk; kernel_rfl⟩
theorem ty89 : TyOk Try.prog 89 (.struct [0, 2] 3 [.sc (.string ⟨#[]⟩), .sc (.int .i64 0), .sc (.int .i64 0)]) := ⟨_, Try.underlying89, ⟨.agg #[.string ⟨#[]⟩, .int .i64 0, .int .i64 0], by kernel_rfl, rfl, rfl⟩, fun f o h => match f, h with | 0, h => by cases h; kernel_rfl | 1, h => by cases h; kernel_rfl | (f + 2), h => by simp at h⟩
theorem ty90 : TyOk Try.prog 90 (.struct [0, 2] 3 [.sc (.string ⟨#[]⟩), .sc (.int .i64 0), .sc (.int .i64 0)]) := ⟨_, Try.underlying90, ⟨.agg #[.string ⟨#[]⟩, .int .i64 0, .int .i64 0], by kernel_rfl, rfl, rfl⟩, fun f o h => match f, h with | 0, h => by cases h; kernel_rfl | 1, h => by cases h; kernel_rfl | (f + 2), h => by simp at h⟩
theorem ty91 : TyOk Try.prog 91 (.func) := ⟨⟨_, _, _, Try.underlying91⟩, by unfold ScOk; kernel_rfl⟩
theorem ty92 : TyOk Try.prog 92 (.func) := ⟨⟨_, _, _, Try.underlying92⟩, by unfold ScOk; kernel_rfl⟩
theorem ty93 : TyOk Try.prog 93 (.func) := ⟨⟨_, _, _, Try.underlying93⟩, by unfold ScOk; kernel_rfl⟩
theorem ty95 : TyOk Try.prog 95 (.func) := ⟨⟨_, _, _, Try.underlying95⟩, by unfold ScOk; kernel_rfl⟩
theorem ty96 : TyOk Try.prog 96 (.func) := ⟨⟨_, _, _, Try.underlying96⟩, by unfold ScOk; kernel_rfl⟩
theorem ty97 : TyOk Try.prog 97 (.func) := ⟨⟨_, _, _, Try.underlying97⟩, by unfold ScOk; kernel_rfl⟩
theorem ty98 : TyOk Try.prog 98 (.func) := ⟨⟨_, _, _, Try.underlying98⟩, by unfold ScOk; kernel_rfl⟩
theorem ty99 : TyOk Try.prog 99 (.func) := ⟨⟨_, _, _, Try.underlying99⟩, by unfold ScOk; kernel_rfl⟩
theorem ty100 : TyOk Try.prog 100 (.func) := ⟨⟨_, _, _, Try.underlying100⟩, by unfold ScOk; kernel_rfl⟩
theorem ty102 : TyOk Try.prog 102 (.func) := ⟨⟨_, _, _, Try.underlying102⟩, by unfold ScOk; kernel_rfl⟩
theorem ty104 : TyOk Try.prog 104 (.func) := ⟨⟨_, _, _, Try.underlying104⟩, by unfold ScOk; kernel_rfl⟩
theorem ty105 : TyOk Try.prog 105 (.func) := ⟨⟨_, _, _, Try.underlying105⟩, by unfold ScOk; kernel_rfl⟩
theorem ty106 : TyOk Try.prog 106 (.func) := ⟨⟨_, _, _, Try.underlying106⟩, by unfold ScOk; kernel_rfl⟩
theorem ty107 : TyOk Try.prog 107 (.ptr) := ⟨⟨_, Try.underlying107⟩, by unfold ScOk; kernel_rfl⟩
theorem ty108 : TyOk Try.prog 108 (.func) := ⟨⟨_, _, _, Try.underlying108⟩, by unfold ScOk; kernel_rfl⟩
theorem ty109 : TyOk Try.prog 109 (.func) := ⟨⟨_, _, _, Try.underlying109⟩, by unfold ScOk; kernel_rfl⟩
theorem ty110 : TyOk Try.prog 110 (.func) := ⟨⟨_, _, _, Try.underlying110⟩, by unfold ScOk; kernel_rfl⟩
theorem ty111 : TyOk Try.prog 111 (.func) := ⟨⟨_, _, _, Try.underlying111⟩, by unfold ScOk; kernel_rfl⟩
theorem ty112 : TyOk Try.prog 112 (.func) := ⟨⟨_, _, _, Try.underlying112⟩, by unfold ScOk; kernel_rfl⟩
theorem ty113 : TyOk Try.prog 113 (.func) := ⟨⟨_, _, _, Try.underlying113⟩, by unfold ScOk; kernel_rfl⟩
theorem ty114 : TyOk Try.prog 114 (.func) := ⟨⟨_, _, _, Try.underlying114⟩, by unfold ScOk; kernel_rfl⟩
theorem ty115 : TyOk Try.prog 115 (.func) := ⟨⟨_, _, _, Try.underlying115⟩, by unfold ScOk; kernel_rfl⟩
theorem ty116 : TyOk Try.prog 116 (.func) := ⟨⟨_, _, _, Try.underlying116⟩, by unfold ScOk; kernel_rfl⟩
theorem ty117 : TyOk Try.prog 117 (.func) := ⟨⟨_, _, _, Try.underlying117⟩, by unfold ScOk; kernel_rfl⟩
theorem ty118 : TyOk Try.prog 118 (.func) := ⟨⟨_, _, _, Try.underlying118⟩, by unfold ScOk; kernel_rfl⟩
theorem ty119 : TyOk Try.prog 119 (.func) := ⟨⟨_, _, _, Try.underlying119⟩, by unfold ScOk; kernel_rfl⟩
theorem ty120 : TyOk Try.prog 120 (.func) := ⟨⟨_, _, _, Try.underlying120⟩, by unfold ScOk; kernel_rfl⟩
theorem ty121 : TyOk Try.prog 121 (.func) := ⟨⟨_, _, _, Try.underlying121⟩, by unfold ScOk; kernel_rfl⟩
theorem ty123 : TyOk Try.prog 123 (.func) := ⟨⟨_, _, _, Try.underlying123⟩, by unfold ScOk; kernel_rfl⟩
theorem ty125 : TyOk Try.prog 125 (.func) := ⟨⟨_, _, _, Try.underlying125⟩, by unfold ScOk; kernel_rfl⟩
theorem ty126 : TyOk Try.prog 126 (.struct [0, 1] 2 [.sc (.int .i64 0), .sc (.int .i64 0)]) := ⟨_, Try.underlying126, ⟨.agg #[.int .i64 0, .int .i64 0], by kernel_rfl, rfl, rfl⟩, fun f o h => match f, h with | 0, h => by cases h; kernel_rfl | 1, h => by cases h; kernel_rfl | (f + 2), h => by simp at h⟩
theorem ty127 : TyOk Try.prog 127 (.struct [0, 1] 2 [.sc (.int .i64 0), .sc (.int .i64 0)]) := ⟨_, Try.underlying127, ⟨.agg #[.int .i64 0, .int .i64 0], by kernel_rfl, rfl, rfl⟩, fun f o h => match f, h with | 0, h => by cases h; kernel_rfl | 1, h => by cases h; kernel_rfl | (f + 2), h => by simp at h⟩
theorem ty129 : TyOk Try.prog 129 (.func) := ⟨⟨_, _, _, Try.underlying129⟩, by unfold ScOk; kernel_rfl⟩
theorem ty130 : TyOk Try.prog 130 (.func) := ⟨⟨_, _, _, Try.underlying130⟩, by unfold ScOk; kernel_rfl⟩
theorem ty131 : TyOk Try.prog 131 (.func) := ⟨⟨_, _, _, Try.underlying131⟩, by unfold ScOk; kernel_rfl⟩
theorem ty132 : TyOk Try.prog 132 (.func) := ⟨⟨_, _, _, Try.underlying132⟩, by unfold ScOk; kernel_rfl⟩
theorem ty133 : TyOk Try.prog 133 (.func) := ⟨⟨_, _, _, Try.underlying133⟩, by unfold ScOk; kernel_rfl⟩
theorem ty135 : TyOk Try.prog 135 (.func) := ⟨⟨_, _, _, Try.underlying135⟩, by unfold ScOk; kernel_rfl⟩
theorem ty136 : TyOk Try.prog 136 (.func) := ⟨⟨_, _, _, Try.underlying136⟩, by unfold ScOk; kernel_rfl⟩
theorem ty137 : TyOk Try.prog 137 (.func) := ⟨⟨_, _, _, Try.underlying137⟩, by unfold ScOk; kernel_rfl⟩
theorem ty138 : TyOk Try.prog 138 (.func) := ⟨⟨_, _, _, Try.underlying138⟩, by unfold ScOk; kernel_rfl⟩
theorem ty139 : TyOk Try.prog 139 (.func) := ⟨⟨_, _, _, Try.underlying139⟩, by unfold ScOk; kernel_rfl⟩
theorem ty140 : TyOk Try.prog 140 (.func) := ⟨⟨_, _, _, Try.underlying140⟩, by unfold ScOk; kernel_rfl⟩
theorem ty141 : TyOk Try.prog 141 (.struct [0, 1] 2 [.sc (.int .i64 0), .nilS]) := ⟨_, Try.underlying141, ⟨.agg #[.int .i64 0, .slice none 0 0], by kernel_rfl, rfl, rfl⟩, fun f o h => match f, h with | 0, h => by cases h; kernel_rfl | 1, h => by cases h; kernel_rfl | (f + 2), h => by simp at h⟩
theorem ty142 : TyOk Try.prog 142 (.struct [0, 1] 2 [.sc (.int .i64 0), .nilS]) := ⟨_, Try.underlying142, ⟨.agg #[.int .i64 0, .slice none 0 0], by kernel_rfl, rfl, rfl⟩, fun f o h => match f, h with | 0, h => by cases h; kernel_rfl | 1, h => by cases h; kernel_rfl | (f + 2), h => by simp at h⟩
theorem ty144 : TyOk Try.prog 144 (.func) := ⟨⟨_, _, _, Try.underlying144⟩, by unfold ScOk; kernel_rfl⟩
theorem ty146 : TyOk Try.prog 146 (.func) := ⟨⟨_, _, _, Try.underlying146⟩, by unfold ScOk; kernel_rfl⟩
theorem ty147 : TyOk Try.prog 147 (.func) := ⟨⟨_, _, _, Try.underlying147⟩, by unfold ScOk; kernel_rfl⟩
theorem ty148 : TyOk Try.prog 148 (.struct [0, 1, 2] 3 [.nilS, .sc (.int .i64 0), .sc (.int .i64 0)]) := ⟨_, Try.underlying148, ⟨.agg #[.slice none 0 0, .int .i64 0, .int .i64 0], by kernel_rfl, rfl, rfl⟩, fun f o h => match f, h with | 0, h => by cases h; kernel_rfl | 1, h => by cases h; kernel_rfl | 2, h => by cases h; kernel_rfl | (f + 3), h => by simp at h⟩
theorem ty149 : TyOk Try.prog 149 (.struct [0, 1, 2] 3 [.nilS, .sc (.int .i64 0), .sc (.int .i64 0)]) := ⟨_, Try.underlying149, ⟨.agg #[.slice none 0 0, .int .i64 0, .int .i64 0], by kernel_rfl, rfl, rfl⟩, fun f o h => match f, h with | 0, h => by cases h; kernel_rfl | 1, h => by cases h; kernel_rfl | 2, h => by cases h; kernel_rfl | (f + 3), h => by simp at h⟩
theorem ty150 : TyOk Try.prog 150 (.func) := ⟨⟨_, _, _, Try.underlying150⟩, by unfold ScOk; kernel_rfl⟩
theorem ty151 : TyOk Try.prog 151 (.func) := ⟨⟨_, _, _, Try.underlying151⟩, by unfold ScOk; kernel_rfl⟩
theorem ty152 : TyOk Try.prog 152 (.slice 28 1 24 [.nilS]) := ⟨Try.underlying152, by unfold ScOk; kernel_rfl, .slice none 0 0, by kernel_rfl, rfl, by decide, rfl⟩
theorem ty153 : TyOk Try.prog 153 (.func) := ⟨⟨_, _, _, Try.underlying153⟩, by unfold ScOk; kernel_rfl⟩
theorem ty154 : TyOk Try.prog 154 (.func) := ⟨⟨_, _, _, Try.underlying154⟩, by unfold ScOk; kernel_rfl⟩
theorem ty155 : TyOk Try.prog 155 (.func) := ⟨⟨_, _, _, Try.underlying155⟩, by unfold ScOk; kernel_rfl⟩
theorem ty156 : TyOk Try.prog 156 (.func) := ⟨⟨_, _, _, Try.underlying156⟩, by unfold ScOk; kernel_rfl⟩
theorem ty157 : TyOk Try.prog 157 (.func) := ⟨⟨_, _, _, Try.underlying157⟩, by unfold ScOk; kernel_rfl⟩
theorem ty158 : TyOk Try.prog 158 (.func) := ⟨⟨_, _, _, Try.underlying158⟩, by unfold ScOk; kernel_rfl⟩
theorem ty159 : TyOk Try.prog 159 (.int .u64) := ⟨Try.underlying159, by unfold ScOk; kernel_rfl⟩
theorem ty160 : TyOk Try.prog 160 (.func) := ⟨⟨_, _, _, Try.underlying160⟩, by unfold ScOk; kernel_rfl⟩
theorem ty161 : TyOk Try.prog 161 (.func) := ⟨⟨_, _, _, Try.underlying161⟩, by unfold ScOk; kernel_rfl⟩
theorem ty162 : TyOk Try.prog 162 (.func) := ⟨⟨_, _, _, Try.underlying162⟩, by unfold ScOk; kernel_rfl⟩
theorem ty163 : TyOk Try.prog 163 (.func) := ⟨⟨_, _, _, Try.underlying163⟩, by unfold ScOk; kernel_rfl⟩
theorem ty164 : TyOk Try.prog 164 (.func) := ⟨⟨_, _, _, Try.underlying164⟩, by unfold ScOk; kernel_rfl⟩
theorem ty165 : TyOk Try.prog 165 (.func) := ⟨⟨_, _, _, Try.underlying165⟩, by unfold ScOk; kernel_rfl⟩
theorem ty166 : TyOk Try.prog 166 (.func) := ⟨⟨_, _, _, Try.underlying166⟩, by unfold ScOk; kernel_rfl⟩
theorem ty167 : TyOk Try.prog 167 (.int .u32) := ⟨Try.underlying167, by unfold ScOk; kernel_rfl⟩
theorem ty168 : TyOk Try.prog 168 (.func) := ⟨⟨_, _, _, Try.underlying168⟩, by unfold ScOk; kernel_rfl⟩
theorem ty169 : TyOk Try.prog 169 (.int .u64) := ⟨Try.underlying169, by unfold ScOk; kernel_rfl⟩
theorem ty170 : TyOk Try.prog 170 (.func) := ⟨⟨_, _, _, Try.underlying170⟩, by unfold ScOk; kernel_rfl⟩
theorem ty171 : TyOk Try.prog 171 (.struct [0, 1, 2, 3] 4 [.sc (.pointer none), .sc (.pointer none), .sc (.pointer none), .sc (.string ⟨#[]⟩)]) := ⟨_, Try.underlying171, ⟨.agg #[.pointer none, .pointer none, .pointer none, .string ⟨#[]⟩], by kernel_rfl, rfl, rfl⟩, fun f o h => match f, h with | 0, h => by cases h; kernel_rfl | 1, h => by cases h; kernel_rfl | 2, h => by cases h; kernel_rfl | 3, h => by cases h; kernel_rfl | (f + 4), h => by simp at h⟩
theorem ty172 : TyOk Try.prog 172 (.struct [0, 1, 2, 3] 4 [.sc (.pointer none), .sc (.pointer none), .sc (.pointer none), .sc (.string ⟨#[]⟩)]) := ⟨_, Try.underlying172, ⟨.agg #[.pointer none, .pointer none, .pointer none, .string ⟨#[]⟩], by kernel_rfl, rfl, rfl⟩, fun f o h => match f, h with | 0, h => by cases h; kernel_rfl | 1, h => by cases h; kernel_rfl | 2, h => by cases h; kernel_rfl | 3, h => by cases h; kernel_rfl | (f + 4), h => by simp at h⟩
theorem ty176 : TyOk Try.prog 176 (.int .u8) := ⟨Try.underlying176, by unfold ScOk; kernel_rfl⟩
theorem ty177 : TyOk Try.prog 177 (.int .u8) := ⟨Try.underlying177, by unfold ScOk; kernel_rfl⟩
theorem ty178 : TyOk Try.prog 178 (.func) := ⟨⟨_, _, _, Try.underlying178⟩, by unfold ScOk; kernel_rfl⟩
theorem ty179 : TyOk Try.prog 179 (.ptr) := ⟨⟨_, Try.underlying179⟩, by unfold ScOk; kernel_rfl⟩
theorem ty180 : TyOk Try.prog 180 (.int .i32) := ⟨Try.underlying180, by unfold ScOk; kernel_rfl⟩
theorem ty181 : TyOk Try.prog 181 (.int .i32) := ⟨Try.underlying181, by unfold ScOk; kernel_rfl⟩
theorem ty184 : TyOk Try.prog 184 (.func) := ⟨⟨_, _, _, Try.underlying184⟩, by unfold ScOk; kernel_rfl⟩
theorem ty185 : TyOk Try.prog 185 (.func) := ⟨⟨_, _, _, Try.underlying185⟩, by unfold ScOk; kernel_rfl⟩
def tab : List (Nat × Ty) := [(1, .func), (2, .int .i64), (3, .int .i64), (4, .bool), (5, .int .u8), (6, .int .u8), (7, .struct [0, 1, 2, 3] 4 [.sc (.int .i64 0), .sc (.int .i64 0), .sc (.bool false), .sc (.int .u8 0)]), (8, .struct [0, 1, 2, 3] 4 [.sc (.int .i64 0), .sc (.int .i64 0), .sc (.bool false), .sc (.int .u8 0)]), (9, .string), (10, .string), (11, .string), (12, .int .u64), (13, .struct [0, 1] 2 [.sc (.string ⟨#[]⟩), .sc (.int .u64 0)]), (14, .struct [0, 1] 2 [.sc (.string ⟨#[]⟩), .sc (.int .u64 0)]), (15, .ptr), (16, .ptr), (17, .ptr), (18, .struct [0] 1 [.sc (.pointer none)]), (19, .struct [0] 1 [.sc (.pointer none)]), (20, .iface), (21, .int .i32), (22, .struct [0, 1, 2, 3] 4 [.sc (.string ⟨#[]⟩), .sc (.int .i64 0), .sc (.int .i64 0), .sc (.int .i64 0)]), (23, .struct [0, 1, 2, 3] 4 [.sc (.string ⟨#[]⟩), .sc (.int .i64 0), .sc (.int .i64 0), .sc (.int .i64 0)]), (24, .slice 86 2 16 [.sc (.int .i64 0), .sc (.int .i64 0)]), (25, .func), (26, .func), (27, .struct [0, 1, 2, 3] 4 [.sc (.string ⟨#[]⟩), .sc (.int .i64 0), .sc (.int .i64 0), .sc (.int .i64 0)]), (28, .slice 3 1 8 [.sc (.int .i64 0)]), (30, .func), (31, .func), (32, .slice 84 2 16 [.sc (.int .i64 0), .sc (.int .i64 0)]), (33, .func), (34, .func), (35, .func), (36, .func), (37, .func), (38, .func), (39, .func), (40, .func), (41, .func), (42, .struct [0, 1, 2, 3, 4, 5] 6 [.sc (.int .i64 0), .sc (.int .i64 0), .sc (.int .i64 0), .sc (.bool false), .sc (.bool false), .nilS]), (43, .struct [0, 1, 2, 3, 4, 5] 6 [.sc (.int .i64 0), .sc (.int .i64 0), .sc (.int .i64 0), .sc (.bool false), .sc (.bool false), .nilS]), (44, .slice 54 2 32 [.sc (.bool false), .nilS]), (45, .struct [0, 6] 7 [.sc (.int .i64 0), .sc (.int .i64 0), .sc (.int .i64 0), .sc (.bool false), .sc (.bool false), .nilS, .nilS]), (46, .struct [0, 6] 7 [.sc (.int .i64 0), .sc (.int .i64 0), .sc (.int .i64 0), .sc (.bool false), .sc (.bool false), .nilS, .nilS]), (48, .func), (49, .func), (50, .func), (51, .func), (52, .slice 142 2 32 [.sc (.int .i64 0), .nilS]), (53, .struct [0, 1] 2 [.sc (.bool false), .nilS]), (54, .struct [0, 1] 2 [.sc (.bool false), .nilS]), (56, .func), (57, .func), (58, .func), (59, .func), (60, .slice 5 1 1 [.sc (.int .u8 0)]), (61, .func), (62, .slice 4 1 1 [.sc (.bool false)]), (63, .struct [0, 1, 2, 3, 4, 5] 6 [.sc (.int .i64 0), .sc (.bool false), .sc (.bool false), .nilS, .nilS, .nilS]), (64, .struct [0, 1, 2, 3, 4, 5] 6 [.sc (.int .i64 0), .sc (.bool false), .sc (.bool false), .nilS, .nilS, .nilS]), (66, .func), (67, .func), (68, .func), (69, .func), (70, .func), (72, .func), (73, .func), (74, .func), (75, .func), (76, .func), (77, .struct [0, 1] 2 [.sc (.string ⟨#[]⟩), .sc (.int .i64 0)]), (78, .struct [0, 1] 2 [.sc (.string ⟨#[]⟩), .sc (.int .i64 0)]), (80, .func), (81, .func), (82, .func), (83, .struct [0, 1] 2 [.sc (.int .i64 0), .sc (.int .i64 0)]), (84, .struct [0, 1] 2 [.sc (.int .i64 0), .sc (.int .i64 0)]), (85, .func), (86, .struct [0, 1] 2 [.sc (.int .i64 0), .sc (.int .i64 0)]), (87, .ptr), (88, .func), (89, .struct [0, 2] 3 [.sc (.string ⟨#[]⟩), .sc (.int .i64 0), .sc (.int .i64 0)]), (90, .struct [0, 2] 3 [.sc (.string ⟨#[]⟩), .sc (.int .i64 0), .sc (.int .i64 0)]), (91, .func), (92, .func), (93, .func), (95, .func), (96, .func), (97, .func), (98, .func), (99, .func), (100, .func), (102, .func), (104, .func), (105, .func), (106, .func), (107, .ptr), (108, .func), (109, .func), (110, .func), (111, .func), (112, .func), (113, .func), (114, .func), (115, .func), (116, .func), (117, .func), (118, .func), (119, .func), (120, .func), (121, .func), (123, .func), (125, .func), (126, .struct [0, 1] 2 [.sc (.int .i64 0), .sc (.int .i64 0)]), (127, .struct [0, 1] 2 [.sc (.int .i64 0), .sc (.int .i64 0)]), (129, .func), (130, .func), (131, .func), (132, .func), (133, .func), (135, .func), (136, .func), (137, .func), (138, .func), (139, .func), (140, .func), (141, .struct [0, 1] 2 [.sc (.int .i64 0), .nilS]), (142, .struct [0, 1] 2 [.sc (.int .i64 0), .nilS]), (144, .func), (146, .func), (147, .func), (148, .struct [0, 1, 2] 3 [.nilS, .sc (.int .i64 0), .sc (.int .i64 0)]), (149, .struct [0, 1, 2] 3 [.nilS, .sc (.int .i64 0), .sc (.int .i64 0)]), (150, .func), (151, .func), (152, .slice 28 1 24 [.nilS]), (153, .func), (154, .func), (155, .func), (156, .func), (157, .func), (158, .func), (159, .int .u64), (160, .func), (161, .func), (162, .func), (163, .func), (164, .func), (165, .func), (166, .func), (167, .int .u32), (168, .func), (169, .int .u64), (170, .func), (171, .struct [0, 1, 2, 3] 4 [.sc (.pointer none), .sc (.pointer none), .sc (.pointer none), .sc (.string ⟨#[]⟩)]), (172, .struct [0, 1, 2, 3] 4 [.sc (.pointer none), .sc (.pointer none), .sc (.pointer none), .sc (.string ⟨#[]⟩)]), (176, .int .u8), (177, .int .u8), (178, .func), (179, .ptr), (180, .int .i32), (181, .int .i32), (184, .func), (185, .func)]
theorem tabOk : TabOk Try.prog tab := by
  intro p hp
  simp only [tab, List.mem_cons, List.not_mem_nil, or_false] at hp
  rcases hp with rfl | rfl | rfl | rfl | rfl | rfl | rfl | rfl | rfl | rfl | rfl | rfl | rfl | rfl | rfl | rfl | rfl | rfl | rfl | rfl | rfl | rfl | rfl | rfl | rfl | rfl | rfl | rfl | rfl | rfl | rfl | rfl | rfl | rfl | rfl | rfl | rfl | rfl | rfl | rfl | rfl | rfl | rfl | rfl | rfl | rfl | rfl | rfl | rfl | rfl | rfl | rfl | rfl | rfl | rfl | rfl | rfl | rfl | rfl | rfl | rfl | rfl | rfl | rfl | rfl | rfl | rfl | rfl | rfl | rfl | rfl | rfl | rfl | rfl | rfl | rfl | rfl | rfl | rfl | rfl | rfl | rfl | rfl | rfl | rfl | rfl | rfl | rfl | rfl | rfl | rfl | rfl | rfl | rfl | rfl | rfl | rfl | rfl | rfl | rfl | rfl | rfl | rfl | rfl | rfl | rfl | rfl | rfl | rfl | rfl | rfl | rfl | rfl | rfl | rfl | rfl | rfl | rfl | rfl | rfl | rfl | rfl | rfl | rfl | rfl | rfl | rfl | rfl | rfl | rfl | rfl | rfl | rfl | rfl | rfl | rfl | rfl | rfl | rfl | rfl | rfl | rfl | rfl | rfl | rfl | rfl | rfl | rfl | rfl | rfl | rfl | rfl | rfl | rfl | rfl | rfl | rfl | rfl | rfl | rfl | rfl | rfl | rfl | rfl | rfl
  · exact ty1
  · exact ty2
  · exact ty3
  · exact ty4
  · exact ty5
  · exact ty6
  · exact ty7
  · exact ty8
  · exact ty9
  · exact ty10
  · exact ty11
  · exact ty12
  · exact ty13
  · exact ty14
  · exact ty15
  · exact ty16
  · exact ty17
  · exact ty18
  · exact ty19
  · exact ty20
  · exact ty21
  · exact ty22
  · exact ty23
  · exact ty24
  · exact ty25
  · exact ty26
  · exact ty27
  · exact ty28
  · exact ty30
  · exact ty31
  · exact ty32
  · exact ty33
  · exact ty34
  · exact ty35
  · exact ty36
  · exact ty37
  · exact ty38
  · exact ty39
  · exact ty40
  · exact ty41
  · exact ty42
  · exact ty43
  · exact ty44
  · exact ty45
  · exact ty46
  · exact ty48
  · exact ty49
  · exact ty50
  · exact ty51
  · exact ty52
  · exact ty53
  · exact ty54
  · exact ty56
  · exact ty57
  · exact ty58
  · exact ty59
  · exact ty60
  · exact ty61
  · exact ty62
  · exact ty63
  · exact ty64
  · exact ty66
  · exact ty67
  · exact ty68
  · exact ty69
  · exact ty70
  · exact ty72
  · exact ty73
  · exact ty74
  · exact ty75
  · exact ty76
  · exact ty77
  · exact ty78
  · exact ty80
  · exact ty81
  · exact ty82
  · exact ty83
  · exact ty84
  · exact ty85
  · exact ty86
  · exact ty87
  · exact ty88
  · exact ty89
  · exact ty90
  · exact ty91
  · exact ty92
  · exact ty93
  · exact ty95
  · exact ty96
  · exact ty97
  · exact ty98
  · exact ty99
  · exact ty100
  · exact ty102
  · exact ty104
  · exact ty105
  · exact ty106
  · exact ty107
  · exact ty108
  · exact ty109
  · exact ty110
  · exact ty111
  · exact ty112
  · exact ty113
  · exact ty114
  · exact ty115
  · exact ty116
  · exact ty117
  · exact ty118
  · exact ty119
  · exact ty120
  · exact ty121
  · exact ty123
  · exact ty125
  · exact ty126
  · exact ty127
  · exact ty129
  · exact ty130
  · exact ty131
  · exact ty132
  · exact ty133
  · exact ty135
  · exact ty136
  · exact ty137
  · exact ty138
  · exact ty139
  · exact ty140
  · exact ty141
  · exact ty142
  · exact ty144
  · exact ty146
  · exact ty147
  · exact ty148
  · exact ty149
  · exact ty150
  · exact ty151
  · exact ty152
  · exact ty153
  · exact ty154
  · exact ty155
  · exact ty156
  · exact ty157
  · exact ty158
  · exact ty159
  · exact ty160
  · exact ty161
  · exact ty162
  · exact ty163
  · exact ty164
  · exact ty165
  · exact ty166
  · exact ty167
  · exact ty168
  · exact ty169
  · exact ty170
  · exact ty171
  · exact ty172
  · exact ty176
  · exact ty177
  · exact ty178
  · exact ty179
  · exact ty180
  · exact ty181
  · exact ty184
  · exact ty185
end Go.Proofs.Ytgbahnaejajdgaa
