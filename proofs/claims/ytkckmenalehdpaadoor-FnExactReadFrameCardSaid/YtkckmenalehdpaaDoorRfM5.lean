/- Proved in this text: lemmas and contracts of functions that the claim uses (parts: Tab, AbsX, AbsY, AbsZ, AbsRoll). No condition. -/
import Derived.Test.YtkckmenalehdpaaDoorProg
import Derived.Test.YtkckmenalehdpaaDoorRfM4
import Derived.KernelRfl
import Derived.Lib.AppendZeros
import Derived.LoopN
set_option linter.unusedVariables false
set_option linter.unusedSimpArgs false
set_option maxRecDepth 100000
set_option maxHeartbeats 4000000


namespace Go.Proofs.YtkckmenalehdpaaDoor
open Go Go.Abs
theorem ty1 : TyOk Tryd.prog 1 (.func) := ⟨⟨_, _, _, Tryd.underlying1⟩, by unfold ScOk; kernel_rfl⟩
theorem ty2 : TyOk Tryd.prog 2 (.int .i64) := ⟨Tryd.underlying2, by unfold ScOk; kernel_rfl⟩
theorem ty3 : TyOk Tryd.prog 3 (.int .i64) := ⟨Tryd.underlying3, by unfold ScOk; kernel_rfl⟩
theorem ty4 : TyOk Tryd.prog 4 (.bool) := ⟨Tryd.underlying4, by unfold ScOk; kernel_rfl⟩
theorem ty5 : TyOk Tryd.prog 5 (.int .u8) := ⟨Tryd.underlying5, by unfold ScOk; kernel_rfl⟩
theorem ty6 : TyOk Tryd.prog 6 (.int .u8) := ⟨Tryd.underlying6, by unfold ScOk; kernel_rfl⟩
theorem ty7 : TyOk Tryd.prog 7 (.struct [0, 1, 2, 3] 4 [.sc (.int .i64 0), .sc (.int .i64 0), .sc (.bool false), .sc (.int .u8 0)]) := ⟨_, Tryd.underlying7, ⟨.agg #[.int .i64 0, .int .i64 0, .bool false, .int .u8 0], by kernel_rfl, rfl, rfl⟩, fun f o h => match f, h with | 0, h => by cases h; kernel_rfl | 1, h => by cases h; kernel_rfl | 2, h => by cases h; kernel_rfl | 3, h => by cases h; kernel_rfl | (f + 4), h => by simp at h⟩
theorem ty8 : TyOk Tryd.prog 8 (.struct [0, 1, 2, 3] 4 [.sc (.int .i64 0), .sc (.int .i64 0), .sc (.bool false), .sc (.int .u8 0)]) := ⟨_, Tryd.underlying8, ⟨.agg #[.int .i64 0, .int .i64 0, .bool false, .int .u8 0], by kernel_rfl, rfl, rfl⟩, fun f o h => match f, h with | 0, h => by cases h; kernel_rfl | 1, h => by cases h; kernel_rfl | 2, h => by cases h; kernel_rfl | 3, h => by cases h; kernel_rfl | (f + 4), h => by simp at h⟩
theorem ty9 : TyOk Tryd.prog 9 (.string) := ⟨Tryd.underlying9, by unfold ScOk; kernel_rfl⟩
theorem ty10 : TyOk Tryd.prog 10 (.string) := ⟨Tryd.underlying10, by unfold ScOk; kernel_rfl⟩
theorem ty11 : TyOk Tryd.prog 11 (.string) := ⟨Tryd.underlying11, by unfold ScOk; kernel_rfl⟩
theorem ty12 : TyOk Tryd.prog 12 (.int .u64) := ⟨Tryd.underlying12, by unfold ScOk; kernel_rfl⟩
theorem ty13 : TyOk Tryd.prog 13 (.struct [0, 1] 2 [.sc (.string ⟨#[]⟩), .sc (.int .u64 0)]) := ⟨_, Tryd.underlying13, ⟨.agg #[.string ⟨#[]⟩, .int .u64 0], by kernel_rfl, rfl, rfl⟩, fun f o h => match f, h with | 0, h => by cases h; kernel_rfl | 1, h => by cases h; kernel_rfl | (f + 2), h => by simp at h⟩
theorem ty14 : TyOk Tryd.prog 14 (.struct [0, 1] 2 [.sc (.string ⟨#[]⟩), .sc (.int .u64 0)]) := ⟨_, Tryd.underlying14, ⟨.agg #[.string ⟨#[]⟩, .int .u64 0], by kernel_rfl, rfl, rfl⟩, fun f o h => match f, h with | 0, h => by cases h; kernel_rfl | 1, h => by cases h; kernel_rfl | (f + 2), h => by simp at h⟩
theorem ty15 : TyOk Tryd.prog 15 (.ptr) := ⟨⟨_, Tryd.underlying15⟩, by unfold ScOk; kernel_rfl⟩
theorem ty16 : TyOk Tryd.prog 16 (.ptr) := ⟨⟨_, Tryd.underlying16⟩, by unfold ScOk; kernel_rfl⟩
theorem ty17 : TyOk Tryd.prog 17 (.ptr) := ⟨⟨_, Tryd.underlying17⟩, by unfold ScOk; kernel_rfl⟩
theorem ty18 : TyOk Tryd.prog 18 (.struct [0] 1 [.sc (.pointer none)]) := ⟨_, Tryd.underlying18, ⟨.agg #[.pointer none], by kernel_rfl, rfl, rfl⟩, fun f o h => match f, h with | 0, h => by cases h; kernel_rfl | (f + 1), h => by simp at h⟩
theorem ty19 : TyOk Tryd.prog 19 (.struct [0] 1 [.sc (.pointer none)]) := ⟨_, Tryd.underlying19, ⟨.agg #[.pointer none], by kernel_rfl, rfl, rfl⟩, fun f o h => match f, h with | 0, h => by cases h; kernel_rfl | (f + 1), h => by simp at h⟩
theorem ty20 : TyOk Tryd.prog 20 (.iface) := ⟨⟨_, Tryd.underlying20⟩, by unfold ScOk; kernel_rfl⟩
theorem ty21 : TyOk Tryd.prog 21 (.int .i32) := ⟨Tryd.underlying21, by unfold ScOk; kernel_rfl⟩
theorem ty22 : TyOk Tryd.prog 22 (.slice 3 1 8 [.sc (.int .i64 0)]) := ⟨Tryd.underlying22, by unfold ScOk; kernel_rfl, .int .i64 0, by kernel_rfl, rfl, by decide, rfl⟩
theorem ty23 : TyOk Tryd.prog 23 (.struct [0, 1, 2, 3, 4, 5] 6 [.sc (.int .i64 0), .sc (.int .i64 0), .sc (.int .i64 0), .sc (.bool false), .sc (.bool false), .nilS]) := ⟨_, Tryd.underlying23, ⟨.agg #[.int .i64 0, .int .i64 0, .int .i64 0, .bool false, .bool false, .slice none 0 0], by kernel_rfl, rfl, rfl⟩, fun f o h => match f, h with | 0, h => by cases h; kernel_rfl | 1, h => by cases h; kernel_rfl | 2, h => by cases h; kernel_rfl | 3, h => by cases h; kernel_rfl | 4, h => by cases h; kernel_rfl | 5, h => by cases h; kernel_rfl | (f + 6), h => by simp at h⟩
theorem ty24 : TyOk Tryd.prog 24 (.struct [0, 1, 2, 3, 4, 5] 6 [.sc (.int .i64 0), .sc (.int .i64 0), .sc (.int .i64 0), .sc (.bool false), .sc (.bool false), .nilS]) := ⟨_, Tryd.underlying24, ⟨.agg #[.int .i64 0, .int .i64 0, .int .i64 0, .bool false, .bool false, .slice none 0 0], by kernel_rfl, rfl, rfl⟩, fun f o h => match f, h with | 0, h => by cases h; kernel_rfl | 1, h => by cases h; kernel_rfl | 2, h => by cases h; kernel_rfl | 3, h => by cases h; kernel_rfl | 4, h => by cases h; kernel_rfl | 5, h => by cases h; kernel_rfl | (f + 6), h => by simp at h⟩
theorem ty25 : TyOk Tryd.prog 25 (.func) := ⟨⟨_, _, _, Tryd.underlying25⟩, by unfold ScOk; kernel_rfl⟩
theorem ty26 : TyOk Tryd.prog 26 (.func) := ⟨⟨_, _, _, Tryd.underlying26⟩, by unfold ScOk; kernel_rfl⟩
theorem ty27 : TyOk Tryd.prog 27 (.struct [0, 1, 2, 3, 4, 5] 6 [.sc (.int .i64 0), .sc (.int .i64 0), .sc (.int .i64 0), .sc (.bool false), .sc (.bool false), .nilS]) := ⟨_, Tryd.underlying27, ⟨.agg #[.int .i64 0, .int .i64 0, .int .i64 0, .bool false, .bool false, .slice none 0 0], by kernel_rfl, rfl, rfl⟩, fun f o h => match f, h with | 0, h => by cases h; kernel_rfl | 1, h => by cases h; kernel_rfl | 2, h => by cases h; kernel_rfl | 3, h => by cases h; kernel_rfl | 4, h => by cases h; kernel_rfl | 5, h => by cases h; kernel_rfl | (f + 6), h => by simp at h⟩
theorem ty28 : TyOk Tryd.prog 28 (.func) := ⟨⟨_, _, _, Tryd.underlying28⟩, by unfold ScOk; kernel_rfl⟩
theorem ty29 : TyOk Tryd.prog 29 (.func) := ⟨⟨_, _, _, Tryd.underlying29⟩, by unfold ScOk; kernel_rfl⟩
theorem ty30 : TyOk Tryd.prog 30 (.func) := ⟨⟨_, _, _, Tryd.underlying30⟩, by unfold ScOk; kernel_rfl⟩
theorem ty31 : TyOk Tryd.prog 31 (.struct [0, 1, 2] 3 [.sc (.int .i64 0), .sc (.int .i64 0), .nilS]) := ⟨_, Tryd.underlying31, ⟨.agg #[.int .i64 0, .int .i64 0, .slice none 0 0], by kernel_rfl, rfl, rfl⟩, fun f o h => match f, h with | 0, h => by cases h; kernel_rfl | 1, h => by cases h; kernel_rfl | 2, h => by cases h; kernel_rfl | (f + 3), h => by simp at h⟩
theorem ty32 : TyOk Tryd.prog 32 (.struct [0, 1, 2] 3 [.sc (.int .i64 0), .sc (.int .i64 0), .nilS]) := ⟨_, Tryd.underlying32, ⟨.agg #[.int .i64 0, .int .i64 0, .slice none 0 0], by kernel_rfl, rfl, rfl⟩, fun f o h => match f, h with | 0, h => by cases h; kernel_rfl | 1, h => by cases h; kernel_rfl | 2, h => by cases h; kernel_rfl | (f + 3), h => by simp at h⟩
theorem ty34 : TyOk Tryd.prog 34 (.func) := ⟨⟨_, _, _, Tryd.underlying34⟩, by unfold ScOk; kernel_rfl⟩
theorem ty35 : TyOk Tryd.prog 35 (.func) := ⟨⟨_, _, _, Tryd.underlying35⟩, by unfold ScOk; kernel_rfl⟩
theorem ty36 : TyOk Tryd.prog 36 (.func) := ⟨⟨_, _, _, Tryd.underlying36⟩, by unfold ScOk; kernel_rfl⟩
theorem ty37 : TyOk Tryd.prog 37 (.func) := ⟨⟨_, _, _, Tryd.underlying37⟩, by unfold ScOk; kernel_rfl⟩
theorem ty39 : TyOk Tryd.prog 39 (.func) := ⟨⟨_, _, _, Tryd.underlying39⟩, by unfold ScOk; kernel_rfl⟩
theorem ty40 : TyOk Tryd.prog 40 (.func) := ⟨⟨_, _, _, Tryd.underlying40⟩, by unfold ScOk; kernel_rfl⟩
theorem ty41 : TyOk Tryd.prog 41 (.func) := ⟨⟨_, _, _, Tryd.underlying41⟩, by unfold ScOk; kernel_rfl⟩
theorem ty42 : TyOk Tryd.prog 42 (.func) := ⟨⟨_, _, _, Tryd.underlying42⟩, by unfold ScOk; kernel_rfl⟩
theorem ty43 : TyOk Tryd.prog 43 (.func) := ⟨⟨_, _, _, Tryd.underlying43⟩, by unfold ScOk; kernel_rfl⟩
theorem ty44 : TyOk Tryd.prog 44 (.func) := ⟨⟨_, _, _, Tryd.underlying44⟩, by unfold ScOk; kernel_rfl⟩
theorem ty45 : TyOk Tryd.prog 45 (.func) := ⟨⟨_, _, _, Tryd.underlying45⟩, by unfold ScOk; kernel_rfl⟩
theorem ty46 : TyOk Tryd.prog 46 (.slice 9 1 16 [.sc (.string ⟨#[]⟩)]) := ⟨Tryd.underlying46, by unfold ScOk; kernel_rfl, .string ⟨#[]⟩, by kernel_rfl, rfl, by decide, rfl⟩
theorem ty47 : TyOk Tryd.prog 47 (.func) := ⟨⟨_, _, _, Tryd.underlying47⟩, by unfold ScOk; kernel_rfl⟩
theorem ty48 : TyOk Tryd.prog 48 (.func) := ⟨⟨_, _, _, Tryd.underlying48⟩, by unfold ScOk; kernel_rfl⟩
theorem ty49 : TyOk Tryd.prog 49 (.func) := ⟨⟨_, _, _, Tryd.underlying49⟩, by unfold ScOk; kernel_rfl⟩
theorem ty51 : TyOk Tryd.prog 51 (.func) := ⟨⟨_, _, _, Tryd.underlying51⟩, by unfold ScOk; kernel_rfl⟩
theorem ty52 : TyOk Tryd.prog 52 (.func) := ⟨⟨_, _, _, Tryd.underlying52⟩, by unfold ScOk; kernel_rfl⟩
theorem ty53 : TyOk Tryd.prog 53 (.func) := ⟨⟨_, _, _, Tryd.underlying53⟩, by unfold ScOk; kernel_rfl⟩
theorem ty54 : TyOk Tryd.prog 54 (.func) := ⟨⟨_, _, _, Tryd.underlying54⟩, by unfold ScOk; kernel_rfl⟩
theorem ty55 : TyOk Tryd.prog 55 (.func) := ⟨⟨_, _, _, Tryd.underlying55⟩, by unfold ScOk; kernel_rfl⟩
theorem ty56 : TyOk Tryd.prog 56 (.func) := ⟨⟨_, _, _, Tryd.underlying56⟩, by unfold ScOk; kernel_rfl⟩
theorem ty58 : TyOk Tryd.prog 58 (.func) := ⟨⟨_, _, _, Tryd.underlying58⟩, by unfold ScOk; kernel_rfl⟩
theorem ty60 : TyOk Tryd.prog 60 (.func) := ⟨⟨_, _, _, Tryd.underlying60⟩, by unfold ScOk; kernel_rfl⟩
theorem ty61 : TyOk Tryd.prog 61 (.func) := ⟨⟨_, _, _, Tryd.underlying61⟩, by unfold ScOk; kernel_rfl⟩
theorem ty63 : TyOk Tryd.prog 63 (.func) := ⟨⟨_, _, _, Tryd.underlying63⟩, by unfold ScOk; kernel_rfl⟩
theorem ty64 : TyOk Tryd.prog 64 (.func) := ⟨⟨_, _, _, Tryd.underlying64⟩, by unfold ScOk; kernel_rfl⟩
theorem ty65 : TyOk Tryd.prog 65 (.func) := ⟨⟨_, _, _, Tryd.underlying65⟩, by unfold ScOk; kernel_rfl⟩
theorem ty66 : TyOk Tryd.prog 66 (.func) := ⟨⟨_, _, _, Tryd.underlying66⟩, by unfold ScOk; kernel_rfl⟩
theorem ty67 : TyOk Tryd.prog 67 (.slice 5 1 1 [.sc (.int .u8 0)]) := ⟨Tryd.underlying67, by unfold ScOk; kernel_rfl, .int .u8 0, by kernel_rfl, rfl, by decide, rfl⟩
theorem ty68 : TyOk Tryd.prog 68 (.func) := ⟨⟨_, _, _, Tryd.underlying68⟩, by unfold ScOk; kernel_rfl⟩
theorem ty69 : TyOk Tryd.prog 69 (.ptr) := ⟨⟨_, Tryd.underlying69⟩, by unfold ScOk; kernel_rfl⟩
theorem ty70 : TyOk Tryd.prog 70 (.struct [0, 1] 2 [.sc (.pointer none), .nilS]) := ⟨_, Tryd.underlying70, ⟨.agg #[.pointer none, .slice none 0 0], by kernel_rfl, rfl, rfl⟩, fun f o h => match f, h with | 0, h => by cases h; kernel_rfl | 1, h => by cases h; kernel_rfl | (f + 2), h => by simp at h⟩
theorem ty71 : TyOk Tryd.prog 71 (.struct [0, 1] 2 [.sc (.pointer none), .nilS]) := ⟨_, Tryd.underlying71, ⟨.agg #[.pointer none, .slice none 0 0], by kernel_rfl, rfl, rfl⟩, fun f o h => match f, h with | 0, h => by cases h; kernel_rfl | 1, h => by cases h; kernel_rfl | (f + 2), h => by simp at h⟩
theorem ty72 : TyOk Tryd.prog 72 (.func) := ⟨⟨_, _, _, Tryd.underlying72⟩, by unfold ScOk; kernel_rfl⟩
theorem ty74 : TyOk Tryd.prog 74 (.iface) := ⟨⟨_, Tryd.underlying74⟩, by unfold ScOk; kernel_rfl⟩
theorem ty76 : TyOk Tryd.prog 76 (.func) := ⟨⟨_, _, _, Tryd.underlying76⟩, by unfold ScOk; kernel_rfl⟩
theorem ty77 : TyOk Tryd.prog 77 (.func) := ⟨⟨_, _, _, Tryd.underlying77⟩, by unfold ScOk; kernel_rfl⟩
theorem ty78 : TyOk Tryd.prog 78 (.func) := ⟨⟨_, _, _, Tryd.underlying78⟩, by unfold ScOk; kernel_rfl⟩
theorem ty79 : TyOk Tryd.prog 79 (.func) := ⟨⟨_, _, _, Tryd.underlying79⟩, by unfold ScOk; kernel_rfl⟩
theorem ty80 : TyOk Tryd.prog 80 (.func) := ⟨⟨_, _, _, Tryd.underlying80⟩, by unfold ScOk; kernel_rfl⟩
theorem ty81 : TyOk Tryd.prog 81 (.func) := ⟨⟨_, _, _, Tryd.underlying81⟩, by unfold ScOk; kernel_rfl⟩
theorem ty82 : TyOk Tryd.prog 82 (.int .u64) := ⟨Tryd.underlying82, by unfold ScOk; kernel_rfl⟩
theorem ty83 : TyOk Tryd.prog 83 (.func) := ⟨⟨_, _, _, Tryd.underlying83⟩, by unfold ScOk; kernel_rfl⟩
theorem ty84 : TyOk Tryd.prog 84 (.func) := ⟨⟨_, _, _, Tryd.underlying84⟩, by unfold ScOk; kernel_rfl⟩
theorem ty85 : TyOk Tryd.prog 85 (.func) := ⟨⟨_, _, _, Tryd.underlying85⟩, by unfold ScOk; kernel_rfl⟩
theorem ty86 : TyOk Tryd.prog 86 (.ptr) := ⟨⟨_, Tryd.underlying86⟩, by unfold ScOk; kernel_rfl⟩
theorem ty87 : TyOk Tryd.prog 87 (.func) := ⟨⟨_, _, _, Tryd.underlying87⟩, by unfold ScOk; kernel_rfl⟩
theorem ty89 : TyOk Tryd.prog 89 (.func) := ⟨⟨_, _, _, Tryd.underlying89⟩, by unfold ScOk; kernel_rfl⟩
theorem ty90 : TyOk Tryd.prog 90 (.func) := ⟨⟨_, _, _, Tryd.underlying90⟩, by unfold ScOk; kernel_rfl⟩
theorem ty91 : TyOk Tryd.prog 91 (.func) := ⟨⟨_, _, _, Tryd.underlying91⟩, by unfold ScOk; kernel_rfl⟩
theorem ty92 : TyOk Tryd.prog 92 (.func) := ⟨⟨_, _, _, Tryd.underlying92⟩, by unfold ScOk; kernel_rfl⟩
theorem ty93 : TyOk Tryd.prog 93 (.func) := ⟨⟨_, _, _, Tryd.underlying93⟩, by unfold ScOk; kernel_rfl⟩
theorem ty94 : TyOk Tryd.prog 94 (.func) := ⟨⟨_, _, _, Tryd.underlying94⟩, by unfold ScOk; kernel_rfl⟩
theorem ty96 : TyOk Tryd.prog 96 (.func) := ⟨⟨_, _, _, Tryd.underlying96⟩, by unfold ScOk; kernel_rfl⟩
theorem ty97 : TyOk Tryd.prog 97 (.func) := ⟨⟨_, _, _, Tryd.underlying97⟩, by unfold ScOk; kernel_rfl⟩
theorem ty98 : TyOk Tryd.prog 98 (.int .i64) := ⟨Tryd.underlying98, by unfold ScOk; kernel_rfl⟩
theorem ty100 : TyOk Tryd.prog 100 (.func) := ⟨⟨_, _, _, Tryd.underlying100⟩, by unfold ScOk; kernel_rfl⟩
theorem ty101 : TyOk Tryd.prog 101 (.ptr) := ⟨⟨_, Tryd.underlying101⟩, by unfold ScOk; kernel_rfl⟩
theorem ty102 : TyOk Tryd.prog 102 (.func) := ⟨⟨_, _, _, Tryd.underlying102⟩, by unfold ScOk; kernel_rfl⟩
theorem ty103 : TyOk Tryd.prog 103 (.func) := ⟨⟨_, _, _, Tryd.underlying103⟩, by unfold ScOk; kernel_rfl⟩
theorem ty105 : TyOk Tryd.prog 105 (.int .u64) := ⟨Tryd.underlying105, by unfold ScOk; kernel_rfl⟩
theorem ty106 : TyOk Tryd.prog 106 (.func) := ⟨⟨_, _, _, Tryd.underlying106⟩, by unfold ScOk; kernel_rfl⟩
theorem ty107 : TyOk Tryd.prog 107 (.func) := ⟨⟨_, _, _, Tryd.underlying107⟩, by unfold ScOk; kernel_rfl⟩
theorem ty109 : TyOk Tryd.prog 109 (.func) := ⟨⟨_, _, _, Tryd.underlying109⟩, by unfold ScOk; kernel_rfl⟩
theorem ty110 : TyOk Tryd.prog 110 (.int .u32) := ⟨Tryd.underlying110, by unfold ScOk; kernel_rfl⟩
theorem ty112 : TyOk Tryd.prog 112 (.func) := ⟨⟨_, _, _, Tryd.underlying112⟩, by unfold ScOk; kernel_rfl⟩
theorem ty114 : TyOk Tryd.prog 114 (.struct [0, 1] 2 [.sc (.int .u8 0), .sc (.int .u8 0)]) := ⟨_, Tryd.underlying114, ⟨.agg #[.int .u8 0, .int .u8 0], by kernel_rfl, rfl, rfl⟩, fun f o h => match f, h with | 0, h => by cases h; kernel_rfl | 1, h => by cases h; kernel_rfl | (f + 2), h => by simp at h⟩
theorem ty115 : TyOk Tryd.prog 115 (.struct [0, 1] 2 [.sc (.int .u8 0), .sc (.int .u8 0)]) := ⟨_, Tryd.underlying115, ⟨.agg #[.int .u8 0, .int .u8 0], by kernel_rfl, rfl, rfl⟩, fun f o h => match f, h with | 0, h => by cases h; kernel_rfl | 1, h => by cases h; kernel_rfl | (f + 2), h => by simp at h⟩
theorem ty118 : TyOk Tryd.prog 118 (.func) := ⟨⟨_, _, _, Tryd.underlying118⟩, by unfold ScOk; kernel_rfl⟩
theorem ty121 : TyOk Tryd.prog 121 (.func) := ⟨⟨_, _, _, Tryd.underlying121⟩, by unfold ScOk; kernel_rfl⟩
theorem ty122 : TyOk Tryd.prog 122 (.func) := ⟨⟨_, _, _, Tryd.underlying122⟩, by unfold ScOk; kernel_rfl⟩
theorem ty125 : TyOk Tryd.prog 125 (.func) := ⟨⟨_, _, _, Tryd.underlying125⟩, by unfold ScOk; kernel_rfl⟩
theorem ty126 : TyOk Tryd.prog 126 (.func) := ⟨⟨_, _, _, Tryd.underlying126⟩, by unfold ScOk; kernel_rfl⟩
theorem ty127 : TyOk Tryd.prog 127 (.func) := ⟨⟨_, _, _, Tryd.underlying127⟩, by unfold ScOk; kernel_rfl⟩
theorem ty128 : TyOk Tryd.prog 128 (.ptr) := ⟨⟨_, Tryd.underlying128⟩, by unfold ScOk; kernel_rfl⟩
theorem ty129 : TyOk Tryd.prog 129 (.struct [0] 1 [.sc (.string ⟨#[]⟩)]) := ⟨_, Tryd.underlying129, ⟨.agg #[.string ⟨#[]⟩], by kernel_rfl, rfl, rfl⟩, fun f o h => match f, h with | 0, h => by cases h; kernel_rfl | (f + 1), h => by simp at h⟩
theorem ty130 : TyOk Tryd.prog 130 (.struct [0] 1 [.sc (.string ⟨#[]⟩)]) := ⟨_, Tryd.underlying130, ⟨.agg #[.string ⟨#[]⟩], by kernel_rfl, rfl, rfl⟩, fun f o h => match f, h with | 0, h => by cases h; kernel_rfl | (f + 1), h => by simp at h⟩
theorem ty131 : TyOk Tryd.prog 131 (.func) := ⟨⟨_, _, _, Tryd.underlying131⟩, by unfold ScOk; kernel_rfl⟩
theorem ty134 : TyOk Tryd.prog 134 (.struct [0, 1, 2, 3] 4 [.sc (.pointer none), .sc (.pointer none), .sc (.pointer none), .sc (.string ⟨#[]⟩)]) := ⟨_, Tryd.underlying134, ⟨.agg #[.pointer none, .pointer none, .pointer none, .string ⟨#[]⟩], by kernel_rfl, rfl, rfl⟩, fun f o h => match f, h with | 0, h => by cases h; kernel_rfl | 1, h => by cases h; kernel_rfl | 2, h => by cases h; kernel_rfl | 3, h => by cases h; kernel_rfl | (f + 4), h => by simp at h⟩
theorem ty135 : TyOk Tryd.prog 135 (.struct [0, 1, 2, 3] 4 [.sc (.pointer none), .sc (.pointer none), .sc (.pointer none), .sc (.string ⟨#[]⟩)]) := ⟨_, Tryd.underlying135, ⟨.agg #[.pointer none, .pointer none, .pointer none, .string ⟨#[]⟩], by kernel_rfl, rfl, rfl⟩, fun f o h => match f, h with | 0, h => by cases h; kernel_rfl | 1, h => by cases h; kernel_rfl | 2, h => by cases h; kernel_rfl | 3, h => by cases h; kernel_rfl | (f + 4), h => by simp at h⟩
theorem ty139 : TyOk Tryd.prog 139 (.func) := ⟨⟨_, _, _, Tryd.underlying139⟩, by unfold ScOk; kernel_rfl⟩
theorem ty140 : TyOk Tryd.prog 140 (.int .u8) := ⟨Tryd.underlying140, by unfold ScOk; kernel_rfl⟩
theorem ty141 : TyOk Tryd.prog 141 (.int .u8) := ⟨Tryd.underlying141, by unfold ScOk; kernel_rfl⟩
theorem ty142 : TyOk Tryd.prog 142 (.func) := ⟨⟨_, _, _, Tryd.underlying142⟩, by unfold ScOk; kernel_rfl⟩
theorem ty143 : TyOk Tryd.prog 143 (.int .i32) := ⟨Tryd.underlying143, by unfold ScOk; kernel_rfl⟩
theorem ty144 : TyOk Tryd.prog 144 (.int .i32) := ⟨Tryd.underlying144, by unfold ScOk; kernel_rfl⟩
theorem ty147 : TyOk Tryd.prog 147 (.func) := ⟨⟨_, _, _, Tryd.underlying147⟩, by unfold ScOk; kernel_rfl⟩
def tab : List (Nat × Ty) := [(1, .func), (2, .int .i64), (3, .int .i64), (4, .bool), (5, .int .u8), (6, .int .u8), (7, .struct [0, 1, 2, 3] 4 [.sc (.int .i64 0), .sc (.int .i64 0), .sc (.bool false), .sc (.int .u8 0)]), (8, .struct [0, 1, 2, 3] 4 [.sc (.int .i64 0), .sc (.int .i64 0), .sc (.bool false), .sc (.int .u8 0)]), (9, .string), (10, .string), (11, .string), (12, .int .u64), (13, .struct [0, 1] 2 [.sc (.string ⟨#[]⟩), .sc (.int .u64 0)]), (14, .struct [0, 1] 2 [.sc (.string ⟨#[]⟩), .sc (.int .u64 0)]), (15, .ptr), (16, .ptr), (17, .ptr), (18, .struct [0] 1 [.sc (.pointer none)]), (19, .struct [0] 1 [.sc (.pointer none)]), (20, .iface), (21, .int .i32), (22, .slice 3 1 8 [.sc (.int .i64 0)]), (23, .struct [0, 1, 2, 3, 4, 5] 6 [.sc (.int .i64 0), .sc (.int .i64 0), .sc (.int .i64 0), .sc (.bool false), .sc (.bool false), .nilS]), (24, .struct [0, 1, 2, 3, 4, 5] 6 [.sc (.int .i64 0), .sc (.int .i64 0), .sc (.int .i64 0), .sc (.bool false), .sc (.bool false), .nilS]), (25, .func), (26, .func), (27, .struct [0, 1, 2, 3, 4, 5] 6 [.sc (.int .i64 0), .sc (.int .i64 0), .sc (.int .i64 0), .sc (.bool false), .sc (.bool false), .nilS]), (28, .func), (29, .func), (30, .func), (31, .struct [0, 1, 2] 3 [.sc (.int .i64 0), .sc (.int .i64 0), .nilS]), (32, .struct [0, 1, 2] 3 [.sc (.int .i64 0), .sc (.int .i64 0), .nilS]), (34, .func), (35, .func), (36, .func), (37, .func), (39, .func), (40, .func), (41, .func), (42, .func), (43, .func), (44, .func), (45, .func), (46, .slice 9 1 16 [.sc (.string ⟨#[]⟩)]), (47, .func), (48, .func), (49, .func), (51, .func), (52, .func), (53, .func), (54, .func), (55, .func), (56, .func), (58, .func), (60, .func), (61, .func), (63, .func), (64, .func), (65, .func), (66, .func), (67, .slice 5 1 1 [.sc (.int .u8 0)]), (68, .func), (69, .ptr), (70, .struct [0, 1] 2 [.sc (.pointer none), .nilS]), (71, .struct [0, 1] 2 [.sc (.pointer none), .nilS]), (72, .func), (74, .iface), (76, .func), (77, .func), (78, .func), (79, .func), (80, .func), (81, .func), (82, .int .u64), (83, .func), (84, .func), (85, .func), (86, .ptr), (87, .func), (89, .func), (90, .func), (91, .func), (92, .func), (93, .func), (94, .func), (96, .func), (97, .func), (98, .int .i64), (100, .func), (101, .ptr), (102, .func), (103, .func), (105, .int .u64), (106, .func), (107, .func), (109, .func), (110, .int .u32), (112, .func), (114, .struct [0, 1] 2 [.sc (.int .u8 0), .sc (.int .u8 0)]), (115, .struct [0, 1] 2 [.sc (.int .u8 0), .sc (.int .u8 0)]), (118, .func), (121, .func), (122, .func), (125, .func), (126, .func), (127, .func), (128, .ptr), (129, .struct [0] 1 [.sc (.string ⟨#[]⟩)]), (130, .struct [0] 1 [.sc (.string ⟨#[]⟩)]), (131, .func), (134, .struct [0, 1, 2, 3] 4 [.sc (.pointer none), .sc (.pointer none), .sc (.pointer none), .sc (.string ⟨#[]⟩)]), (135, .struct [0, 1, 2, 3] 4 [.sc (.pointer none), .sc (.pointer none), .sc (.pointer none), .sc (.string ⟨#[]⟩)]), (139, .func), (140, .int .u8), (141, .int .u8), (142, .func), (143, .int .i32), (144, .int .i32), (147, .func)]
theorem tabOk : TabOk Tryd.prog tab := by
  intro p hp
  simp only [tab, List.mem_cons, List.not_mem_nil, or_false] at hp
  rcases hp with rfl | rfl | rfl | rfl | rfl | rfl | rfl | rfl | rfl | rfl | rfl | rfl | rfl | rfl | rfl | rfl | rfl | rfl | rfl | rfl | rfl | rfl | rfl | rfl | rfl | rfl | rfl | rfl | rfl | rfl | rfl | rfl | rfl | rfl | rfl | rfl | rfl | rfl | rfl | rfl | rfl | rfl | rfl | rfl | rfl | rfl | rfl | rfl | rfl | rfl | rfl | rfl | rfl | rfl | rfl | rfl | rfl | rfl | rfl | rfl | rfl | rfl | rfl | rfl | rfl | rfl | rfl | rfl | rfl | rfl | rfl | rfl | rfl | rfl | rfl | rfl | rfl | rfl | rfl | rfl | rfl | rfl | rfl | rfl | rfl | rfl | rfl | rfl | rfl | rfl | rfl | rfl | rfl | rfl | rfl | rfl | rfl | rfl | rfl | rfl | rfl | rfl | rfl | rfl | rfl | rfl | rfl | rfl | rfl | rfl | rfl | rfl | rfl | rfl | rfl | rfl | rfl | rfl | rfl
  · exact ty1
  · exact ty2
  · exact ty3
  · exact ty4
  · exact ty5
  · exact ty6
  · exact ty7
  · exact ty8
  · exact ty9
  · exact ty10
  · exact ty11
  · exact ty12
  · exact ty13
  · exact ty14
  · exact ty15
  · exact ty16
  · exact ty17
  · exact ty18
  · exact ty19
  · exact ty20
  · exact ty21
  · exact ty22
  · exact ty23
  · exact ty24
  · exact ty25
  · exact ty26
  · exact ty27
  · exact ty28
  · exact ty29
  · exact ty30
  · exact ty31
  · exact ty32
  · exact ty34
  · exact ty35
  · exact ty36
  · exact ty37
  · exact ty39
  · exact ty40
  · exact ty41
  · exact ty42
  · exact ty43
  · exact ty44
  · exact ty45
  · exact ty46
  · exact ty47
  · exact ty48
  · exact ty49
  · exact ty51
  · exact ty52
  · exact ty53
  · exact ty54
  · exact ty55
  · exact ty56
  · exact ty58
  · exact ty60
  · exact ty61
  · exact ty63
  · exact ty64
  · exact ty65
  · exact ty66
  · exact ty67
  · exact ty68
  · exact ty69
  · exact ty70
  · exact ty71
  · exact ty72
  · exact ty74
  · exact ty76
  · exact ty77
  · exact ty78
  · exact ty79
  · exact ty80
  · exact ty81
  · exact ty82
  · exact ty83
  · exact ty84
  · exact ty85
  · exact ty86
  · exact ty87
  · exact ty89
  · exact ty90
  · exact ty91
  · exact ty92
  · exact ty93
  · exact ty94
  · exact ty96
  · exact ty97
  · exact ty98
  · exact ty100
  · exact ty101
  · exact ty102
  · exact ty103
  · exact ty105
  · exact ty106
  · exact ty107
  · exact ty109
  · exact ty110
  · exact ty112
  · exact ty114
  · exact ty115
  · exact ty118
  · exact ty121
  · exact ty122
  · exact ty125
  · exact ty126
  · exact ty127
  · exact ty128
  · exact ty129
  · exact ty130
  · exact ty131
  · exact ty134
  · exact ty135
  · exact ty139
  · exact ty140
  · exact ty141
  · exact ty142
  · exact ty143
  · exact ty144
  · exact ty147
def bldT : Nat := 71
end Go.Proofs.YtkckmenalehdpaaDoor


namespace Go.Abs
open Go
section
variable {P : Program} {n m : Nat} {G : Ctx} {T : List (Nat × AV)} {O : List AObj} {Q : Exit → St → Prop} {ops : Array Oper} {l : List Oper} {d : Nat} {md : Bool} {tt : TypeId} {pos : String} {after : Array Edge} {tab : List (Nat × Ty)}
end
end Go.Abs


namespace Go.Abs
open Go
def deadO : AObj := ⟨[], 1, 0, none⟩
def roomO : AObj := ⟨[], 0, 0, none⟩
def AObj.putE (ob : AObj) (e : Nat) : AObj := ⟨ob.cells, e, ob.size, ob.ty⟩
def AObj.put1 (ob : AObj) : AObj := ⟨ob.cells, 1, ob.size, ob.ty⟩
theorem RelAt.fill {n m G S ι F T O a w} {d j off len : Nat} {ob oj : AObj} (hr : RelAt n m G S ι F ⟨(d, .own O.length 0 off len) :: T, O ++ [ob]⟩ a w) (hj : O[j]? = some oj) (hm : m ≤ j) (hob : ob.ep = 0) (hst : ob.cells.all AV.still = true) :
    ∃ ι' F', RelAt n m G S ι' F' ⟨(d, .own j (oj.ep + 1) off len) :: T, O.set j (ob.putE (oj.ep + 1)) ++ [deadO]⟩ a w := by
  have hjl : j < O.length := (List.getElem?_eq_some_iff.1 hj).1
  have hlast : (O ++ [ob])[O.length]? = some ob := List.getElem?_concat_length
  have hO2 : ∀ i : Nat, (O.set j (ob.putE (oj.ep + 1)) ++ [deadO])[i]? = if i = j then some (ob.putE (oj.ep + 1)) else if i = O.length then some deadO else O[i]? := by
    intro i
    by_cases h1 : i = j
    · subst h1; rw [if_pos rfl, List.getElem?_append_left (by simpa using hjl)]; simp [hjl]
    · rw [if_neg h1]
      have h1' : ¬ j = i := fun e => h1 e.symm
      by_cases h2 : i = O.length
      · subst h2; rw [if_pos rfl, List.getElem?_append_right (by simp)]; simp
      · rw [if_neg h2]
        rcases Nat.lt_or_ge i O.length with h | h
        · rw [List.getElem?_append_left (by simpa using h)]; simp [List.getElem?_set, h1']
        · rw [List.getElem?_eq_none (by simp; omega), List.getElem?_eq_none h]
  have hO1 : ∀ i : Nat, i ≠ O.length → (O ++ [ob])[i]? = O[i]? := by
    intro i hi
    rcases Nat.lt_or_ge i O.length with h | h
    · rw [List.getElem?_append_left h]
    · rw [List.getElem?_eq_none (by simp; omega), List.getElem?_eq_none h]
  have hjn : j ≠ O.length := by omega
  have hlat : Later S w ι (O ++ [ob]) S w (upd (upd ι j (ι O.length)) O.length none) (O.set j (ob.putE (oj.ep + 1)) ++ [deadO]) := by
    refine ⟨fun _ h => h, fun _ _ => rfl, fun i obi hi => ?_⟩
    by_cases h1 : i = j
    · subst h1; rw [hO1 _ hjn, hj] at hi; cases hi
      exact ⟨(ob.putE (oj.ep + 1)), by rw [hO2, if_pos rfl], .inl (Nat.lt_succ_self _)⟩
    · by_cases h2 : i = O.length
      · subst h2; rw [hlast] at hi; cases hi
        exact ⟨deadO, by rw [hO2, if_neg h1, if_pos rfl], .inl (by rw [hob]; exact Nat.lt_succ_self _)⟩
      · rw [hO1 _ h2] at hi
        exact ⟨obi, by rw [hO2, if_neg h1, if_neg h2]; exact hi, .inr ⟨rfl, rfl, by rw [upd_other _ _ h2, upd_other _ _ h1]⟩⟩
  have hn := hr.objs.obj O.length ob hlast
  refine ⟨upd (upd ι j (ι O.length)) O.length none, upd (upd F j (F O.length)) O.length [], hr.defers, hr.size, fun t' => ?_, ⟨fun i obi hi => ?_, fun i hi => ?_, fun i i' hi hi' hii c hcm => ?_⟩, fun i hi c hcm => ?_, hr.base, hr.stable, hr.keeps, fun i hi => ?_, ?_⟩
  · have ht := hr.tmps t'
    by_cases e : d = t'
    · subst e
      have ht : VRel S w ι (O ++ [ob]) (look ((d, .own O.length 0 off len) :: T) d) (a.tmps.getD d undef) [] := ht
      show VRel _ _ _ _ (look ((d, .own j (oj.ep + 1) off len) :: T) d) _ _
      rw [look_cons_same] at ht ⊢
      cases ht with
      | own q1 q2 q3 r =>
        rw [hlast] at q1; cases q1
        refine .own (ob := (ob.putE (oj.ep + 1))) (by rw [hO2, if_pos rfl]) (Nat.le_refl _) (fun _ => ?_) .nil
        rw [upd_other _ _ hjn, upd_same]
        exact q3 hob.symm
    · have ht : VRel S w ι (O ++ [ob]) (look ((d, .own O.length 0 off len) :: T) t') (a.tmps.getD t' undef) [] := ht
      show VRel _ _ _ _ (look ((d, .own j (oj.ep + 1) off len) :: T) t') _ _
      rw [look_cons_other _ _ _ _ e] at ht ⊢
      exact ht.mono hlat (fun _ _ => rfl)
  · have hi : (O.set j (ob.putE (oj.ep + 1)) ++ [deadO])[i]? = some obi := hi
    rw [hO2] at hi
    by_cases e1 : i = j
    · subst e1
      rw [if_pos rfl] at hi; cases hi
      rw [upd_other _ _ hjn, upd_other _ _ hjn, upd_same, upd_same]
      unfold ObjAt at hn ⊢
      cases hs : ι O.length with
      | none => rw [hs] at hn; exact hn
      | some p =>
        obtain ⟨b, k⟩ := p
        rw [hs] at hn
        obtain ⟨cur, t, fz, f', h1, h2, h3, h4, h5, h6, h7⟩ := hn
        have h8 := h7.mono hlat (fun _ _ => rfl)
        rw [hs] at h8
        exact ⟨cur, t, fz, f', h1, h2, h3, h4, h5, h6, h8⟩
    · rw [if_neg e1] at hi
      by_cases e2 : i = O.length
      · subst e2
        rw [if_pos rfl] at hi; cases hi
        rw [upd_same, upd_same]; exact ⟨rfl, rfl⟩
      · rw [if_neg e2] at hi
        rw [upd_other _ _ e2, upd_other _ _ e2, upd_other _ _ e1, upd_other _ _ e1]
        have ho := hr.objs.obj i obi (by show (O ++ [ob])[i]? = _; rw [hO1 _ e2]; exact hi)
        unfold ObjAt at ho ⊢
        cases hs : ι i with
        | none => rw [hs] at ho; exact ho
        | some p =>
          obtain ⟨b, k⟩ := p
          rw [hs] at ho
          obtain ⟨cur, t, fz, f', h1, h2, h3, h4, h5, h6, h7⟩ := ho
          exact ⟨cur, t, fz, f', h1, h2, h3, h4, h5, h6, h7.mono hlat (fun _ _ => rfl)⟩
  · have hi : i < (O.set j (ob.putE (oj.ep + 1)) ++ [deadO]).length := hi
    simp only [List.length_append, List.length_set, List.length_singleton] at hi
    by_cases e2 : i = O.length
    · subst e2; rw [upd_same]; exact List.nodup_nil
    · rw [upd_other _ _ e2]
      by_cases e1 : i = j
      · subst e1; rw [upd_same]; exact hr.objs.nodup O.length (by show O.length < (O ++ [ob]).length; simp)
      · rw [upd_other _ _ e1]; exact hr.objs.nodup i (by show i < (O ++ [ob]).length; simp; omega)
  · have hi : i < (O.set j (ob.putE (oj.ep + 1)) ++ [deadO]).length := hi
    have hi' : i' < (O.set j (ob.putE (oj.ep + 1)) ++ [deadO]).length := hi'
    simp only [List.length_append, List.length_set, List.length_singleton] at hi hi'
    by_cases e2 : i = O.length
    · subst e2; rw [upd_same] at hcm; cases hcm
    · rw [upd_other _ _ e2] at hcm
      by_cases e3 : i' = O.length
      · subst e3; rw [upd_same]; intro h; cases h
      · rw [upd_other _ _ e3]
        have hL : (O ++ [ob]).length = O.length + 1 := by simp
        by_cases e1 : i = j
        · subst e1
          rw [upd_same] at hcm
          rw [upd_other _ _ (fun e => hii e.symm)]
          exact hr.objs.apart O.length i' (by show O.length < (O ++ [ob]).length; omega) (by show i' < (O ++ [ob]).length; omega) (fun e => e3 e.symm) c hcm
        · rw [upd_other _ _ e1] at hcm
          by_cases e4 : i' = j
          · subst e4; rw [upd_same]
            exact hr.objs.apart i O.length (by show i < (O ++ [ob]).length; omega) (by show O.length < (O ++ [ob]).length; omega) e2 c hcm
          · rw [upd_other _ _ e4]
            exact hr.objs.apart i i' (by show i < (O ++ [ob]).length; omega) (by show i' < (O ++ [ob]).length; omega) hii c hcm
  · have hi : i < (O.set j (ob.putE (oj.ep + 1)) ++ [deadO]).length := hi
    simp only [List.length_append, List.length_set, List.length_singleton] at hi
    have hL : (O ++ [ob]).length = O.length + 1 := by simp
    by_cases e2 : i = O.length
    · subst e2; rw [upd_same] at hcm; cases hcm
    · rw [upd_other _ _ e2] at hcm
      by_cases e1 : i = j
      · subst e1; rw [upd_same] at hcm; exact hr.foot O.length (by show O.length < (O ++ [ob]).length; omega) c hcm
      · rw [upd_other _ _ e1] at hcm; exact hr.foot i (by show i < (O ++ [ob]).length; omega) c hcm
  · rw [upd_other _ _ (by omega), upd_other _ _ (by omega)]; exact hr.spots i hi
  · show m ≤ (O.set j (ob.putE (oj.ep + 1)) ++ [deadO]).length
    simp only [List.length_append, List.length_set, List.length_singleton]; omega
theorem Weak.fillE {m d j off len : Nat} {ob oj : AObj} {T : List (Nat × AV)} {O : List AObj} (hj : O[j]? = some oj) (hm : m ≤ j) (hob : ob.ep = 0) (hst : ob.cells.all AV.still = true) :
    Weak m ⟨(d, .own O.length 0 off len) :: T, O ++ [ob]⟩ ⟨(d, .own j (oj.ep + 1) off len) :: T, O.set j (ob.putE (oj.ep + 1)) ++ [deadO]⟩ := by
  rintro n' G' a w ⟨S, ι, F, hr⟩
  obtain ⟨ι', F', hr'⟩ := hr.fill hj hm hob hst
  exact ⟨S, ι', F', hr'⟩
theorem Weak.fill {m d j off len : Nat} {ob oj : AObj} {T : List (Nat × AV)} {O : List AObj} (hj : O[j]? = some oj) (hm : m ≤ j) (hje : oj.ep = 0) (hob : ob.ep = 0) (hst : ob.cells.all AV.still = true) :
    Weak m ⟨(d, .own O.length 0 off len) :: T, O ++ [ob]⟩ ⟨(d, .own j 1 off len) :: T, O.set j ob.put1 ++ [deadO]⟩ := by
  have := Weak.fillE (d := d) (off := off) (len := len) (T := T) hj hm hob hst
  rw [hje] at this; exact this
inductive Fil where
  | none
  | put (p : Nat) (ob : AObj)
  | step (p : Nat) (ob : AObj)
def Fil.spot : Fil → Option (Nat × AObj)
  | .none => Option.none
  | .put p ob => some (p, ob)
  | .step p ob => some (p, ob)
def Fil.isPut : Fil → Bool
  | .put _ _ => true
  | _ => false
def Fil.run : Fil → List AObj → List AObj
  | .none, Ov => Ov
  | .put p ob, Ov => Ov.set p ob ++ [deadO]
  | .step p ob, Ov => Ov.set p ob
def waits (o : Oper) (j : Nat) : Bool := o.after.toList.any fun e => Region.binds .any e && Nat.beq e.on j
def memB (p : Nat) : List Nat → Bool
  | [] => false
  | q :: l => Nat.beq p q || memB p l
inductive HeadQ (P : Program) (n m : Nat) (G : Ctx) (ops : Array Oper) (T0 : List (Nat × AV)) (O Oi : List AObj) (keep : List Nat) : List (Nat × AV) → List Fil → List Oper → List (Nat × AV) → List Fil → Prop
  | nil {fs gs} : HeadQ P n m G ops T0 O Oi keep fs gs [] fs gs
  | cons {fs out : List (Nat × AV)} {gs : List Fil} {o : Oper} {l : List Oper} {d : Nat} {V : AV} {F : List (Nat × AV)} {ks : List Fil} (k : Fil) (hd : o.dst = some d) (hF : deps fs o = F)
      (h : ∀ Tv Ov, Oi.length ≤ Ov.length → (∀ p ob, k.spot = some (p, ob) → Ov[p]? = Oi[p]?) → (∀ j f p ob, waits o j = true → gs[j]? = some f → f.spot = some (p, ob) → Ov[p]? = some ob) → (∀ q, memB q keep = true → Ov[q]? = Oi[q]?) →
        WpL P n m G false ops [o] ⟨F ++ (T0 ++ Tv), O ++ Ov⟩ (Only ⟨(d, V) :: (F ++ (T0 ++ Tv)), O ++ k.run Ov⟩)) (r : HeadQ P n m G ops T0 O Oi keep (fs ++ [(d, V)]) (gs ++ [k]) l out ks) : HeadQ P n m G ops T0 O Oi keep fs gs (o :: l) out ks
section
variable {P : Program} {n m : Nat} {G : Ctx} {ops : Array Oper} {T0 : List (Nat × AV)} {O Oi : List AObj} {keep : List Nat}
theorem HeadQ.pre {fs gs l out ks} (h : HeadQ P n m G ops T0 O Oi keep fs gs l out ks) : ∃ r s, out = fs ++ r ∧ r.length = l.length ∧ ks = gs ++ s ∧ s.length = l.length := by
  induction h with
  | nil => exact ⟨[], [], by simp, rfl, by simp, rfl⟩
  | @cons fs out gs o l d V F ks k _ _ _ _ ih => obtain ⟨r, s, h1, h2, h3, h4⟩ := ih; exact ⟨(d, V) :: r, k :: s, by rw [h1]; simp, by simp [h2], by rw [h3]; simp, by simp [h4]⟩
theorem HeadQ.at {fs gs l out ks} (h : HeadQ P n m G ops T0 O Oi keep fs gs l out ks) (hg : gs.length = fs.length) : ∀ {j : Nat} {o : Oper}, l[j]? = some o → ∃ d V k, o.dst = some d ∧ out[fs.length + j]? = some (d, V) ∧ ks[fs.length + j]? = some k ∧
    ∀ Tv Ov, Oi.length ≤ Ov.length → (∀ p ob, k.spot = some (p, ob) → Ov[p]? = Oi[p]?) → (∀ i f p ob, waits o i = true → (ks.take (fs.length + j))[i]? = some f → f.spot = some (p, ob) → Ov[p]? = some ob) → (∀ q, memB q keep = true → Ov[q]? = Oi[q]?) →
      WpL P n m G false ops [o] ⟨deps (out.take (fs.length + j)) o ++ (T0 ++ Tv), O ++ Ov⟩ (Only ⟨(d, V) :: (deps (out.take (fs.length + j)) o ++ (T0 ++ Tv)), O ++ k.run Ov⟩) := by
  induction h with
  | nil => intro j o h; simp at h
  | @cons fs out gs o l d V F ks k hd hF h r ih =>
    intro j o' hj
    obtain ⟨r', s', h1, h2, h3, h4⟩ := r.pre
    cases j with
    | zero =>
      simp only [List.getElem?_cons_zero, Option.some.injEq] at hj
      subst hj
      refine ⟨d, V, k, hd, by rw [h1]; simp, by rw [h3]; simp [hg], ?_⟩
      have : out.take (fs.length + 0) = fs := by rw [h1, Nat.add_zero, List.append_assoc, List.take_left']; rfl
      have e2 : ks.take (fs.length + 0) = gs := by rw [h3, Nat.add_zero, List.append_assoc, List.take_left']; exact hg
      rw [this, hF, e2]; exact h
    | succ j =>
      have := ih (by simp [hg]) (j := j) (o := o') (by simpa using hj)
      rw [List.length_append, List.length_singleton, Nat.add_assoc, Nat.add_comm 1 j] at this
      simpa using this
structure RoomAt (ks : List Fil) (Oi : List AObj) (k : Nat) (listed : Array Bool) (Ov : List AObj) : Prop where
  len : Ov.length = Oi.length + ((List.range k).filter fun i => listed.getD i false && ((ks[i]?.map Fil.isPut).getD false)).length
  full : ∀ i f p ob, i < k → ks[i]? = some f → f.spot = some (p, ob) → listed.getD i false = true → Ov[p]? = some ob
  room : ∀ i f p ob, i < k → ks[i]? = some f → f.spot = some (p, ob) → listed.getD i false = false → Ov[p]? = Oi[p]?
  rest : ∀ q, q < Oi.length → (∀ i f p ob, i < k → ks[i]? = some f → f.spot = some (p, ob) → p ≠ q) → Ov[q]? = Oi[q]?
  dead : ∀ q, Oi.length ≤ q → q < Ov.length → Ov[q]? = some deadO
def isPut (ks : List Fil) (i : Nat) : Bool := (ks[i]?.map Fil.isPut).getD false
structure RoomOk (ks : List Fil) (c k : Nat) : Prop where
  lt : ∀ i f p ob, i < k → ks[i]? = some f → f.spot = some (p, ob) → p < c
  inj : ∀ i j f g p q ob oc, i < k → j < k → ks[i]? = some f → ks[j]? = some g → f.spot = some (p, ob) → g.spot = some (q, oc) → p = q → i = j
theorem count_set {f : Nat → Bool} {k i : Nat} {listed : Array Bool} (hik : i < k) (hs : i < listed.size) (hu : listed.getD i false = false) : ((List.range k).filter fun j => (listed.setIfInBounds i true).getD j false && f j).length = ((List.range k).filter fun j => listed.getD j false && f j).length + (if f i = true then 1 else 0) := by
  have hself : (listed.setIfInBounds i true).getD i false = true := by simp [hs]
  have key : ∀ (L : List Nat), L.Nodup → i ∈ L → (L.filter fun j => (listed.setIfInBounds i true).getD j false && f j).length = (L.filter fun j => listed.getD j false && f j).length + (if f i = true then 1 else 0) := by
    intro L
    induction L with
    | nil => intro _ h; cases h
    | cons x L ih =>
      intro hnd hm
      rw [List.nodup_cons] at hnd
      by_cases hx : x = i
      · subst hx
        have hsame : (L.filter fun j => (listed.setIfInBounds x true).getD j false && f j) = L.filter fun j => listed.getD j false && f j := by
          refine List.filter_congr fun j hj => ?_
          rw [getD_set_ne false (by rintro rfl; exact hnd.1 hj)]
        rw [List.filter_cons, List.filter_cons, hsame, hself, hu]
        cases f x <;> simp
      · have hm' : i ∈ L := by
          rcases List.mem_cons.1 hm with h | h
          · exact (hx h.symm).elim
          · exact h
        have := ih hnd.2 hm'
        rw [List.filter_cons, List.filter_cons, getD_set_ne false (Ne.symm hx)]
        split <;> (try simp only [List.length_cons]) <;> omega
  exact key _ List.nodup_range (List.mem_range.2 hik)
theorem RoomAt.step {ks : List Fil} {k i : Nat} {listed : Array Bool} {Ov : List AObj} {f : Fil} (h : RoomAt ks Oi k listed Ov) (ok : RoomOk ks Oi.length k) (hik : i < k) (hs : i < listed.size) (hu : listed.getD i false = false) (hf : ks[i]? = some f) :
    RoomAt ks Oi k (listed.setIfInBounds i true) (f.run Ov) := by
  have hself : (listed.setIfInBounds i true).getD i false = true := by simp [hs]
  have hcnt := count_set (f := isPut ks) hik hs hu
  have hlen := h.len
  have e0 : ∀ L : Array Bool, ((List.range k).filter fun i => L.getD i false && ((ks[i]?.map Fil.isPut).getD false)).length = ((List.range k).filter fun i => L.getD i false && isPut ks i).length := fun _ => rfl
  rw [e0] at hlen
  have hp : isPut ks i = f.isPut := by unfold isPut; rw [hf]; rfl
  rw [hp] at hcnt
  have hrl : (f.run Ov).length = Ov.length + (if f.isPut = true then 1 else 0) := by cases f <;> simp [Fil.run, Fil.isPut]
  have hle : Oi.length ≤ Ov.length := by omega
  -- a place that is not the operation's own keeps what it has
  have hoth : ∀ q, q < Ov.length → (∀ p ob, f.spot = some (p, ob) → p ≠ q) → (f.run Ov)[q]? = Ov[q]? := by
    intro q hq hne
    cases f with
    | none => rfl
    | put p ob =>
      have := hne p ob rfl
      unfold Fil.run
      rw [List.getElem?_append_left (by simpa using hq), List.getElem?_set, if_neg this]
    | step p ob =>
      have := hne p ob rfl
      unfold Fil.run
      rw [List.getElem?_set, if_neg this]
  have hown : ∀ p ob, f.spot = some (p, ob) → (f.run Ov)[p]? = some ob := by
    intro p ob e
    have hpc := ok.lt i f p ob hik hf e
    cases f with
    | none => cases e
    | put p' ob' =>
      cases e
      unfold Fil.run
      rw [List.getElem?_append_left (by rw [List.length_set]; omega), List.getElem?_set_self (by omega)]
    | step p' ob' =>
      cases e
      unfold Fil.run
      rw [List.getElem?_set_self (by omega)]
  refine ⟨by rw [e0, hrl, hcnt, hlen]; split <;> omega, fun j g q oc hj hk hsp hl => ?_, fun j g q oc hj hk hsp hl => ?_, fun q hq hno => ?_, fun q h1 h2 => ?_⟩
  · by_cases e : i = j
    · subst e; rw [hf] at hk; cases hk; exact hown q oc hsp
    · rw [getD_set_ne false e] at hl
      have hqc := ok.lt j g q oc hj hk hsp
      rw [hoth q (by omega) (fun p ob e1 e2 => e (ok.inj i j f g p q ob oc hik hj hf hk e1 hsp e2))]
      exact h.full j g q oc hj hk hsp hl
  · have e : i ≠ j := by rintro rfl; rw [hself] at hl; cases hl
    rw [getD_set_ne false e] at hl
    have hqc := ok.lt j g q oc hj hk hsp
    rw [hoth q (by omega) (fun p ob e1 e2 => e (ok.inj i j f g p q ob oc hik hj hf hk e1 hsp e2))]
    exact h.room j g q oc hj hk hsp hl
  · rw [hoth q (by omega) (fun p ob e1 => hno i f p ob hik hf e1)]
    exact h.rest q hq hno
  · rcases Nat.lt_or_ge q Ov.length with h3 | h3
    · rw [hoth q h3 (fun p ob e1 => by have := ok.lt i f p ob hik hf e1; omega)]
      exact h.dead q h1 h3
    · cases f with
      | none => exact absurd h2 (by simp [Fil.run]; omega)
      | step p ob => exact absurd h2 (by simp [Fil.run]; omega)
      | put p ob =>
        simp [Fil.run] at h2
        have e : q = Ov.length := by omega
        subst e
        unfold Fil.run
        rw [List.getElem?_append_right (by simp)]; simp
theorem any_order {out : List (Nat × AV)} {k g : Nat} {GP : Array Bool → Act → World → Prop} (H : Heads ops T0 out k) (hks : k ≤ ops.size) (hs : k < ops.size → Region.sinkB .any ops k = true ∧ Region.chainB .any ops k = true) {Q : Exit → Act → World → Prop}
    (hstep : ∀ {listed : Array Bool} (inv : HeadInv .any ops k listed) {i : Nat} (hi : i ∈ Region.ready .any ops listed) (hik : i < k) {a w} (hg : GP listed a w) {K : Act → World → Prop} (hK : ∀ a' w', GP (listed.setIfInBounds i true) a' w' → K a' w'), wpOp P ops Q i K a w)
    (hT : ∀ listed a w, HeadInv .any ops k listed → (∀ i, i < k → listed.getD i false = true) → GP listed a w → wpAny P .any ops Q g listed a w) :
    ∀ (f : Nat) (listed : Array Bool) (a : Act) (w : World), HeadInv .any ops k listed → ((List.range k).filter fun i => !listed.getD i false).length = f → GP listed a w →
      wpAny P .any ops Q (f + g) listed a w := by
  intro f
  induction f with
  | zero =>
    intro listed a w inv hc hg
    rw [Nat.zero_add]
    refine hT listed a w inv (fun i hi => ?_) hg
    have h0 := List.eq_nil_of_length_eq_zero hc
    cases hl : listed.getD i false with
    | true => rfl
    | false =>
      have : i ∈ (List.range k).filter fun i => !listed.getD i false := by simp [List.mem_filter, hi]; simpa using hl
      rw [h0] at this; cases this
  | succ f ih =>
    intro listed a w inv hc hg
    have hgetD : ∀ i, i < k → listed.getD i false = false → listed.getD i true = false := fun i hi h => getD_in (by rw [inv.size]; omega) h
    -- the least that is not listed is ready
    have hex : ∃ i, i < k ∧ listed.getD i false = false := by
      cases hl : (List.range k).filter fun i => !listed.getD i false with
      | nil => rw [hl] at hc; simp at hc
      | cons i r =>
        have : i ∈ (List.range k).filter fun i => !listed.getD i false := by rw [hl]; simp
        rw [List.mem_filter, List.mem_range] at this
        exact ⟨i, this.1, by simpa using this.2⟩
    obtain ⟨i0, hi0, hl0⟩ := hex
    have least : ∀ d i, i = d → i < k → listed.getD i false = false → ∃ j, j < k ∧ j ∈ Region.ready .any ops listed := by
      intro d
      induction d using Nat.strongRecOn with
      | _ d ihd =>
        rintro i rfl hi hl
        by_cases hh : ∃ j, j < i ∧ listed.getD j false = false
        · obtain ⟨j, hj, hjl⟩ := hh
          exact ihd j hj j rfl (by omega) hjl
        · have hlt : i < ops.size := by omega
          refine ⟨i, hi, mem_ready.2 ⟨hgetD i hi hl, ops[i], by simp [hlt], fun e he hb => ?_⟩⟩
          have hlt' := H.back i hi _ (by simp [hlt]) e he hb
          cases hx : listed.getD e.on false with
          | true => rfl
          | false => exact (hh ⟨_, hlt', hx⟩).elim
    obtain ⟨j0, hj0, hr0⟩ := least i0 i0 rfl hi0 hl0
    rw [show f + 1 + g = (f + g) + 1 by omega]
    refine ⟨fun h => (by rw [h] at hr0; cases hr0), fun i hi => ?_⟩
    have hik : i < k := by
      rcases Nat.lt_or_ge i k with h | h
      · exact h
      · by_cases hk : k < ops.size
        · exact absurd hi (tail_waits (hs hk).1 (hs hk).2 hk inv _ i0 rfl hi0 (hgetD i0 hi0 hl0) i h)
        · obtain ⟨_, o, ho, _⟩ := mem_ready.1 hi
          have := (Array.getElem?_eq_some_iff.1 ho).1
          omega
    have hiu : listed.getD i false = false := getD_both (mem_ready.1 hi).1
    refine hstep inv hi hik hg fun a' w' hg' => ih _ _ _ (inv.set hi hik) ?_ hg'
    have key : ∀ (L : List Nat), L.Nodup → i ∈ L → (L.filter fun j => !(listed.setIfInBounds i true).getD j false).length + 1 = (L.filter fun j => !listed.getD j false).length := by
      intro L
      have hself : (listed.setIfInBounds i true).getD i false = true := by
        have : i < listed.size := by rw [inv.size]; omega
        simp [this]
      induction L with
      | nil => intro _ h; cases h
      | cons x L ihL =>
        intro hnd hm
        rw [List.nodup_cons] at hnd
        by_cases hx : x = i
        · subst hx
          have hsame : (L.filter fun j => !(listed.setIfInBounds x true).getD j false) = L.filter fun j => !listed.getD j false := by
            refine List.filter_congr fun j hj => ?_
            rw [getD_set_ne false (by rintro rfl; exact hnd.1 hj)]
          rw [List.filter_cons, List.filter_cons, hsame, hself, hiu]; simp
        · have hm' : i ∈ L := by
            rcases List.mem_cons.1 hm with h | h
            · exact (hx h.symm).elim
            · exact h
          have := ihL hnd.2 hm'
          rw [List.filter_cons, List.filter_cons, getD_set_ne false (Ne.symm hx)]
          split <;> (try simp only [List.length_cons]) <;> omega
    have := key (List.range k) List.nodup_range (List.mem_range.2 hik)
    omega
theorem RelAt.room {n m G S ι F T O a w} (hr : RelAt n m G S ι F ⟨T, O⟩ a w) : RelAt n m G S (upd ι O.length none) (upd F O.length []) ⟨T, O ++ [roomO]⟩ a w := by
  have hlat : Later S w ι O S w (upd ι O.length none) (O ++ [roomO]) := by
    refine ⟨fun _ h => h, fun _ _ => rfl, fun id ob' h => ?_⟩
    have hlt : id < O.length := (List.getElem?_eq_some_iff.1 h).1
    exact ⟨ob', by rw [List.getElem?_append_left hlt]; exact h, .inr ⟨rfl, rfl, upd_other _ _ (by omega)⟩⟩
  refine ⟨hr.defers, hr.size, fun t' => (hr.tmps t').mono hlat (by simp), ⟨fun id ob' h => ?_, fun id h => ?_, fun i j hi hj hij b hb => ?_⟩, fun id h b hb => ?_, hr.base, hr.stable, hr.keeps, fun id h => ?_, ?_⟩
  · rcases getElem?_snoc O _ ob' id h with ⟨hlt, h⟩ | ⟨rfl, rfl⟩
    · rw [upd_other _ _ (by omega), upd_other _ _ (by omega)]
      have ho := hr.objs.obj id ob' h
      unfold ObjAt at ho ⊢
      cases hs : ι id with
      | none => rw [hs] at ho; exact ho
      | some p =>
        obtain ⟨b, k⟩ := p
        rw [hs] at ho
        obtain ⟨cur', t', fz', f', h1, h2, h3, h4, h5, h6, h7⟩ := ho
        exact ⟨cur', t', fz', f', h1, h2, h3, h4, h5, h6, h7.mono hlat fun _ _ => rfl⟩
    · rw [upd_same, upd_same]; exact ⟨rfl, rfl⟩
  · simp only [List.length_append, List.length_cons, List.length_nil] at h
    by_cases he : id = O.length
    · subst he; rw [upd_same]; simp
    · rw [upd_other _ _ he]; exact hr.objs.nodup id (by show id < O.length; omega)
  · simp only [List.length_append, List.length_cons, List.length_nil] at hi hj
    by_cases h1 : i = O.length
    · subst h1; rw [upd_same] at hb; simp at hb
    · rw [upd_other _ _ h1] at hb
      by_cases h2 : j = O.length
      · subst h2; rw [upd_same]; simp
      · rw [upd_other _ _ h2]; exact hr.objs.apart i j (by show i < O.length; omega) (by show j < O.length; omega) hij b hb
  · simp only [List.length_append, List.length_cons, List.length_nil] at h
    by_cases he : id = O.length
    · subst he; rw [upd_same] at hb; simp at hb
    · rw [upd_other _ _ he] at hb; exact hr.foot id (by show id < O.length; omega) b hb
  · have hm : m ≤ O.length := hr.mle
    rw [upd_other _ _ (by omega)]; exact hr.spots id h
  · have hm : m ≤ O.length := hr.mle
    show m ≤ (O ++ [_]).length
    simp; omega
theorem Weak.rooms {T : List (Nat × AV)} : ∀ (c : Nat) (O : List AObj), Weak m ⟨T, O⟩ ⟨T, O ++ List.replicate c roomO⟩
  | 0, O => by simp; exact fun n G a w h => h
  | c + 1, O => by
    have h1 : Weak m ⟨T, O⟩ ⟨T, O ++ [roomO]⟩ := by
      rintro n' G' a w ⟨S, ι, F, hr⟩
      exact ⟨S, _, _, hr.room⟩
    have h2 := Weak.rooms (T := T) c (O ++ [roomO])
    rw [List.append_assoc] at h2
    exact h1.trans h2
theorem cnt_some : ∀ (n k : Nat), cnt n k = some (n + k)
  | 0, k => by simp [cnt]
  | n + 1, k => by rw [cnt, cnt_some n (k + 1)]; congr 1; omega
theorem fill_eq (Ov : List AObj) {p : Nat} (x : AObj) : (O ++ Ov).set (O.length + p) x ++ [deadO] = O ++ (Ov.set p x ++ [deadO]) := by
  rw [List.set_append_right _ _ (by omega), Nat.add_sub_cancel_left, List.append_assoc]
theorem fill_at {Ov : List AObj} {p : Nat} {x : AObj} (h : Ov[p]? = some x) : (O ++ Ov)[O.length + p]? = some x := by
  rw [List.getElem?_append_right (by omega), Nat.add_sub_cancel_left]; exact h
theorem WpL.putNil {T : List (Nat × AV)} {Ov : List AObj} {p d off len : Nat} {ob : AObj} (hp : Ov[p]? = some roomO) (hm : m ≤ O.length + p) (hob : ob.ep = 0) (hst : ob.cells.all AV.still = true) :
    WpL P n m G false ops [] ⟨(d, .own (O ++ Ov).length 0 off len) :: T, O ++ Ov ++ [ob]⟩ (Only ⟨(d, .own (O.length + p) 1 off len) :: T, O ++ (Fil.put p ob.put1).run Ov⟩) := by
  refine WpL.weak (Weak.fill (j := O.length + p) (fill_at hp) hm rfl hob hst) ?_
  refine WpL.nil (Only.mk ?_)
  rw [fill_eq]; rfl
def fillAll : List Fil → List AObj → List AObj
  | [], Oi => Oi
  | f :: ks, Oi => fillAll ks (match f.spot with | some (p, ob) => Oi.set p ob | none => Oi)
def spots : List Fil → List Nat
  | [] => []
  | f :: ks => match f.spot with | some (p, _) => p :: spots ks | none => spots ks
theorem memB_false {p : Nat} : ∀ {l : List Nat}, memB p l = false → p ∉ l
  | [], _ => by simp
  | q :: l, h => by
    rw [memB, Bool.or_eq_false_iff] at h
    have h2 := memB_false h.2
    have h1 : p ≠ q := by rintro rfl; have := h.1; simp at this
    simp [h1, h2]
def keepB (c : Nat) (sp : List Nat) : List Nat → Bool
  | [] => true
  | q :: l => Nat.blt q c && !memB q sp && keepB c sp l
end
end Go.Abs


namespace Go.Abs
open Go
section
variable {P : Program} {n m : Nat} {G : Ctx} {T0 : List (Nat × AV)} {O : List AObj}
end
end Go.Abs


namespace Go.Abs
open Go
def RollN (P : Program) (n m : Nat) (G : Ctx) (c : Code) (Q : Exit → St → Prop) : Nat → St → Prop
  | 0, _ => False
  | k + 1, σ => WpA P n m G c σ (Seq (RollN P n m G c Q k) Q)
section
variable {P : Program} {n m : Nat} {G : Ctx} {c : Code} {Q : Exit → St → Prop} {σ : St}
theorem RollN.s {k : Nat} (h : WpA P n m G c σ (Seq (RollN P n m G c Q k) Q)) : RollN P n m G c Q (k + 1) σ := h
end
end Go.Abs
