/- Proved in this text: lemmas and contracts of functions that the claim uses (parts: Tab, AbsX, AbsY, AbsZ, AbsRoll). No condition. -/
import Derived.Test.YtainhhfnnclfiaaGreatProg
import Derived.Test.YtainhhfnnclfiaaGreatBsM5
import Derived.KernelRfl
import Derived.Lib.AppendZeros
import Derived.LoopN
set_option linter.unusedVariables false
set_option linter.unusedSimpArgs false
set_option maxRecDepth 100000
set_option maxHeartbeats 16000000


namespace Go.Proofs.YtainhhfnnclfiaaGreat
open Go Go.Abs
theorem ty1:TyOk Tryz.prog 1 (.func):=⟨⟨_,_,_,Tryz.underlying1⟩,by unfold ScOk;kernel_rfl⟩
theorem ty2:TyOk Tryz.prog 2 (.int .i64):=⟨Tryz.underlying2,by unfold ScOk;kernel_rfl⟩
theorem ty3:TyOk Tryz.prog 3 (.int .i64):=⟨Tryz.underlying3,by unfold ScOk;kernel_rfl⟩
theorem ty4:TyOk Tryz.prog 4 (.bool):=⟨Tryz.underlying4,by unfold ScOk;kernel_rfl⟩
theorem ty5:TyOk Tryz.prog 5 (.int .u8):=⟨Tryz.underlying5,by unfold ScOk;kernel_rfl⟩
theorem ty6:TyOk Tryz.prog 6 (.int .u8):=⟨Tryz.underlying6,by unfold ScOk;kernel_rfl⟩
theorem ty7:TyOk Tryz.prog 7 (.struct [0,1,2,3] 4 [.sc (.int .i64 0),.sc (.int .i64 0),.sc (.bool false),.sc (.int .u8 0)]):=⟨_,Tryz.underlying7,⟨.agg #[.int .i64 0,.int .i64 0,.bool false,.int .u8 0],by kernel_rfl,rfl,rfl⟩,fun f o h=>match f,h with|0,h=>by cases h;kernel_rfl|1,h=>by cases h;kernel_rfl|2,h=>by cases h;kernel_rfl|3,h=>by cases h;kernel_rfl|(f+4),h=>by simp at h⟩
theorem ty8:TyOk Tryz.prog 8 (.struct [0,1,2,3] 4 [.sc (.int .i64 0),.sc (.int .i64 0),.sc (.bool false),.sc (.int .u8 0)]):=⟨_,Tryz.underlying8,⟨.agg #[.int .i64 0,.int .i64 0,.bool false,.int .u8 0],by kernel_rfl,rfl,rfl⟩,fun f o h=>match f,h with|0,h=>by cases h;kernel_rfl|1,h=>by cases h;kernel_rfl|2,h=>by cases h;kernel_rfl|3,h=>by cases h;kernel_rfl|(f+4),h=>by simp at h⟩
theorem ty9:TyOk Tryz.prog 9 (.string):=⟨Tryz.underlying9,by unfold ScOk;kernel_rfl⟩
theorem ty10:TyOk Tryz.prog 10 (.string):=⟨Tryz.underlying10,by unfold ScOk;kernel_rfl⟩
theorem ty11:TyOk Tryz.prog 11 (.string):=⟨Tryz.underlying11,by unfold ScOk;kernel_rfl⟩
theorem ty12:TyOk Tryz.prog 12 (.int .u64):=⟨Tryz.underlying12,by unfold ScOk;kernel_rfl⟩
theorem ty13:TyOk Tryz.prog 13 (.struct [0,1] 2 [.sc (.string ⟨#[]⟩),.sc (.int .u64 0)]):=⟨_,Tryz.underlying13,⟨.agg #[.string ⟨#[]⟩,.int .u64 0],by kernel_rfl,rfl,rfl⟩,fun f o h=>match f,h with|0,h=>by cases h;kernel_rfl|1,h=>by cases h;kernel_rfl|(f+2),h=>by simp at h⟩
theorem ty14:TyOk Tryz.prog 14 (.struct [0,1] 2 [.sc (.string ⟨#[]⟩),.sc (.int .u64 0)]):=⟨_,Tryz.underlying14,⟨.agg #[.string ⟨#[]⟩,.int .u64 0],by kernel_rfl,rfl,rfl⟩,fun f o h=>match f,h with|0,h=>by cases h;kernel_rfl|1,h=>by cases h;kernel_rfl|(f+2),h=>by simp at h⟩
theorem ty15:TyOk Tryz.prog 15 (.ptr):=⟨⟨_,Tryz.underlying15⟩,by unfold ScOk;kernel_rfl⟩
theorem ty16:TyOk Tryz.prog 16 (.ptr):=⟨⟨_,Tryz.underlying16⟩,by unfold ScOk;kernel_rfl⟩
theorem ty17:TyOk Tryz.prog 17 (.ptr):=⟨⟨_,Tryz.underlying17⟩,by unfold ScOk;kernel_rfl⟩
theorem ty18:TyOk Tryz.prog 18 (.struct [0] 1 [.sc (.pointer none)]):=⟨_,Tryz.underlying18,⟨.agg #[.pointer none],by kernel_rfl,rfl,rfl⟩,fun f o h=>match f,h with|0,h=>by cases h;kernel_rfl|(f+1),h=>by simp at h⟩
theorem ty19:TyOk Tryz.prog 19 (.struct [0] 1 [.sc (.pointer none)]):=⟨_,Tryz.underlying19,⟨.agg #[.pointer none],by kernel_rfl,rfl,rfl⟩,fun f o h=>match f,h with|0,h=>by cases h;kernel_rfl|(f+1),h=>by simp at h⟩
theorem ty20:TyOk Tryz.prog 20 (.iface):=⟨⟨_,Tryz.underlying20⟩,by unfold ScOk;kernel_rfl⟩
theorem ty21:TyOk Tryz.prog 21 (.int .i32):=⟨Tryz.underlying21,by unfold ScOk;kernel_rfl⟩
theorem ty22:TyOk Tryz.prog 22 (.slice 5 1 1 [.sc (.int .u8 0)]):=⟨Tryz.underlying22,by unfold ScOk;kernel_rfl,.int .u8 0,by kernel_rfl,rfl,by decide,rfl⟩
theorem ty23:TyOk Tryz.prog 23 (.func):=⟨⟨_,_,_,Tryz.underlying23⟩,by unfold ScOk;kernel_rfl⟩
theorem ty24:TyOk Tryz.prog 24 (.slice 9 1 16 [.sc (.string ⟨#[]⟩)]):=⟨Tryz.underlying24,by unfold ScOk;kernel_rfl,.string ⟨#[]⟩,by kernel_rfl,rfl,by decide,rfl⟩
theorem ty25:TyOk Tryz.prog 25 (.func):=⟨⟨_,_,_,Tryz.underlying25⟩,by unfold ScOk;kernel_rfl⟩
theorem ty26:TyOk Tryz.prog 26 (.func):=⟨⟨_,_,_,Tryz.underlying26⟩,by unfold ScOk;kernel_rfl⟩
theorem ty28:TyOk Tryz.prog 28 (.func):=⟨⟨_,_,_,Tryz.underlying28⟩,by unfold ScOk;kernel_rfl⟩
theorem ty29:TyOk Tryz.prog 29 (.func):=⟨⟨_,_,_,Tryz.underlying29⟩,by unfold ScOk;kernel_rfl⟩
theorem ty30:TyOk Tryz.prog 30 (.func):=⟨⟨_,_,_,Tryz.underlying30⟩,by unfold ScOk;kernel_rfl⟩
theorem ty31:TyOk Tryz.prog 31 (.slice 36 3 40 [.sc (.int .i64 0),.sc (.int .i64 0),.nilS]):=⟨Tryz.underlying31,by unfold ScOk;kernel_rfl,.agg #[.int .i64 0,.int .i64 0,.slice none 0 0],by kernel_rfl,rfl,by decide,rfl⟩
theorem ty32:TyOk Tryz.prog 32 (.slice 3 1 8 [.sc (.int .i64 0)]):=⟨Tryz.underlying32,by unfold ScOk;kernel_rfl,.int .i64 0,by kernel_rfl,rfl,by decide,rfl⟩
theorem ty34:TyOk Tryz.prog 34 (.func):=⟨⟨_,_,_,Tryz.underlying34⟩,by unfold ScOk;kernel_rfl⟩
theorem ty35:TyOk Tryz.prog 35 (.struct [0,1,2] 3 [.sc (.int .i64 0),.sc (.int .i64 0),.nilS]):=⟨_,Tryz.underlying35,⟨.agg #[.int .i64 0,.int .i64 0,.slice none 0 0],by kernel_rfl,rfl,rfl⟩,fun f o h=>match f,h with|0,h=>by cases h;kernel_rfl|1,h=>by cases h;kernel_rfl|2,h=>by cases h;kernel_rfl|(f+3),h=>by simp at h⟩
theorem ty36:TyOk Tryz.prog 36 (.struct [0,1,2] 3 [.sc (.int .i64 0),.sc (.int .i64 0),.nilS]):=⟨_,Tryz.underlying36,⟨.agg #[.int .i64 0,.int .i64 0,.slice none 0 0],by kernel_rfl,rfl,rfl⟩,fun f o h=>match f,h with|0,h=>by cases h;kernel_rfl|1,h=>by cases h;kernel_rfl|2,h=>by cases h;kernel_rfl|(f+3),h=>by simp at h⟩
theorem ty38:TyOk Tryz.prog 38 (.func):=⟨⟨_,_,_,Tryz.underlying38⟩,by unfold ScOk;kernel_rfl⟩
theorem ty39:TyOk Tryz.prog 39 (.func):=⟨⟨_,_,_,Tryz.underlying39⟩,by unfold ScOk;kernel_rfl⟩
theorem ty40:TyOk Tryz.prog 40 (.slice 4 1 1 [.sc (.bool false)]):=⟨Tryz.underlying40,by unfold ScOk;kernel_rfl,.bool false,by kernel_rfl,rfl,by decide,rfl⟩
theorem ty41:TyOk Tryz.prog 41 (.struct [0,1,2,3,4,5] 6 [.sc (.int .i64 0),.sc (.bool false),.sc (.bool false),.nilS,.nilS,.nilS]):=⟨_,Tryz.underlying41,⟨.agg #[.int .i64 0,.bool false,.bool false,.slice none 0 0,.slice none 0 0,.slice none 0 0],by kernel_rfl,rfl,rfl⟩,fun f o h=>match f,h with|0,h=>by cases h;kernel_rfl|1,h=>by cases h;kernel_rfl|2,h=>by cases h;kernel_rfl|3,h=>by cases h;kernel_rfl|4,h=>by cases h;kernel_rfl|5,h=>by cases h;kernel_rfl|(f+6),h=>by simp at h⟩
theorem ty42:TyOk Tryz.prog 42 (.struct [0,1,2,3,4,5] 6 [.sc (.int .i64 0),.sc (.bool false),.sc (.bool false),.nilS,.nilS,.nilS]):=⟨_,Tryz.underlying42,⟨.agg #[.int .i64 0,.bool false,.bool false,.slice none 0 0,.slice none 0 0,.slice none 0 0],by kernel_rfl,rfl,rfl⟩,fun f o h=>match f,h with|0,h=>by cases h;kernel_rfl|1,h=>by cases h;kernel_rfl|2,h=>by cases h;kernel_rfl|3,h=>by cases h;kernel_rfl|4,h=>by cases h;kernel_rfl|5,h=>by cases h;kernel_rfl|(f+6),h=>by simp at h⟩
theorem ty44:TyOk Tryz.prog 44 (.func):=⟨⟨_,_,_,Tryz.underlying44⟩,by unfold ScOk;kernel_rfl⟩
theorem ty45:TyOk Tryz.prog 45 (.struct [0,1,2,3,4,5] 6 [.sc (.int .i64 0),.sc (.int .i64 0),.sc (.int .i64 0),.sc (.bool false),.sc (.bool false),.nilS]):=⟨_,Tryz.underlying45,⟨.agg #[.int .i64 0,.int .i64 0,.int .i64 0,.bool false,.bool false,.slice none 0 0],by kernel_rfl,rfl,rfl⟩,fun f o h=>match f,h with|0,h=>by cases h;kernel_rfl|1,h=>by cases h;kernel_rfl|2,h=>by cases h;kernel_rfl|3,h=>by cases h;kernel_rfl|4,h=>by cases h;kernel_rfl|5,h=>by cases h;kernel_rfl|(f+6),h=>by simp at h⟩
theorem ty46:TyOk Tryz.prog 46 (.struct [0,1,2,3,4,5] 6 [.sc (.int .i64 0),.sc (.int .i64 0),.sc (.int .i64 0),.sc (.bool false),.sc (.bool false),.nilS]):=⟨_,Tryz.underlying46,⟨.agg #[.int .i64 0,.int .i64 0,.int .i64 0,.bool false,.bool false,.slice none 0 0],by kernel_rfl,rfl,rfl⟩,fun f o h=>match f,h with|0,h=>by cases h;kernel_rfl|1,h=>by cases h;kernel_rfl|2,h=>by cases h;kernel_rfl|3,h=>by cases h;kernel_rfl|4,h=>by cases h;kernel_rfl|5,h=>by cases h;kernel_rfl|(f+6),h=>by simp at h⟩
theorem ty47:TyOk Tryz.prog 47 (.slice 82 2 32 [.sc (.bool false),.nilS]):=⟨Tryz.underlying47,by unfold ScOk;kernel_rfl,.agg #[.bool false,.slice none 0 0],by kernel_rfl,rfl,by decide,rfl⟩
theorem ty48:TyOk Tryz.prog 48 (.struct [0,6] 7 [.sc (.int .i64 0),.sc (.int .i64 0),.sc (.int .i64 0),.sc (.bool false),.sc (.bool false),.nilS,.nilS]):=⟨_,Tryz.underlying48,⟨.agg #[.int .i64 0,.int .i64 0,.int .i64 0,.bool false,.bool false,.slice none 0 0,.slice none 0 0],by kernel_rfl,rfl,rfl⟩,fun f o h=>match f,h with|0,h=>by cases h;kernel_rfl|1,h=>by cases h;kernel_rfl|(f+2),h=>by simp at h⟩
theorem ty49:TyOk Tryz.prog 49 (.struct [0,6] 7 [.sc (.int .i64 0),.sc (.int .i64 0),.sc (.int .i64 0),.sc (.bool false),.sc (.bool false),.nilS,.nilS]):=⟨_,Tryz.underlying49,⟨.agg #[.int .i64 0,.int .i64 0,.int .i64 0,.bool false,.bool false,.slice none 0 0,.slice none 0 0],by kernel_rfl,rfl,rfl⟩,fun f o h=>match f,h with|0,h=>by cases h;kernel_rfl|1,h=>by cases h;kernel_rfl|(f+2),h=>by simp at h⟩
theorem ty51:TyOk Tryz.prog 51 (.func):=⟨⟨_,_,_,Tryz.underlying51⟩,by unfold ScOk;kernel_rfl⟩
theorem ty52:TyOk Tryz.prog 52 (.func):=⟨⟨_,_,_,Tryz.underlying52⟩,by unfold ScOk;kernel_rfl⟩
theorem ty53:TyOk Tryz.prog 53 (.func):=⟨⟨_,_,_,Tryz.underlying53⟩,by unfold ScOk;kernel_rfl⟩
theorem ty54:TyOk Tryz.prog 54 (.func):=⟨⟨_,_,_,Tryz.underlying54⟩,by unfold ScOk;kernel_rfl⟩
theorem ty55:TyOk Tryz.prog 55 (.func):=⟨⟨_,_,_,Tryz.underlying55⟩,by unfold ScOk;kernel_rfl⟩
theorem ty56:TyOk Tryz.prog 56 (.func):=⟨⟨_,_,_,Tryz.underlying56⟩,by unfold ScOk;kernel_rfl⟩
theorem ty57:TyOk Tryz.prog 57 (.func):=⟨⟨_,_,_,Tryz.underlying57⟩,by unfold ScOk;kernel_rfl⟩
theorem ty58:TyOk Tryz.prog 58 (.func):=⟨⟨_,_,_,Tryz.underlying58⟩,by unfold ScOk;kernel_rfl⟩
theorem ty59:TyOk Tryz.prog 59 (.struct [0,1,2] 3 [.sc (.int .i64 0),.sc (.int .i64 0),.nilS]):=⟨_,Tryz.underlying59,⟨.agg #[.int .i64 0,.int .i64 0,.slice none 0 0],by kernel_rfl,rfl,rfl⟩,fun f o h=>match f,h with|0,h=>by cases h;kernel_rfl|1,h=>by cases h;kernel_rfl|2,h=>by cases h;kernel_rfl|(f+3),h=>by simp at h⟩
theorem ty60:TyOk Tryz.prog 60 (.struct [0,1,2,3,4,5] 6 [.sc (.int .i64 0),.sc (.bool false),.sc (.bool false),.nilS,.nilS,.nilS]):=⟨_,Tryz.underlying60,⟨.agg #[.int .i64 0,.bool false,.bool false,.slice none 0 0,.slice none 0 0,.slice none 0 0],by kernel_rfl,rfl,rfl⟩,fun f o h=>match f,h with|0,h=>by cases h;kernel_rfl|1,h=>by cases h;kernel_rfl|2,h=>by cases h;kernel_rfl|3,h=>by cases h;kernel_rfl|4,h=>by cases h;kernel_rfl|5,h=>by cases h;kernel_rfl|(f+6),h=>by simp at h⟩
theorem ty61:TyOk Tryz.prog 61 (.func):=⟨⟨_,_,_,Tryz.underlying61⟩,by unfold ScOk;kernel_rfl⟩
theorem ty62:TyOk Tryz.prog 62 (.func):=⟨⟨_,_,_,Tryz.underlying62⟩,by unfold ScOk;kernel_rfl⟩
theorem ty63:TyOk Tryz.prog 63 (.func):=⟨⟨_,_,_,Tryz.underlying63⟩,by unfold ScOk;kernel_rfl⟩
theorem ty64:TyOk Tryz.prog 64 (.func):=⟨⟨_,_,_,Tryz.underlying64⟩,by unfold ScOk;kernel_rfl⟩
theorem ty65:TyOk Tryz.prog 65 (.func):=⟨⟨_,_,_,Tryz.underlying65⟩,by unfold ScOk;kernel_rfl⟩
theorem ty66:TyOk Tryz.prog 66 (.func):=⟨⟨_,_,_,Tryz.underlying66⟩,by unfold ScOk;kernel_rfl⟩
theorem ty67:TyOk Tryz.prog 67 (.func):=⟨⟨_,_,_,Tryz.underlying67⟩,by unfold ScOk;kernel_rfl⟩
theorem ty68:TyOk Tryz.prog 68 (.func):=⟨⟨_,_,_,Tryz.underlying68⟩,by unfold ScOk;kernel_rfl⟩
theorem ty69:TyOk Tryz.prog 69 (.func):=⟨⟨_,_,_,Tryz.underlying69⟩,by unfold ScOk;kernel_rfl⟩
theorem ty70:TyOk Tryz.prog 70 (.func):=⟨⟨_,_,_,Tryz.underlying70⟩,by unfold ScOk;kernel_rfl⟩
theorem ty71:TyOk Tryz.prog 71 (.struct [0,1,2,3,4] 5 [.nilS,.nilS,.sc (.int .i64 0),.sc (.bool false),.sc (.bool false)]):=⟨_,Tryz.underlying71,⟨.agg #[.slice none 0 0,.slice none 0 0,.int .i64 0,.bool false,.bool false],by kernel_rfl,rfl,rfl⟩,fun f o h=>match f,h with|0,h=>by cases h;kernel_rfl|1,h=>by cases h;kernel_rfl|2,h=>by cases h;kernel_rfl|3,h=>by cases h;kernel_rfl|4,h=>by cases h;kernel_rfl|(f+5),h=>by simp at h⟩
theorem ty72:TyOk Tryz.prog 72 (.struct [0,1,2,3,4] 5 [.nilS,.nilS,.sc (.int .i64 0),.sc (.bool false),.sc (.bool false)]):=⟨_,Tryz.underlying72,⟨.agg #[.slice none 0 0,.slice none 0 0,.int .i64 0,.bool false,.bool false],by kernel_rfl,rfl,rfl⟩,fun f o h=>match f,h with|0,h=>by cases h;kernel_rfl|1,h=>by cases h;kernel_rfl|2,h=>by cases h;kernel_rfl|3,h=>by cases h;kernel_rfl|4,h=>by cases h;kernel_rfl|(f+5),h=>by simp at h⟩
theorem ty74:TyOk Tryz.prog 74 (.func):=⟨⟨_,_,_,Tryz.underlying74⟩,by unfold ScOk;kernel_rfl⟩
theorem ty75:TyOk Tryz.prog 75 (.func):=⟨⟨_,_,_,Tryz.underlying75⟩,by unfold ScOk;kernel_rfl⟩
theorem ty76:TyOk Tryz.prog 76 (.func):=⟨⟨_,_,_,Tryz.underlying76⟩,by unfold ScOk;kernel_rfl⟩
theorem ty77:TyOk Tryz.prog 77 (.func):=⟨⟨_,_,_,Tryz.underlying77⟩,by unfold ScOk;kernel_rfl⟩
theorem ty78:TyOk Tryz.prog 78 (.func):=⟨⟨_,_,_,Tryz.underlying78⟩,by unfold ScOk;kernel_rfl⟩
theorem ty79:TyOk Tryz.prog 79 (.func):=⟨⟨_,_,_,Tryz.underlying79⟩,by unfold ScOk;kernel_rfl⟩
theorem ty80:TyOk Tryz.prog 80 (.slice 84 2 32 [.sc (.int .i64 0),.nilS]):=⟨Tryz.underlying80,by unfold ScOk;kernel_rfl,.agg #[.int .i64 0,.slice none 0 0],by kernel_rfl,rfl,by decide,rfl⟩
theorem ty81:TyOk Tryz.prog 81 (.struct [0,1] 2 [.sc (.bool false),.nilS]):=⟨_,Tryz.underlying81,⟨.agg #[.bool false,.slice none 0 0],by kernel_rfl,rfl,rfl⟩,fun f o h=>match f,h with|0,h=>by cases h;kernel_rfl|1,h=>by cases h;kernel_rfl|(f+2),h=>by simp at h⟩
theorem ty82:TyOk Tryz.prog 82 (.struct [0,1] 2 [.sc (.bool false),.nilS]):=⟨_,Tryz.underlying82,⟨.agg #[.bool false,.slice none 0 0],by kernel_rfl,rfl,rfl⟩,fun f o h=>match f,h with|0,h=>by cases h;kernel_rfl|1,h=>by cases h;kernel_rfl|(f+2),h=>by simp at h⟩
theorem ty83:TyOk Tryz.prog 83 (.struct [0,1] 2 [.sc (.int .i64 0),.nilS]):=⟨_,Tryz.underlying83,⟨.agg #[.int .i64 0,.slice none 0 0],by kernel_rfl,rfl,rfl⟩,fun f o h=>match f,h with|0,h=>by cases h;kernel_rfl|1,h=>by cases h;kernel_rfl|(f+2),h=>by simp at h⟩
theorem ty84:TyOk Tryz.prog 84 (.struct [0,1] 2 [.sc (.int .i64 0),.nilS]):=⟨_,Tryz.underlying84,⟨.agg #[.int .i64 0,.slice none 0 0],by kernel_rfl,rfl,rfl⟩,fun f o h=>match f,h with|0,h=>by cases h;kernel_rfl|1,h=>by cases h;kernel_rfl|(f+2),h=>by simp at h⟩
theorem ty85:TyOk Tryz.prog 85 (.func):=⟨⟨_,_,_,Tryz.underlying85⟩,by unfold ScOk;kernel_rfl⟩
theorem ty86:TyOk Tryz.prog 86 (.func):=⟨⟨_,_,_,Tryz.underlying86⟩,by unfold ScOk;kernel_rfl⟩
theorem ty87:TyOk Tryz.prog 87 (.func):=⟨⟨_,_,_,Tryz.underlying87⟩,by unfold ScOk;kernel_rfl⟩
theorem ty88:TyOk Tryz.prog 88 (.ptr):=⟨⟨_,Tryz.underlying88⟩,by unfold ScOk;kernel_rfl⟩
theorem ty89:TyOk Tryz.prog 89 (.func):=⟨⟨_,_,_,Tryz.underlying89⟩,by unfold ScOk;kernel_rfl⟩
theorem ty90:TyOk Tryz.prog 90 (.func):=⟨⟨_,_,_,Tryz.underlying90⟩,by unfold ScOk;kernel_rfl⟩
theorem ty92:TyOk Tryz.prog 92 (.func):=⟨⟨_,_,_,Tryz.underlying92⟩,by unfold ScOk;kernel_rfl⟩
theorem ty93:TyOk Tryz.prog 93 (.func):=⟨⟨_,_,_,Tryz.underlying93⟩,by unfold ScOk;kernel_rfl⟩
theorem ty94:TyOk Tryz.prog 94 (.func):=⟨⟨_,_,_,Tryz.underlying94⟩,by unfold ScOk;kernel_rfl⟩
theorem ty95:TyOk Tryz.prog 95 (.func):=⟨⟨_,_,_,Tryz.underlying95⟩,by unfold ScOk;kernel_rfl⟩
theorem ty96:TyOk Tryz.prog 96 (.func):=⟨⟨_,_,_,Tryz.underlying96⟩,by unfold ScOk;kernel_rfl⟩
theorem ty97:TyOk Tryz.prog 97 (.func):=⟨⟨_,_,_,Tryz.underlying97⟩,by unfold ScOk;kernel_rfl⟩
theorem ty98:TyOk Tryz.prog 98 (.func):=⟨⟨_,_,_,Tryz.underlying98⟩,by unfold ScOk;kernel_rfl⟩
theorem ty99:TyOk Tryz.prog 99 (.func):=⟨⟨_,_,_,Tryz.underlying99⟩,by unfold ScOk;kernel_rfl⟩
theorem ty101:TyOk Tryz.prog 101 (.func):=⟨⟨_,_,_,Tryz.underlying101⟩,by unfold ScOk;kernel_rfl⟩
theorem ty102:TyOk Tryz.prog 102 (.func):=⟨⟨_,_,_,Tryz.underlying102⟩,by unfold ScOk;kernel_rfl⟩
theorem ty103:TyOk Tryz.prog 103 (.func):=⟨⟨_,_,_,Tryz.underlying103⟩,by unfold ScOk;kernel_rfl⟩
theorem ty104:TyOk Tryz.prog 104 (.func):=⟨⟨_,_,_,Tryz.underlying104⟩,by unfold ScOk;kernel_rfl⟩
theorem ty105:TyOk Tryz.prog 105 (.func):=⟨⟨_,_,_,Tryz.underlying105⟩,by unfold ScOk;kernel_rfl⟩
theorem ty106:TyOk Tryz.prog 106 (.func):=⟨⟨_,_,_,Tryz.underlying106⟩,by unfold ScOk;kernel_rfl⟩
theorem ty107:TyOk Tryz.prog 107 (.func):=⟨⟨_,_,_,Tryz.underlying107⟩,by unfold ScOk;kernel_rfl⟩
theorem ty108:TyOk Tryz.prog 108 (.func):=⟨⟨_,_,_,Tryz.underlying108⟩,by unfold ScOk;kernel_rfl⟩
theorem ty109:TyOk Tryz.prog 109 (.func):=⟨⟨_,_,_,Tryz.underlying109⟩,by unfold ScOk;kernel_rfl⟩
theorem ty110:TyOk Tryz.prog 110 (.func):=⟨⟨_,_,_,Tryz.underlying110⟩,by unfold ScOk;kernel_rfl⟩
theorem ty111:TyOk Tryz.prog 111 (.func):=⟨⟨_,_,_,Tryz.underlying111⟩,by unfold ScOk;kernel_rfl⟩
theorem ty112:TyOk Tryz.prog 112 (.func):=⟨⟨_,_,_,Tryz.underlying112⟩,by unfold ScOk;kernel_rfl⟩
theorem ty113:TyOk Tryz.prog 113 (.func):=⟨⟨_,_,_,Tryz.underlying113⟩,by unfold ScOk;kernel_rfl⟩
theorem ty114:TyOk Tryz.prog 114 (.func):=⟨⟨_,_,_,Tryz.underlying114⟩,by unfold ScOk;kernel_rfl⟩
theorem ty116:TyOk Tryz.prog 116 (.func):=⟨⟨_,_,_,Tryz.underlying116⟩,by unfold ScOk;kernel_rfl⟩
theorem ty117:TyOk Tryz.prog 117 (.func):=⟨⟨_,_,_,Tryz.underlying117⟩,by unfold ScOk;kernel_rfl⟩
theorem ty118:TyOk Tryz.prog 118 (.func):=⟨⟨_,_,_,Tryz.underlying118⟩,by unfold ScOk;kernel_rfl⟩
theorem ty119:TyOk Tryz.prog 119 (.func):=⟨⟨_,_,_,Tryz.underlying119⟩,by unfold ScOk;kernel_rfl⟩
theorem ty120:TyOk Tryz.prog 120 (.func):=⟨⟨_,_,_,Tryz.underlying120⟩,by unfold ScOk;kernel_rfl⟩
theorem ty121:TyOk Tryz.prog 121 (.func):=⟨⟨_,_,_,Tryz.underlying121⟩,by unfold ScOk;kernel_rfl⟩
theorem ty122:TyOk Tryz.prog 122 (.func):=⟨⟨_,_,_,Tryz.underlying122⟩,by unfold ScOk;kernel_rfl⟩
theorem ty123:TyOk Tryz.prog 123 (.func):=⟨⟨_,_,_,Tryz.underlying123⟩,by unfold ScOk;kernel_rfl⟩
theorem ty124:TyOk Tryz.prog 124 (.func):=⟨⟨_,_,_,Tryz.underlying124⟩,by unfold ScOk;kernel_rfl⟩
theorem ty126:TyOk Tryz.prog 126 (.func):=⟨⟨_,_,_,Tryz.underlying126⟩,by unfold ScOk;kernel_rfl⟩
theorem ty127:TyOk Tryz.prog 127 (.func):=⟨⟨_,_,_,Tryz.underlying127⟩,by unfold ScOk;kernel_rfl⟩
theorem ty128:TyOk Tryz.prog 128 (.func):=⟨⟨_,_,_,Tryz.underlying128⟩,by unfold ScOk;kernel_rfl⟩
theorem ty129:TyOk Tryz.prog 129 (.func):=⟨⟨_,_,_,Tryz.underlying129⟩,by unfold ScOk;kernel_rfl⟩
theorem ty130:TyOk Tryz.prog 130 (.func):=⟨⟨_,_,_,Tryz.underlying130⟩,by unfold ScOk;kernel_rfl⟩
theorem ty131:TyOk Tryz.prog 131 (.func):=⟨⟨_,_,_,Tryz.underlying131⟩,by unfold ScOk;kernel_rfl⟩
theorem ty132:TyOk Tryz.prog 132 (.func):=⟨⟨_,_,_,Tryz.underlying132⟩,by unfold ScOk;kernel_rfl⟩
theorem ty133:TyOk Tryz.prog 133 (.func):=⟨⟨_,_,_,Tryz.underlying133⟩,by unfold ScOk;kernel_rfl⟩
theorem ty134:TyOk Tryz.prog 134 (.func):=⟨⟨_,_,_,Tryz.underlying134⟩,by unfold ScOk;kernel_rfl⟩
theorem ty135:TyOk Tryz.prog 135 (.func):=⟨⟨_,_,_,Tryz.underlying135⟩,by unfold ScOk;kernel_rfl⟩
theorem ty136:TyOk Tryz.prog 136 (.func):=⟨⟨_,_,_,Tryz.underlying136⟩,by unfold ScOk;kernel_rfl⟩
theorem ty137:TyOk Tryz.prog 137 (.struct [0,1,2] 3 [.nilS,.sc (.int .i64 0),.sc (.int .i64 0)]):=⟨_,Tryz.underlying137,⟨.agg #[.slice none 0 0,.int .i64 0,.int .i64 0],by kernel_rfl,rfl,rfl⟩,fun f o h=>match f,h with|0,h=>by cases h;kernel_rfl|1,h=>by cases h;kernel_rfl|2,h=>by cases h;kernel_rfl|(f+3),h=>by simp at h⟩
theorem ty138:TyOk Tryz.prog 138 (.struct [0,1,2] 3 [.nilS,.sc (.int .i64 0),.sc (.int .i64 0)]):=⟨_,Tryz.underlying138,⟨.agg #[.slice none 0 0,.int .i64 0,.int .i64 0],by kernel_rfl,rfl,rfl⟩,fun f o h=>match f,h with|0,h=>by cases h;kernel_rfl|1,h=>by cases h;kernel_rfl|2,h=>by cases h;kernel_rfl|(f+3),h=>by simp at h⟩
theorem ty139:TyOk Tryz.prog 139 (.func):=⟨⟨_,_,_,Tryz.underlying139⟩,by unfold ScOk;kernel_rfl⟩
theorem ty140:TyOk Tryz.prog 140 (.int .u64):=⟨Tryz.underlying140,by unfold ScOk;kernel_rfl⟩
theorem ty141:TyOk Tryz.prog 141 (.func):=⟨⟨_,_,_,Tryz.underlying141⟩,by unfold ScOk;kernel_rfl⟩
theorem ty142:TyOk Tryz.prog 142 (.func):=⟨⟨_,_,_,Tryz.underlying142⟩,by unfold ScOk;kernel_rfl⟩
theorem ty143:TyOk Tryz.prog 143 (.func):=⟨⟨_,_,_,Tryz.underlying143⟩,by unfold ScOk;kernel_rfl⟩
theorem ty144:TyOk Tryz.prog 144 (.func):=⟨⟨_,_,_,Tryz.underlying144⟩,by unfold ScOk;kernel_rfl⟩
theorem ty145:TyOk Tryz.prog 145 (.func):=⟨⟨_,_,_,Tryz.underlying145⟩,by unfold ScOk;kernel_rfl⟩
theorem ty146:TyOk Tryz.prog 146 (.slice 149 3 24 [.sc (.int .i64 0),.sc (.int .i64 0),.sc (.int .i64 0)]):=⟨Tryz.underlying146,by unfold ScOk;kernel_rfl,.agg #[.int .i64 0,.int .i64 0,.int .i64 0],by kernel_rfl,rfl,by decide,rfl⟩
theorem ty147:TyOk Tryz.prog 147 (.func):=⟨⟨_,_,_,Tryz.underlying147⟩,by unfold ScOk;kernel_rfl⟩
theorem ty148:TyOk Tryz.prog 148 (.struct [0,1,2] 3 [.sc (.int .i64 0),.sc (.int .i64 0),.sc (.int .i64 0)]):=⟨_,Tryz.underlying148,⟨.agg #[.int .i64 0,.int .i64 0,.int .i64 0],by kernel_rfl,rfl,rfl⟩,fun f o h=>match f,h with|0,h=>by cases h;kernel_rfl|1,h=>by cases h;kernel_rfl|2,h=>by cases h;kernel_rfl|(f+3),h=>by simp at h⟩
theorem ty149:TyOk Tryz.prog 149 (.struct [0,1,2] 3 [.sc (.int .i64 0),.sc (.int .i64 0),.sc (.int .i64 0)]):=⟨_,Tryz.underlying149,⟨.agg #[.int .i64 0,.int .i64 0,.int .i64 0],by kernel_rfl,rfl,rfl⟩,fun f o h=>match f,h with|0,h=>by cases h;kernel_rfl|1,h=>by cases h;kernel_rfl|2,h=>by cases h;kernel_rfl|(f+3),h=>by simp at h⟩
theorem ty150:TyOk Tryz.prog 150 (.func):=⟨⟨_,_,_,Tryz.underlying150⟩,by unfold ScOk;kernel_rfl⟩
theorem ty151:TyOk Tryz.prog 151 (.struct [0,1] 2 [.sc (.string ⟨#[]⟩),.sc (.int .i64 0)]):=⟨_,Tryz.underlying151,⟨.agg #[.string ⟨#[]⟩,.int .i64 0],by kernel_rfl,rfl,rfl⟩,fun f o h=>match f,h with|0,h=>by cases h;kernel_rfl|1,h=>by cases h;kernel_rfl|(f+2),h=>by simp at h⟩
theorem ty152:TyOk Tryz.prog 152 (.struct [0,1] 2 [.sc (.string ⟨#[]⟩),.sc (.int .i64 0)]):=⟨_,Tryz.underlying152,⟨.agg #[.string ⟨#[]⟩,.int .i64 0],by kernel_rfl,rfl,rfl⟩,fun f o h=>match f,h with|0,h=>by cases h;kernel_rfl|1,h=>by cases h;kernel_rfl|(f+2),h=>by simp at h⟩
theorem ty154:TyOk Tryz.prog 154 (.func):=⟨⟨_,_,_,Tryz.underlying154⟩,by unfold ScOk;kernel_rfl⟩
theorem ty156:TyOk Tryz.prog 156 (.func):=⟨⟨_,_,_,Tryz.underlying156⟩,by unfold ScOk;kernel_rfl⟩
theorem ty157:TyOk Tryz.prog 157 (.func):=⟨⟨_,_,_,Tryz.underlying157⟩,by unfold ScOk;kernel_rfl⟩
theorem ty158:TyOk Tryz.prog 158 (.func):=⟨⟨_,_,_,Tryz.underlying158⟩,by unfold ScOk;kernel_rfl⟩
theorem ty159:TyOk Tryz.prog 159 (.func):=⟨⟨_,_,_,Tryz.underlying159⟩,by unfold ScOk;kernel_rfl⟩
theorem ty160:TyOk Tryz.prog 160 (.func):=⟨⟨_,_,_,Tryz.underlying160⟩,by unfold ScOk;kernel_rfl⟩
theorem ty162:TyOk Tryz.prog 162 (.func):=⟨⟨_,_,_,Tryz.underlying162⟩,by unfold ScOk;kernel_rfl⟩
theorem ty163:TyOk Tryz.prog 163 (.func):=⟨⟨_,_,_,Tryz.underlying163⟩,by unfold ScOk;kernel_rfl⟩
theorem ty164:TyOk Tryz.prog 164 (.func):=⟨⟨_,_,_,Tryz.underlying164⟩,by unfold ScOk;kernel_rfl⟩
theorem ty165:TyOk Tryz.prog 165 (.func):=⟨⟨_,_,_,Tryz.underlying165⟩,by unfold ScOk;kernel_rfl⟩
theorem ty166:TyOk Tryz.prog 166 (.func):=⟨⟨_,_,_,Tryz.underlying166⟩,by unfold ScOk;kernel_rfl⟩
theorem ty167:TyOk Tryz.prog 167 (.func):=⟨⟨_,_,_,Tryz.underlying167⟩,by unfold ScOk;kernel_rfl⟩
theorem ty168:TyOk Tryz.prog 168 (.func):=⟨⟨_,_,_,Tryz.underlying168⟩,by unfold ScOk;kernel_rfl⟩
theorem ty169:TyOk Tryz.prog 169 (.func):=⟨⟨_,_,_,Tryz.underlying169⟩,by unfold ScOk;kernel_rfl⟩
theorem ty170:TyOk Tryz.prog 170 (.func):=⟨⟨_,_,_,Tryz.underlying170⟩,by unfold ScOk;kernel_rfl⟩
theorem ty171:TyOk Tryz.prog 171 (.func):=⟨⟨_,_,_,Tryz.underlying171⟩,by unfold ScOk;kernel_rfl⟩
theorem ty172:TyOk Tryz.prog 172 (.func):=⟨⟨_,_,_,Tryz.underlying172⟩,by unfold ScOk;kernel_rfl⟩
theorem ty173:TyOk Tryz.prog 173 (.func):=⟨⟨_,_,_,Tryz.underlying173⟩,by unfold ScOk;kernel_rfl⟩
theorem ty174:TyOk Tryz.prog 174 (.func):=⟨⟨_,_,_,Tryz.underlying174⟩,by unfold ScOk;kernel_rfl⟩
theorem ty175:TyOk Tryz.prog 175 (.func):=⟨⟨_,_,_,Tryz.underlying175⟩,by unfold ScOk;kernel_rfl⟩
theorem ty176:TyOk Tryz.prog 176 (.func):=⟨⟨_,_,_,Tryz.underlying176⟩,by unfold ScOk;kernel_rfl⟩
theorem ty177:TyOk Tryz.prog 177 (.func):=⟨⟨_,_,_,Tryz.underlying177⟩,by unfold ScOk;kernel_rfl⟩
theorem ty178:TyOk Tryz.prog 178 (.func):=⟨⟨_,_,_,Tryz.underlying178⟩,by unfold ScOk;kernel_rfl⟩
theorem ty179:TyOk Tryz.prog 179 (.func):=⟨⟨_,_,_,Tryz.underlying179⟩,by unfold ScOk;kernel_rfl⟩
theorem ty180:TyOk Tryz.prog 180 (.func):=⟨⟨_,_,_,Tryz.underlying180⟩,by unfold ScOk;kernel_rfl⟩
theorem ty181:TyOk Tryz.prog 181 (.func):=⟨⟨_,_,_,Tryz.underlying181⟩,by unfold ScOk;kernel_rfl⟩
theorem ty182:TyOk Tryz.prog 182 (.func):=⟨⟨_,_,_,Tryz.underlying182⟩,by unfold ScOk;kernel_rfl⟩
theorem ty183:TyOk Tryz.prog 183 (.ptr):=⟨⟨_,Tryz.underlying183⟩,by unfold ScOk;kernel_rfl⟩
theorem ty184:TyOk Tryz.prog 184 (.struct [0,2] 3 [.sc (.string ⟨#[]⟩),.sc (.int .i64 0),.sc (.int .i64 0)]):=⟨_,Tryz.underlying184,⟨.agg #[.string ⟨#[]⟩,.int .i64 0,.int .i64 0],by kernel_rfl,rfl,rfl⟩,fun f o h=>match f,h with|0,h=>by cases h;kernel_rfl|1,h=>by cases h;kernel_rfl|(f+2),h=>by simp at h⟩
theorem ty185:TyOk Tryz.prog 185 (.struct [0,2] 3 [.sc (.string ⟨#[]⟩),.sc (.int .i64 0),.sc (.int .i64 0)]):=⟨_,Tryz.underlying185,⟨.agg #[.string ⟨#[]⟩,.int .i64 0,.int .i64 0],by kernel_rfl,rfl,rfl⟩,fun f o h=>match f,h with|0,h=>by cases h;kernel_rfl|1,h=>by cases h;kernel_rfl|(f+2),h=>by simp at h⟩
theorem ty186:TyOk Tryz.prog 186 (.func):=⟨⟨_,_,_,Tryz.underlying186⟩,by unfold ScOk;kernel_rfl⟩
theorem ty187:TyOk Tryz.prog 187 (.func):=⟨⟨_,_,_,Tryz.underlying187⟩,by unfold ScOk;kernel_rfl⟩
theorem ty188:TyOk Tryz.prog 188 (.func):=⟨⟨_,_,_,Tryz.underlying188⟩,by unfold ScOk;kernel_rfl⟩
theorem ty189:TyOk Tryz.prog 189 (.func):=⟨⟨_,_,_,Tryz.underlying189⟩,by unfold ScOk;kernel_rfl⟩
theorem ty191:TyOk Tryz.prog 191 (.func):=⟨⟨_,_,_,Tryz.underlying191⟩,by unfold ScOk;kernel_rfl⟩
theorem ty193:TyOk Tryz.prog 193 (.func):=⟨⟨_,_,_,Tryz.underlying193⟩,by unfold ScOk;kernel_rfl⟩
theorem ty194:TyOk Tryz.prog 194 (.func):=⟨⟨_,_,_,Tryz.underlying194⟩,by unfold ScOk;kernel_rfl⟩
theorem ty195:TyOk Tryz.prog 195 (.func):=⟨⟨_,_,_,Tryz.underlying195⟩,by unfold ScOk;kernel_rfl⟩
theorem ty196:TyOk Tryz.prog 196 (.func):=⟨⟨_,_,_,Tryz.underlying196⟩,by unfold ScOk;kernel_rfl⟩
theorem ty197:TyOk Tryz.prog 197 (.func):=⟨⟨_,_,_,Tryz.underlying197⟩,by unfold ScOk;kernel_rfl⟩
theorem ty198:TyOk Tryz.prog 198 (.func):=⟨⟨_,_,_,Tryz.underlying198⟩,by unfold ScOk;kernel_rfl⟩
theorem ty199:TyOk Tryz.prog 199 (.func):=⟨⟨_,_,_,Tryz.underlying199⟩,by unfold ScOk;kernel_rfl⟩
theorem ty200:TyOk Tryz.prog 200 (.func):=⟨⟨_,_,_,Tryz.underlying200⟩,by unfold ScOk;kernel_rfl⟩
theorem ty201:TyOk Tryz.prog 201 (.func):=⟨⟨_,_,_,Tryz.underlying201⟩,by unfold ScOk;kernel_rfl⟩
theorem ty202:TyOk Tryz.prog 202 (.func):=⟨⟨_,_,_,Tryz.underlying202⟩,by unfold ScOk;kernel_rfl⟩
theorem ty203:TyOk Tryz.prog 203 (.func):=⟨⟨_,_,_,Tryz.underlying203⟩,by unfold ScOk;kernel_rfl⟩
theorem ty204:TyOk Tryz.prog 204 (.slice 32 1 24 [.nilS]):=⟨Tryz.underlying204,by unfold ScOk;kernel_rfl,.slice none 0 0,by kernel_rfl,rfl,by decide,rfl⟩
theorem ty205:TyOk Tryz.prog 205 (.func):=⟨⟨_,_,_,Tryz.underlying205⟩,by unfold ScOk;kernel_rfl⟩
theorem ty206:TyOk Tryz.prog 206 (.func):=⟨⟨_,_,_,Tryz.underlying206⟩,by unfold ScOk;kernel_rfl⟩
theorem ty207:TyOk Tryz.prog 207 (.func):=⟨⟨_,_,_,Tryz.underlying207⟩,by unfold ScOk;kernel_rfl⟩
theorem ty208:TyOk Tryz.prog 208 (.func):=⟨⟨_,_,_,Tryz.underlying208⟩,by unfold ScOk;kernel_rfl⟩
theorem ty209:TyOk Tryz.prog 209 (.func):=⟨⟨_,_,_,Tryz.underlying209⟩,by unfold ScOk;kernel_rfl⟩
theorem ty210:TyOk Tryz.prog 210 (.func):=⟨⟨_,_,_,Tryz.underlying210⟩,by unfold ScOk;kernel_rfl⟩
theorem ty211:TyOk Tryz.prog 211 (.func):=⟨⟨_,_,_,Tryz.underlying211⟩,by unfold ScOk;kernel_rfl⟩
theorem ty213:TyOk Tryz.prog 213 (.func):=⟨⟨_,_,_,Tryz.underlying213⟩,by unfold ScOk;kernel_rfl⟩
theorem ty214:TyOk Tryz.prog 214 (.func):=⟨⟨_,_,_,Tryz.underlying214⟩,by unfold ScOk;kernel_rfl⟩
theorem ty215:TyOk Tryz.prog 215 (.func):=⟨⟨_,_,_,Tryz.underlying215⟩,by unfold ScOk;kernel_rfl⟩
theorem ty216:TyOk Tryz.prog 216 (.func):=⟨⟨_,_,_,Tryz.underlying216⟩,by unfold ScOk;kernel_rfl⟩
theorem ty217:TyOk Tryz.prog 217 (.func):=⟨⟨_,_,_,Tryz.underlying217⟩,by unfold ScOk;kernel_rfl⟩
theorem ty218:TyOk Tryz.prog 218 (.slice 221 2 16 [.sc (.int .i64 0),.sc (.int .i64 0)]):=⟨Tryz.underlying218,by unfold ScOk;kernel_rfl,.agg #[.int .i64 0,.int .i64 0],by kernel_rfl,rfl,by decide,rfl⟩
theorem ty219:TyOk Tryz.prog 219 (.func):=⟨⟨_,_,_,Tryz.underlying219⟩,by unfold ScOk;kernel_rfl⟩
theorem ty220:TyOk Tryz.prog 220 (.struct [0,1] 2 [.sc (.int .i64 0),.sc (.int .i64 0)]):=⟨_,Tryz.underlying220,⟨.agg #[.int .i64 0,.int .i64 0],by kernel_rfl,rfl,rfl⟩,fun f o h=>match f,h with|0,h=>by cases h;kernel_rfl|1,h=>by cases h;kernel_rfl|(f+2),h=>by simp at h⟩
theorem ty221:TyOk Tryz.prog 221 (.struct [0,1] 2 [.sc (.int .i64 0),.sc (.int .i64 0)]):=⟨_,Tryz.underlying221,⟨.agg #[.int .i64 0,.int .i64 0],by kernel_rfl,rfl,rfl⟩,fun f o h=>match f,h with|0,h=>by cases h;kernel_rfl|1,h=>by cases h;kernel_rfl|(f+2),h=>by simp at h⟩
theorem ty222:TyOk Tryz.prog 222 (.func):=⟨⟨_,_,_,Tryz.underlying222⟩,by unfold ScOk;kernel_rfl⟩
theorem ty224:TyOk Tryz.prog 224 (.func):=⟨⟨_,_,_,Tryz.underlying224⟩,by unfold ScOk;kernel_rfl⟩
theorem ty225:TyOk Tryz.prog 225 (.func):=⟨⟨_,_,_,Tryz.underlying225⟩,by unfold ScOk;kernel_rfl⟩
theorem ty226:TyOk Tryz.prog 226 (.func):=⟨⟨_,_,_,Tryz.underlying226⟩,by unfold ScOk;kernel_rfl⟩
theorem ty227:TyOk Tryz.prog 227 (.func):=⟨⟨_,_,_,Tryz.underlying227⟩,by unfold ScOk;kernel_rfl⟩
theorem ty228:TyOk Tryz.prog 228 (.func):=⟨⟨_,_,_,Tryz.underlying228⟩,by unfold ScOk;kernel_rfl⟩
theorem ty229:TyOk Tryz.prog 229 (.func):=⟨⟨_,_,_,Tryz.underlying229⟩,by unfold ScOk;kernel_rfl⟩
theorem ty230:TyOk Tryz.prog 230 (.int .u32):=⟨Tryz.underlying230,by unfold ScOk;kernel_rfl⟩
theorem ty231:TyOk Tryz.prog 231 (.func):=⟨⟨_,_,_,Tryz.underlying231⟩,by unfold ScOk;kernel_rfl⟩
theorem ty232:TyOk Tryz.prog 232 (.int .u64):=⟨Tryz.underlying232,by unfold ScOk;kernel_rfl⟩
theorem ty233:TyOk Tryz.prog 233 (.func):=⟨⟨_,_,_,Tryz.underlying233⟩,by unfold ScOk;kernel_rfl⟩
theorem ty234:TyOk Tryz.prog 234 (.struct [0,1,2,3] 4 [.sc (.pointer none),.sc (.pointer none),.sc (.pointer none),.sc (.string ⟨#[]⟩)]):=⟨_,Tryz.underlying234,⟨.agg #[.pointer none,.pointer none,.pointer none,.string ⟨#[]⟩],by kernel_rfl,rfl,rfl⟩,fun f o h=>match f,h with|0,h=>by cases h;kernel_rfl|1,h=>by cases h;kernel_rfl|2,h=>by cases h;kernel_rfl|3,h=>by cases h;kernel_rfl|(f+4),h=>by simp at h⟩
theorem ty235:TyOk Tryz.prog 235 (.struct [0,1,2,3] 4 [.sc (.pointer none),.sc (.pointer none),.sc (.pointer none),.sc (.string ⟨#[]⟩)]):=⟨_,Tryz.underlying235,⟨.agg #[.pointer none,.pointer none,.pointer none,.string ⟨#[]⟩],by kernel_rfl,rfl,rfl⟩,fun f o h=>match f,h with|0,h=>by cases h;kernel_rfl|1,h=>by cases h;kernel_rfl|2,h=>by cases h;kernel_rfl|3,h=>by cases h;kernel_rfl|(f+4),h=>by simp at h⟩
theorem ty239:TyOk Tryz.prog 239 (.int .u8):=⟨Tryz.underlying239,by unfold ScOk;kernel_rfl⟩
theorem ty240:TyOk Tryz.prog 240 (.int .u8):=⟨Tryz.underlying240,by unfold ScOk;kernel_rfl⟩
theorem ty241:TyOk Tryz.prog 241 (.func):=⟨⟨_,_,_,Tryz.underlying241⟩,by unfold ScOk;kernel_rfl⟩
theorem ty242:TyOk Tryz.prog 242 (.ptr):=⟨⟨_,Tryz.underlying242⟩,by unfold ScOk;kernel_rfl⟩
theorem ty243:TyOk Tryz.prog 243 (.int .i32):=⟨Tryz.underlying243,by unfold ScOk;kernel_rfl⟩
theorem ty244:TyOk Tryz.prog 244 (.int .i32):=⟨Tryz.underlying244,by unfold ScOk;kernel_rfl⟩
def tab:List (Nat×Ty):=[(1,.func),(2,.int .i64),(3,.int .i64),(4,.bool),(5,.int .u8),(6,.int .u8),(7,.struct [0,1,2,3] 4 [.sc (.int .i64 0),.sc (.int .i64 0),.sc (.bool false),.sc (.int .u8 0)]),(8,.struct [0,1,2,3] 4 [.sc (.int .i64 0),.sc (.int .i64 0),.sc (.bool false),.sc (.int .u8 0)]),(9,.string),(10,.string),(11,.string),(12,.int .u64),(13,.struct [0,1] 2 [.sc (.string ⟨#[]⟩),.sc (.int .u64 0)]),(14,.struct [0,1] 2 [.sc (.string ⟨#[]⟩),.sc (.int .u64 0)]),(15,.ptr),(16,.ptr),(17,.ptr),(18,.struct [0] 1 [.sc (.pointer none)]),(19,.struct [0] 1 [.sc (.pointer none)]),(20,.iface),(21,.int .i32),(22,.slice 5 1 1 [.sc (.int .u8 0)]),(23,.func),(24,.slice 9 1 16 [.sc (.string ⟨#[]⟩)]),(25,.func),(26,.func),(28,.func),(29,.func),(30,.func),(31,.slice 36 3 40 [.sc (.int .i64 0),.sc (.int .i64 0),.nilS]),(32,.slice 3 1 8 [.sc (.int .i64 0)]),(34,.func),(35,.struct [0,1,2] 3 [.sc (.int .i64 0),.sc (.int .i64 0),.nilS]),(36,.struct [0,1,2] 3 [.sc (.int .i64 0),.sc (.int .i64 0),.nilS]),(38,.func),(39,.func),(40,.slice 4 1 1 [.sc (.bool false)]),(41,.struct [0,1,2,3,4,5] 6 [.sc (.int .i64 0),.sc (.bool false),.sc (.bool false),.nilS,.nilS,.nilS]),(42,.struct [0,1,2,3,4,5] 6 [.sc (.int .i64 0),.sc (.bool false),.sc (.bool false),.nilS,.nilS,.nilS]),(44,.func),(45,.struct [0,1,2,3,4,5] 6 [.sc (.int .i64 0),.sc (.int .i64 0),.sc (.int .i64 0),.sc (.bool false),.sc (.bool false),.nilS]),(46,.struct [0,1,2,3,4,5] 6 [.sc (.int .i64 0),.sc (.int .i64 0),.sc (.int .i64 0),.sc (.bool false),.sc (.bool false),.nilS]),(47,.slice 82 2 32 [.sc (.bool false),.nilS]),(48,.struct [0,6] 7 [.sc (.int .i64 0),.sc (.int .i64 0),.sc (.int .i64 0),.sc (.bool false),.sc (.bool false),.nilS,.nilS]),(49,.struct [0,6] 7 [.sc (.int .i64 0),.sc (.int .i64 0),.sc (.int .i64 0),.sc (.bool false),.sc (.bool false),.nilS,.nilS]),(51,.func),(52,.func),(53,.func),(54,.func),(55,.func),(56,.func),(57,.func),(58,.func),(59,.struct [0,1,2] 3 [.sc (.int .i64 0),.sc (.int .i64 0),.nilS]),(60,.struct [0,1,2,3,4,5] 6 [.sc (.int .i64 0),.sc (.bool false),.sc (.bool false),.nilS,.nilS,.nilS]),(61,.func),(62,.func),(63,.func),(64,.func),(65,.func),(66,.func),(67,.func),(68,.func),(69,.func),(70,.func),(71,.struct [0,1,2,3,4] 5 [.nilS,.nilS,.sc (.int .i64 0),.sc (.bool false),.sc (.bool false)]),(72,.struct [0,1,2,3,4] 5 [.nilS,.nilS,.sc (.int .i64 0),.sc (.bool false),.sc (.bool false)]),(74,.func),(75,.func),(76,.func),(77,.func),(78,.func),(79,.func),(80,.slice 84 2 32 [.sc (.int .i64 0),.nilS]),(81,.struct [0,1] 2 [.sc (.bool false),.nilS]),(82,.struct [0,1] 2 [.sc (.bool false),.nilS]),(83,.struct [0,1] 2 [.sc (.int .i64 0),.nilS]),(84,.struct [0,1] 2 [.sc (.int .i64 0),.nilS]),(85,.func),(86,.func),(87,.func),(88,.ptr),(89,.func),(90,.func),(92,.func),(93,.func),(94,.func),(95,.func),(96,.func),(97,.func),(98,.func),(99,.func),(101,.func),(102,.func),(103,.func),(104,.func),(105,.func),(106,.func),(107,.func),(108,.func),(109,.func),(110,.func),(111,.func),(112,.func),(113,.func),(114,.func),(116,.func),(117,.func),(118,.func),(119,.func),(120,.func),(121,.func),(122,.func),(123,.func),(124,.func),(126,.func),(127,.func),(128,.func),(129,.func),(130,.func),(131,.func),(132,.func),(133,.func),(134,.func),(135,.func),(136,.func),(137,.struct [0,1,2] 3 [.nilS,.sc (.int .i64 0),.sc (.int .i64 0)]),(138,.struct [0,1,2] 3 [.nilS,.sc (.int .i64 0),.sc (.int .i64 0)]),(139,.func),(140,.int .u64),(141,.func),(142,.func),(143,.func),(144,.func),(145,.func),(146,.slice 149 3 24 [.sc (.int .i64 0),.sc (.int .i64 0),.sc (.int .i64 0)]),(147,.func),(148,.struct [0,1,2] 3 [.sc (.int .i64 0),.sc (.int .i64 0),.sc (.int .i64 0)]),(149,.struct [0,1,2] 3 [.sc (.int .i64 0),.sc (.int .i64 0),.sc (.int .i64 0)]),(150,.func),(151,.struct [0,1] 2 [.sc (.string ⟨#[]⟩),.sc (.int .i64 0)]),(152,.struct [0,1] 2 [.sc (.string ⟨#[]⟩),.sc (.int .i64 0)]),(154,.func),(156,.func),(157,.func),(158,.func),(159,.func),(160,.func),(162,.func),(163,.func),(164,.func),(165,.func),(166,.func),(167,.func),(168,.func),(169,.func),(170,.func),(171,.func),(172,.func),(173,.func),(174,.func),(175,.func),(176,.func),(177,.func),(178,.func),(179,.func),(180,.func),(181,.func),(182,.func),(183,.ptr),(184,.struct [0,2] 3 [.sc (.string ⟨#[]⟩),.sc (.int .i64 0),.sc (.int .i64 0)]),(185,.struct [0,2] 3 [.sc (.string ⟨#[]⟩),.sc (.int .i64 0),.sc (.int .i64 0)]),(186,.func),(187,.func),(188,.func),(189,.func),(191,.func),(193,.func),(194,.func),(195,.func),(196,.func),(197,.func),(198,.func),(199,.func),(200,.func),(201,.func),(202,.func),(203,.func),(204,.slice 32 1 24 [.nilS]),(205,.func),(206,.func),(207,.func),(208,.func),(209,.func),(210,.func),(211,.func),(213,.func),(214,.func),(215,.func),(216,.func),(217,.func),(218,.slice 221 2 16 [.sc (.int .i64 0),.sc (.int .i64 0)]),(219,.func),(220,.struct [0,1] 2 [.sc (.int .i64 0),.sc (.int .i64 0)]),(221,.struct [0,1] 2 [.sc (.int .i64 0),.sc (.int .i64 0)]),(222,.func),(224,.func),(225,.func),(226,.func),(227,.func),(228,.func),(229,.func),(230,.int .u32),(231,.func),(232,.int .u64),(233,.func),(234,.struct [0,1,2,3] 4 [.sc (.pointer none),.sc (.pointer none),.sc (.pointer none),.sc (.string ⟨#[]⟩)]),(235,.struct [0,1,2,3] 4 [.sc (.pointer none),.sc (.pointer none),.sc (.pointer none),.sc (.string ⟨#[]⟩)]),(239,.int .u8),(240,.int .u8),(241,.func),(242,.ptr),(243,.int .i32),(244,.int .i32)]
theorem tabOk:TabOk Tryz.prog tab:=by
 intro p hp
 simp only [tab,List.mem_cons,List.not_mem_nil,or_false] at hp
 rcases hp with rfl|rfl|rfl|rfl|rfl|rfl|rfl|rfl|rfl|rfl|rfl|rfl|rfl|rfl|rfl|rfl|rfl|rfl|rfl|rfl|rfl|rfl|rfl|rfl|rfl|rfl|rfl|rfl|rfl|rfl|rfl|rfl|rfl|rfl|rfl|rfl|rfl|rfl|rfl|rfl|rfl|rfl|rfl|rfl|rfl|rfl|rfl|rfl|rfl|rfl|rfl|rfl|rfl|rfl|rfl|rfl|rfl|rfl|rfl|rfl|rfl|rfl|rfl|rfl|rfl|rfl|rfl|rfl|rfl|rfl|rfl|rfl|rfl|rfl|rfl|rfl|rfl|rfl|rfl|rfl|rfl|rfl|rfl|rfl|rfl|rfl|rfl|rfl|rfl|rfl|rfl|rfl|rfl|rfl|rfl|rfl|rfl|rfl|rfl|rfl|rfl|rfl|rfl|rfl|rfl|rfl|rfl|rfl|rfl|rfl|rfl|rfl|rfl|rfl|rfl|rfl|rfl|rfl|rfl|rfl|rfl|rfl|rfl|rfl|rfl|rfl|rfl|rfl|rfl|rfl|rfl|rfl|rfl|rfl|rfl|rfl|rfl|rfl|rfl|rfl|rfl|rfl|rfl|rfl|rfl|rfl|rfl|rfl|rfl|rfl|rfl|rfl|rfl|rfl|rfl|rfl|rfl|rfl|rfl|rfl|rfl|rfl|rfl|rfl|rfl|rfl|rfl|rfl|rfl|rfl|rfl|rfl|rfl|rfl|rfl|rfl|rfl|rfl|rfl|rfl|rfl|rfl|rfl|rfl|rfl|rfl|rfl|rfl|rfl|rfl|rfl|rfl|rfl|rfl|rfl|rfl|rfl|rfl|rfl|rfl|rfl|rfl|rfl|rfl|rfl|rfl|rfl|rfl|rfl|rfl|rfl|rfl|rfl|rfl|rfl|rfl|rfl|rfl|rfl|rfl|rfl|rfl|rfl|rfl
 ·exact ty1
 ·exact ty2
 ·exact ty3
 ·exact ty4
 ·exact ty5
 ·exact ty6
 ·exact ty7
 ·exact ty8
 ·exact ty9
 ·exact ty10
 ·exact ty11
 ·exact ty12
 ·exact ty13
 ·exact ty14
 ·exact ty15
 ·exact ty16
 ·exact ty17
 ·exact ty18
 ·exact ty19
 ·exact ty20
 ·exact ty21
 ·exact ty22
 ·exact ty23
 ·exact ty24
 ·exact ty25
 ·exact ty26
 ·exact ty28
 ·exact ty29
 ·exact ty30
 ·exact ty31
 ·exact ty32
 ·exact ty34
 ·exact ty35
 ·exact ty36
 ·exact ty38
 ·exact ty39
 ·exact ty40
 ·exact ty41
 ·exact ty42
 ·exact ty44
 ·exact ty45
 ·exact ty46
 ·exact ty47
 ·exact ty48
 ·exact ty49
 ·exact ty51
 ·exact ty52
 ·exact ty53
 ·exact ty54
 ·exact ty55
 ·exact ty56
 ·exact ty57
 ·exact ty58
 ·exact ty59
 ·exact ty60
 ·exact ty61
 ·exact ty62
 ·exact ty63
 ·exact ty64
 ·exact ty65
 ·exact ty66
 ·exact ty67
 ·exact ty68
 ·exact ty69
 ·exact ty70
 ·exact ty71
 ·exact ty72
 ·exact ty74
 ·exact ty75
 ·exact ty76
 ·exact ty77
 ·exact ty78
 ·exact ty79
 ·exact ty80
 ·exact ty81
 ·exact ty82
 ·exact ty83
 ·exact ty84
 ·exact ty85
 ·exact ty86
 ·exact ty87
 ·exact ty88
 ·exact ty89
 ·exact ty90
 ·exact ty92
 ·exact ty93
 ·exact ty94
 ·exact ty95
 ·exact ty96
 ·exact ty97
 ·exact ty98
 ·exact ty99
 ·exact ty101
 ·exact ty102
 ·exact ty103
 ·exact ty104
 ·exact ty105
 ·exact ty106
 ·exact ty107
 ·exact ty108
 ·exact ty109
 ·exact ty110
 ·exact ty111
 ·exact ty112
 ·exact ty113
 ·exact ty114
 ·exact ty116
 ·exact ty117
 ·exact ty118
 ·exact ty119
 ·exact ty120
 ·exact ty121
 ·exact ty122
 ·exact ty123
 ·exact ty124
 ·exact ty126
 ·exact ty127
 ·exact ty128
 ·exact ty129
 ·exact ty130
 ·exact ty131
 ·exact ty132
 ·exact ty133
 ·exact ty134
 ·exact ty135
 ·exact ty136
 ·exact ty137
 ·exact ty138
 ·exact ty139
 ·exact ty140
 ·exact ty141
 ·exact ty142
 ·exact ty143
 ·exact ty144
 ·exact ty145
 ·exact ty146
 ·exact ty147
 ·exact ty148
 ·exact ty149
 ·exact ty150
 ·exact ty151
 ·exact ty152
 ·exact ty154
 ·exact ty156
 ·exact ty157
 ·exact ty158
 ·exact ty159
 ·exact ty160
 ·exact ty162
 ·exact ty163
 ·exact ty164
 ·exact ty165
 ·exact ty166
 ·exact ty167
 ·exact ty168
 ·exact ty169
 ·exact ty170
 ·exact ty171
 ·exact ty172
 ·exact ty173
 ·exact ty174
 ·exact ty175
 ·exact ty176
 ·exact ty177
 ·exact ty178
 ·exact ty179
 ·exact ty180
 ·exact ty181
 ·exact ty182
 ·exact ty183
 ·exact ty184
 ·exact ty185
 ·exact ty186
 ·exact ty187
 ·exact ty188
 ·exact ty189
 ·exact ty191
 ·exact ty193
 ·exact ty194
 ·exact ty195
 ·exact ty196
 ·exact ty197
 ·exact ty198
 ·exact ty199
 ·exact ty200
 ·exact ty201
 ·exact ty202
 ·exact ty203
 ·exact ty204
 ·exact ty205
 ·exact ty206
 ·exact ty207
 ·exact ty208
 ·exact ty209
 ·exact ty210
 ·exact ty211
 ·exact ty213
 ·exact ty214
 ·exact ty215
 ·exact ty216
 ·exact ty217
 ·exact ty218
 ·exact ty219
 ·exact ty220
 ·exact ty221
 ·exact ty222
 ·exact ty224
 ·exact ty225
 ·exact ty226
 ·exact ty227
 ·exact ty228
 ·exact ty229
 ·exact ty230
 ·exact ty231
 ·exact ty232
 ·exact ty233
 ·exact ty234
 ·exact ty235
 ·exact ty239
 ·exact ty240
 ·exact ty241
 ·exact ty242
 ·exact ty243
 ·exact ty244
end Go.Proofs.YtainhhfnnclfiaaGreat


namespace Go.Abs
open Go
section
variable {P:Program} {n m:Nat} {G:Ctx} {T:List (Nat×AV)} {O:List AObj} {Q:Exit→St→Prop} {ops:Array Oper} {l:List Oper} {d:Nat} {md:Bool} {tt:TypeId} {pos:String} {after:Array Edge} {tab:List (Nat×Ty)}
theorem WpL.loadOwnLi (hP:TabOk P tab) {t:TypeId} {x:Operand} {ty:Ty} {id ep sz off:Nat} {te:Option TypeId} {M:List (List Int)} (ht:tlook tab t=some ty) (hp:ty.plain=true) (hx:av T x=.ptr id ep off) (ho:O[id]?=some ⟨rows liF M,ep,sz,te⟩)
 (hi:off<M.length) (hn:d<n) {j:Nat} (hcnt:cnt O.length 0=some j)
 (h:WpL P n m G false ops l ⟨(d,.own j 0 0 (M.getD off default).length)::T,O.set id ⟨(rows liF M).set off (.own j 0 0 (M.getD off default).length),ep,sz,te⟩++[⟨ints (M.getD off default),0,1,none⟩]⟩ Q):
 WpL P n m G false ops ({dst:=some d,op:=.load t x,type:=tt,pos:=pos,after:=after,guard:=none}::l) ⟨T,O⟩ Q:=by
 have e:off*1+0=off:=by omega
 refine WpL.loadOwn (f:=liF) (xs:=M) (i:=off) (k:=1) (o:=0) (s:=1) (len:=(M.getD off default).length) (cs:=ints (M.getD off default)) hP ht hp (by rw [e];exact hx) ho (fun _=>rfl) rfl hi hn hcnt ?_
 rw [e];exact h
end
end Go.Abs


namespace Go.Abs
open Go
def deadO:AObj:=⟨[],1,0,none⟩
def roomO:AObj:=⟨[],0,0,none⟩
def AObj.putE (ob:AObj) (e:Nat):AObj:=⟨ob.cells,e,ob.size,ob.ty⟩
def AObj.put1 (ob:AObj):AObj:=⟨ob.cells,1,ob.size,ob.ty⟩
theorem RelAt.fill {n m G S ι F T O a w} {d j off len:Nat} {ob oj:AObj} (hr:RelAt n m G S ι F ⟨(d,.own O.length 0 off len)::T,O++[ob]⟩ a w) (hj:O[j]?=some oj) (hm:m≤j) (hob:ob.ep=0) (hst:ob.cells.all AV.still=true):
 ∃ι' F',RelAt n m G S ι' F' ⟨(d,.own j (oj.ep+1) off len)::T,O.set j (ob.putE (oj.ep+1))++[deadO]⟩ a w:=by
 have hjl:j<O.length:=(List.getElem?_eq_some_iff.1 hj).1
 have hlast:(O++[ob])[O.length]?=some ob:=List.getElem?_concat_length
 have hO2:∀i:Nat,(O.set j (ob.putE (oj.ep+1))++[deadO])[i]?=if i=j then some (ob.putE (oj.ep+1)) else if i=O.length then some deadO else O[i]?:=by
  intro i
  by_cases h1:i=j
  ·subst h1;rw [if_pos rfl,List.getElem?_append_left (by simpa using hjl)];simp [hjl]
  ·rw [if_neg h1]
   have h1':¬j=i:=fun e=>h1 e.symm
   by_cases h2:i=O.length
   ·subst h2;rw [if_pos rfl,List.getElem?_append_right (by simp)];simp
   ·rw [if_neg h2]
    rcases Nat.lt_or_ge i O.length with h|h
    ·rw [List.getElem?_append_left (by simpa using h)];simp [List.getElem?_set,h1']
    ·rw [List.getElem?_eq_none (by simp;omega),List.getElem?_eq_none h]
 have hO1:∀i:Nat,i≠O.length→(O++[ob])[i]?=O[i]?:=by
  intro i hi
  rcases Nat.lt_or_ge i O.length with h|h
  ·rw [List.getElem?_append_left h]
  ·rw [List.getElem?_eq_none (by simp;omega),List.getElem?_eq_none h]
 have hjn:j≠O.length:=by omega
 have hlat:Later S w ι (O++[ob]) S w (upd (upd ι j (ι O.length)) O.length none) (O.set j (ob.putE (oj.ep+1))++[deadO]):=by
  refine ⟨fun _ h=>h,fun _ _=>rfl,fun i obi hi=>?_⟩
  by_cases h1:i=j
  ·subst h1;rw [hO1 _ hjn,hj] at hi;cases hi
   exact ⟨(ob.putE (oj.ep+1)),by rw [hO2,if_pos rfl],.inl (Nat.lt_succ_self _)⟩
  ·by_cases h2:i=O.length
   ·subst h2;rw [hlast] at hi;cases hi
    exact ⟨deadO,by rw [hO2,if_neg h1,if_pos rfl],.inl (by rw [hob];exact Nat.lt_succ_self _)⟩
   ·rw [hO1 _ h2] at hi
    exact ⟨obi,by rw [hO2,if_neg h1,if_neg h2];exact hi,.inr ⟨rfl,rfl,by rw [upd_other _ _ h2,upd_other _ _ h1]⟩⟩
 have hn:=hr.objs.obj O.length ob hlast
 refine ⟨upd (upd ι j (ι O.length)) O.length none,upd (upd F j (F O.length)) O.length [],hr.defers,hr.size,fun t'=>?_,⟨fun i obi hi=>?_,fun i hi=>?_,fun i i' hi hi' hii c hcm=>?_⟩,fun i hi c hcm=>?_,hr.base,hr.stable,hr.keeps,fun i hi=>?_,?_⟩
 ·have ht:=hr.tmps t'
  by_cases e:d=t'
  ·subst e
   have ht:VRel S w ι (O++[ob]) (look ((d,.own O.length 0 off len)::T) d) (a.tmps.getD d undef) []:=ht
   show VRel _ _ _ _ (look ((d,.own j (oj.ep+1) off len)::T) d) _ _
   rw [look_cons_same] at ht ⊢
   cases ht with
   |own q1 q2 q3 r=>
    rw [hlast] at q1;cases q1
    refine .own (ob:=(ob.putE (oj.ep+1))) (by rw [hO2,if_pos rfl]) (Nat.le_refl _) (fun _=>?_) .nil
    rw [upd_other _ _ hjn,upd_same]
    exact q3 hob.symm
  ·have ht:VRel S w ι (O++[ob]) (look ((d,.own O.length 0 off len)::T) t') (a.tmps.getD t' undef) []:=ht
   show VRel _ _ _ _ (look ((d,.own j (oj.ep+1) off len)::T) t') _ _
   rw [look_cons_other _ _ _ _ e] at ht ⊢
   exact ht.mono hlat (fun _ _=>rfl)
 ·have hi:(O.set j (ob.putE (oj.ep+1))++[deadO])[i]?=some obi:=hi
  rw [hO2] at hi
  by_cases e1:i=j
  ·subst e1
   rw [if_pos rfl] at hi;cases hi
   rw [upd_other _ _ hjn,upd_other _ _ hjn,upd_same,upd_same]
   unfold ObjAt at hn ⊢
   cases hs:ι O.length with
   |none=>rw [hs] at hn;exact hn
   |some p=>
    obtain ⟨b,k⟩:=p
    rw [hs] at hn
    obtain ⟨cur,t,fz,f',h1,h2,h3,h4,h5,h6,h7⟩:=hn
    have h8:=h7.mono hlat (fun _ _=>rfl)
    rw [hs] at h8
    exact ⟨cur,t,fz,f',h1,h2,h3,h4,h5,h6,h8⟩
  ·rw [if_neg e1] at hi
   by_cases e2:i=O.length
   ·subst e2
    rw [if_pos rfl] at hi;cases hi
    rw [upd_same,upd_same];exact ⟨rfl,rfl⟩
   ·rw [if_neg e2] at hi
    rw [upd_other _ _ e2,upd_other _ _ e2,upd_other _ _ e1,upd_other _ _ e1]
    have ho:=hr.objs.obj i obi (by show (O++[ob])[i]?=_;rw [hO1 _ e2];exact hi)
    unfold ObjAt at ho ⊢
    cases hs:ι i with
    |none=>rw [hs] at ho;exact ho
    |some p=>
     obtain ⟨b,k⟩:=p
     rw [hs] at ho
     obtain ⟨cur,t,fz,f',h1,h2,h3,h4,h5,h6,h7⟩:=ho
     exact ⟨cur,t,fz,f',h1,h2,h3,h4,h5,h6,h7.mono hlat (fun _ _=>rfl)⟩
 ·have hi:i<(O.set j (ob.putE (oj.ep+1))++[deadO]).length:=hi
  simp only [List.length_append,List.length_set,List.length_singleton] at hi
  by_cases e2:i=O.length
  ·subst e2;rw [upd_same];exact List.nodup_nil
  ·rw [upd_other _ _ e2]
   by_cases e1:i=j
   ·subst e1;rw [upd_same];exact hr.objs.nodup O.length (by show O.length<(O++[ob]).length;simp)
   ·rw [upd_other _ _ e1];exact hr.objs.nodup i (by show i<(O++[ob]).length;simp;omega)
 ·have hi:i<(O.set j (ob.putE (oj.ep+1))++[deadO]).length:=hi
  have hi':i'<(O.set j (ob.putE (oj.ep+1))++[deadO]).length:=hi'
  simp only [List.length_append,List.length_set,List.length_singleton] at hi hi'
  by_cases e2:i=O.length
  ·subst e2;rw [upd_same] at hcm;cases hcm
  ·rw [upd_other _ _ e2] at hcm
   by_cases e3:i'=O.length
   ·subst e3;rw [upd_same];intro h;cases h
   ·rw [upd_other _ _ e3]
    have hL:(O++[ob]).length=O.length+1:=by simp
    by_cases e1:i=j
    ·subst e1
     rw [upd_same] at hcm
     rw [upd_other _ _ (fun e=>hii e.symm)]
     exact hr.objs.apart O.length i' (by show O.length<(O++[ob]).length;omega) (by show i'<(O++[ob]).length;omega) (fun e=>e3 e.symm) c hcm
    ·rw [upd_other _ _ e1] at hcm
     by_cases e4:i'=j
     ·subst e4;rw [upd_same]
      exact hr.objs.apart i O.length (by show i<(O++[ob]).length;omega) (by show O.length<(O++[ob]).length;omega) e2 c hcm
     ·rw [upd_other _ _ e4]
      exact hr.objs.apart i i' (by show i<(O++[ob]).length;omega) (by show i'<(O++[ob]).length;omega) hii c hcm
 ·have hi:i<(O.set j (ob.putE (oj.ep+1))++[deadO]).length:=hi
  simp only [List.length_append,List.length_set,List.length_singleton] at hi
  have hL:(O++[ob]).length=O.length+1:=by simp
  by_cases e2:i=O.length
  ·subst e2;rw [upd_same] at hcm;cases hcm
  ·rw [upd_other _ _ e2] at hcm
   by_cases e1:i=j
   ·subst e1;rw [upd_same] at hcm;exact hr.foot O.length (by show O.length<(O++[ob]).length;omega) c hcm
   ·rw [upd_other _ _ e1] at hcm;exact hr.foot i (by show i<(O++[ob]).length;omega) c hcm
 ·rw [upd_other _ _ (by omega),upd_other _ _ (by omega)];exact hr.spots i hi
 ·show m≤(O.set j (ob.putE (oj.ep+1))++[deadO]).length
  simp only [List.length_append,List.length_set,List.length_singleton];omega
theorem Weak.fillE {m d j off len:Nat} {ob oj:AObj} {T:List (Nat×AV)} {O:List AObj} (hj:O[j]?=some oj) (hm:m≤j) (hob:ob.ep=0) (hst:ob.cells.all AV.still=true):
 Weak m ⟨(d,.own O.length 0 off len)::T,O++[ob]⟩ ⟨(d,.own j (oj.ep+1) off len)::T,O.set j (ob.putE (oj.ep+1))++[deadO]⟩:=by
 rintro n' G' a w ⟨S,ι,F,hr⟩
 obtain ⟨ι',F',hr'⟩:=hr.fill hj hm hob hst
 exact ⟨S,ι',F',hr'⟩
theorem Weak.fill {m d j off len:Nat} {ob oj:AObj} {T:List (Nat×AV)} {O:List AObj} (hj:O[j]?=some oj) (hm:m≤j) (hje:oj.ep=0) (hob:ob.ep=0) (hst:ob.cells.all AV.still=true):
 Weak m ⟨(d,.own O.length 0 off len)::T,O++[ob]⟩ ⟨(d,.own j 1 off len)::T,O.set j ob.put1++[deadO]⟩:=by
 have:=Weak.fillE (d:=d) (off:=off) (len:=len) (T:=T) hj hm hob hst
 rw [hje] at this;exact this
inductive Fil where
 |none
 |put (p:Nat) (ob:AObj)
 |step (p:Nat) (ob:AObj)
def Fil.spot:Fil→Option (Nat×AObj)
 |.none=>Option.none
 |.put p ob=>some (p,ob)
 |.step p ob=>some (p,ob)
def Fil.isPut:Fil→Bool
 |.put _ _=>true
 |_=>false
def Fil.run:Fil→List AObj→List AObj
 |.none,Ov=>Ov
 |.put p ob,Ov=>Ov.set p ob++[deadO]
 |.step p ob,Ov=>Ov.set p ob
def waits (o:Oper) (j:Nat):Bool:=o.after.toList.any fun e=>Region.binds .any e&&Nat.beq e.on j
def memB (p:Nat):List Nat→Bool
 |[]=>false
 |q::l=>Nat.beq p q||memB p l
inductive HeadQ (P:Program) (n m:Nat) (G:Ctx) (ops:Array Oper) (T0:List (Nat×AV)) (O Oi:List AObj) (keep:List Nat):List (Nat×AV)→List Fil→List Oper→List (Nat×AV)→List Fil→Prop
 |nil {fs gs}:HeadQ P n m G ops T0 O Oi keep fs gs [] fs gs
 |cons {fs out:List (Nat×AV)} {gs:List Fil} {o:Oper} {l:List Oper} {d:Nat} {V:AV} {F:List (Nat×AV)} {ks:List Fil} (k:Fil) (hd:o.dst=some d) (hF:deps fs o=F)
   (h:∀Tv Ov,Oi.length≤Ov.length→(∀ p ob,k.spot=some (p,ob)→Ov[p]?=Oi[p]?)→(∀ j f p ob,waits o j=true→gs[j]?=some f→f.spot=some (p,ob)→Ov[p]?=some ob)→(∀ q,memB q keep=true→Ov[q]?=Oi[q]?)→
    WpL P n m G false ops [o] ⟨F++(T0++Tv),O++Ov⟩ (Only ⟨(d,V)::(F++(T0++Tv)),O++k.run Ov⟩)) (r:HeadQ P n m G ops T0 O Oi keep (fs++[(d,V)]) (gs++[k]) l out ks):HeadQ P n m G ops T0 O Oi keep fs gs (o::l) out ks
section
variable {P:Program} {n m:Nat} {G:Ctx} {ops:Array Oper} {T0:List (Nat×AV)} {O Oi:List AObj} {keep:List Nat}
theorem HeadQ.pre {fs gs l out ks} (h:HeadQ P n m G ops T0 O Oi keep fs gs l out ks):∃r s,out=fs++r∧r.length=l.length∧ks=gs++s∧s.length=l.length:=by
 induction h with
 |nil=>exact ⟨[],[],by simp,rfl,by simp,rfl⟩
 |@cons fs out gs o l d V F ks k _ _ _ _ ih=>obtain ⟨r,s,h1,h2,h3,h4⟩:=ih;exact ⟨(d,V)::r,k::s,by rw [h1];simp,by simp [h2],by rw [h3];simp,by simp [h4]⟩
theorem HeadQ.at {fs gs l out ks} (h:HeadQ P n m G ops T0 O Oi keep fs gs l out ks) (hg:gs.length=fs.length):∀{j:Nat} {o:Oper},l[j]?=some o→∃d V k,o.dst=some d∧out[fs.length+j]?=some (d,V)∧ks[fs.length+j]?=some k∧
 ∀Tv Ov,Oi.length≤Ov.length→(∀ p ob,k.spot=some (p,ob)→Ov[p]?=Oi[p]?)→(∀ i f p ob,waits o i=true→(ks.take (fs.length+j))[i]?=some f→f.spot=some (p,ob)→Ov[p]?=some ob)→(∀ q,memB q keep=true→Ov[q]?=Oi[q]?)→
  WpL P n m G false ops [o] ⟨deps (out.take (fs.length+j)) o++(T0++Tv),O++Ov⟩ (Only ⟨(d,V)::(deps (out.take (fs.length+j)) o++(T0++Tv)),O++k.run Ov⟩):=by
 induction h with
 |nil=>intro j o h;simp at h
 |@cons fs out gs o l d V F ks k hd hF h r ih=>
  intro j o' hj
  obtain ⟨r',s',h1,h2,h3,h4⟩:=r.pre
  cases j with
  |zero=>
   simp only [List.getElem?_cons_zero,Option.some.injEq] at hj
   subst hj
   refine ⟨d,V,k,hd,by rw [h1];simp,by rw [h3];simp [hg],?_⟩
   have:out.take (fs.length+0)=fs:=by rw [h1,Nat.add_zero,List.append_assoc,List.take_left'];rfl
   have e2:ks.take (fs.length+0)=gs:=by rw [h3,Nat.add_zero,List.append_assoc,List.take_left'];exact hg
   rw [this,hF,e2];exact h
  |succ j=>
   have:=ih (by simp [hg]) (j:=j) (o:=o') (by simpa using hj)
   rw [List.length_append,List.length_singleton,Nat.add_assoc,Nat.add_comm 1 j] at this
   simpa using this
structure RoomAt (ks:List Fil) (Oi:List AObj) (k:Nat) (listed:Array Bool) (Ov:List AObj):Prop where
 len:Ov.length=Oi.length+((List.range k).filter fun i=>listed.getD i false&&((ks[i]?.map Fil.isPut).getD false)).length
 full:∀i f p ob,i<k→ks[i]?=some f→f.spot=some (p,ob)→listed.getD i false=true→Ov[p]?=some ob
 room:∀i f p ob,i<k→ks[i]?=some f→f.spot=some (p,ob)→listed.getD i false=false→Ov[p]?=Oi[p]?
 rest:∀q,q<Oi.length→(∀ i f p ob,i<k→ks[i]?=some f→f.spot=some (p,ob)→p≠q)→Ov[q]?=Oi[q]?
 dead:∀q,Oi.length≤q→q<Ov.length→Ov[q]?=some deadO
def isPut (ks:List Fil) (i:Nat):Bool:=(ks[i]?.map Fil.isPut).getD false
structure RoomOk (ks:List Fil) (c k:Nat):Prop where
 lt:∀i f p ob,i<k→ks[i]?=some f→f.spot=some (p,ob)→p<c
 inj:∀i j f g p q ob oc,i<k→j<k→ks[i]?=some f→ks[j]?=some g→f.spot=some (p,ob)→g.spot=some (q,oc)→p=q→i=j
theorem count_set {f:Nat→Bool} {k i:Nat} {listed:Array Bool} (hik:i<k) (hs:i<listed.size) (hu:listed.getD i false=false):((List.range k).filter fun j=>(listed.setIfInBounds i true).getD j false&&f j).length=((List.range k).filter fun j=>listed.getD j false&&f j).length+(if f i=true then 1 else 0):=by
 have hself:(listed.setIfInBounds i true).getD i false=true:=by simp [hs]
 have key:∀(L:List Nat),L.Nodup→i∈L→(L.filter fun j=>(listed.setIfInBounds i true).getD j false&&f j).length=(L.filter fun j=>listed.getD j false&&f j).length+(if f i=true then 1 else 0):=by
  intro L
  induction L with
  |nil=>intro _ h;cases h
  |cons x L ih=>
   intro hnd hm
   rw [List.nodup_cons] at hnd
   by_cases hx:x=i
   ·subst hx
    have hsame:(L.filter fun j=>(listed.setIfInBounds x true).getD j false&&f j)=L.filter fun j=>listed.getD j false&&f j:=by
     refine List.filter_congr fun j hj=>?_
     rw [getD_set_ne false (by rintro rfl;exact hnd.1 hj)]
    rw [List.filter_cons,List.filter_cons,hsame,hself,hu]
    cases f x<;>simp
   ·have hm':i∈L:=by
     rcases List.mem_cons.1 hm with h|h
     ·exact (hx h.symm).elim
     ·exact h
    have:=ih hnd.2 hm'
    rw [List.filter_cons,List.filter_cons,getD_set_ne false (Ne.symm hx)]
    split<;>(try simp only [List.length_cons])<;>omega
 exact key _ List.nodup_range (List.mem_range.2 hik)
theorem RoomAt.step {ks:List Fil} {k i:Nat} {listed:Array Bool} {Ov:List AObj} {f:Fil} (h:RoomAt ks Oi k listed Ov) (ok:RoomOk ks Oi.length k) (hik:i<k) (hs:i<listed.size) (hu:listed.getD i false=false) (hf:ks[i]?=some f):
 RoomAt ks Oi k (listed.setIfInBounds i true) (f.run Ov):=by
 have hself:(listed.setIfInBounds i true).getD i false=true:=by simp [hs]
 have hcnt:=count_set (f:=isPut ks) hik hs hu
 have hlen:=h.len
 have e0:∀L:Array Bool,((List.range k).filter fun i=>L.getD i false&&((ks[i]?.map Fil.isPut).getD false)).length=((List.range k).filter fun i=>L.getD i false&&isPut ks i).length:=fun _=>rfl
 rw [e0] at hlen
 have hp:isPut ks i=f.isPut:=by unfold isPut;rw [hf];rfl
 rw [hp] at hcnt
 have hrl:(f.run Ov).length=Ov.length+(if f.isPut=true then 1 else 0):=by cases f<;>simp [Fil.run,Fil.isPut]
 have hle:Oi.length≤Ov.length:=by omega
 have hoth:∀q,q<Ov.length→(∀ p ob,f.spot=some (p,ob)→p≠q)→(f.run Ov)[q]?=Ov[q]?:=by
  intro q hq hne
  cases f with
  |none=>rfl
  |put p ob=>
   have:=hne p ob rfl
   unfold Fil.run
   rw [List.getElem?_append_left (by simpa using hq),List.getElem?_set,if_neg this]
  |step p ob=>
   have:=hne p ob rfl
   unfold Fil.run
   rw [List.getElem?_set,if_neg this]
 have hown:∀p ob,f.spot=some (p,ob)→(f.run Ov)[p]?=some ob:=by
  intro p ob e
  have hpc:=ok.lt i f p ob hik hf e
  cases f with
  |none=>cases e
  |put p' ob'=>
   cases e
   unfold Fil.run
   rw [List.getElem?_append_left (by rw [List.length_set];omega),List.getElem?_set_self (by omega)]
  |step p' ob'=>
   cases e
   unfold Fil.run
   rw [List.getElem?_set_self (by omega)]
 refine ⟨by rw [e0,hrl,hcnt,hlen];split<;>omega,fun j g q oc hj hk hsp hl=>?_,fun j g q oc hj hk hsp hl=>?_,fun q hq hno=>?_,fun q h1 h2=>?_⟩
 ·by_cases e:i=j
  ·subst e;rw [hf] at hk;cases hk;exact hown q oc hsp
  ·rw [getD_set_ne false e] at hl
   have hqc:=ok.lt j g q oc hj hk hsp
   rw [hoth q (by omega) (fun p ob e1 e2=>e (ok.inj i j f g p q ob oc hik hj hf hk e1 hsp e2))]
   exact h.full j g q oc hj hk hsp hl
 ·have e:i≠j:=by rintro rfl;rw [hself] at hl;cases hl
  rw [getD_set_ne false e] at hl
  have hqc:=ok.lt j g q oc hj hk hsp
  rw [hoth q (by omega) (fun p ob e1 e2=>e (ok.inj i j f g p q ob oc hik hj hf hk e1 hsp e2))]
  exact h.room j g q oc hj hk hsp hl
 ·rw [hoth q (by omega) (fun p ob e1=>hno i f p ob hik hf e1)]
  exact h.rest q hq hno
 ·rcases Nat.lt_or_ge q Ov.length with h3|h3
  ·rw [hoth q h3 (fun p ob e1=>by have:=ok.lt i f p ob hik hf e1;omega)]
   exact h.dead q h1 h3
  ·cases f with
   |none=>exact absurd h2 (by simp [Fil.run];omega)
   |step p ob=>exact absurd h2 (by simp [Fil.run];omega)
   |put p ob=>
    simp [Fil.run] at h2
    have e:q=Ov.length:=by omega
    subst e
    unfold Fil.run
    rw [List.getElem?_append_right (by simp)];simp
theorem any_order {out:List (Nat×AV)} {k g:Nat} {GP:Array Bool→Act→World→Prop} (H:Heads ops T0 out k) (hks:k≤ops.size) (hs:k<ops.size→Region.sinkB .any ops k=true∧Region.chainB .any ops k=true) {Q:Exit→Act→World→Prop}
 (hstep:∀{listed:Array Bool} (inv:HeadInv .any ops k listed) {i:Nat} (hi:i∈Region.ready .any ops listed) (hik:i<k) {a w} (hg:GP listed a w) {K:Act→World→Prop} (hK:∀a' w',GP (listed.setIfInBounds i true) a' w'→K a' w'),wpOp P ops Q i K a w)
 (hT:∀listed a w,HeadInv .any ops k listed→(∀ i,i<k→listed.getD i false=true)→GP listed a w→wpAny P .any ops Q g listed a w):
 ∀(f:Nat) (listed:Array Bool) (a:Act) (w:World),HeadInv .any ops k listed→((List.range k).filter fun i=>!listed.getD i false).length=f→GP listed a w→
  wpAny P .any ops Q (f+g) listed a w:=by
 intro f
 induction f with
 |zero=>
  intro listed a w inv hc hg
  rw [Nat.zero_add]
  refine hT listed a w inv (fun i hi=>?_) hg
  have h0:=List.eq_nil_of_length_eq_zero hc
  cases hl:listed.getD i false with
  |true=>rfl
  |false=>
   have:i∈(List.range k).filter fun i=>!listed.getD i false:=by simp [List.mem_filter,hi];simpa using hl
   rw [h0] at this;cases this
 |succ f ih=>
  intro listed a w inv hc hg
  have hgetD:∀i,i<k→listed.getD i false=false→listed.getD i true=false:=fun i hi h=>getD_in (by rw [inv.size];omega) h
  have hex:∃i,i<k∧listed.getD i false=false:=by
   cases hl:(List.range k).filter fun i=>!listed.getD i false with
   |nil=>rw [hl] at hc;simp at hc
   |cons i r=>
    have:i∈(List.range k).filter fun i=>!listed.getD i false:=by rw [hl];simp
    rw [List.mem_filter,List.mem_range] at this
    exact ⟨i,this.1,by simpa using this.2⟩
  obtain ⟨i0,hi0,hl0⟩:=hex
  have least:∀d i,i=d→i<k→listed.getD i false=false→∃j,j<k∧j∈Region.ready .any ops listed:=by
   intro d
   induction d using Nat.strongRecOn with
   |_ d ihd=>
    rintro i rfl hi hl
    by_cases hh:∃j,j<i∧listed.getD j false=false
    ·obtain ⟨j,hj,hjl⟩:=hh
     exact ihd j hj j rfl (by omega) hjl
    ·have hlt:i<ops.size:=by omega
     refine ⟨i,hi,mem_ready.2 ⟨hgetD i hi hl,ops[i],by simp [hlt],fun e he hb=>?_⟩⟩
     have hlt':=H.back i hi _ (by simp [hlt]) e he hb
     cases hx:listed.getD e.on false with
     |true=>rfl
     |false=>exact (hh ⟨_,hlt',hx⟩).elim
  obtain ⟨j0,hj0,hr0⟩:=least i0 i0 rfl hi0 hl0
  rw [show f+1+g=(f+g)+1 by omega]
  refine ⟨fun h=>(by rw [h] at hr0;cases hr0),fun i hi=>?_⟩
  have hik:i<k:=by
   rcases Nat.lt_or_ge i k with h|h
   ·exact h
   ·by_cases hk:k<ops.size
    ·exact absurd hi (tail_waits (hs hk).1 (hs hk).2 hk inv _ i0 rfl hi0 (hgetD i0 hi0 hl0) i h)
    ·obtain ⟨_,o,ho,_⟩:=mem_ready.1 hi
     have:=(Array.getElem?_eq_some_iff.1 ho).1
     omega
  have hiu:listed.getD i false=false:=getD_both (mem_ready.1 hi).1
  refine hstep inv hi hik hg fun a' w' hg'=>ih _ _ _ (inv.set hi hik) ?_ hg'
  have key:∀(L:List Nat),L.Nodup→i∈L→(L.filter fun j=>!(listed.setIfInBounds i true).getD j false).length+1=(L.filter fun j=>!listed.getD j false).length:=by
   intro L
   have hself:(listed.setIfInBounds i true).getD i false=true:=by
    have:i<listed.size:=by rw [inv.size];omega
    simp [this]
   induction L with
   |nil=>intro _ h;cases h
   |cons x L ihL=>
    intro hnd hm
    rw [List.nodup_cons] at hnd
    by_cases hx:x=i
    ·subst hx
     have hsame:(L.filter fun j=>!(listed.setIfInBounds x true).getD j false)=L.filter fun j=>!listed.getD j false:=by
      refine List.filter_congr fun j hj=>?_
      rw [getD_set_ne false (by rintro rfl;exact hnd.1 hj)]
     rw [List.filter_cons,List.filter_cons,hsame,hself,hiu];simp
    ·have hm':i∈L:=by
      rcases List.mem_cons.1 hm with h|h
      ·exact (hx h.symm).elim
      ·exact h
     have:=ihL hnd.2 hm'
     rw [List.filter_cons,List.filter_cons,getD_set_ne false (Ne.symm hx)]
     split<;>(try simp only [List.length_cons])<;>omega
  have:=key (List.range k) List.nodup_range (List.mem_range.2 hik)
  omega
def GoodQ (n m:Nat) (G:Ctx) (T0 out:List (Nat×AV)) (O Oi:List AObj) (k:Nat) (ks:List Fil) (listed:Array Bool) (a:Act) (w:World):Prop:=
 ∃T Ov,Rel n m G ⟨T,O++Ov⟩ a w∧RoomAt ks Oi k listed Ov∧(∀ (i d:Nat) (V:AV),out[i]?=some (d,V)→listed.getD i false=true→look T d=V)∧∀t,has out t=false→look T t=look T0 t
theorem head_stepQ {out:List (Nat×AV)} {ks:List Fil} {k:Nat} (H:Heads ops T0 out k) (ok:RoomOk ks Oi.length k) (hkp:∀q,memB q keep=true→q<Oi.length∧∀i f p ob,i<k→ks[i]?=some f→f.spot=some (p,ob)→p≠q) {Q:Exit→Act→World→Prop} (hJ:∀{j:Nat} {o:Oper},j<k→ops[j]?=some o→∃d V f,o.dst=some d∧out[j]?=some (d,V)∧ks[j]?=some f∧
 ∀Tv Ov,Oi.length≤Ov.length→(∀ p ob,f.spot=some (p,ob)→Ov[p]?=Oi[p]?)→(∀ i f p ob,waits o i=true→(ks.take j)[i]?=some f→f.spot=some (p,ob)→Ov[p]?=some ob)→(∀ q,memB q keep=true→Ov[q]?=Oi[q]?)→WpL P n m G false ops [o] ⟨deps (out.take j) o++(T0++Tv),O++Ov⟩ (Only ⟨(d,V)::(deps (out.take j) o++(T0++Tv)),O++f.run Ov⟩))
 {listed:Array Bool} (inv:HeadInv .any ops k listed) {i:Nat} (hi:i∈Region.ready .any ops listed) (hik:i<k) {a w} (hg:GoodQ n m G T0 out O Oi k ks listed a w) {K:Act→World→Prop}
 (hK:∀a' w',GoodQ n m G T0 out O Oi k ks (listed.setIfInBounds i true) a' w'→K a' w'):wpOp P ops Q i K a w:=by
 obtain ⟨hun,o,ho,hall⟩:=mem_ready.1 hi
 obtain ⟨T,Ov,hr,hroom,h1,h2⟩:=hg
 obtain ⟨d,V,f,hd,hout,hkf,hw⟩:=hJ hik ho
 have hF:∀t U,(t,U)∈deps (out.take i) o→look T t=U:=by
  intro t U hm
  simp only [deps,List.mem_filterMap] at hm
  obtain ⟨e,he,hx⟩:=hm
  split at hx
  ·rename_i hb
   have he':e∈o.after:=by simpa using he
   have hx':out[e.on]?=some (t,U):=by
    rw [List.getElem?_take] at hx
    split at hx
    ·exact hx
    ·simp at hx
   exact h1 _ _ _ hx' (hall e he' hb)
  ·simp at hx
 have same:∀t,look (deps (out.take i) o++(T0++T)) t=look T t:=by
  intro t
  rw [look_append]
  split
  ·rename_i h;exact (hF _ _ (has_look h)).symm
  ·rw [look_append]
   split
   ·rename_i h
    refine (h2 t ?_).symm
    cases hc:has out t with
    |false=>rfl
    |true=>have:=H.fresh _ (has_look hc);simp only at this;rw [this] at h;cases h
   ·rfl
 have hiu:listed.getD i false=false:=getD_both hun
 have hdep:∀j g p ob,waits o j=true→(ks.take i)[j]?=some g→g.spot=some (p,ob)→Ov[p]?=some ob:=by
  intro j g p ob hwt hg hsp
  obtain ⟨e,he,hb⟩:=List.any_eq_true.1 hwt
  rw [Bool.and_eq_true] at hb
  obtain ⟨hb,hj⟩:=hb
  have:=Nat.eq_of_beq_eq_true hj
  subst this
  have hl:=hall e (by simpa using he) hb
  rw [List.getElem?_take] at hg
  split at hg
  ·exact hroom.full e.on g p ob (by omega) hg hsp hl
  ·cases hg
 have hw':=hw T Ov (by rw [hroom.len];omega) (fun p ob e=>hroom.room i f p ob hik hkf e hiu) hdep (fun q hq=>hroom.rest q (hkp q hq).1 (hkp q hq).2) a w (hr.relook same)
 have hst:=hroom.step ok hik (by rw [inv.size];have:=(Array.getElem?_eq_some_iff.1 ho).1;omega) hiu hkf
 simp only at hw'
 have good:∀a' w',Rel n m G ⟨(d,V)::(deps (out.take i) o++(T0++T)),O++f.run Ov⟩ a' w'→GoodQ n m G T0 out O Oi k ks (listed.setIfInBounds i true) a' w':=by
  intro a' w' hr'
  refine ⟨_,_,hr',hst,fun j d' V' hj hl=>?_,fun t ht=>?_⟩
  ·by_cases hij:i=j
   ·subst hij;rw [hout] at hj;cases hj;exact look_cons_same _ _ _
   ·rw [getD_set_ne false hij] at hl
    have hne:d≠d':=by rintro rfl;exact hij (out_inj H.nodup hout hj)
    rw [look_cons_other _ _ _ _ hne,same]
    exact h1 _ _ _ hj hl
  ·have hne:d≠t:=by
    rintro rfl
    have:=has_mem (List.mem_of_getElem? hout)
    rw [ht] at this;cases this
   rw [look_cons_other _ _ _ _ hne,same];exact h2 t ht
 have only:∀e a' w',(∃ σ',Only ⟨(d,V)::(deps (out.take i) o++(T0++T)),O++f.run Ov⟩ e σ'∧Rel n m G σ' a' w')→e=.normal∧K a' w':=by
  rintro e a' w' ⟨σ',hq,hr'⟩
  cases e<;>first|(simp only [Only] at hq;subst hq;exact ⟨rfl,hK _ _ (good _ _ hr')⟩)|exact hq.elim
 unfold wpOp
 simp only [ho]
 change wpList P ops _ [o] a w at hw'
 unfold wpList at hw'
 by_cases hwant:Region.wanted o (yielded ops a.tmps)=true
 ·rw [if_pos hwant] at hw' ⊢
  rcases hw' with hw'|⟨_,a',w',hx⟩
  ·refine .inl ?_
   unfold Oper.wp at hw' ⊢
   generalize (execOp a.eval o).run P w=r at*
   cases r with
   |ok x w1=>
    cases x<;>simp only [Oper.upon] at hw' ⊢
    case value v=>exact (only _ _ _ hw').2
    case skip=>exact (only _ _ _ hw').2
    case defer d=>exact (only _ _ _ hw').2
    case enter f args=>
     refine hw'.mono fun e w2 h2=>?_
     cases e with
     |returned v=>exact (only _ _ _ h2).2
     |panicked c=>exact absurd (only _ _ _ h2).1 (by simp)
     |outgrown=>obtain ⟨_,_,hf⟩:=h2;exact absurd (only _ _ _ hf).1 (by simp)
    case row r ar=>exact hw'.mono fun v w2 h2=>(only _ _ _ h2).2
   |halt x w1=>cases x<;>simp only [Oper.upon] at hw' ⊢<;>first|exact absurd (only _ _ _ hw').1 (by simp)|exact hw'.elim|(obtain ⟨_,_,hf⟩:=hw';exact absurd (only _ _ _ hf).1 (by simp))
  ·exact absurd (only _ _ _ hx).1 (by simp)
 ·rw [if_neg hwant] at hw' ⊢
  exact (only _ _ _ hw').2
theorem WpA.regionQ {l:List Oper} {id:Nat} {out T1:List (Nat×AV)} {ks:List Fil} {Q:Exit→St→Prop} (k:Nat) (Oe:List AObj) (hm:P.follows .mixedOrders=true) (hB:mixB l.toArray k=true)
 (hJ:HeadQ P n m G l.toArray T0 O Oi keep [] [] (l.take k) out ks) (hok:RoomOk ks Oi.length k) (hkp:∀q,memB q keep=true→q<Oi.length∧∀i f p ob,i<k→ks[i]?=some f→f.spot=some (p,ob)→p≠q) (hOe:Oe.length=Oi.length∧∀q,q<Oi.length→(∃ i f ob,i<k∧ks[i]?=some f∧f.spot=some (q,ob)∧Oe[q]?=some ob)∨((∀ i f p ob,i<k→ks[i]?=some f→f.spot=some (p,ob)→p≠q)∧Oe[q]?=Oi[q]?)) (hnd:nodupB (out.map (·.1))=true) (hfr:(out.all fun p=>!has T0 p.1)=true)
 (hT1:out++T0=T1) (h:WpL P n m G false l.toArray (l.drop k) ⟨T1,O++(Oe++List.replicate ((List.range k).filter fun i=>isPut ks i).length deadO)⟩ Q):WpA P n m G (.region id l.toArray true) ⟨T0,O++Oi⟩ Q:=fun a w hr=>by
 subst hT1
 simp only [mixB,Bool.and_eq_true,decide_eq_true_eq,Bool.or_eq_true] at hB
 obtain ⟨⟨⟨hks,hback⟩,hsc⟩,hseq⟩:=hB
 have hkl:k≤l.length:=by simpa using hks
 have htl:(l.take k).length=k:=by simp;omega
 obtain ⟨r,s,hr1,hr2,hr3,hr4⟩:=hJ.pre
 have hlen:out.length=k:=by rw [hr1];simp [hr2];omega
 have H:Heads l.toArray T0 out k:=⟨hlen,nodupB_spec hnd,fun p hp=>by have:=List.all_eq_true.1 hfr p hp;simpa using this,fun i hi o ho e he hb=>by
  have h1:=List.all_eq_true.1 hback i (List.mem_range.2 hi)
  rw [ho] at h1
  have h2:=List.all_eq_true.1 h1 e (by simpa using he)
  simp only [Bool.or_eq_true,Bool.not_eq_true',decide_eq_true_eq] at h2
  rcases h2 with h2|h2
  ·rw [hb] at h2;cases h2
  ·exact h2⟩
 have hJ':∀{j:Nat} {o:Oper},j<k→l.toArray[j]?=some o→∃d V f,o.dst=some d∧out[j]?=some (d,V)∧ks[j]?=some f∧
  ∀Tv Ov,Oi.length≤Ov.length→(∀ p ob,f.spot=some (p,ob)→Ov[p]?=Oi[p]?)→(∀ i f p ob,waits o i=true→(ks.take j)[i]?=some f→f.spot=some (p,ob)→Ov[p]?=some ob)→(∀ q,memB q keep=true→Ov[q]?=Oi[q]?)→WpL P n m G false l.toArray [o] ⟨deps (out.take j) o++(T0++Tv),O++Ov⟩ (Only ⟨(d,V)::(deps (out.take j) o++(T0++Tv)),O++f.run Ov⟩):=by
  intro j o hj ho
  have ho':(l.take k)[j]?=some o:=by rw [List.getElem?_take,if_pos hj];simpa using ho
  have:=hJ.at rfl ho'
  simpa using this
 have inv0:HeadInv .any l.toArray k (Array.replicate l.toArray.size false):=
  ⟨by simp,fun j oj _ hl=>(by rw [getD_replicate_false] at hl;cases hl),fun t _ ht=>getD_in (by simpa using ht) (getD_replicate_false _ _)⟩
 have room0:RoomAt ks Oi k (Array.replicate l.toArray.size false) Oi:=by
  refine ⟨?_,fun i f p ob _ _ _ hl=>(by rw [getD_replicate_false] at hl;cases hl),fun i f p ob _ _ _ _=>rfl,fun q _ _=>rfl,fun q h1 h2=>by omega⟩
  have:((List.range k).filter fun i=>(Array.replicate l.toArray.size false).getD i false&&((ks[i]?.map Fil.isPut).getD false))=[]:=by
   rw [List.filter_eq_nil_iff];intro i _;rw [getD_replicate_false];simp
  rw [this];simp
 refine wp_region_any hm ?_
 have fin:=any_order (P:=P) (GP:=GoodQ n m G T0 out O Oi k ks) (g:=l.toArray.size-k) (Q:=fun e a' w'=>∃σ',Q e σ'∧Rel n m G σ' a' w') H hks (fun hk=>hsc.resolve_left (by omega)) (fun inv _ hi hik _ _ hg _ hK=>head_stepQ H hok hkp hJ' inv hi hik hg hK) (fun listed a w inv hall hg=>by
  obtain ⟨T,Ov,hrT,hroom,h1,h2⟩:=hg
  have hOv:Ov=Oe++List.replicate ((List.range k).filter fun i=>isPut ks i).length deadO:=by
   have hcnt:((List.range k).filter fun i=>listed.getD i false&&((ks[i]?.map Fil.isPut).getD false))=(List.range k).filter fun i=>isPut ks i:=by
    refine List.filter_congr fun i hi=>?_
    rw [hall i (List.mem_range.1 hi)];rfl
   have hlen:=hroom.len
   rw [hcnt] at hlen
   apply List.ext_getElem?
   intro q
   rcases Nat.lt_or_ge q Oi.length with hq|hq
   ·rw [List.getElem?_append_left (by omega)]
    rcases hOe.2 q hq with ⟨i,f,ob,hi,hk,hsp,he⟩|⟨hno,he⟩
    ·rw [hroom.full i f q ob hi hk hsp (hall i hi),he]
    ·rw [hroom.rest q hq hno,he]
   ·rcases Nat.lt_or_ge q Ov.length with h3|h3
    ·rw [hroom.dead q hq h3,List.getElem?_append_right (by omega),List.getElem?_replicate,if_pos (by omega)]
    ·rw [List.getElem?_eq_none h3,List.getElem?_eq_none (by simp;omega)]
  subst hOv
  have hlist:listed=(Array.range l.toArray.size).map fun i=>decide (i<k):=by
   apply Array.ext
   ·simp [inv.size]
   ·intro i hi1 hi2
    have hi:i<l.toArray.size:=by rw [←inv.size];exact hi1
    by_cases hik:i<k
    ·have:=hall i hik
     simp [hi1] at this
     simp [this,hik]
    ·have:=inv.tail i (by omega) hi
     simp [hi1] at this
     simp [this,hik]
  have hdl:(l.drop k).length=l.toArray.size-k:=by simp
  rw [←hdl]
  refine wpAny_of_seq (l.drop k) k listed a w (fun j=>by simp [List.getElem?_drop]) (by rw [hdl,hlist];exact hseq) ?_
  refine h a w (hrT.relook fun t=>?_)
  rw [look_append]
  split
  ·rename_i hh
   obtain ⟨i,hi,hi2⟩:=List.getElem_of_mem (has_look hh)
   have:out[i]?=some (t,look out t):=by rw [List.getElem?_eq_getElem hi,hi2]
   exact (h1 i _ _ this (hall i (by omega))).symm
  ·rename_i hh
   exact (h2 t (by simpa using hh)).symm) k _ a w.drew inv0 (by
    have:((List.range k).filter fun i=>!(Array.replicate l.toArray.size false).getD i false)=List.range k:=by
     rw [List.filter_eq_self];intro i _;rw [getD_replicate_false];rfl
    rw [this];simp) ⟨T0,_,hr.drew,room0,⟨fun i d V _ hl=>(by rw [getD_replicate_false] at hl;cases hl),fun _ _=>rfl⟩⟩
 rw [show k+(l.toArray.size-k)=l.toArray.size by omega] at fin
 exact fin
theorem RelAt.room {n m G S ι F T O a w} (hr:RelAt n m G S ι F ⟨T,O⟩ a w):RelAt n m G S (upd ι O.length none) (upd F O.length []) ⟨T,O++[roomO]⟩ a w:=by
 have hlat:Later S w ι O S w (upd ι O.length none) (O++[roomO]):=by
  refine ⟨fun _ h=>h,fun _ _=>rfl,fun id ob' h=>?_⟩
  have hlt:id<O.length:=(List.getElem?_eq_some_iff.1 h).1
  exact ⟨ob',by rw [List.getElem?_append_left hlt];exact h,.inr ⟨rfl,rfl,upd_other _ _ (by omega)⟩⟩
 refine ⟨hr.defers,hr.size,fun t'=>(hr.tmps t').mono hlat (by simp),⟨fun id ob' h=>?_,fun id h=>?_,fun i j hi hj hij b hb=>?_⟩,fun id h b hb=>?_,hr.base,hr.stable,hr.keeps,fun id h=>?_,?_⟩
 ·rcases getElem?_snoc O _ ob' id h with ⟨hlt,h⟩|⟨rfl,rfl⟩
  ·rw [upd_other _ _ (by omega),upd_other _ _ (by omega)]
   have ho:=hr.objs.obj id ob' h
   unfold ObjAt at ho ⊢
   cases hs:ι id with
   |none=>rw [hs] at ho;exact ho
   |some p=>
    obtain ⟨b,k⟩:=p
    rw [hs] at ho
    obtain ⟨cur',t',fz',f',h1,h2,h3,h4,h5,h6,h7⟩:=ho
    exact ⟨cur',t',fz',f',h1,h2,h3,h4,h5,h6,h7.mono hlat fun _ _=>rfl⟩
  ·rw [upd_same,upd_same];exact ⟨rfl,rfl⟩
 ·simp only [List.length_append,List.length_cons,List.length_nil] at h
  by_cases he:id=O.length
  ·subst he;rw [upd_same];simp
  ·rw [upd_other _ _ he];exact hr.objs.nodup id (by show id<O.length;omega)
 ·simp only [List.length_append,List.length_cons,List.length_nil] at hi hj
  by_cases h1:i=O.length
  ·subst h1;rw [upd_same] at hb;simp at hb
  ·rw [upd_other _ _ h1] at hb
   by_cases h2:j=O.length
   ·subst h2;rw [upd_same];simp
   ·rw [upd_other _ _ h2];exact hr.objs.apart i j (by show i<O.length;omega) (by show j<O.length;omega) hij b hb
 ·simp only [List.length_append,List.length_cons,List.length_nil] at h
  by_cases he:id=O.length
  ·subst he;rw [upd_same] at hb;simp at hb
  ·rw [upd_other _ _ he] at hb;exact hr.foot id (by show id<O.length;omega) b hb
 ·have hm:m≤O.length:=hr.mle
  rw [upd_other _ _ (by omega)];exact hr.spots id h
 ·have hm:m≤O.length:=hr.mle
  show m≤(O++[_]).length
  simp;omega
theorem Weak.rooms {T:List (Nat×AV)}:∀(c:Nat) (O:List AObj),Weak m ⟨T,O⟩ ⟨T,O++List.replicate c roomO⟩
 |0,O=>by simp;exact fun n G a w h=>h
 |c+1,O=>by
  have h1:Weak m ⟨T,O⟩ ⟨T,O++[roomO]⟩:=by
   rintro n' G' a w ⟨S,ι,F,hr⟩
   exact ⟨S,_,_,hr.room⟩
  have h2:=Weak.rooms (T:=T) c (O++[roomO])
  rw [List.append_assoc] at h2
  exact h1.trans h2
theorem cnt_some:∀(n k:Nat),cnt n k=some (n+k)
 |0,k=>by simp [cnt]
 |n+1,k=>by rw [cnt,cnt_some n (k+1)];congr 1;omega
theorem fill_eq (Ov:List AObj) {p:Nat} (x:AObj):(O++Ov).set (O.length+p) x++[deadO]=O++(Ov.set p x++[deadO]):=by
 rw [List.set_append_right _ _ (by omega),Nat.add_sub_cancel_left,List.append_assoc]
theorem fill_at {Ov:List AObj} {p:Nat} {x:AObj} (h:Ov[p]?=some x):(O++Ov)[O.length+p]?=some x:=by
 rw [List.getElem?_append_right (by omega),Nat.add_sub_cancel_left];exact h
theorem srcB_own {id ep len:Nat} {ob:AObj} (ho:O[id]?=some ob) (he:Nat.beq ob.ep ep=true):srcB O (.own id ep 0 len)=some (ob.cells,len):=by
 simp only [srcB,ho,he]
theorem step_eq (Ov:List AObj) {p:Nat} (x:AObj):(O++Ov).set (O.length+p) x=O++Ov.set p x:=by
 rw [List.set_append_right _ _ (by omega),Nat.add_sub_cancel_left]
theorem WpL.putNil {T:List (Nat×AV)} {Ov:List AObj} {p d off len:Nat} {ob:AObj} (hp:Ov[p]?=some roomO) (hm:m≤O.length+p) (hob:ob.ep=0) (hst:ob.cells.all AV.still=true):
 WpL P n m G false ops [] ⟨(d,.own (O++Ov).length 0 off len)::T,O++Ov++[ob]⟩ (Only ⟨(d,.own (O.length+p) 1 off len)::T,O++(Fil.put p ob.put1).run Ov⟩):=by
 refine WpL.weak (Weak.fill (j:=O.length+p) (fill_at hp) hm rfl hob hst) ?_
 refine WpL.nil (Only.mk ?_)
 rw [fill_eq];rfl
def fillAll:List Fil→List AObj→List AObj
 |[],Oi=>Oi
 |f::ks,Oi=>fillAll ks (match f.spot with|some (p,ob)=>Oi.set p ob|none=>Oi)
def spots:List Fil→List Nat
 |[]=>[]
 |f::ks=>match f.spot with|some (p,_)=>p::spots ks|none=>spots ks
def spotsB (c:Nat):List Nat→Bool
 |[]=>true
 |p::l=>Nat.blt p c&&!memB p l&&spotsB c l
theorem memB_false {p:Nat}:∀{l:List Nat},memB p l=false→p ∉ l
 |[],_=>by simp
 |q::l,h=>by
  rw [memB,Bool.or_eq_false_iff] at h
  have h2:=memB_false h.2
  have h1:p≠q:=by rintro rfl;have:=h.1;simp at this
  simp [h1,h2]
theorem mem_spots:∀{ks:List Fil} {i:Nat} {f:Fil} {p:Nat} {ob:AObj},ks[i]?=some f→f.spot=some (p,ob)→p∈spots ks
 |[],i,f,p,ob,h,_=>by simp at h
 |g::ks,0,f,p,ob,h,hs=>by simp at h;subst h;unfold spots;rw [hs];simp
 |g::ks,i+1,f,p,ob,h,hs=>by
  have:=mem_spots (ks:=ks) (i:=i) (by simpa using h) hs
  unfold spots;split
  ·exact List.mem_cons_of_mem _ this
  ·exact this
theorem fillAll_len:∀(ks:List Fil) (Oi:List AObj),(fillAll ks Oi).length=Oi.length
 |[],_=>rfl
 |f::ks,Oi=>by rw [fillAll,fillAll_len ks];split<;>simp
theorem fillAll_no:∀(ks:List Fil) (Oi:List AObj) (q:Nat),q ∉ spots ks→(fillAll ks Oi)[q]?=Oi[q]?
 |[],_,_,_=>rfl
 |f::ks,Oi,q,h=>by
  unfold spots at h
  rw [fillAll]
  split
  ·rename_i p ob hs
   rw [hs] at h
   simp only [List.mem_cons,not_or] at h
   rw [fillAll_no ks _ q h.2,List.getElem?_set,if_neg (fun e=>h.1 e.symm)]
  ·rename_i hs
   rw [hs] at h
   exact fillAll_no ks _ q h
theorem fillAll_at:∀(ks:List Fil) (Oi:List AObj) (q:Nat),spotsB Oi.length (spots ks)=true→q∈spots ks→∃i f ob,i<ks.length∧ks[i]?=some f∧f.spot=some (q,ob)∧(fillAll ks Oi)[q]?=some ob
 |[],_,_,_,h=>by simp [spots] at h
 |f::ks,Oi,q,hB,h=>by
  rw [fillAll]
  unfold spots at h hB
  cases hs:f.spot with
  |none=>
   rw [hs] at h hB
   obtain ⟨i,g,ob,h1,h2,h3,h4⟩:=fillAll_at ks Oi q hB h
   exact ⟨i+1,g,ob,by simpa using h1,by simpa using h2,h3,h4⟩
  |some x=>
   obtain ⟨p,ob⟩:=x
   rw [hs] at h hB
   simp only [spotsB,Bool.and_eq_true,Bool.not_eq_true'] at hB
   have hno:=memB_false hB.1.2
   have hpl:p<Oi.length:=Nat.le_of_ble_eq_true hB.1.1
   rcases List.mem_cons.1 h with rfl|h
   ·exact ⟨0,f,ob,by simp,by simp,hs,by rw [fillAll_no ks _ q hno,List.getElem?_set_self hpl]⟩
   ·obtain ⟨i,g,oc,h1,h2,h3,h4⟩:=fillAll_at ks (Oi.set p ob) q (by simpa using hB.2) h
    exact ⟨i+1,g,oc,by simpa using h1,by simpa using h2,h3,h4⟩
theorem spots_lt:∀{l:List Nat} {c:Nat},spotsB c l=true→∀p∈l,p<c
 |[],_,_,p,h=>by cases h
 |q::l,c,hB,p,h=>by
  simp only [spotsB,Bool.and_eq_true,Bool.not_eq_true'] at hB
  rcases List.mem_cons.1 h with rfl|h
  ·exact Nat.le_of_ble_eq_true hB.1.1
  ·exact spots_lt hB.2 p h
theorem spots_inj:∀{ks:List Fil} {c i j:Nat} {f g:Fil} {p:Nat} {ob oc:AObj},spotsB c (spots ks)=true→ks[i]?=some f→ks[j]?=some g→f.spot=some (p,ob)→g.spot=some (p,oc)→i=j
 |[],c,i,j,f,g,p,ob,oc,_,h,_,_,_=>by simp at h
 |x::ks,c,i,j,f,g,p,ob,oc,hB,hi,hj,hf,hg=>by
  unfold spots at hB
  cases i with
  |zero=>
   simp at hi;subst hi
   cases j with
   |zero=>rfl
   |succ j=>
    rw [hf] at hB
    simp only [spotsB,Bool.and_eq_true,Bool.not_eq_true'] at hB
    exact absurd (mem_spots (ks:=ks) (i:=j) (by simpa using hj) hg) (memB_false hB.1.2)
  |succ i=>
   cases j with
   |zero=>
    simp at hj;subst hj
    rw [hg] at hB
    simp only [spotsB,Bool.and_eq_true,Bool.not_eq_true'] at hB
    exact absurd (mem_spots (ks:=ks) (i:=i) (by simpa using hi) hf) (memB_false hB.1.2)
   |succ j=>
    have hB':spotsB c (spots ks)=true:=by
     cases hx:x.spot with
     |none=>rw [hx] at hB;exact hB
     |some y=>rw [hx] at hB;simp only [spotsB,Bool.and_eq_true] at hB;exact hB.2
    have e:i=j:=spots_inj (ks:=ks) (c:=c) (i:=i) (j:=j) hB' (by simpa using hi) (by simpa using hj) hf hg
    rw [e]
theorem roomOk_of {ks:List Fil} {c k:Nat} (h:spotsB c (spots ks)=true):RoomOk ks c k:=
 ⟨fun i f p ob _ hk hs=>spots_lt h p (mem_spots hk hs),fun i j f g p q ob oc _ _ hi hj hf hg e=>by subst e;exact spots_inj h hi hj hf hg⟩
def keepB (c:Nat) (sp:List Nat):List Nat→Bool
 |[]=>true
 |q::l=>Nat.blt q c&&!memB q sp&&keepB c sp l
theorem keepB_of {c k:Nat} {ks:List Fil}:∀{l:List Nat},keepB c (spots ks) l=true→∀{q},memB q l=true→q<c∧∀i f p ob,i<k→ks[i]?=some f→f.spot=some (p,ob)→p≠q
 |[],_,q,h=>by cases h
 |x::l,hB,q,h=>by
  simp only [keepB,Bool.and_eq_true,Bool.not_eq_true'] at hB
  rw [memB,Bool.or_eq_true] at h
  rcases h with h|h
  ·have:=Nat.eq_of_beq_eq_true h
   subst this
   exact ⟨Nat.le_of_ble_eq_true hB.1.1,fun i f p ob _ hk hs e=>by subst e;exact memB_false hB.1.2 (mem_spots hk hs)⟩
  ·exact keepB_of hB.2 h
theorem HeadQ.consF {fs fs2 out:List (Nat×AV)} {gs gs2:List Fil} {o:Oper} {l:List Oper} {d:Nat} {V:AV} {F:List (Nat×AV)} {ks:List Fil} (k:Fil) (hd:o.dst=some d) (hF:depsF fs o.after.toList=some F)
 (h:∀Tv Ov,Oi.length≤Ov.length→(∀ p ob,k.spot=some (p,ob)→Ov[p]?=Oi[p]?)→(∀ j f p ob,waits o j=true→gs[j]?=some f→f.spot=some (p,ob)→Ov[p]?=some ob)→(∀ q,memB q keep=true→Ov[q]?=Oi[q]?)→WpL P n m G false ops [o] ⟨F++(T0++Tv),O++Ov⟩ (Only ⟨(d,V)::(F++(T0++Tv)),O++k.run Ov⟩)) (hs:catF fs [(d,V)]=some fs2) (hg:catF gs [k]=some gs2) (r:HeadQ P n m G ops T0 O Oi keep fs2 gs2 l out ks):HeadQ P n m G ops T0 O Oi keep fs gs (o::l) out ks:=by
 have:=catF_eq hs;subst this;have:=catF_eq hg;subst this
 exact .cons k hd (depsF_eq hF) h r
theorem WpA.regionQF {l l1 l2:List Oper} {id:Nat} {out T1:List (Nat×AV)} {ks:List Fil} {Of Or O1:List AObj} {Q:Exit→St→Prop} (k c:Nat) (keep:List Nat) (hO0:Of=O++Or) (hm:P.follows .mixedOrders=true) (hB:mixB l.toArray k=true)
 (hl:takeF k l=some l1) (hJ:HeadQ P n m G l.toArray T0 O (Or++List.replicate c roomO) keep [] [] l1 out ks) (hok:spotsB (Or.length+c) (spots ks)=true) (hkp:keepB (Or.length+c) (spots ks) keep=true) (hnd:nodupB (out.map (·.1))=true) (hfr:(out.all fun p=>!has T0 p.1)=true)
 (hT1:catF out T0=some T1) (h2:l.drop k=l2) (hO:O++(fillAll ks (Or++List.replicate c roomO)++List.replicate ((List.range k).filter fun i=>isPut ks i).length deadO)=O1) (h:WpL P n m G false l.toArray l2 ⟨T1,O1⟩ Q):WpA P n m G (.region id l.toArray true) ⟨T0,Of⟩ Q:=by
 have:=takeF_eq hl;subst this;subst h2;subst hO;subst hO0
 have hc:(Or++List.replicate c roomO).length=Or.length+c:=by simp
 have hkl:ks.length≤k:=by
  obtain ⟨_,s,_,_,h3,h4⟩:=hJ.pre
  rw [h3];simp [h4];omega
 have hk2:k≤l.length:=by
  simp only [mixB,Bool.and_eq_true,decide_eq_true_eq] at hB
  simpa using hB.1.1.1
 have hB2:spotsB (Or++List.replicate c roomO).length (spots ks)=true:=by rw [hc];exact hok
 have hw:=WpA.regionQ (Q:=Q) (id:=id) k (fillAll ks (Or++List.replicate c roomO)) hm hB hJ (roomOk_of hB2) (fun q hq=>by rw [hc];exact keepB_of hkp hq) ⟨fillAll_len _ _,fun q hq=>by
  by_cases hq2:q∈spots ks
  ·obtain ⟨i,f,ob,h1,h2,h3,h4⟩:=fillAll_at ks _ q hB2 hq2
   exact .inl ⟨i,f,ob,by omega,h2,h3,h4⟩
  ·exact .inr ⟨fun i f p ob _ hk hs e=>by subst e;exact hq2 (mem_spots hk hs),fillAll_no ks _ q hq2⟩⟩ hnd hfr (catF_eq hT1) h
 have hr:=Weak.rooms (m:=m) (T:=T0) c (O++Or)
 rw [List.append_assoc] at hr
 exact WpA.weak hr hw
def catO:List AObj→List AObj→List AObj
 |[],B=>B
 |a::A,B=>a::catO A B
theorem catO_eq:∀A B:List AObj,catO A B=A++B
 |[],B=>rfl
 |a::A,B=>by rw [catO,catO_eq A B];rfl
theorem WpA.regionQ0 {l l1 l2:List Oper} {id:Nat} {out T1:List (Nat×AV)} {ks:List Fil} {O1:List AObj} {Q:Exit→St→Prop} (k c:Nat) (hm:P.follows .mixedOrders=true) (hB:mixB l.toArray k=true)
 (hl:takeF k l=some l1) (hJ:HeadQ P n m G l.toArray T0 O (List.replicate c roomO) [] [] [] l1 out ks) (hok:spotsB c (spots ks)=true) (hnd:nodupB (out.map (·.1))=true) (hfr:(out.all fun p=>!has T0 p.1)=true)
 (hT1:catF out T0=some T1) (h2:l.drop k=l2) (hO:catO O (catO (fillAll ks (List.replicate c roomO)) (List.replicate ((List.range k).filter fun i=>isPut ks i).length deadO))=O1) (h:WpL P n m G false l.toArray l2 ⟨T1,O1⟩ Q):WpA P n m G (.region id l.toArray true) ⟨T0,O⟩ Q:=
 WpA.regionQF (O:=O) (Or:=[]) (Of:=O) k c [] (List.append_nil _).symm hm hB hl (by simpa using hJ) (by simpa using hok) rfl hnd hfr hT1 h2 (by rw [catO_eq,catO_eq] at hO;exact hO) h
end
end Go.Abs


namespace Go.Abs
open Go
section
variable {P:Program} {n m:Nat} {G:Ctx} {T0:List (Nat×AV)} {O:List AObj}
end
end Go.Abs


namespace Go.Abs
open Go
def RollN (P:Program) (n m:Nat) (G:Ctx) (c:Code) (Q:Exit→St→Prop):Nat→St→Prop
 |0,_=>False
 |k+1,σ=>WpA P n m G c σ (Seq (RollN P n m G c Q k) Q)
section
variable {P:Program} {n m:Nat} {G:Ctx} {c:Code} {Q:Exit→St→Prop} {σ:St}
end
end Go.Abs
