/- Proved in this text: lemmas and contracts of functions that the claim uses (parts: Tab). No condition. -/
import Derived.Test.YtndflfipaddfoaaGreatProg
import Derived.Test.YtndflfipaddfoaaGreatWbM5
import Derived.KernelRfl
set_option linter.unusedVariables false
set_option linter.unusedSimpArgs false
set_option maxRecDepth 100000
set_option maxHeartbeats 4000000


namespace Go.Proofs.YtndflfipaddfoaaGreat
open Go Go.Abs
theorem ty1:TyOk Tryz.prog 1 (.func):=⟨⟨_,_,_,Tryz.underlying1⟩,by unfold ScOk;kernel_rfl⟩
theorem ty2:TyOk Tryz.prog 2 (.int .i64):=⟨Tryz.underlying2,by unfold ScOk;kernel_rfl⟩
theorem ty3:TyOk Tryz.prog 3 (.int .i64):=⟨Tryz.underlying3,by unfold ScOk;kernel_rfl⟩
theorem ty4:TyOk Tryz.prog 4 (.bool):=⟨Tryz.underlying4,by unfold ScOk;kernel_rfl⟩
theorem ty5:TyOk Tryz.prog 5 (.int .u8):=⟨Tryz.underlying5,by unfold ScOk;kernel_rfl⟩
theorem ty6:TyOk Tryz.prog 6 (.int .u8):=⟨Tryz.underlying6,by unfold ScOk;kernel_rfl⟩
theorem ty7:TyOk Tryz.prog 7 (.struct [0,1,2,3] 4 [.sc (.int .i64 0),.sc (.int .i64 0),.sc (.bool false),.sc (.int .u8 0)]):=⟨_,Tryz.underlying7,⟨.agg #[.int .i64 0,.int .i64 0,.bool false,.int .u8 0],by kernel_rfl,rfl,rfl⟩,fun f o h=>match f,h with|0,h=>by cases h;kernel_rfl|1,h=>by cases h;kernel_rfl|2,h=>by cases h;kernel_rfl|3,h=>by cases h;kernel_rfl|(f+4),h=>by simp at h⟩
theorem ty8:TyOk Tryz.prog 8 (.struct [0,1,2,3] 4 [.sc (.int .i64 0),.sc (.int .i64 0),.sc (.bool false),.sc (.int .u8 0)]):=⟨_,Tryz.underlying8,⟨.agg #[.int .i64 0,.int .i64 0,.bool false,.int .u8 0],by kernel_rfl,rfl,rfl⟩,fun f o h=>match f,h with|0,h=>by cases h;kernel_rfl|1,h=>by cases h;kernel_rfl|2,h=>by cases h;kernel_rfl|3,h=>by cases h;kernel_rfl|(f+4),h=>by simp at h⟩
theorem ty9:TyOk Tryz.prog 9 (.string):=⟨Tryz.underlying9,by unfold ScOk;kernel_rfl⟩
theorem ty10:TyOk Tryz.prog 10 (.string):=⟨Tryz.underlying10,by unfold ScOk;kernel_rfl⟩
theorem ty11:TyOk Tryz.prog 11 (.string):=⟨Tryz.underlying11,by unfold ScOk;kernel_rfl⟩
theorem ty12:TyOk Tryz.prog 12 (.int .u64):=⟨Tryz.underlying12,by unfold ScOk;kernel_rfl⟩
theorem ty13:TyOk Tryz.prog 13 (.struct [0,1] 2 [.sc (.string ⟨#[]⟩),.sc (.int .u64 0)]):=⟨_,Tryz.underlying13,⟨.agg #[.string ⟨#[]⟩,.int .u64 0],by kernel_rfl,rfl,rfl⟩,fun f o h=>match f,h with|0,h=>by cases h;kernel_rfl|1,h=>by cases h;kernel_rfl|(f+2),h=>by simp at h⟩
theorem ty14:TyOk Tryz.prog 14 (.struct [0,1] 2 [.sc (.string ⟨#[]⟩),.sc (.int .u64 0)]):=⟨_,Tryz.underlying14,⟨.agg #[.string ⟨#[]⟩,.int .u64 0],by kernel_rfl,rfl,rfl⟩,fun f o h=>match f,h with|0,h=>by cases h;kernel_rfl|1,h=>by cases h;kernel_rfl|(f+2),h=>by simp at h⟩
theorem ty15:TyOk Tryz.prog 15 (.ptr):=⟨⟨_,Tryz.underlying15⟩,by unfold ScOk;kernel_rfl⟩
theorem ty16:TyOk Tryz.prog 16 (.ptr):=⟨⟨_,Tryz.underlying16⟩,by unfold ScOk;kernel_rfl⟩
theorem ty17:TyOk Tryz.prog 17 (.ptr):=⟨⟨_,Tryz.underlying17⟩,by unfold ScOk;kernel_rfl⟩
theorem ty18:TyOk Tryz.prog 18 (.struct [0] 1 [.sc (.pointer none)]):=⟨_,Tryz.underlying18,⟨.agg #[.pointer none],by kernel_rfl,rfl,rfl⟩,fun f o h=>match f,h with|0,h=>by cases h;kernel_rfl|(f+1),h=>by simp at h⟩
theorem ty19:TyOk Tryz.prog 19 (.struct [0] 1 [.sc (.pointer none)]):=⟨_,Tryz.underlying19,⟨.agg #[.pointer none],by kernel_rfl,rfl,rfl⟩,fun f o h=>match f,h with|0,h=>by cases h;kernel_rfl|(f+1),h=>by simp at h⟩
theorem ty20:TyOk Tryz.prog 20 (.iface):=⟨⟨_,Tryz.underlying20⟩,by unfold ScOk;kernel_rfl⟩
theorem ty21:TyOk Tryz.prog 21 (.int .i32):=⟨Tryz.underlying21,by unfold ScOk;kernel_rfl⟩
theorem ty22:TyOk Tryz.prog 22 (.slice 3 1 8 [.sc (.int .i64 0)]):=⟨Tryz.underlying22,by unfold ScOk;kernel_rfl,.int .i64 0,by kernel_rfl,rfl,by decide,rfl⟩
theorem ty23:TyOk Tryz.prog 23 (.struct [0,1,2] 3 [.sc (.int .i64 0),.sc (.int .i64 0),.nilS]):=⟨_,Tryz.underlying23,⟨.agg #[.int .i64 0,.int .i64 0,.slice none 0 0],by kernel_rfl,rfl,rfl⟩,fun f o h=>match f,h with|0,h=>by cases h;kernel_rfl|1,h=>by cases h;kernel_rfl|2,h=>by cases h;kernel_rfl|(f+3),h=>by simp at h⟩
theorem ty24:TyOk Tryz.prog 24 (.struct [0,1,2] 3 [.sc (.int .i64 0),.sc (.int .i64 0),.nilS]):=⟨_,Tryz.underlying24,⟨.agg #[.int .i64 0,.int .i64 0,.slice none 0 0],by kernel_rfl,rfl,rfl⟩,fun f o h=>match f,h with|0,h=>by cases h;kernel_rfl|1,h=>by cases h;kernel_rfl|2,h=>by cases h;kernel_rfl|(f+3),h=>by simp at h⟩
theorem ty26:TyOk Tryz.prog 26 (.func):=⟨⟨_,_,_,Tryz.underlying26⟩,by unfold ScOk;kernel_rfl⟩
theorem ty27:TyOk Tryz.prog 27 (.func):=⟨⟨_,_,_,Tryz.underlying27⟩,by unfold ScOk;kernel_rfl⟩
theorem ty28:TyOk Tryz.prog 28 (.func):=⟨⟨_,_,_,Tryz.underlying28⟩,by unfold ScOk;kernel_rfl⟩
theorem ty29:TyOk Tryz.prog 29 (.func):=⟨⟨_,_,_,Tryz.underlying29⟩,by unfold ScOk;kernel_rfl⟩
theorem ty30:TyOk Tryz.prog 30 (.slice 24 3 40 [.sc (.int .i64 0),.sc (.int .i64 0),.nilS]):=⟨Tryz.underlying30,by unfold ScOk;kernel_rfl,.agg #[.int .i64 0,.int .i64 0,.slice none 0 0],by kernel_rfl,rfl,by decide,rfl⟩
theorem ty32:TyOk Tryz.prog 32 (.func):=⟨⟨_,_,_,Tryz.underlying32⟩,by unfold ScOk;kernel_rfl⟩
theorem ty33:TyOk Tryz.prog 33 (.func):=⟨⟨_,_,_,Tryz.underlying33⟩,by unfold ScOk;kernel_rfl⟩
theorem ty34:TyOk Tryz.prog 34 (.func):=⟨⟨_,_,_,Tryz.underlying34⟩,by unfold ScOk;kernel_rfl⟩
theorem ty35:TyOk Tryz.prog 35 (.func):=⟨⟨_,_,_,Tryz.underlying35⟩,by unfold ScOk;kernel_rfl⟩
theorem ty36:TyOk Tryz.prog 36 (.func):=⟨⟨_,_,_,Tryz.underlying36⟩,by unfold ScOk;kernel_rfl⟩
theorem ty37:TyOk Tryz.prog 37 (.slice 5 1 1 [.sc (.int .u8 0)]):=⟨Tryz.underlying37,by unfold ScOk;kernel_rfl,.int .u8 0,by kernel_rfl,rfl,by decide,rfl⟩
theorem ty38:TyOk Tryz.prog 38 (.func):=⟨⟨_,_,_,Tryz.underlying38⟩,by unfold ScOk;kernel_rfl⟩
theorem ty39:TyOk Tryz.prog 39 (.struct [0,1,2,3,4,5] 6 [.sc (.int .i64 0),.sc (.int .i64 0),.sc (.int .i64 0),.sc (.bool false),.sc (.bool false),.nilS]):=⟨_,Tryz.underlying39,⟨.agg #[.int .i64 0,.int .i64 0,.int .i64 0,.bool false,.bool false,.slice none 0 0],by kernel_rfl,rfl,rfl⟩,fun f o h=>match f,h with|0,h=>by cases h;kernel_rfl|1,h=>by cases h;kernel_rfl|2,h=>by cases h;kernel_rfl|3,h=>by cases h;kernel_rfl|4,h=>by cases h;kernel_rfl|5,h=>by cases h;kernel_rfl|(f+6),h=>by simp at h⟩
theorem ty40:TyOk Tryz.prog 40 (.struct [0,1,2,3,4,5] 6 [.sc (.int .i64 0),.sc (.int .i64 0),.sc (.int .i64 0),.sc (.bool false),.sc (.bool false),.nilS]):=⟨_,Tryz.underlying40,⟨.agg #[.int .i64 0,.int .i64 0,.int .i64 0,.bool false,.bool false,.slice none 0 0],by kernel_rfl,rfl,rfl⟩,fun f o h=>match f,h with|0,h=>by cases h;kernel_rfl|1,h=>by cases h;kernel_rfl|2,h=>by cases h;kernel_rfl|3,h=>by cases h;kernel_rfl|4,h=>by cases h;kernel_rfl|5,h=>by cases h;kernel_rfl|(f+6),h=>by simp at h⟩
theorem ty41:TyOk Tryz.prog 41 (.slice 67 2 32 [.sc (.bool false),.nilS]):=⟨Tryz.underlying41,by unfold ScOk;kernel_rfl,.agg #[.bool false,.slice none 0 0],by kernel_rfl,rfl,by decide,rfl⟩
theorem ty42:TyOk Tryz.prog 42 (.struct [0,6] 7 [.sc (.int .i64 0),.sc (.int .i64 0),.sc (.int .i64 0),.sc (.bool false),.sc (.bool false),.nilS,.nilS]):=⟨_,Tryz.underlying42,⟨.agg #[.int .i64 0,.int .i64 0,.int .i64 0,.bool false,.bool false,.slice none 0 0,.slice none 0 0],by kernel_rfl,rfl,rfl⟩,fun f o h=>match f,h with|0,h=>by cases h;kernel_rfl|1,h=>by cases h;kernel_rfl|(f+2),h=>by simp at h⟩
theorem ty43:TyOk Tryz.prog 43 (.struct [0,6] 7 [.sc (.int .i64 0),.sc (.int .i64 0),.sc (.int .i64 0),.sc (.bool false),.sc (.bool false),.nilS,.nilS]):=⟨_,Tryz.underlying43,⟨.agg #[.int .i64 0,.int .i64 0,.int .i64 0,.bool false,.bool false,.slice none 0 0,.slice none 0 0],by kernel_rfl,rfl,rfl⟩,fun f o h=>match f,h with|0,h=>by cases h;kernel_rfl|1,h=>by cases h;kernel_rfl|(f+2),h=>by simp at h⟩
theorem ty44:TyOk Tryz.prog 44 (.func):=⟨⟨_,_,_,Tryz.underlying44⟩,by unfold ScOk;kernel_rfl⟩
theorem ty45:TyOk Tryz.prog 45 (.func):=⟨⟨_,_,_,Tryz.underlying45⟩,by unfold ScOk;kernel_rfl⟩
theorem ty46:TyOk Tryz.prog 46 (.func):=⟨⟨_,_,_,Tryz.underlying46⟩,by unfold ScOk;kernel_rfl⟩
theorem ty47:TyOk Tryz.prog 47 (.func):=⟨⟨_,_,_,Tryz.underlying47⟩,by unfold ScOk;kernel_rfl⟩
theorem ty48:TyOk Tryz.prog 48 (.func):=⟨⟨_,_,_,Tryz.underlying48⟩,by unfold ScOk;kernel_rfl⟩
theorem ty49:TyOk Tryz.prog 49 (.func):=⟨⟨_,_,_,Tryz.underlying49⟩,by unfold ScOk;kernel_rfl⟩
theorem ty50:TyOk Tryz.prog 50 (.func):=⟨⟨_,_,_,Tryz.underlying50⟩,by unfold ScOk;kernel_rfl⟩
theorem ty52:TyOk Tryz.prog 52 (.func):=⟨⟨_,_,_,Tryz.underlying52⟩,by unfold ScOk;kernel_rfl⟩
theorem ty54:TyOk Tryz.prog 54 (.func):=⟨⟨_,_,_,Tryz.underlying54⟩,by unfold ScOk;kernel_rfl⟩
theorem ty56:TyOk Tryz.prog 56 (.func):=⟨⟨_,_,_,Tryz.underlying56⟩,by unfold ScOk;kernel_rfl⟩
theorem ty57:TyOk Tryz.prog 57 (.func):=⟨⟨_,_,_,Tryz.underlying57⟩,by unfold ScOk;kernel_rfl⟩
theorem ty58:TyOk Tryz.prog 58 (.func):=⟨⟨_,_,_,Tryz.underlying58⟩,by unfold ScOk;kernel_rfl⟩
theorem ty59:TyOk Tryz.prog 59 (.func):=⟨⟨_,_,_,Tryz.underlying59⟩,by unfold ScOk;kernel_rfl⟩
theorem ty60:TyOk Tryz.prog 60 (.func):=⟨⟨_,_,_,Tryz.underlying60⟩,by unfold ScOk;kernel_rfl⟩
theorem ty61:TyOk Tryz.prog 61 (.struct [0,1] 2 [.sc (.string ⟨#[]⟩),.sc (.int .i64 0)]):=⟨_,Tryz.underlying61,⟨.agg #[.string ⟨#[]⟩,.int .i64 0],by kernel_rfl,rfl,rfl⟩,fun f o h=>match f,h with|0,h=>by cases h;kernel_rfl|1,h=>by cases h;kernel_rfl|(f+2),h=>by simp at h⟩
theorem ty62:TyOk Tryz.prog 62 (.struct [0,1] 2 [.sc (.string ⟨#[]⟩),.sc (.int .i64 0)]):=⟨_,Tryz.underlying62,⟨.agg #[.string ⟨#[]⟩,.int .i64 0],by kernel_rfl,rfl,rfl⟩,fun f o h=>match f,h with|0,h=>by cases h;kernel_rfl|1,h=>by cases h;kernel_rfl|(f+2),h=>by simp at h⟩
theorem ty64:TyOk Tryz.prog 64 (.func):=⟨⟨_,_,_,Tryz.underlying64⟩,by unfold ScOk;kernel_rfl⟩
theorem ty65:TyOk Tryz.prog 65 (.slice 92 2 32 [.sc (.int .i64 0),.nilS]):=⟨Tryz.underlying65,by unfold ScOk;kernel_rfl,.agg #[.int .i64 0,.slice none 0 0],by kernel_rfl,rfl,by decide,rfl⟩
theorem ty66:TyOk Tryz.prog 66 (.struct [0,1] 2 [.sc (.bool false),.nilS]):=⟨_,Tryz.underlying66,⟨.agg #[.bool false,.slice none 0 0],by kernel_rfl,rfl,rfl⟩,fun f o h=>match f,h with|0,h=>by cases h;kernel_rfl|1,h=>by cases h;kernel_rfl|(f+2),h=>by simp at h⟩
theorem ty67:TyOk Tryz.prog 67 (.struct [0,1] 2 [.sc (.bool false),.nilS]):=⟨_,Tryz.underlying67,⟨.agg #[.bool false,.slice none 0 0],by kernel_rfl,rfl,rfl⟩,fun f o h=>match f,h with|0,h=>by cases h;kernel_rfl|1,h=>by cases h;kernel_rfl|(f+2),h=>by simp at h⟩
theorem ty69:TyOk Tryz.prog 69 (.func):=⟨⟨_,_,_,Tryz.underlying69⟩,by unfold ScOk;kernel_rfl⟩
theorem ty70:TyOk Tryz.prog 70 (.func):=⟨⟨_,_,_,Tryz.underlying70⟩,by unfold ScOk;kernel_rfl⟩
theorem ty71:TyOk Tryz.prog 71 (.func):=⟨⟨_,_,_,Tryz.underlying71⟩,by unfold ScOk;kernel_rfl⟩
theorem ty72:TyOk Tryz.prog 72 (.struct [0,1,2,3] 4 [.sc (.string ⟨#[]⟩),.sc (.int .i64 0),.sc (.int .i64 0),.sc (.int .i64 0)]):=⟨_,Tryz.underlying72,⟨.agg #[.string ⟨#[]⟩,.int .i64 0,.int .i64 0,.int .i64 0],by kernel_rfl,rfl,rfl⟩,fun f o h=>match f,h with|0,h=>by cases h;kernel_rfl|1,h=>by cases h;kernel_rfl|2,h=>by cases h;kernel_rfl|3,h=>by cases h;kernel_rfl|(f+4),h=>by simp at h⟩
theorem ty73:TyOk Tryz.prog 73 (.struct [0,1,2,3] 4 [.sc (.string ⟨#[]⟩),.sc (.int .i64 0),.sc (.int .i64 0),.sc (.int .i64 0)]):=⟨_,Tryz.underlying73,⟨.agg #[.string ⟨#[]⟩,.int .i64 0,.int .i64 0,.int .i64 0],by kernel_rfl,rfl,rfl⟩,fun f o h=>match f,h with|0,h=>by cases h;kernel_rfl|1,h=>by cases h;kernel_rfl|2,h=>by cases h;kernel_rfl|3,h=>by cases h;kernel_rfl|(f+4),h=>by simp at h⟩
theorem ty75:TyOk Tryz.prog 75 (.func):=⟨⟨_,_,_,Tryz.underlying75⟩,by unfold ScOk;kernel_rfl⟩
theorem ty76:TyOk Tryz.prog 76 (.func):=⟨⟨_,_,_,Tryz.underlying76⟩,by unfold ScOk;kernel_rfl⟩
theorem ty77:TyOk Tryz.prog 77 (.slice 141 2 16 [.sc (.int .i64 0),.sc (.int .i64 0)]):=⟨Tryz.underlying77,by unfold ScOk;kernel_rfl,.agg #[.int .i64 0,.int .i64 0],by kernel_rfl,rfl,by decide,rfl⟩
theorem ty78:TyOk Tryz.prog 78 (.func):=⟨⟨_,_,_,Tryz.underlying78⟩,by unfold ScOk;kernel_rfl⟩
theorem ty79:TyOk Tryz.prog 79 (.func):=⟨⟨_,_,_,Tryz.underlying79⟩,by unfold ScOk;kernel_rfl⟩
theorem ty81:TyOk Tryz.prog 81 (.func):=⟨⟨_,_,_,Tryz.underlying81⟩,by unfold ScOk;kernel_rfl⟩
theorem ty83:TyOk Tryz.prog 83 (.func):=⟨⟨_,_,_,Tryz.underlying83⟩,by unfold ScOk;kernel_rfl⟩
theorem ty84:TyOk Tryz.prog 84 (.func):=⟨⟨_,_,_,Tryz.underlying84⟩,by unfold ScOk;kernel_rfl⟩
theorem ty85:TyOk Tryz.prog 85 (.func):=⟨⟨_,_,_,Tryz.underlying85⟩,by unfold ScOk;kernel_rfl⟩
theorem ty87:TyOk Tryz.prog 87 (.func):=⟨⟨_,_,_,Tryz.underlying87⟩,by unfold ScOk;kernel_rfl⟩
theorem ty88:TyOk Tryz.prog 88 (.func):=⟨⟨_,_,_,Tryz.underlying88⟩,by unfold ScOk;kernel_rfl⟩
theorem ty90:TyOk Tryz.prog 90 (.func):=⟨⟨_,_,_,Tryz.underlying90⟩,by unfold ScOk;kernel_rfl⟩
theorem ty91:TyOk Tryz.prog 91 (.struct [0,1] 2 [.sc (.int .i64 0),.nilS]):=⟨_,Tryz.underlying91,⟨.agg #[.int .i64 0,.slice none 0 0],by kernel_rfl,rfl,rfl⟩,fun f o h=>match f,h with|0,h=>by cases h;kernel_rfl|1,h=>by cases h;kernel_rfl|(f+2),h=>by simp at h⟩
theorem ty92:TyOk Tryz.prog 92 (.struct [0,1] 2 [.sc (.int .i64 0),.nilS]):=⟨_,Tryz.underlying92,⟨.agg #[.int .i64 0,.slice none 0 0],by kernel_rfl,rfl,rfl⟩,fun f o h=>match f,h with|0,h=>by cases h;kernel_rfl|1,h=>by cases h;kernel_rfl|(f+2),h=>by simp at h⟩
theorem ty93:TyOk Tryz.prog 93 (.func):=⟨⟨_,_,_,Tryz.underlying93⟩,by unfold ScOk;kernel_rfl⟩
theorem ty94:TyOk Tryz.prog 94 (.slice 9 1 16 [.sc (.string ⟨#[]⟩)]):=⟨Tryz.underlying94,by unfold ScOk;kernel_rfl,.string ⟨#[]⟩,by kernel_rfl,rfl,by decide,rfl⟩
theorem ty96:TyOk Tryz.prog 96 (.func):=⟨⟨_,_,_,Tryz.underlying96⟩,by unfold ScOk;kernel_rfl⟩
theorem ty97:TyOk Tryz.prog 97 (.func):=⟨⟨_,_,_,Tryz.underlying97⟩,by unfold ScOk;kernel_rfl⟩
theorem ty98:TyOk Tryz.prog 98 (.ptr):=⟨⟨_,Tryz.underlying98⟩,by unfold ScOk;kernel_rfl⟩
theorem ty99:TyOk Tryz.prog 99 (.func):=⟨⟨_,_,_,Tryz.underlying99⟩,by unfold ScOk;kernel_rfl⟩
theorem ty100:TyOk Tryz.prog 100 (.slice 103 3 24 [.sc (.int .i64 0),.sc (.int .i64 0),.sc (.int .i64 0)]):=⟨Tryz.underlying100,by unfold ScOk;kernel_rfl,.agg #[.int .i64 0,.int .i64 0,.int .i64 0],by kernel_rfl,rfl,by decide,rfl⟩
theorem ty101:TyOk Tryz.prog 101 (.func):=⟨⟨_,_,_,Tryz.underlying101⟩,by unfold ScOk;kernel_rfl⟩
theorem ty102:TyOk Tryz.prog 102 (.struct [0,1,2] 3 [.sc (.int .i64 0),.sc (.int .i64 0),.sc (.int .i64 0)]):=⟨_,Tryz.underlying102,⟨.agg #[.int .i64 0,.int .i64 0,.int .i64 0],by kernel_rfl,rfl,rfl⟩,fun f o h=>match f,h with|0,h=>by cases h;kernel_rfl|1,h=>by cases h;kernel_rfl|2,h=>by cases h;kernel_rfl|(f+3),h=>by simp at h⟩
theorem ty103:TyOk Tryz.prog 103 (.struct [0,1,2] 3 [.sc (.int .i64 0),.sc (.int .i64 0),.sc (.int .i64 0)]):=⟨_,Tryz.underlying103,⟨.agg #[.int .i64 0,.int .i64 0,.int .i64 0],by kernel_rfl,rfl,rfl⟩,fun f o h=>match f,h with|0,h=>by cases h;kernel_rfl|1,h=>by cases h;kernel_rfl|2,h=>by cases h;kernel_rfl|(f+3),h=>by simp at h⟩
theorem ty104:TyOk Tryz.prog 104 (.func):=⟨⟨_,_,_,Tryz.underlying104⟩,by unfold ScOk;kernel_rfl⟩
theorem ty105:TyOk Tryz.prog 105 (.func):=⟨⟨_,_,_,Tryz.underlying105⟩,by unfold ScOk;kernel_rfl⟩
theorem ty106:TyOk Tryz.prog 106 (.func):=⟨⟨_,_,_,Tryz.underlying106⟩,by unfold ScOk;kernel_rfl⟩
theorem ty107:TyOk Tryz.prog 107 (.func):=⟨⟨_,_,_,Tryz.underlying107⟩,by unfold ScOk;kernel_rfl⟩
theorem ty108:TyOk Tryz.prog 108 (.func):=⟨⟨_,_,_,Tryz.underlying108⟩,by unfold ScOk;kernel_rfl⟩
theorem ty109:TyOk Tryz.prog 109 (.func):=⟨⟨_,_,_,Tryz.underlying109⟩,by unfold ScOk;kernel_rfl⟩
theorem ty110:TyOk Tryz.prog 110 (.func):=⟨⟨_,_,_,Tryz.underlying110⟩,by unfold ScOk;kernel_rfl⟩
theorem ty111:TyOk Tryz.prog 111 (.func):=⟨⟨_,_,_,Tryz.underlying111⟩,by unfold ScOk;kernel_rfl⟩
theorem ty112:TyOk Tryz.prog 112 (.func):=⟨⟨_,_,_,Tryz.underlying112⟩,by unfold ScOk;kernel_rfl⟩
theorem ty113:TyOk Tryz.prog 113 (.func):=⟨⟨_,_,_,Tryz.underlying113⟩,by unfold ScOk;kernel_rfl⟩
theorem ty115:TyOk Tryz.prog 115 (.func):=⟨⟨_,_,_,Tryz.underlying115⟩,by unfold ScOk;kernel_rfl⟩
theorem ty116:TyOk Tryz.prog 116 (.func):=⟨⟨_,_,_,Tryz.underlying116⟩,by unfold ScOk;kernel_rfl⟩
theorem ty117:TyOk Tryz.prog 117 (.func):=⟨⟨_,_,_,Tryz.underlying117⟩,by unfold ScOk;kernel_rfl⟩
theorem ty118:TyOk Tryz.prog 118 (.func):=⟨⟨_,_,_,Tryz.underlying118⟩,by unfold ScOk;kernel_rfl⟩
theorem ty119:TyOk Tryz.prog 119 (.func):=⟨⟨_,_,_,Tryz.underlying119⟩,by unfold ScOk;kernel_rfl⟩
theorem ty120:TyOk Tryz.prog 120 (.func):=⟨⟨_,_,_,Tryz.underlying120⟩,by unfold ScOk;kernel_rfl⟩
theorem ty121:TyOk Tryz.prog 121 (.func):=⟨⟨_,_,_,Tryz.underlying121⟩,by unfold ScOk;kernel_rfl⟩
theorem ty122:TyOk Tryz.prog 122 (.func):=⟨⟨_,_,_,Tryz.underlying122⟩,by unfold ScOk;kernel_rfl⟩
theorem ty123:TyOk Tryz.prog 123 (.func):=⟨⟨_,_,_,Tryz.underlying123⟩,by unfold ScOk;kernel_rfl⟩
theorem ty124:TyOk Tryz.prog 124 (.func):=⟨⟨_,_,_,Tryz.underlying124⟩,by unfold ScOk;kernel_rfl⟩
theorem ty125:TyOk Tryz.prog 125 (.func):=⟨⟨_,_,_,Tryz.underlying125⟩,by unfold ScOk;kernel_rfl⟩
theorem ty126:TyOk Tryz.prog 126 (.func):=⟨⟨_,_,_,Tryz.underlying126⟩,by unfold ScOk;kernel_rfl⟩
theorem ty127:TyOk Tryz.prog 127 (.func):=⟨⟨_,_,_,Tryz.underlying127⟩,by unfold ScOk;kernel_rfl⟩
theorem ty128:TyOk Tryz.prog 128 (.func):=⟨⟨_,_,_,Tryz.underlying128⟩,by unfold ScOk;kernel_rfl⟩
theorem ty130:TyOk Tryz.prog 130 (.func):=⟨⟨_,_,_,Tryz.underlying130⟩,by unfold ScOk;kernel_rfl⟩
theorem ty131:TyOk Tryz.prog 131 (.func):=⟨⟨_,_,_,Tryz.underlying131⟩,by unfold ScOk;kernel_rfl⟩
theorem ty133:TyOk Tryz.prog 133 (.func):=⟨⟨_,_,_,Tryz.underlying133⟩,by unfold ScOk;kernel_rfl⟩
theorem ty135:TyOk Tryz.prog 135 (.func):=⟨⟨_,_,_,Tryz.underlying135⟩,by unfold ScOk;kernel_rfl⟩
theorem ty136:TyOk Tryz.prog 136 (.func):=⟨⟨_,_,_,Tryz.underlying136⟩,by unfold ScOk;kernel_rfl⟩
theorem ty137:TyOk Tryz.prog 137 (.func):=⟨⟨_,_,_,Tryz.underlying137⟩,by unfold ScOk;kernel_rfl⟩
theorem ty138:TyOk Tryz.prog 138 (.func):=⟨⟨_,_,_,Tryz.underlying138⟩,by unfold ScOk;kernel_rfl⟩
theorem ty139:TyOk Tryz.prog 139 (.func):=⟨⟨_,_,_,Tryz.underlying139⟩,by unfold ScOk;kernel_rfl⟩
theorem ty140:TyOk Tryz.prog 140 (.struct [0,1] 2 [.sc (.int .i64 0),.sc (.int .i64 0)]):=⟨_,Tryz.underlying140,⟨.agg #[.int .i64 0,.int .i64 0],by kernel_rfl,rfl,rfl⟩,fun f o h=>match f,h with|0,h=>by cases h;kernel_rfl|1,h=>by cases h;kernel_rfl|(f+2),h=>by simp at h⟩
theorem ty141:TyOk Tryz.prog 141 (.struct [0,1] 2 [.sc (.int .i64 0),.sc (.int .i64 0)]):=⟨_,Tryz.underlying141,⟨.agg #[.int .i64 0,.int .i64 0],by kernel_rfl,rfl,rfl⟩,fun f o h=>match f,h with|0,h=>by cases h;kernel_rfl|1,h=>by cases h;kernel_rfl|(f+2),h=>by simp at h⟩
theorem ty142:TyOk Tryz.prog 142 (.func):=⟨⟨_,_,_,Tryz.underlying142⟩,by unfold ScOk;kernel_rfl⟩
theorem ty143:TyOk Tryz.prog 143 (.func):=⟨⟨_,_,_,Tryz.underlying143⟩,by unfold ScOk;kernel_rfl⟩
theorem ty144:TyOk Tryz.prog 144 (.func):=⟨⟨_,_,_,Tryz.underlying144⟩,by unfold ScOk;kernel_rfl⟩
theorem ty145:TyOk Tryz.prog 145 (.func):=⟨⟨_,_,_,Tryz.underlying145⟩,by unfold ScOk;kernel_rfl⟩
theorem ty146:TyOk Tryz.prog 146 (.func):=⟨⟨_,_,_,Tryz.underlying146⟩,by unfold ScOk;kernel_rfl⟩
theorem ty147:TyOk Tryz.prog 147 (.func):=⟨⟨_,_,_,Tryz.underlying147⟩,by unfold ScOk;kernel_rfl⟩
theorem ty148:TyOk Tryz.prog 148 (.func):=⟨⟨_,_,_,Tryz.underlying148⟩,by unfold ScOk;kernel_rfl⟩
theorem ty149:TyOk Tryz.prog 149 (.func):=⟨⟨_,_,_,Tryz.underlying149⟩,by unfold ScOk;kernel_rfl⟩
theorem ty150:TyOk Tryz.prog 150 (.ptr):=⟨⟨_,Tryz.underlying150⟩,by unfold ScOk;kernel_rfl⟩
theorem ty151:TyOk Tryz.prog 151 (.struct [0,2] 3 [.sc (.string ⟨#[]⟩),.sc (.int .i64 0),.sc (.int .i64 0)]):=⟨_,Tryz.underlying151,⟨.agg #[.string ⟨#[]⟩,.int .i64 0,.int .i64 0],by kernel_rfl,rfl,rfl⟩,fun f o h=>match f,h with|0,h=>by cases h;kernel_rfl|1,h=>by cases h;kernel_rfl|(f+2),h=>by simp at h⟩
theorem ty152:TyOk Tryz.prog 152 (.struct [0,2] 3 [.sc (.string ⟨#[]⟩),.sc (.int .i64 0),.sc (.int .i64 0)]):=⟨_,Tryz.underlying152,⟨.agg #[.string ⟨#[]⟩,.int .i64 0,.int .i64 0],by kernel_rfl,rfl,rfl⟩,fun f o h=>match f,h with|0,h=>by cases h;kernel_rfl|1,h=>by cases h;kernel_rfl|(f+2),h=>by simp at h⟩
theorem ty153:TyOk Tryz.prog 153 (.func):=⟨⟨_,_,_,Tryz.underlying153⟩,by unfold ScOk;kernel_rfl⟩
theorem ty155:TyOk Tryz.prog 155 (.func):=⟨⟨_,_,_,Tryz.underlying155⟩,by unfold ScOk;kernel_rfl⟩
theorem ty156:TyOk Tryz.prog 156 (.func):=⟨⟨_,_,_,Tryz.underlying156⟩,by unfold ScOk;kernel_rfl⟩
theorem ty157:TyOk Tryz.prog 157 (.func):=⟨⟨_,_,_,Tryz.underlying157⟩,by unfold ScOk;kernel_rfl⟩
theorem ty158:TyOk Tryz.prog 158 (.func):=⟨⟨_,_,_,Tryz.underlying158⟩,by unfold ScOk;kernel_rfl⟩
theorem ty159:TyOk Tryz.prog 159 (.func):=⟨⟨_,_,_,Tryz.underlying159⟩,by unfold ScOk;kernel_rfl⟩
theorem ty160:TyOk Tryz.prog 160 (.func):=⟨⟨_,_,_,Tryz.underlying160⟩,by unfold ScOk;kernel_rfl⟩
theorem ty161:TyOk Tryz.prog 161 (.func):=⟨⟨_,_,_,Tryz.underlying161⟩,by unfold ScOk;kernel_rfl⟩
theorem ty162:TyOk Tryz.prog 162 (.func):=⟨⟨_,_,_,Tryz.underlying162⟩,by unfold ScOk;kernel_rfl⟩
theorem ty163:TyOk Tryz.prog 163 (.func):=⟨⟨_,_,_,Tryz.underlying163⟩,by unfold ScOk;kernel_rfl⟩
theorem ty164:TyOk Tryz.prog 164 (.struct [0,1,2,3,4] 5 [.nilS,.nilS,.sc (.int .i64 0),.sc (.bool false),.sc (.bool false)]):=⟨_,Tryz.underlying164,⟨.agg #[.slice none 0 0,.slice none 0 0,.int .i64 0,.bool false,.bool false],by kernel_rfl,rfl,rfl⟩,fun f o h=>match f,h with|0,h=>by cases h;kernel_rfl|1,h=>by cases h;kernel_rfl|2,h=>by cases h;kernel_rfl|3,h=>by cases h;kernel_rfl|4,h=>by cases h;kernel_rfl|(f+5),h=>by simp at h⟩
theorem ty165:TyOk Tryz.prog 165 (.struct [0,1,2,3,4] 5 [.nilS,.nilS,.sc (.int .i64 0),.sc (.bool false),.sc (.bool false)]):=⟨_,Tryz.underlying165,⟨.agg #[.slice none 0 0,.slice none 0 0,.int .i64 0,.bool false,.bool false],by kernel_rfl,rfl,rfl⟩,fun f o h=>match f,h with|0,h=>by cases h;kernel_rfl|1,h=>by cases h;kernel_rfl|2,h=>by cases h;kernel_rfl|3,h=>by cases h;kernel_rfl|4,h=>by cases h;kernel_rfl|(f+5),h=>by simp at h⟩
theorem ty166:TyOk Tryz.prog 166 (.func):=⟨⟨_,_,_,Tryz.underlying166⟩,by unfold ScOk;kernel_rfl⟩
theorem ty167:TyOk Tryz.prog 167 (.func):=⟨⟨_,_,_,Tryz.underlying167⟩,by unfold ScOk;kernel_rfl⟩
theorem ty168:TyOk Tryz.prog 168 (.func):=⟨⟨_,_,_,Tryz.underlying168⟩,by unfold ScOk;kernel_rfl⟩
theorem ty169:TyOk Tryz.prog 169 (.func):=⟨⟨_,_,_,Tryz.underlying169⟩,by unfold ScOk;kernel_rfl⟩
theorem ty170:TyOk Tryz.prog 170 (.struct [0,1,2] 3 [.nilS,.sc (.int .i64 0),.sc (.int .i64 0)]):=⟨_,Tryz.underlying170,⟨.agg #[.slice none 0 0,.int .i64 0,.int .i64 0],by kernel_rfl,rfl,rfl⟩,fun f o h=>match f,h with|0,h=>by cases h;kernel_rfl|1,h=>by cases h;kernel_rfl|2,h=>by cases h;kernel_rfl|(f+3),h=>by simp at h⟩
theorem ty171:TyOk Tryz.prog 171 (.struct [0,1,2] 3 [.nilS,.sc (.int .i64 0),.sc (.int .i64 0)]):=⟨_,Tryz.underlying171,⟨.agg #[.slice none 0 0,.int .i64 0,.int .i64 0],by kernel_rfl,rfl,rfl⟩,fun f o h=>match f,h with|0,h=>by cases h;kernel_rfl|1,h=>by cases h;kernel_rfl|2,h=>by cases h;kernel_rfl|(f+3),h=>by simp at h⟩
theorem ty172:TyOk Tryz.prog 172 (.func):=⟨⟨_,_,_,Tryz.underlying172⟩,by unfold ScOk;kernel_rfl⟩
theorem ty173:TyOk Tryz.prog 173 (.func):=⟨⟨_,_,_,Tryz.underlying173⟩,by unfold ScOk;kernel_rfl⟩
theorem ty174:TyOk Tryz.prog 174 (.func):=⟨⟨_,_,_,Tryz.underlying174⟩,by unfold ScOk;kernel_rfl⟩
theorem ty175:TyOk Tryz.prog 175 (.func):=⟨⟨_,_,_,Tryz.underlying175⟩,by unfold ScOk;kernel_rfl⟩
theorem ty176:TyOk Tryz.prog 176 (.func):=⟨⟨_,_,_,Tryz.underlying176⟩,by unfold ScOk;kernel_rfl⟩
theorem ty177:TyOk Tryz.prog 177 (.func):=⟨⟨_,_,_,Tryz.underlying177⟩,by unfold ScOk;kernel_rfl⟩
theorem ty178:TyOk Tryz.prog 178 (.func):=⟨⟨_,_,_,Tryz.underlying178⟩,by unfold ScOk;kernel_rfl⟩
theorem ty179:TyOk Tryz.prog 179 (.func):=⟨⟨_,_,_,Tryz.underlying179⟩,by unfold ScOk;kernel_rfl⟩
theorem ty180:TyOk Tryz.prog 180 (.func):=⟨⟨_,_,_,Tryz.underlying180⟩,by unfold ScOk;kernel_rfl⟩
theorem ty181:TyOk Tryz.prog 181 (.func):=⟨⟨_,_,_,Tryz.underlying181⟩,by unfold ScOk;kernel_rfl⟩
theorem ty182:TyOk Tryz.prog 182 (.func):=⟨⟨_,_,_,Tryz.underlying182⟩,by unfold ScOk;kernel_rfl⟩
theorem ty183:TyOk Tryz.prog 183 (.func):=⟨⟨_,_,_,Tryz.underlying183⟩,by unfold ScOk;kernel_rfl⟩
theorem ty184:TyOk Tryz.prog 184 (.func):=⟨⟨_,_,_,Tryz.underlying184⟩,by unfold ScOk;kernel_rfl⟩
theorem ty185:TyOk Tryz.prog 185 (.func):=⟨⟨_,_,_,Tryz.underlying185⟩,by unfold ScOk;kernel_rfl⟩
theorem ty186:TyOk Tryz.prog 186 (.func):=⟨⟨_,_,_,Tryz.underlying186⟩,by unfold ScOk;kernel_rfl⟩
theorem ty187:TyOk Tryz.prog 187 (.func):=⟨⟨_,_,_,Tryz.underlying187⟩,by unfold ScOk;kernel_rfl⟩
theorem ty188:TyOk Tryz.prog 188 (.slice 22 1 24 [.nilS]):=⟨Tryz.underlying188,by unfold ScOk;kernel_rfl,.slice none 0 0,by kernel_rfl,rfl,by decide,rfl⟩
theorem ty189:TyOk Tryz.prog 189 (.func):=⟨⟨_,_,_,Tryz.underlying189⟩,by unfold ScOk;kernel_rfl⟩
theorem ty191:TyOk Tryz.prog 191 (.func):=⟨⟨_,_,_,Tryz.underlying191⟩,by unfold ScOk;kernel_rfl⟩
theorem ty192:TyOk Tryz.prog 192 (.func):=⟨⟨_,_,_,Tryz.underlying192⟩,by unfold ScOk;kernel_rfl⟩
theorem ty193:TyOk Tryz.prog 193 (.func):=⟨⟨_,_,_,Tryz.underlying193⟩,by unfold ScOk;kernel_rfl⟩
theorem ty194:TyOk Tryz.prog 194 (.slice 197 2 16 [.sc (.int .i64 0),.sc (.int .i64 0)]):=⟨Tryz.underlying194,by unfold ScOk;kernel_rfl,.agg #[.int .i64 0,.int .i64 0],by kernel_rfl,rfl,by decide,rfl⟩
theorem ty195:TyOk Tryz.prog 195 (.func):=⟨⟨_,_,_,Tryz.underlying195⟩,by unfold ScOk;kernel_rfl⟩
theorem ty196:TyOk Tryz.prog 196 (.struct [0,1] 2 [.sc (.int .i64 0),.sc (.int .i64 0)]):=⟨_,Tryz.underlying196,⟨.agg #[.int .i64 0,.int .i64 0],by kernel_rfl,rfl,rfl⟩,fun f o h=>match f,h with|0,h=>by cases h;kernel_rfl|1,h=>by cases h;kernel_rfl|(f+2),h=>by simp at h⟩
theorem ty197:TyOk Tryz.prog 197 (.struct [0,1] 2 [.sc (.int .i64 0),.sc (.int .i64 0)]):=⟨_,Tryz.underlying197,⟨.agg #[.int .i64 0,.int .i64 0],by kernel_rfl,rfl,rfl⟩,fun f o h=>match f,h with|0,h=>by cases h;kernel_rfl|1,h=>by cases h;kernel_rfl|(f+2),h=>by simp at h⟩
theorem ty199:TyOk Tryz.prog 199 (.func):=⟨⟨_,_,_,Tryz.underlying199⟩,by unfold ScOk;kernel_rfl⟩
theorem ty200:TyOk Tryz.prog 200 (.func):=⟨⟨_,_,_,Tryz.underlying200⟩,by unfold ScOk;kernel_rfl⟩
theorem ty201:TyOk Tryz.prog 201 (.func):=⟨⟨_,_,_,Tryz.underlying201⟩,by unfold ScOk;kernel_rfl⟩
theorem ty203:TyOk Tryz.prog 203 (.func):=⟨⟨_,_,_,Tryz.underlying203⟩,by unfold ScOk;kernel_rfl⟩
theorem ty204:TyOk Tryz.prog 204 (.func):=⟨⟨_,_,_,Tryz.underlying204⟩,by unfold ScOk;kernel_rfl⟩
theorem ty205:TyOk Tryz.prog 205 (.func):=⟨⟨_,_,_,Tryz.underlying205⟩,by unfold ScOk;kernel_rfl⟩
theorem ty206:TyOk Tryz.prog 206 (.func):=⟨⟨_,_,_,Tryz.underlying206⟩,by unfold ScOk;kernel_rfl⟩
theorem ty207:TyOk Tryz.prog 207 (.func):=⟨⟨_,_,_,Tryz.underlying207⟩,by unfold ScOk;kernel_rfl⟩
theorem ty208:TyOk Tryz.prog 208 (.func):=⟨⟨_,_,_,Tryz.underlying208⟩,by unfold ScOk;kernel_rfl⟩
theorem ty209:TyOk Tryz.prog 209 (.func):=⟨⟨_,_,_,Tryz.underlying209⟩,by unfold ScOk;kernel_rfl⟩
theorem ty210:TyOk Tryz.prog 210 (.func):=⟨⟨_,_,_,Tryz.underlying210⟩,by unfold ScOk;kernel_rfl⟩
theorem ty211:TyOk Tryz.prog 211 (.func):=⟨⟨_,_,_,Tryz.underlying211⟩,by unfold ScOk;kernel_rfl⟩
theorem ty212:TyOk Tryz.prog 212 (.func):=⟨⟨_,_,_,Tryz.underlying212⟩,by unfold ScOk;kernel_rfl⟩
theorem ty213:TyOk Tryz.prog 213 (.func):=⟨⟨_,_,_,Tryz.underlying213⟩,by unfold ScOk;kernel_rfl⟩
theorem ty214:TyOk Tryz.prog 214 (.func):=⟨⟨_,_,_,Tryz.underlying214⟩,by unfold ScOk;kernel_rfl⟩
theorem ty215:TyOk Tryz.prog 215 (.func):=⟨⟨_,_,_,Tryz.underlying215⟩,by unfold ScOk;kernel_rfl⟩
theorem ty216:TyOk Tryz.prog 216 (.int .u64):=⟨Tryz.underlying216,by unfold ScOk;kernel_rfl⟩
theorem ty218:TyOk Tryz.prog 218 (.func):=⟨⟨_,_,_,Tryz.underlying218⟩,by unfold ScOk;kernel_rfl⟩
theorem ty219:TyOk Tryz.prog 219 (.func):=⟨⟨_,_,_,Tryz.underlying219⟩,by unfold ScOk;kernel_rfl⟩
theorem ty220:TyOk Tryz.prog 220 (.func):=⟨⟨_,_,_,Tryz.underlying220⟩,by unfold ScOk;kernel_rfl⟩
theorem ty221:TyOk Tryz.prog 221 (.func):=⟨⟨_,_,_,Tryz.underlying221⟩,by unfold ScOk;kernel_rfl⟩
theorem ty222:TyOk Tryz.prog 222 (.func):=⟨⟨_,_,_,Tryz.underlying222⟩,by unfold ScOk;kernel_rfl⟩
theorem ty223:TyOk Tryz.prog 223 (.func):=⟨⟨_,_,_,Tryz.underlying223⟩,by unfold ScOk;kernel_rfl⟩
theorem ty224:TyOk Tryz.prog 224 (.func):=⟨⟨_,_,_,Tryz.underlying224⟩,by unfold ScOk;kernel_rfl⟩
theorem ty225:TyOk Tryz.prog 225 (.func):=⟨⟨_,_,_,Tryz.underlying225⟩,by unfold ScOk;kernel_rfl⟩
theorem ty226:TyOk Tryz.prog 226 (.func):=⟨⟨_,_,_,Tryz.underlying226⟩,by unfold ScOk;kernel_rfl⟩
theorem ty227:TyOk Tryz.prog 227 (.func):=⟨⟨_,_,_,Tryz.underlying227⟩,by unfold ScOk;kernel_rfl⟩
theorem ty228:TyOk Tryz.prog 228 (.func):=⟨⟨_,_,_,Tryz.underlying228⟩,by unfold ScOk;kernel_rfl⟩
theorem ty229:TyOk Tryz.prog 229 (.func):=⟨⟨_,_,_,Tryz.underlying229⟩,by unfold ScOk;kernel_rfl⟩
theorem ty230:TyOk Tryz.prog 230 (.func):=⟨⟨_,_,_,Tryz.underlying230⟩,by unfold ScOk;kernel_rfl⟩
theorem ty231:TyOk Tryz.prog 231 (.func):=⟨⟨_,_,_,Tryz.underlying231⟩,by unfold ScOk;kernel_rfl⟩
theorem ty232:TyOk Tryz.prog 232 (.func):=⟨⟨_,_,_,Tryz.underlying232⟩,by unfold ScOk;kernel_rfl⟩
theorem ty233:TyOk Tryz.prog 233 (.int .u32):=⟨Tryz.underlying233,by unfold ScOk;kernel_rfl⟩
theorem ty234:TyOk Tryz.prog 234 (.func):=⟨⟨_,_,_,Tryz.underlying234⟩,by unfold ScOk;kernel_rfl⟩
theorem ty235:TyOk Tryz.prog 235 (.int .u64):=⟨Tryz.underlying235,by unfold ScOk;kernel_rfl⟩
theorem ty236:TyOk Tryz.prog 236 (.func):=⟨⟨_,_,_,Tryz.underlying236⟩,by unfold ScOk;kernel_rfl⟩
theorem ty237:TyOk Tryz.prog 237 (.struct [0,1,2,3] 4 [.sc (.pointer none),.sc (.pointer none),.sc (.pointer none),.sc (.string ⟨#[]⟩)]):=⟨_,Tryz.underlying237,⟨.agg #[.pointer none,.pointer none,.pointer none,.string ⟨#[]⟩],by kernel_rfl,rfl,rfl⟩,fun f o h=>match f,h with|0,h=>by cases h;kernel_rfl|1,h=>by cases h;kernel_rfl|2,h=>by cases h;kernel_rfl|3,h=>by cases h;kernel_rfl|(f+4),h=>by simp at h⟩
theorem ty238:TyOk Tryz.prog 238 (.struct [0,1,2,3] 4 [.sc (.pointer none),.sc (.pointer none),.sc (.pointer none),.sc (.string ⟨#[]⟩)]):=⟨_,Tryz.underlying238,⟨.agg #[.pointer none,.pointer none,.pointer none,.string ⟨#[]⟩],by kernel_rfl,rfl,rfl⟩,fun f o h=>match f,h with|0,h=>by cases h;kernel_rfl|1,h=>by cases h;kernel_rfl|2,h=>by cases h;kernel_rfl|3,h=>by cases h;kernel_rfl|(f+4),h=>by simp at h⟩
theorem ty242:TyOk Tryz.prog 242 (.int .u8):=⟨Tryz.underlying242,by unfold ScOk;kernel_rfl⟩
theorem ty243:TyOk Tryz.prog 243 (.int .u8):=⟨Tryz.underlying243,by unfold ScOk;kernel_rfl⟩
theorem ty244:TyOk Tryz.prog 244 (.func):=⟨⟨_,_,_,Tryz.underlying244⟩,by unfold ScOk;kernel_rfl⟩
theorem ty245:TyOk Tryz.prog 245 (.ptr):=⟨⟨_,Tryz.underlying245⟩,by unfold ScOk;kernel_rfl⟩
theorem ty246:TyOk Tryz.prog 246 (.int .i32):=⟨Tryz.underlying246,by unfold ScOk;kernel_rfl⟩
theorem ty247:TyOk Tryz.prog 247 (.int .i32):=⟨Tryz.underlying247,by unfold ScOk;kernel_rfl⟩
theorem ty250:TyOk Tryz.prog 250 (.func):=⟨⟨_,_,_,Tryz.underlying250⟩,by unfold ScOk;kernel_rfl⟩
def tab:List (Nat×Ty):=[(1,.func),(2,.int .i64),(3,.int .i64),(4,.bool),(5,.int .u8),(6,.int .u8),(7,.struct [0,1,2,3] 4 [.sc (.int .i64 0),.sc (.int .i64 0),.sc (.bool false),.sc (.int .u8 0)]),(8,.struct [0,1,2,3] 4 [.sc (.int .i64 0),.sc (.int .i64 0),.sc (.bool false),.sc (.int .u8 0)]),(9,.string),(10,.string),(11,.string),(12,.int .u64),(13,.struct [0,1] 2 [.sc (.string ⟨#[]⟩),.sc (.int .u64 0)]),(14,.struct [0,1] 2 [.sc (.string ⟨#[]⟩),.sc (.int .u64 0)]),(15,.ptr),(16,.ptr),(17,.ptr),(18,.struct [0] 1 [.sc (.pointer none)]),(19,.struct [0] 1 [.sc (.pointer none)]),(20,.iface),(21,.int .i32),(22,.slice 3 1 8 [.sc (.int .i64 0)]),(23,.struct [0,1,2] 3 [.sc (.int .i64 0),.sc (.int .i64 0),.nilS]),(24,.struct [0,1,2] 3 [.sc (.int .i64 0),.sc (.int .i64 0),.nilS]),(26,.func),(27,.func),(28,.func),(29,.func),(30,.slice 24 3 40 [.sc (.int .i64 0),.sc (.int .i64 0),.nilS]),(32,.func),(33,.func),(34,.func),(35,.func),(36,.func),(37,.slice 5 1 1 [.sc (.int .u8 0)]),(38,.func),(39,.struct [0,1,2,3,4,5] 6 [.sc (.int .i64 0),.sc (.int .i64 0),.sc (.int .i64 0),.sc (.bool false),.sc (.bool false),.nilS]),(40,.struct [0,1,2,3,4,5] 6 [.sc (.int .i64 0),.sc (.int .i64 0),.sc (.int .i64 0),.sc (.bool false),.sc (.bool false),.nilS]),(41,.slice 67 2 32 [.sc (.bool false),.nilS]),(42,.struct [0,6] 7 [.sc (.int .i64 0),.sc (.int .i64 0),.sc (.int .i64 0),.sc (.bool false),.sc (.bool false),.nilS,.nilS]),(43,.struct [0,6] 7 [.sc (.int .i64 0),.sc (.int .i64 0),.sc (.int .i64 0),.sc (.bool false),.sc (.bool false),.nilS,.nilS]),(44,.func),(45,.func),(46,.func),(47,.func),(48,.func),(49,.func),(50,.func),(52,.func),(54,.func),(56,.func),(57,.func),(58,.func),(59,.func),(60,.func),(61,.struct [0,1] 2 [.sc (.string ⟨#[]⟩),.sc (.int .i64 0)]),(62,.struct [0,1] 2 [.sc (.string ⟨#[]⟩),.sc (.int .i64 0)]),(64,.func),(65,.slice 92 2 32 [.sc (.int .i64 0),.nilS]),(66,.struct [0,1] 2 [.sc (.bool false),.nilS]),(67,.struct [0,1] 2 [.sc (.bool false),.nilS]),(69,.func),(70,.func),(71,.func),(72,.struct [0,1,2,3] 4 [.sc (.string ⟨#[]⟩),.sc (.int .i64 0),.sc (.int .i64 0),.sc (.int .i64 0)]),(73,.struct [0,1,2,3] 4 [.sc (.string ⟨#[]⟩),.sc (.int .i64 0),.sc (.int .i64 0),.sc (.int .i64 0)]),(75,.func),(76,.func),(77,.slice 141 2 16 [.sc (.int .i64 0),.sc (.int .i64 0)]),(78,.func),(79,.func),(81,.func),(83,.func),(84,.func),(85,.func),(87,.func),(88,.func),(90,.func),(91,.struct [0,1] 2 [.sc (.int .i64 0),.nilS]),(92,.struct [0,1] 2 [.sc (.int .i64 0),.nilS]),(93,.func),(94,.slice 9 1 16 [.sc (.string ⟨#[]⟩)]),(96,.func),(97,.func),(98,.ptr),(99,.func),(100,.slice 103 3 24 [.sc (.int .i64 0),.sc (.int .i64 0),.sc (.int .i64 0)]),(101,.func),(102,.struct [0,1,2] 3 [.sc (.int .i64 0),.sc (.int .i64 0),.sc (.int .i64 0)]),(103,.struct [0,1,2] 3 [.sc (.int .i64 0),.sc (.int .i64 0),.sc (.int .i64 0)]),(104,.func),(105,.func),(106,.func),(107,.func),(108,.func),(109,.func),(110,.func),(111,.func),(112,.func),(113,.func),(115,.func),(116,.func),(117,.func),(118,.func),(119,.func),(120,.func),(121,.func),(122,.func),(123,.func),(124,.func),(125,.func),(126,.func),(127,.func),(128,.func),(130,.func),(131,.func),(133,.func),(135,.func),(136,.func),(137,.func),(138,.func),(139,.func),(140,.struct [0,1] 2 [.sc (.int .i64 0),.sc (.int .i64 0)]),(141,.struct [0,1] 2 [.sc (.int .i64 0),.sc (.int .i64 0)]),(142,.func),(143,.func),(144,.func),(145,.func),(146,.func),(147,.func),(148,.func),(149,.func),(150,.ptr),(151,.struct [0,2] 3 [.sc (.string ⟨#[]⟩),.sc (.int .i64 0),.sc (.int .i64 0)]),(152,.struct [0,2] 3 [.sc (.string ⟨#[]⟩),.sc (.int .i64 0),.sc (.int .i64 0)]),(153,.func),(155,.func),(156,.func),(157,.func),(158,.func),(159,.func),(160,.func),(161,.func),(162,.func),(163,.func),(164,.struct [0,1,2,3,4] 5 [.nilS,.nilS,.sc (.int .i64 0),.sc (.bool false),.sc (.bool false)]),(165,.struct [0,1,2,3,4] 5 [.nilS,.nilS,.sc (.int .i64 0),.sc (.bool false),.sc (.bool false)]),(166,.func),(167,.func),(168,.func),(169,.func),(170,.struct [0,1,2] 3 [.nilS,.sc (.int .i64 0),.sc (.int .i64 0)]),(171,.struct [0,1,2] 3 [.nilS,.sc (.int .i64 0),.sc (.int .i64 0)]),(172,.func),(173,.func),(174,.func),(175,.func),(176,.func),(177,.func),(178,.func),(179,.func),(180,.func),(181,.func),(182,.func),(183,.func),(184,.func),(185,.func),(186,.func),(187,.func),(188,.slice 22 1 24 [.nilS]),(189,.func),(191,.func),(192,.func),(193,.func),(194,.slice 197 2 16 [.sc (.int .i64 0),.sc (.int .i64 0)]),(195,.func),(196,.struct [0,1] 2 [.sc (.int .i64 0),.sc (.int .i64 0)]),(197,.struct [0,1] 2 [.sc (.int .i64 0),.sc (.int .i64 0)]),(199,.func),(200,.func),(201,.func),(203,.func),(204,.func),(205,.func),(206,.func),(207,.func),(208,.func),(209,.func),(210,.func),(211,.func),(212,.func),(213,.func),(214,.func),(215,.func),(216,.int .u64),(218,.func),(219,.func),(220,.func),(221,.func),(222,.func),(223,.func),(224,.func),(225,.func),(226,.func),(227,.func),(228,.func),(229,.func),(230,.func),(231,.func),(232,.func),(233,.int .u32),(234,.func),(235,.int .u64),(236,.func),(237,.struct [0,1,2,3] 4 [.sc (.pointer none),.sc (.pointer none),.sc (.pointer none),.sc (.string ⟨#[]⟩)]),(238,.struct [0,1,2,3] 4 [.sc (.pointer none),.sc (.pointer none),.sc (.pointer none),.sc (.string ⟨#[]⟩)]),(242,.int .u8),(243,.int .u8),(244,.func),(245,.ptr),(246,.int .i32),(247,.int .i32),(250,.func)]
theorem tabOk:TabOk Tryz.prog tab:=by
 intro p hp
 simp only [tab,List.mem_cons,List.not_mem_nil,or_false] at hp
 rcases hp with rfl|rfl|rfl|rfl|rfl|rfl|rfl|rfl|rfl|rfl|rfl|rfl|rfl|rfl|rfl|rfl|rfl|rfl|rfl|rfl|rfl|rfl|rfl|rfl|rfl|rfl|rfl|rfl|rfl|rfl|rfl|rfl|rfl|rfl|rfl|rfl|rfl|rfl|rfl|rfl|rfl|rfl|rfl|rfl|rfl|rfl|rfl|rfl|rfl|rfl|rfl|rfl|rfl|rfl|rfl|rfl|rfl|rfl|rfl|rfl|rfl|rfl|rfl|rfl|rfl|rfl|rfl|rfl|rfl|rfl|rfl|rfl|rfl|rfl|rfl|rfl|rfl|rfl|rfl|rfl|rfl|rfl|rfl|rfl|rfl|rfl|rfl|rfl|rfl|rfl|rfl|rfl|rfl|rfl|rfl|rfl|rfl|rfl|rfl|rfl|rfl|rfl|rfl|rfl|rfl|rfl|rfl|rfl|rfl|rfl|rfl|rfl|rfl|rfl|rfl|rfl|rfl|rfl|rfl|rfl|rfl|rfl|rfl|rfl|rfl|rfl|rfl|rfl|rfl|rfl|rfl|rfl|rfl|rfl|rfl|rfl|rfl|rfl|rfl|rfl|rfl|rfl|rfl|rfl|rfl|rfl|rfl|rfl|rfl|rfl|rfl|rfl|rfl|rfl|rfl|rfl|rfl|rfl|rfl|rfl|rfl|rfl|rfl|rfl|rfl|rfl|rfl|rfl|rfl|rfl|rfl|rfl|rfl|rfl|rfl|rfl|rfl|rfl|rfl|rfl|rfl|rfl|rfl|rfl|rfl|rfl|rfl|rfl|rfl|rfl|rfl|rfl|rfl|rfl|rfl|rfl|rfl|rfl|rfl|rfl|rfl|rfl|rfl|rfl|rfl|rfl|rfl|rfl|rfl|rfl|rfl|rfl|rfl|rfl|rfl|rfl|rfl|rfl|rfl|rfl|rfl|rfl|rfl
 ·exact ty1
 ·exact ty2
 ·exact ty3
 ·exact ty4
 ·exact ty5
 ·exact ty6
 ·exact ty7
 ·exact ty8
 ·exact ty9
 ·exact ty10
 ·exact ty11
 ·exact ty12
 ·exact ty13
 ·exact ty14
 ·exact ty15
 ·exact ty16
 ·exact ty17
 ·exact ty18
 ·exact ty19
 ·exact ty20
 ·exact ty21
 ·exact ty22
 ·exact ty23
 ·exact ty24
 ·exact ty26
 ·exact ty27
 ·exact ty28
 ·exact ty29
 ·exact ty30
 ·exact ty32
 ·exact ty33
 ·exact ty34
 ·exact ty35
 ·exact ty36
 ·exact ty37
 ·exact ty38
 ·exact ty39
 ·exact ty40
 ·exact ty41
 ·exact ty42
 ·exact ty43
 ·exact ty44
 ·exact ty45
 ·exact ty46
 ·exact ty47
 ·exact ty48
 ·exact ty49
 ·exact ty50
 ·exact ty52
 ·exact ty54
 ·exact ty56
 ·exact ty57
 ·exact ty58
 ·exact ty59
 ·exact ty60
 ·exact ty61
 ·exact ty62
 ·exact ty64
 ·exact ty65
 ·exact ty66
 ·exact ty67
 ·exact ty69
 ·exact ty70
 ·exact ty71
 ·exact ty72
 ·exact ty73
 ·exact ty75
 ·exact ty76
 ·exact ty77
 ·exact ty78
 ·exact ty79
 ·exact ty81
 ·exact ty83
 ·exact ty84
 ·exact ty85
 ·exact ty87
 ·exact ty88
 ·exact ty90
 ·exact ty91
 ·exact ty92
 ·exact ty93
 ·exact ty94
 ·exact ty96
 ·exact ty97
 ·exact ty98
 ·exact ty99
 ·exact ty100
 ·exact ty101
 ·exact ty102
 ·exact ty103
 ·exact ty104
 ·exact ty105
 ·exact ty106
 ·exact ty107
 ·exact ty108
 ·exact ty109
 ·exact ty110
 ·exact ty111
 ·exact ty112
 ·exact ty113
 ·exact ty115
 ·exact ty116
 ·exact ty117
 ·exact ty118
 ·exact ty119
 ·exact ty120
 ·exact ty121
 ·exact ty122
 ·exact ty123
 ·exact ty124
 ·exact ty125
 ·exact ty126
 ·exact ty127
 ·exact ty128
 ·exact ty130
 ·exact ty131
 ·exact ty133
 ·exact ty135
 ·exact ty136
 ·exact ty137
 ·exact ty138
 ·exact ty139
 ·exact ty140
 ·exact ty141
 ·exact ty142
 ·exact ty143
 ·exact ty144
 ·exact ty145
 ·exact ty146
 ·exact ty147
 ·exact ty148
 ·exact ty149
 ·exact ty150
 ·exact ty151
 ·exact ty152
 ·exact ty153
 ·exact ty155
 ·exact ty156
 ·exact ty157
 ·exact ty158
 ·exact ty159
 ·exact ty160
 ·exact ty161
 ·exact ty162
 ·exact ty163
 ·exact ty164
 ·exact ty165
 ·exact ty166
 ·exact ty167
 ·exact ty168
 ·exact ty169
 ·exact ty170
 ·exact ty171
 ·exact ty172
 ·exact ty173
 ·exact ty174
 ·exact ty175
 ·exact ty176
 ·exact ty177
 ·exact ty178
 ·exact ty179
 ·exact ty180
 ·exact ty181
 ·exact ty182
 ·exact ty183
 ·exact ty184
 ·exact ty185
 ·exact ty186
 ·exact ty187
 ·exact ty188
 ·exact ty189
 ·exact ty191
 ·exact ty192
 ·exact ty193
 ·exact ty194
 ·exact ty195
 ·exact ty196
 ·exact ty197
 ·exact ty199
 ·exact ty200
 ·exact ty201
 ·exact ty203
 ·exact ty204
 ·exact ty205
 ·exact ty206
 ·exact ty207
 ·exact ty208
 ·exact ty209
 ·exact ty210
 ·exact ty211
 ·exact ty212
 ·exact ty213
 ·exact ty214
 ·exact ty215
 ·exact ty216
 ·exact ty218
 ·exact ty219
 ·exact ty220
 ·exact ty221
 ·exact ty222
 ·exact ty223
 ·exact ty224
 ·exact ty225
 ·exact ty226
 ·exact ty227
 ·exact ty228
 ·exact ty229
 ·exact ty230
 ·exact ty231
 ·exact ty232
 ·exact ty233
 ·exact ty234
 ·exact ty235
 ·exact ty236
 ·exact ty237
 ·exact ty238
 ·exact ty242
 ·exact ty243
 ·exact ty244
 ·exact ty245
 ·exact ty246
 ·exact ty247
 ·exact ty250
end Go.Proofs.YtndflfipaddfoaaGreat
