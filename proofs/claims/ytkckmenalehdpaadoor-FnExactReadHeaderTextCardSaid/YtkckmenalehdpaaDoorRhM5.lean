/- Proved in this text: lemmas and contracts of functions that the claim uses (parts: Shf, Tab, AbsXq, AbsIf). No condition. -/
import Derived.Shelf.Strings.OnBuilder
import Derived.Shelf.Small.Strs
import Derived.Shelf.Strings.Cut
import Derived.Shelf.Strings.Count
import Derived.Shelf.Strings.Prefix
import Derived.Shelf.Strings.Split
import Derived.Shelf.Strings.Replace
import Derived.Shelf.LaysM
import Derived.Shelf.LaysC
import Derived.Shelf.Strconv.Itoa3
import Derived.Shelf.Strconv.AtoiAll
import Derived.Test.YtkckmenalehdpaaDoorProg
import Derived.KernelRfl
import Derived.Test.YtkckmenalehdpaaDoorRhM4
set_option linter.unusedVariables false
set_option linter.unusedSimpArgs false
set_option maxRecDepth 100000
set_option maxHeartbeats 4000000


namespace Go.Proofs.YtkckmenalehdpaaDoor
open Go Go.Shelf Go.RowKit Go.Sort Go.Lib
def lays156_ren : Go.Shelf.Ren := ⟨fun | 156 => 27 | 165 => 51 | 166 => 52 | 169 => 53 | 240 => 72 | 241 => 73 | 276 => 85 | 277 => 86 | n => n, fun | 31 => 46 | 9 => 9 | 3 => 3 | 4 => 4 | 0 => 0 | 20 => 20 | 72 => 71 | 76 => 75 | 70 => 69 | 37 => 67 | 75 => 74 | 127 => 86 | 164 => 95 | 5 => 5 | 80 => 77 | n => n, fun | n => n⟩
theorem lays156 : Go.Proofs.Lays.n156 Tryd.prog lays156_ren := {
  mixed := by kernel_rfl
  f156 := Tryd.func27.trans (congrArg some (by kernel_rfl))
  f165 := Tryd.func51.trans (congrArg some (by kernel_rfl))
  f166 := Tryd.func52.trans (congrArg some (by kernel_rfl))
  f169 := Tryd.func53.trans (congrArg some (by kernel_rfl))
  f240 := Tryd.func72.trans (congrArg some (by kernel_rfl))
  f241 := Tryd.func73.trans (congrArg some (by kernel_rfl))
  f276 := Tryd.func85.trans (congrArg some (by kernel_rfl))
  f277 := Tryd.func86.trans (congrArg some (by kernel_rfl))
  t0 := Tryd.underlying0
  a0 := Tryd.isAgg0
  z0 := Tryd.sizeOf0
  v0 := Tryd.zeroValue0
  t3 := Tryd.underlying3
  a3 := Tryd.isAgg3
  z3 := Tryd.sizeOf3
  v3 := Tryd.zeroValue3
  t4 := Tryd.underlying4
  a4 := Tryd.isAgg4
  z4 := Tryd.sizeOf4
  v4 := Tryd.zeroValue4
  t9 := Tryd.underlying9
  a9 := Tryd.isAgg9
  z9 := Tryd.sizeOf9
  v9 := Tryd.zeroValue9
  t20 := Tryd.underlying20
  a20 := Tryd.isAgg20
  z20 := Tryd.sizeOf20
  v20 := Tryd.zeroValue20
  t31 := Tryd.underlying46
  a31 := Tryd.isAgg46
  z31 := Tryd.sizeOf46
  v31 := Tryd.zeroValue46
  t37 := Tryd.underlying67
  a37 := Tryd.isAgg67
  z37 := Tryd.sizeOf67
  v37 := Tryd.zeroValue67
  t70 := Tryd.underlying69
  a70 := Tryd.isAgg69
  z70 := Tryd.sizeOf69
  v70 := Tryd.zeroValue69
  t72 := Tryd.underlying71
  a72 := Tryd.isAgg71
  z72 := Tryd.sizeOf71
  v72 := Tryd.zeroValue71
  t75 := Tryd.underlying74
  a75 := Tryd.isAgg74
  z75 := Tryd.sizeOf74
  v75 := Tryd.zeroValue74
  t76 := Tryd.underlying75
  a76 := Tryd.isAgg75
  z76 := Tryd.sizeOf75
  v76 := Tryd.zeroValue75
  t127 := Tryd.underlying86
  a127 := Tryd.isAgg86
  z127 := Tryd.sizeOf86
  v127 := Tryd.zeroValue86
  t164 := Tryd.underlying95
  a164 := Tryd.isAgg95
  z164 := Tryd.sizeOf95
  v164 := Tryd.zeroValue95 }
theorem Builder_Extra_156 : Builder.Extra Tryd.prog lays156_ren := {
  sizeBuilder := by kernel_rfl
  liesBuilder := by kernel_rfl
  t5 := Tryd.underlying5
  a5 := Tryd.isAgg5
  z5 := Tryd.sizeOf5
  v5 := Tryd.zeroValue5
  infoByte := by kernel_rfl
  cellsByte := by kernel_rfl
  sizeByte := by kernel_rfl
  neB5 := by decide }
theorem strings_Join_none (a : Option Addr) (c : Nat) (sep : ByteArray) (w : World) :
    Calls Tryd.prog 27 #[.slice a 0 c, .string sep] w fun e w' => e = .returned (.string ⟨#[]⟩) ∧ w' = w := Any.strings_Join_none lays156 Builder_Extra_156 a c sep w
theorem strings_Join (bk o c : Nat) (xs : List ByteArray) (sep : ByteArray) (w : World) (hcells : ∀ (j : Nat) x, xs[j]? = some x → w.cell? ⟨bk, o + j, none⟩ = some (.string x)) (hbk : bk < w.heap.size) (hN : xs.length ≤ 140737488355328) (hcap : xs.length ≤ c) (hlen : (Lib.join (xs.map (·.data.toList)) sep.data.toList).length ≤ 140737488355328) :
    Calls Tryd.prog 27 #[.slice (some ⟨bk, o, none⟩) xs.length c, .string sep] w fun e w' => e = .returned (.string ⟨(Lib.join (xs.map (·.data.toList)) sep.data.toList).toArray⟩) ∧ Below w.heap.size w w' := Any.strings_Join lays156 Builder_Extra_156 bk o c xs sep w hcells hbk hN hcap hlen
def laysM171_ren : Go.Shelf.Ren := ⟨fun | 171 => 50 | 243 => 71 | 246 => 84 | 283 => 96 | 284 => 97 | 285 => 98 | 286 => 99 | 129 => 105 | 317 => 104 | 318 => 106 | 319 => 107 | 320 => 108 | 337 => 111 | 338 => 112 | n => n, fun | 3 => 3 | 9 => 9 | 2 => 2 | 4 => 4 | 171 => 104 | 0 => 0 | 53 => 105 | 37 => 67 | 5 => 5 | 173 => 108 | 212 => 123 | 51 => 110 | 20 => 20 | 213 => 124 | 46 => 82 | 232 => 132 | 233 => 133 | n => n, fun | 17 => 5 | 18 => 6 | 19 => 7 | n => n⟩
theorem laysM171 : Go.Proofs.LaysM.n171 Tryd.prog laysM171_ren := {
  mixed := by kernel_rfl
  f129 := Tryd.func105.trans (congrArg some (by kernel_rfl))
  f171 := Tryd.func50.trans (congrArg some (by kernel_rfl))
  f243 := Tryd.func71.trans (congrArg some (by kernel_rfl))
  f246 := Tryd.func84.trans (congrArg some (by kernel_rfl))
  f283 := Tryd.func96.trans (congrArg some (by kernel_rfl))
  f284 := Tryd.func97.trans (congrArg some (by kernel_rfl))
  f285 := Tryd.func98.trans (congrArg some (by kernel_rfl))
  f286 := Tryd.func99.trans (congrArg some (by kernel_rfl))
  f317 := Tryd.func104.trans (congrArg some (by kernel_rfl))
  f318 := Tryd.func106.trans (congrArg some (by kernel_rfl))
  f319 := Tryd.func107.trans (congrArg some (by kernel_rfl))
  f320 := Tryd.func108.trans (congrArg some (by kernel_rfl))
  f337 := Tryd.func111.trans (congrArg some (by kernel_rfl))
  f338 := Tryd.func112.trans (congrArg some (by kernel_rfl))
  t0 := Tryd.underlying0
  a0 := Tryd.isAgg0
  z0 := Tryd.sizeOf0
  v0 := Tryd.zeroValue0
  t2 := Tryd.underlying2
  a2 := Tryd.isAgg2
  z2 := Tryd.sizeOf2
  v2 := Tryd.zeroValue2
  t3 := Tryd.underlying3
  a3 := Tryd.isAgg3
  z3 := Tryd.sizeOf3
  v3 := Tryd.zeroValue3
  t4 := Tryd.underlying4
  a4 := Tryd.isAgg4
  z4 := Tryd.sizeOf4
  v4 := Tryd.zeroValue4
  t5 := Tryd.underlying5
  a5 := Tryd.isAgg5
  z5 := Tryd.sizeOf5
  v5 := Tryd.zeroValue5
  t9 := Tryd.underlying9
  a9 := Tryd.isAgg9
  z9 := Tryd.sizeOf9
  v9 := Tryd.zeroValue9
  t20 := Tryd.underlying20
  a20 := Tryd.isAgg20
  z20 := Tryd.sizeOf20
  v20 := Tryd.zeroValue20
  t37 := Tryd.underlying67
  a37 := Tryd.isAgg67
  z37 := Tryd.sizeOf67
  v37 := Tryd.zeroValue67
  t46 := Tryd.underlying82
  a46 := Tryd.isAgg82
  z46 := Tryd.sizeOf82
  v46 := Tryd.zeroValue82
  t51 := Tryd.underlying110
  a51 := Tryd.isAgg110
  z51 := Tryd.sizeOf110
  v51 := Tryd.zeroValue110
  t53 := Tryd.underlying105
  a53 := Tryd.isAgg105
  z53 := Tryd.sizeOf105
  v53 := Tryd.zeroValue105
  t171 := Tryd.underlying104
  a171 := Tryd.isAgg104
  z171 := Tryd.sizeOf104
  v171 := Tryd.zeroValue104
  t173 := Tryd.underlying108
  a173 := Tryd.isAgg108
  z173 := Tryd.sizeOf108
  v173 := Tryd.zeroValue108
  t212 := Tryd.underlying123
  a212 := Tryd.isAgg123
  z212 := Tryd.sizeOf123
  v212 := Tryd.zeroValue123
  t213 := Tryd.underlying124
  a213 := Tryd.isAgg124
  z213 := Tryd.sizeOf124
  t232 := Tryd.underlying132
  a232 := Tryd.isAgg132
  z232 := Tryd.sizeOf132
  v232 := Tryd.zeroValue132
  t233 := Tryd.underlying133
  a233 := Tryd.isAgg133
  z233 := Tryd.sizeOf133
  v233 := Tryd.zeroValue133
  g17 := by kernel_rfl
  g18 := by kernel_rfl
  g19 := by kernel_rfl
  i0 := by kernel_rfl
  i2 := by kernel_rfl
  i3 := by kernel_rfl
  i4 := by kernel_rfl
  i5 := by kernel_rfl
  i9 := by kernel_rfl
  i20 := by kernel_rfl
  i37 := by kernel_rfl
  i46 := by kernel_rfl
  i51 := by kernel_rfl
  i53 := by kernel_rfl
  i171 := by kernel_rfl
  i173 := by kernel_rfl
  i212 := by kernel_rfl
  i232 := by kernel_rfl
  i233 := by kernel_rfl
  m17 := by kernel_rfl
  m18 := by kernel_rfl
  m19 := by kernel_rfl }
def laysC172_ren : Go.Shelf.Ren := ⟨fun | 172 => 68 | 244 => 81 | 245 => 82 | 247 => 91 | 279 => 92 | 280 => 93 | 281 => 94 | 282 => 95 | 287 => 101 | 316 => 102 | 171 => 50 | 205 => 103 | 321 => 109 | 322 => 110 | 243 => 71 | 246 => 84 | 283 => 96 | 284 => 97 | 285 => 98 | 286 => 99 | 129 => 105 | 317 => 104 | 318 => 106 | 319 => 107 | 320 => 108 | 337 => 111 | 338 => 112 | n => n, fun | 9 => 9 | 3 => 3 | 75 => 74 | 76 => 75 | 4 => 4 | 5 => 5 | 167 => 98 | 37 => 67 | 0 => 0 | 85 => 99 | 2 => 2 | 168 => 101 | 53 => 105 | 175 => 117 | 46 => 82 | 210 => 120 | 127 => 86 | 145 => 130 | 143 => 128 | 21 => 21 | 171 => 104 | 173 => 108 | 212 => 123 | 51 => 110 | 20 => 20 | 213 => 124 | 232 => 132 | 233 => 133 | 80 => 77 | n => n, fun | 15 => 3 | 16 => 4 | 17 => 5 | 18 => 6 | 19 => 7 | n => n⟩
theorem laysC172 : Go.Proofs.LaysC.n172 Tryd.prog laysC172_ren := {
  mixed := by kernel_rfl
  f129 := Tryd.func105.trans (congrArg some (by kernel_rfl))
  f171 := Tryd.func50.trans (congrArg some (by kernel_rfl))
  f172 := Tryd.func68.trans (congrArg some (by kernel_rfl))
  f205 := Tryd.func103.trans (congrArg some (by kernel_rfl))
  f243 := Tryd.func71.trans (congrArg some (by kernel_rfl))
  f244 := Tryd.func81.trans (congrArg some (by kernel_rfl))
  f245 := Tryd.func82.trans (congrArg some (by kernel_rfl))
  f246 := Tryd.func84.trans (congrArg some (by kernel_rfl))
  f247 := Tryd.func91.trans (congrArg some (by kernel_rfl))
  f279 := Tryd.func92.trans (congrArg some (by kernel_rfl))
  f280 := Tryd.func93.trans (congrArg some (by kernel_rfl))
  f281 := Tryd.func94.trans (congrArg some (by kernel_rfl))
  f282 := Tryd.func95.trans (congrArg some (by kernel_rfl))
  f283 := Tryd.func96.trans (congrArg some (by kernel_rfl))
  f284 := Tryd.func97.trans (congrArg some (by kernel_rfl))
  f285 := Tryd.func98.trans (congrArg some (by kernel_rfl))
  f286 := Tryd.func99.trans (congrArg some (by kernel_rfl))
  f287 := Tryd.func101.trans (congrArg some (by kernel_rfl))
  f316 := Tryd.func102.trans (congrArg some (by kernel_rfl))
  f317 := Tryd.func104.trans (congrArg some (by kernel_rfl))
  f318 := Tryd.func106.trans (congrArg some (by kernel_rfl))
  f319 := Tryd.func107.trans (congrArg some (by kernel_rfl))
  f320 := Tryd.func108.trans (congrArg some (by kernel_rfl))
  f321 := Tryd.func109.trans (congrArg some (by kernel_rfl))
  f322 := Tryd.func110.trans (congrArg some (by kernel_rfl))
  f337 := Tryd.func111.trans (congrArg some (by kernel_rfl))
  f338 := Tryd.func112.trans (congrArg some (by kernel_rfl))
  t0 := Tryd.underlying0
  a0 := Tryd.isAgg0
  z0 := Tryd.sizeOf0
  v0 := Tryd.zeroValue0
  t2 := Tryd.underlying2
  a2 := Tryd.isAgg2
  z2 := Tryd.sizeOf2
  v2 := Tryd.zeroValue2
  t3 := Tryd.underlying3
  a3 := Tryd.isAgg3
  z3 := Tryd.sizeOf3
  v3 := Tryd.zeroValue3
  t4 := Tryd.underlying4
  a4 := Tryd.isAgg4
  z4 := Tryd.sizeOf4
  v4 := Tryd.zeroValue4
  t5 := Tryd.underlying5
  a5 := Tryd.isAgg5
  z5 := Tryd.sizeOf5
  v5 := Tryd.zeroValue5
  t9 := Tryd.underlying9
  a9 := Tryd.isAgg9
  z9 := Tryd.sizeOf9
  v9 := Tryd.zeroValue9
  t20 := Tryd.underlying20
  a20 := Tryd.isAgg20
  z20 := Tryd.sizeOf20
  v20 := Tryd.zeroValue20
  t21 := Tryd.underlying21
  a21 := Tryd.isAgg21
  z21 := Tryd.sizeOf21
  v21 := Tryd.zeroValue21
  t37 := Tryd.underlying67
  a37 := Tryd.isAgg67
  z37 := Tryd.sizeOf67
  v37 := Tryd.zeroValue67
  t46 := Tryd.underlying82
  a46 := Tryd.isAgg82
  z46 := Tryd.sizeOf82
  v46 := Tryd.zeroValue82
  t51 := Tryd.underlying110
  a51 := Tryd.isAgg110
  z51 := Tryd.sizeOf110
  v51 := Tryd.zeroValue110
  t53 := Tryd.underlying105
  a53 := Tryd.isAgg105
  z53 := Tryd.sizeOf105
  v53 := Tryd.zeroValue105
  t75 := Tryd.underlying74
  a75 := Tryd.isAgg74
  z75 := Tryd.sizeOf74
  v75 := Tryd.zeroValue74
  t76 := Tryd.underlying75
  a76 := Tryd.isAgg75
  z76 := Tryd.sizeOf75
  v76 := Tryd.zeroValue75
  t85 := Tryd.underlying99
  a85 := Tryd.isAgg99
  z85 := Tryd.sizeOf99
  v85 := Tryd.zeroValue99
  t127 := Tryd.underlying86
  a127 := Tryd.isAgg86
  z127 := Tryd.sizeOf86
  v127 := Tryd.zeroValue86
  t143 := Tryd.underlying128
  a143 := Tryd.isAgg128
  z143 := Tryd.sizeOf128
  v143 := Tryd.zeroValue128
  t145 := Tryd.underlying130
  a145 := Tryd.isAgg130
  z145 := Tryd.sizeOf130
  v145 := Tryd.zeroValue130
  t167 := Tryd.underlying98
  a167 := Tryd.isAgg98
  z167 := Tryd.sizeOf98
  v167 := Tryd.zeroValue98
  t168 := Tryd.underlying101
  a168 := Tryd.isAgg101
  z168 := Tryd.sizeOf101
  v168 := Tryd.zeroValue101
  t171 := Tryd.underlying104
  a171 := Tryd.isAgg104
  z171 := Tryd.sizeOf104
  v171 := Tryd.zeroValue104
  t173 := Tryd.underlying108
  a173 := Tryd.isAgg108
  z173 := Tryd.sizeOf108
  v173 := Tryd.zeroValue108
  t175 := Tryd.underlying117
  a175 := Tryd.isAgg117
  z175 := Tryd.sizeOf117
  v175 := Tryd.zeroValue117
  t210 := Tryd.underlying120
  a210 := Tryd.isAgg120
  z210 := Tryd.sizeOf120
  v210 := Tryd.zeroValue120
  t212 := Tryd.underlying123
  a212 := Tryd.isAgg123
  z212 := Tryd.sizeOf123
  v212 := Tryd.zeroValue123
  t213 := Tryd.underlying124
  a213 := Tryd.isAgg124
  z213 := Tryd.sizeOf124
  t232 := Tryd.underlying132
  a232 := Tryd.isAgg132
  z232 := Tryd.sizeOf132
  v232 := Tryd.zeroValue132
  t233 := Tryd.underlying133
  a233 := Tryd.isAgg133
  z233 := Tryd.sizeOf133
  v233 := Tryd.zeroValue133
  g15 := by kernel_rfl
  g16 := by kernel_rfl
  g17 := by kernel_rfl
  g18 := by kernel_rfl
  g19 := by kernel_rfl
  t80 := Tryd.underlying77
  a80 := Tryd.isAgg77
  z80 := Tryd.sizeOf77
  v80 := Tryd.zeroValue77
  i0 := by kernel_rfl
  i2 := by kernel_rfl
  i3 := by kernel_rfl
  i4 := by kernel_rfl
  i5 := by kernel_rfl
  i9 := by kernel_rfl
  i20 := by kernel_rfl
  i21 := by kernel_rfl
  i37 := by kernel_rfl
  i46 := by kernel_rfl
  i51 := by kernel_rfl
  i53 := by kernel_rfl
  i75 := by kernel_rfl
  i76 := by kernel_rfl
  i80 := by kernel_rfl
  i85 := by kernel_rfl
  i127 := by kernel_rfl
  i143 := by kernel_rfl
  i145 := by kernel_rfl
  i167 := by kernel_rfl
  i168 := by kernel_rfl
  i171 := by kernel_rfl
  i173 := by kernel_rfl
  i175 := by kernel_rfl
  i210 := by kernel_rfl
  i212 := by kernel_rfl
  i232 := by kernel_rfl
  i233 := by kernel_rfl
  m15 := by kernel_rfl
  m16 := by kernel_rfl
  m17 := by kernel_rfl
  m18 := by kernel_rfl
  m19 := by kernel_rfl
  c0 := by kernel_rfl
  c2 := by kernel_rfl
  c3 := by kernel_rfl
  c4 := by kernel_rfl
  c5 := by kernel_rfl
  c9 := by kernel_rfl
  c20 := by kernel_rfl
  c21 := by kernel_rfl
  c37 := by kernel_rfl
  c46 := by kernel_rfl
  c51 := by kernel_rfl
  c53 := by kernel_rfl
  c75 := by kernel_rfl
  c76 := by kernel_rfl
  c80 := by kernel_rfl
  c85 := by kernel_rfl
  c127 := by kernel_rfl
  c143 := by kernel_rfl
  c145 := by kernel_rfl
  c167 := by kernel_rfl
  c168 := by kernel_rfl
  c171 := by kernel_rfl
  c173 := by kernel_rfl
  c175 := by kernel_rfl
  c210 := by kernel_rfl
  c212 := by kernel_rfl
  c213 := by kernel_rfl
  c232 := by kernel_rfl
  c233 := by kernel_rfl }
theorem strconv_Atoi_ok (s : ByteArray) (hmax : s.size ≤ 9223372036854775806) (v : Int) (h : Lib.atoiAll s.data.toList = .ok v) (w : World) :
    Calls Tryd.prog 68 #[.string s] w fun e w' => e = .returned (.tuple #[.int .i64 v, .nilIface]) ∧ (w' = w ∨ ∃ t, w' = Lib.bytesWorld w 5 t) := Any.strconv_Atoi_ok laysC172 s hmax v h w
theorem strconv_Atoi_range (s : ByteArray) (hlim : s.size ≤ 281474976710656) (h : Lib.atoiAll s.data.toList = .range) (ev : Value) (w : World) (hv : w.cell? ⟨4, 0, none⟩ = some ev) (hev : ev = .nilIface ∨ ∃ te pe, ev = .iface te pe) :
    Calls Tryd.prog 68 #[.string s] w fun e w' => ∃ N, e = .returned (.tuple #[.int .i64 (Lib.atoiSat s.data.toList), .iface 101 (.pointer (some ⟨N, 0, none⟩))]) ∧ w.heap.size ≤ N ∧ w'.heap[N]? = some (.cells #[.string ⟨#[65, 116, 111, 105]⟩, .string s, ev] 120 (0, 0)) ∧ Below w.heap.size w w' := Any.strconv_Atoi_range laysC172 s hlim h ev w hv hev
def lays145_ren : Go.Shelf.Ren := ⟨fun | 145 => 40 | 220 => 67 | 219 => 77 | 217 => 57 | 225 => 87 | 224 => 88 | 267 => 89 | 266 => 76 | 314 => 100 | n => n, fun | 9 => 9 | 4 => 4 | 59 => 57 | 3 => 3 | 5 => 5 | 46 => 82 | 146 => 111 | 51 => 110 | n => n, fun | 1 => 0 | n => n⟩
theorem lays145 : Go.Proofs.Lays.n145 Tryd.prog lays145_ren := {
  mixed := by kernel_rfl
  f145 := Tryd.func40.trans (congrArg some (by kernel_rfl))
  f217 := Tryd.func57.trans (congrArg some (by kernel_rfl))
  f219 := Tryd.func77.trans (congrArg some (by kernel_rfl))
  f220 := Tryd.func67.trans (congrArg some (by kernel_rfl))
  f224 := Tryd.func88.trans (congrArg some (by kernel_rfl))
  f225 := Tryd.func87.trans (congrArg some (by kernel_rfl))
  f266 := Tryd.func76.trans (congrArg some (by kernel_rfl))
  f267 := Tryd.func89.trans (congrArg some (by kernel_rfl))
  f314 := Tryd.func100.trans (congrArg some (by kernel_rfl))
  t3 := Tryd.underlying3
  a3 := Tryd.isAgg3
  z3 := Tryd.sizeOf3
  v3 := Tryd.zeroValue3
  t4 := Tryd.underlying4
  a4 := Tryd.isAgg4
  z4 := Tryd.sizeOf4
  v4 := Tryd.zeroValue4
  t5 := Tryd.underlying5
  a5 := Tryd.isAgg5
  z5 := Tryd.sizeOf5
  v5 := Tryd.zeroValue5
  t9 := Tryd.underlying9
  a9 := Tryd.isAgg9
  z9 := Tryd.sizeOf9
  v9 := Tryd.zeroValue9
  t46 := Tryd.underlying82
  a46 := Tryd.isAgg82
  z46 := Tryd.sizeOf82
  v46 := Tryd.zeroValue82
  t51 := Tryd.underlying110
  a51 := Tryd.isAgg110
  z51 := Tryd.sizeOf110
  v51 := Tryd.zeroValue110
  t59 := Tryd.underlying57
  a59 := Tryd.isAgg57
  z59 := Tryd.sizeOf57
  v59 := Tryd.zeroValue57
  t146 := Tryd.underlying111
  a146 := Tryd.isAgg111
  z146 := Tryd.sizeOf111
  v146 := Tryd.zeroValue111
  g1 := by kernel_rfl }
theorem strings_Cut (s sep : ByteArray) (m : Int) (w : World) (hs : s.size < 4294967281) (hm : w.cell? ⟨0, 0, none⟩ = some (.int .i64 m)) :
    Calls Tryd.prog 40 #[.string s, .string sep] w fun e w' => e = .returned (.tuple #[.string ⟨(Lib.cut s.data.toList sep.data.toList).1.toArray⟩, .string ⟨(Lib.cut s.data.toList sep.data.toList).2.1.toArray⟩, .bool (Lib.cut s.data.toList sep.data.toList).2.2]) ∧ ∃ n, w' = w.drewN n := Any.strings_Cut lays145 s sep m w hs hm
def lays101_ren : Go.Shelf.Ren := ⟨fun | 101 => 42 | 208 => 69 | 206 => 83 | n => n, fun | 9 => 9 | 4 => 4 | 3 => 3 | n => n, fun | n => n⟩
theorem lays101 : Go.Proofs.Lays.n101 Tryd.prog lays101_ren := {
  mixed := by kernel_rfl
  f101 := Tryd.func42.trans (congrArg some (by kernel_rfl))
  f206 := Tryd.func83.trans (congrArg some (by kernel_rfl))
  f208 := Tryd.func69.trans (congrArg some (by kernel_rfl))
  t3 := Tryd.underlying3
  a3 := Tryd.isAgg3
  z3 := Tryd.sizeOf3
  v3 := Tryd.zeroValue3
  t4 := Tryd.underlying4
  a4 := Tryd.isAgg4
  z4 := Tryd.sizeOf4
  v4 := Tryd.zeroValue4
  t9 := Tryd.underlying9
  a9 := Tryd.isAgg9
  z9 := Tryd.sizeOf9
  v9 := Tryd.zeroValue9 }
theorem strings_TrimPrefix (s p : ByteArray) (w : World) :
    Calls Tryd.prog 42 #[.string s, .string p] w fun e w' => e = .returned (.string ⟨(Lib.trimPrefix s.data.toList p.data.toList).toArray⟩) ∧ w' = w := Any.strings_TrimPrefix lays101 s p w
def lays146_ren : Go.Shelf.Ren := ⟨fun | 146 => 39 | 221 => 66 | 268 => 80 | 138 => 33 | 143 => 60 | 195 => 58 | 197 => 78 | 218 => 59 | 219 => 77 | 260 => 90 | 217 => 57 | 225 => 87 | 224 => 88 | 267 => 89 | 266 => 76 | 314 => 100 | n => n, fun | 9 => 9 | 31 => 46 | 3 => 3 | 4 => 4 | 0 => 0 | 105 => 88 | 21 => 21 | 5 => 5 | 46 => 82 | 119 => 113 | 139 => 116 | 138 => 115 | 146 => 111 | 51 => 110 | n => n, fun | 1 => 0 | 3 => 1 | 4 => 2 | n => n⟩
theorem lays146 : Go.Proofs.Lays.n146 Tryd.prog lays146_ren := {
  mixed := by kernel_rfl
  f138 := Tryd.func33.trans (congrArg some (by kernel_rfl))
  f143 := Tryd.func60.trans (congrArg some (by kernel_rfl))
  f146 := Tryd.func39.trans (congrArg some (by kernel_rfl))
  f195 := Tryd.func58.trans (congrArg some (by kernel_rfl))
  f197 := Tryd.func78.trans (congrArg some (by kernel_rfl))
  f217 := Tryd.func57.trans (congrArg some (by kernel_rfl))
  f218 := Tryd.func59.trans (congrArg some (by kernel_rfl))
  f219 := Tryd.func77.trans (congrArg some (by kernel_rfl))
  f221 := Tryd.func66.trans (congrArg some (by kernel_rfl))
  f224 := Tryd.func88.trans (congrArg some (by kernel_rfl))
  f225 := Tryd.func87.trans (congrArg some (by kernel_rfl))
  f260 := Tryd.func90.trans (congrArg some (by kernel_rfl))
  f266 := Tryd.func76.trans (congrArg some (by kernel_rfl))
  f267 := Tryd.func89.trans (congrArg some (by kernel_rfl))
  f268 := Tryd.func80.trans (congrArg some (by kernel_rfl))
  f314 := Tryd.func100.trans (congrArg some (by kernel_rfl))
  t0 := Tryd.underlying0
  a0 := Tryd.isAgg0
  z0 := Tryd.sizeOf0
  v0 := Tryd.zeroValue0
  t3 := Tryd.underlying3
  a3 := Tryd.isAgg3
  z3 := Tryd.sizeOf3
  v3 := Tryd.zeroValue3
  t4 := Tryd.underlying4
  a4 := Tryd.isAgg4
  z4 := Tryd.sizeOf4
  v4 := Tryd.zeroValue4
  t5 := Tryd.underlying5
  a5 := Tryd.isAgg5
  z5 := Tryd.sizeOf5
  v5 := Tryd.zeroValue5
  t9 := Tryd.underlying9
  a9 := Tryd.isAgg9
  z9 := Tryd.sizeOf9
  v9 := Tryd.zeroValue9
  t21 := Tryd.underlying21
  a21 := Tryd.isAgg21
  z21 := Tryd.sizeOf21
  v21 := Tryd.zeroValue21
  t31 := Tryd.underlying46
  a31 := Tryd.isAgg46
  z31 := Tryd.sizeOf46
  v31 := Tryd.zeroValue46
  t46 := Tryd.underlying82
  a46 := Tryd.isAgg82
  z46 := Tryd.sizeOf82
  v46 := Tryd.zeroValue82
  t51 := Tryd.underlying110
  a51 := Tryd.isAgg110
  z51 := Tryd.sizeOf110
  v51 := Tryd.zeroValue110
  t105 := Tryd.underlying88
  a105 := Tryd.isAgg88
  z105 := Tryd.sizeOf88
  v105 := Tryd.zeroValue88
  t119 := Tryd.underlying113
  a119 := Tryd.isAgg113
  z119 := Tryd.sizeOf113
  t138 := Tryd.underlying115
  a138 := Tryd.isAgg115
  z138 := Tryd.sizeOf115
  v138 := Tryd.zeroValue115
  t139 := Tryd.underlying116
  a139 := Tryd.isAgg116
  z139 := Tryd.sizeOf116
  v139 := Tryd.zeroValue116
  t146 := Tryd.underlying111
  a146 := Tryd.isAgg111
  z146 := Tryd.sizeOf111
  v146 := Tryd.zeroValue111
  g1 := by kernel_rfl
  g3 := by kernel_rfl
  g4 := by kernel_rfl }
theorem strings_Split (s sep : ByteArray) (m : Int) (w : World) (hs : s.size < 4294967281) (hm : w.cell? ⟨0, 0, none⟩ = some (.int .i64 m)) (h1 : 1 ≤ sep.size) :
    Calls Tryd.prog 39 #[.string s, .string sep] w fun e w' =>
      e = .returned (.slice (some ⟨w.heap.size, 0, none⟩) (Lib.countB s sep + 1) (Lib.countB s sep + 1)) ∧ w' = w.alloc (.cells ((Lib.splitB sep 0 (Lib.countB s sep) s).map Value.string).toArray 9) := Any.strings_Split lays146 (by kernel_rfl) s sep m w hs hm h1
end Go.Proofs.YtkckmenalehdpaaDoor


namespace Go.Proofs.YtkckmenalehdpaaDoor
open Go Go.Abs
theorem ty1 : TyOk Tryd.prog 1 (.func) := ⟨⟨_, _, _, Tryd.underlying1⟩, by unfold ScOk; kernel_rfl⟩
theorem ty2 : TyOk Tryd.prog 2 (.int .i64) := ⟨Tryd.underlying2, by unfold ScOk; kernel_rfl⟩
theorem ty3 : TyOk Tryd.prog 3 (.int .i64) := ⟨Tryd.underlying3, by unfold ScOk; kernel_rfl⟩
theorem ty4 : TyOk Tryd.prog 4 (.bool) := ⟨Tryd.underlying4, by unfold ScOk; kernel_rfl⟩
theorem ty5 : TyOk Tryd.prog 5 (.int .u8) := ⟨Tryd.underlying5, by unfold ScOk; kernel_rfl⟩
theorem ty6 : TyOk Tryd.prog 6 (.int .u8) := ⟨Tryd.underlying6, by unfold ScOk; kernel_rfl⟩
theorem ty7 : TyOk Tryd.prog 7 (.struct [0, 1, 2, 3] 4 [.sc (.int .i64 0), .sc (.int .i64 0), .sc (.bool false), .sc (.int .u8 0)]) := ⟨_, Tryd.underlying7, ⟨.agg #[.int .i64 0, .int .i64 0, .bool false, .int .u8 0], by kernel_rfl, rfl, rfl⟩, fun f o h => match f, h with | 0, h => by cases h; kernel_rfl | 1, h => by cases h; kernel_rfl | 2, h => by cases h; kernel_rfl | 3, h => by cases h; kernel_rfl | (f + 4), h => by simp at h⟩
theorem ty8 : TyOk Tryd.prog 8 (.struct [0, 1, 2, 3] 4 [.sc (.int .i64 0), .sc (.int .i64 0), .sc (.bool false), .sc (.int .u8 0)]) := ⟨_, Tryd.underlying8, ⟨.agg #[.int .i64 0, .int .i64 0, .bool false, .int .u8 0], by kernel_rfl, rfl, rfl⟩, fun f o h => match f, h with | 0, h => by cases h; kernel_rfl | 1, h => by cases h; kernel_rfl | 2, h => by cases h; kernel_rfl | 3, h => by cases h; kernel_rfl | (f + 4), h => by simp at h⟩
theorem ty9 : TyOk Tryd.prog 9 (.string) := ⟨Tryd.underlying9, by unfold ScOk; kernel_rfl⟩
theorem ty10 : TyOk Tryd.prog 10 (.string) := ⟨Tryd.underlying10, by unfold ScOk; kernel_rfl⟩
theorem ty11 : TyOk Tryd.prog 11 (.string) := ⟨Tryd.underlying11, by unfold ScOk; kernel_rfl⟩
theorem ty12 : TyOk Tryd.prog 12 (.int .u64) := ⟨Tryd.underlying12, by unfold ScOk; kernel_rfl⟩
theorem ty13 : TyOk Tryd.prog 13 (.struct [0, 1] 2 [.sc (.string ⟨#[]⟩), .sc (.int .u64 0)]) := ⟨_, Tryd.underlying13, ⟨.agg #[.string ⟨#[]⟩, .int .u64 0], by kernel_rfl, rfl, rfl⟩, fun f o h => match f, h with | 0, h => by cases h; kernel_rfl | 1, h => by cases h; kernel_rfl | (f + 2), h => by simp at h⟩
theorem ty14 : TyOk Tryd.prog 14 (.struct [0, 1] 2 [.sc (.string ⟨#[]⟩), .sc (.int .u64 0)]) := ⟨_, Tryd.underlying14, ⟨.agg #[.string ⟨#[]⟩, .int .u64 0], by kernel_rfl, rfl, rfl⟩, fun f o h => match f, h with | 0, h => by cases h; kernel_rfl | 1, h => by cases h; kernel_rfl | (f + 2), h => by simp at h⟩
theorem ty15 : TyOk Tryd.prog 15 (.ptr) := ⟨⟨_, Tryd.underlying15⟩, by unfold ScOk; kernel_rfl⟩
theorem ty16 : TyOk Tryd.prog 16 (.ptr) := ⟨⟨_, Tryd.underlying16⟩, by unfold ScOk; kernel_rfl⟩
theorem ty17 : TyOk Tryd.prog 17 (.ptr) := ⟨⟨_, Tryd.underlying17⟩, by unfold ScOk; kernel_rfl⟩
theorem ty18 : TyOk Tryd.prog 18 (.struct [0] 1 [.sc (.pointer none)]) := ⟨_, Tryd.underlying18, ⟨.agg #[.pointer none], by kernel_rfl, rfl, rfl⟩, fun f o h => match f, h with | 0, h => by cases h; kernel_rfl | (f + 1), h => by simp at h⟩
theorem ty19 : TyOk Tryd.prog 19 (.struct [0] 1 [.sc (.pointer none)]) := ⟨_, Tryd.underlying19, ⟨.agg #[.pointer none], by kernel_rfl, rfl, rfl⟩, fun f o h => match f, h with | 0, h => by cases h; kernel_rfl | (f + 1), h => by simp at h⟩
theorem ty20 : TyOk Tryd.prog 20 (.iface) := ⟨⟨_, Tryd.underlying20⟩, by unfold ScOk; kernel_rfl⟩
theorem ty21 : TyOk Tryd.prog 21 (.int .i32) := ⟨Tryd.underlying21, by unfold ScOk; kernel_rfl⟩
theorem ty22 : TyOk Tryd.prog 22 (.slice 3 1 8 [.sc (.int .i64 0)]) := ⟨Tryd.underlying22, by unfold ScOk; kernel_rfl, .int .i64 0, by kernel_rfl, rfl, by decide, rfl⟩
theorem ty23 : TyOk Tryd.prog 23 (.struct [0, 1, 2, 3, 4, 5] 6 [.sc (.int .i64 0), .sc (.int .i64 0), .sc (.int .i64 0), .sc (.bool false), .sc (.bool false), .nilS]) := ⟨_, Tryd.underlying23, ⟨.agg #[.int .i64 0, .int .i64 0, .int .i64 0, .bool false, .bool false, .slice none 0 0], by kernel_rfl, rfl, rfl⟩, fun f o h => match f, h with | 0, h => by cases h; kernel_rfl | 1, h => by cases h; kernel_rfl | 2, h => by cases h; kernel_rfl | 3, h => by cases h; kernel_rfl | 4, h => by cases h; kernel_rfl | 5, h => by cases h; kernel_rfl | (f + 6), h => by simp at h⟩
theorem ty24 : TyOk Tryd.prog 24 (.struct [0, 1, 2, 3, 4, 5] 6 [.sc (.int .i64 0), .sc (.int .i64 0), .sc (.int .i64 0), .sc (.bool false), .sc (.bool false), .nilS]) := ⟨_, Tryd.underlying24, ⟨.agg #[.int .i64 0, .int .i64 0, .int .i64 0, .bool false, .bool false, .slice none 0 0], by kernel_rfl, rfl, rfl⟩, fun f o h => match f, h with | 0, h => by cases h; kernel_rfl | 1, h => by cases h; kernel_rfl | 2, h => by cases h; kernel_rfl | 3, h => by cases h; kernel_rfl | 4, h => by cases h; kernel_rfl | 5, h => by cases h; kernel_rfl | (f + 6), h => by simp at h⟩
theorem ty25 : TyOk Tryd.prog 25 (.func) := ⟨⟨_, _, _, Tryd.underlying25⟩, by unfold ScOk; kernel_rfl⟩
theorem ty26 : TyOk Tryd.prog 26 (.func) := ⟨⟨_, _, _, Tryd.underlying26⟩, by unfold ScOk; kernel_rfl⟩
theorem ty27 : TyOk Tryd.prog 27 (.struct [0, 1, 2, 3, 4, 5] 6 [.sc (.int .i64 0), .sc (.int .i64 0), .sc (.int .i64 0), .sc (.bool false), .sc (.bool false), .nilS]) := ⟨_, Tryd.underlying27, ⟨.agg #[.int .i64 0, .int .i64 0, .int .i64 0, .bool false, .bool false, .slice none 0 0], by kernel_rfl, rfl, rfl⟩, fun f o h => match f, h with | 0, h => by cases h; kernel_rfl | 1, h => by cases h; kernel_rfl | 2, h => by cases h; kernel_rfl | 3, h => by cases h; kernel_rfl | 4, h => by cases h; kernel_rfl | 5, h => by cases h; kernel_rfl | (f + 6), h => by simp at h⟩
theorem ty28 : TyOk Tryd.prog 28 (.func) := ⟨⟨_, _, _, Tryd.underlying28⟩, by unfold ScOk; kernel_rfl⟩
theorem ty29 : TyOk Tryd.prog 29 (.func) := ⟨⟨_, _, _, Tryd.underlying29⟩, by unfold ScOk; kernel_rfl⟩
theorem ty30 : TyOk Tryd.prog 30 (.func) := ⟨⟨_, _, _, Tryd.underlying30⟩, by unfold ScOk; kernel_rfl⟩
theorem ty31 : TyOk Tryd.prog 31 (.struct [0, 1, 2] 3 [.sc (.int .i64 0), .sc (.int .i64 0), .nilS]) := ⟨_, Tryd.underlying31, ⟨.agg #[.int .i64 0, .int .i64 0, .slice none 0 0], by kernel_rfl, rfl, rfl⟩, fun f o h => match f, h with | 0, h => by cases h; kernel_rfl | 1, h => by cases h; kernel_rfl | 2, h => by cases h; kernel_rfl | (f + 3), h => by simp at h⟩
theorem ty32 : TyOk Tryd.prog 32 (.struct [0, 1, 2] 3 [.sc (.int .i64 0), .sc (.int .i64 0), .nilS]) := ⟨_, Tryd.underlying32, ⟨.agg #[.int .i64 0, .int .i64 0, .slice none 0 0], by kernel_rfl, rfl, rfl⟩, fun f o h => match f, h with | 0, h => by cases h; kernel_rfl | 1, h => by cases h; kernel_rfl | 2, h => by cases h; kernel_rfl | (f + 3), h => by simp at h⟩
theorem ty34 : TyOk Tryd.prog 34 (.func) := ⟨⟨_, _, _, Tryd.underlying34⟩, by unfold ScOk; kernel_rfl⟩
theorem ty35 : TyOk Tryd.prog 35 (.func) := ⟨⟨_, _, _, Tryd.underlying35⟩, by unfold ScOk; kernel_rfl⟩
theorem ty36 : TyOk Tryd.prog 36 (.func) := ⟨⟨_, _, _, Tryd.underlying36⟩, by unfold ScOk; kernel_rfl⟩
theorem ty37 : TyOk Tryd.prog 37 (.func) := ⟨⟨_, _, _, Tryd.underlying37⟩, by unfold ScOk; kernel_rfl⟩
theorem ty39 : TyOk Tryd.prog 39 (.func) := ⟨⟨_, _, _, Tryd.underlying39⟩, by unfold ScOk; kernel_rfl⟩
theorem ty40 : TyOk Tryd.prog 40 (.func) := ⟨⟨_, _, _, Tryd.underlying40⟩, by unfold ScOk; kernel_rfl⟩
theorem ty41 : TyOk Tryd.prog 41 (.func) := ⟨⟨_, _, _, Tryd.underlying41⟩, by unfold ScOk; kernel_rfl⟩
theorem ty42 : TyOk Tryd.prog 42 (.func) := ⟨⟨_, _, _, Tryd.underlying42⟩, by unfold ScOk; kernel_rfl⟩
theorem ty43 : TyOk Tryd.prog 43 (.func) := ⟨⟨_, _, _, Tryd.underlying43⟩, by unfold ScOk; kernel_rfl⟩
theorem ty44 : TyOk Tryd.prog 44 (.func) := ⟨⟨_, _, _, Tryd.underlying44⟩, by unfold ScOk; kernel_rfl⟩
theorem ty45 : TyOk Tryd.prog 45 (.func) := ⟨⟨_, _, _, Tryd.underlying45⟩, by unfold ScOk; kernel_rfl⟩
theorem ty46 : TyOk Tryd.prog 46 (.slice 9 1 16 [.sc (.string ⟨#[]⟩)]) := ⟨Tryd.underlying46, by unfold ScOk; kernel_rfl, .string ⟨#[]⟩, by kernel_rfl, rfl, by decide, rfl⟩
theorem ty47 : TyOk Tryd.prog 47 (.func) := ⟨⟨_, _, _, Tryd.underlying47⟩, by unfold ScOk; kernel_rfl⟩
theorem ty48 : TyOk Tryd.prog 48 (.func) := ⟨⟨_, _, _, Tryd.underlying48⟩, by unfold ScOk; kernel_rfl⟩
theorem ty49 : TyOk Tryd.prog 49 (.func) := ⟨⟨_, _, _, Tryd.underlying49⟩, by unfold ScOk; kernel_rfl⟩
theorem ty51 : TyOk Tryd.prog 51 (.func) := ⟨⟨_, _, _, Tryd.underlying51⟩, by unfold ScOk; kernel_rfl⟩
theorem ty52 : TyOk Tryd.prog 52 (.func) := ⟨⟨_, _, _, Tryd.underlying52⟩, by unfold ScOk; kernel_rfl⟩
theorem ty53 : TyOk Tryd.prog 53 (.func) := ⟨⟨_, _, _, Tryd.underlying53⟩, by unfold ScOk; kernel_rfl⟩
theorem ty54 : TyOk Tryd.prog 54 (.func) := ⟨⟨_, _, _, Tryd.underlying54⟩, by unfold ScOk; kernel_rfl⟩
theorem ty55 : TyOk Tryd.prog 55 (.func) := ⟨⟨_, _, _, Tryd.underlying55⟩, by unfold ScOk; kernel_rfl⟩
theorem ty56 : TyOk Tryd.prog 56 (.func) := ⟨⟨_, _, _, Tryd.underlying56⟩, by unfold ScOk; kernel_rfl⟩
theorem ty58 : TyOk Tryd.prog 58 (.func) := ⟨⟨_, _, _, Tryd.underlying58⟩, by unfold ScOk; kernel_rfl⟩
theorem ty60 : TyOk Tryd.prog 60 (.func) := ⟨⟨_, _, _, Tryd.underlying60⟩, by unfold ScOk; kernel_rfl⟩
theorem ty61 : TyOk Tryd.prog 61 (.func) := ⟨⟨_, _, _, Tryd.underlying61⟩, by unfold ScOk; kernel_rfl⟩
theorem ty63 : TyOk Tryd.prog 63 (.func) := ⟨⟨_, _, _, Tryd.underlying63⟩, by unfold ScOk; kernel_rfl⟩
theorem ty64 : TyOk Tryd.prog 64 (.func) := ⟨⟨_, _, _, Tryd.underlying64⟩, by unfold ScOk; kernel_rfl⟩
theorem ty65 : TyOk Tryd.prog 65 (.func) := ⟨⟨_, _, _, Tryd.underlying65⟩, by unfold ScOk; kernel_rfl⟩
theorem ty66 : TyOk Tryd.prog 66 (.func) := ⟨⟨_, _, _, Tryd.underlying66⟩, by unfold ScOk; kernel_rfl⟩
theorem ty67 : TyOk Tryd.prog 67 (.slice 5 1 1 [.sc (.int .u8 0)]) := ⟨Tryd.underlying67, by unfold ScOk; kernel_rfl, .int .u8 0, by kernel_rfl, rfl, by decide, rfl⟩
theorem ty68 : TyOk Tryd.prog 68 (.func) := ⟨⟨_, _, _, Tryd.underlying68⟩, by unfold ScOk; kernel_rfl⟩
theorem ty69 : TyOk Tryd.prog 69 (.ptr) := ⟨⟨_, Tryd.underlying69⟩, by unfold ScOk; kernel_rfl⟩
theorem ty70 : TyOk Tryd.prog 70 (.struct [0, 1] 2 [.sc (.pointer none), .nilS]) := ⟨_, Tryd.underlying70, ⟨.agg #[.pointer none, .slice none 0 0], by kernel_rfl, rfl, rfl⟩, fun f o h => match f, h with | 0, h => by cases h; kernel_rfl | 1, h => by cases h; kernel_rfl | (f + 2), h => by simp at h⟩
theorem ty71 : TyOk Tryd.prog 71 (.struct [0, 1] 2 [.sc (.pointer none), .nilS]) := ⟨_, Tryd.underlying71, ⟨.agg #[.pointer none, .slice none 0 0], by kernel_rfl, rfl, rfl⟩, fun f o h => match f, h with | 0, h => by cases h; kernel_rfl | 1, h => by cases h; kernel_rfl | (f + 2), h => by simp at h⟩
theorem ty72 : TyOk Tryd.prog 72 (.func) := ⟨⟨_, _, _, Tryd.underlying72⟩, by unfold ScOk; kernel_rfl⟩
theorem ty74 : TyOk Tryd.prog 74 (.iface) := ⟨⟨_, Tryd.underlying74⟩, by unfold ScOk; kernel_rfl⟩
theorem ty76 : TyOk Tryd.prog 76 (.func) := ⟨⟨_, _, _, Tryd.underlying76⟩, by unfold ScOk; kernel_rfl⟩
theorem ty77 : TyOk Tryd.prog 77 (.func) := ⟨⟨_, _, _, Tryd.underlying77⟩, by unfold ScOk; kernel_rfl⟩
theorem ty78 : TyOk Tryd.prog 78 (.func) := ⟨⟨_, _, _, Tryd.underlying78⟩, by unfold ScOk; kernel_rfl⟩
theorem ty79 : TyOk Tryd.prog 79 (.func) := ⟨⟨_, _, _, Tryd.underlying79⟩, by unfold ScOk; kernel_rfl⟩
theorem ty80 : TyOk Tryd.prog 80 (.func) := ⟨⟨_, _, _, Tryd.underlying80⟩, by unfold ScOk; kernel_rfl⟩
theorem ty81 : TyOk Tryd.prog 81 (.func) := ⟨⟨_, _, _, Tryd.underlying81⟩, by unfold ScOk; kernel_rfl⟩
theorem ty82 : TyOk Tryd.prog 82 (.int .u64) := ⟨Tryd.underlying82, by unfold ScOk; kernel_rfl⟩
theorem ty83 : TyOk Tryd.prog 83 (.func) := ⟨⟨_, _, _, Tryd.underlying83⟩, by unfold ScOk; kernel_rfl⟩
theorem ty84 : TyOk Tryd.prog 84 (.func) := ⟨⟨_, _, _, Tryd.underlying84⟩, by unfold ScOk; kernel_rfl⟩
theorem ty85 : TyOk Tryd.prog 85 (.func) := ⟨⟨_, _, _, Tryd.underlying85⟩, by unfold ScOk; kernel_rfl⟩
theorem ty86 : TyOk Tryd.prog 86 (.ptr) := ⟨⟨_, Tryd.underlying86⟩, by unfold ScOk; kernel_rfl⟩
theorem ty87 : TyOk Tryd.prog 87 (.func) := ⟨⟨_, _, _, Tryd.underlying87⟩, by unfold ScOk; kernel_rfl⟩
theorem ty89 : TyOk Tryd.prog 89 (.func) := ⟨⟨_, _, _, Tryd.underlying89⟩, by unfold ScOk; kernel_rfl⟩
theorem ty90 : TyOk Tryd.prog 90 (.func) := ⟨⟨_, _, _, Tryd.underlying90⟩, by unfold ScOk; kernel_rfl⟩
theorem ty91 : TyOk Tryd.prog 91 (.func) := ⟨⟨_, _, _, Tryd.underlying91⟩, by unfold ScOk; kernel_rfl⟩
theorem ty92 : TyOk Tryd.prog 92 (.func) := ⟨⟨_, _, _, Tryd.underlying92⟩, by unfold ScOk; kernel_rfl⟩
theorem ty93 : TyOk Tryd.prog 93 (.func) := ⟨⟨_, _, _, Tryd.underlying93⟩, by unfold ScOk; kernel_rfl⟩
theorem ty94 : TyOk Tryd.prog 94 (.func) := ⟨⟨_, _, _, Tryd.underlying94⟩, by unfold ScOk; kernel_rfl⟩
theorem ty96 : TyOk Tryd.prog 96 (.func) := ⟨⟨_, _, _, Tryd.underlying96⟩, by unfold ScOk; kernel_rfl⟩
theorem ty97 : TyOk Tryd.prog 97 (.func) := ⟨⟨_, _, _, Tryd.underlying97⟩, by unfold ScOk; kernel_rfl⟩
theorem ty98 : TyOk Tryd.prog 98 (.int .i64) := ⟨Tryd.underlying98, by unfold ScOk; kernel_rfl⟩
theorem ty100 : TyOk Tryd.prog 100 (.func) := ⟨⟨_, _, _, Tryd.underlying100⟩, by unfold ScOk; kernel_rfl⟩
theorem ty101 : TyOk Tryd.prog 101 (.ptr) := ⟨⟨_, Tryd.underlying101⟩, by unfold ScOk; kernel_rfl⟩
theorem ty102 : TyOk Tryd.prog 102 (.func) := ⟨⟨_, _, _, Tryd.underlying102⟩, by unfold ScOk; kernel_rfl⟩
theorem ty103 : TyOk Tryd.prog 103 (.func) := ⟨⟨_, _, _, Tryd.underlying103⟩, by unfold ScOk; kernel_rfl⟩
theorem ty105 : TyOk Tryd.prog 105 (.int .u64) := ⟨Tryd.underlying105, by unfold ScOk; kernel_rfl⟩
theorem ty106 : TyOk Tryd.prog 106 (.func) := ⟨⟨_, _, _, Tryd.underlying106⟩, by unfold ScOk; kernel_rfl⟩
theorem ty107 : TyOk Tryd.prog 107 (.func) := ⟨⟨_, _, _, Tryd.underlying107⟩, by unfold ScOk; kernel_rfl⟩
theorem ty109 : TyOk Tryd.prog 109 (.func) := ⟨⟨_, _, _, Tryd.underlying109⟩, by unfold ScOk; kernel_rfl⟩
theorem ty110 : TyOk Tryd.prog 110 (.int .u32) := ⟨Tryd.underlying110, by unfold ScOk; kernel_rfl⟩
theorem ty112 : TyOk Tryd.prog 112 (.func) := ⟨⟨_, _, _, Tryd.underlying112⟩, by unfold ScOk; kernel_rfl⟩
theorem ty114 : TyOk Tryd.prog 114 (.struct [0, 1] 2 [.sc (.int .u8 0), .sc (.int .u8 0)]) := ⟨_, Tryd.underlying114, ⟨.agg #[.int .u8 0, .int .u8 0], by kernel_rfl, rfl, rfl⟩, fun f o h => match f, h with | 0, h => by cases h; kernel_rfl | 1, h => by cases h; kernel_rfl | (f + 2), h => by simp at h⟩
theorem ty115 : TyOk Tryd.prog 115 (.struct [0, 1] 2 [.sc (.int .u8 0), .sc (.int .u8 0)]) := ⟨_, Tryd.underlying115, ⟨.agg #[.int .u8 0, .int .u8 0], by kernel_rfl, rfl, rfl⟩, fun f o h => match f, h with | 0, h => by cases h; kernel_rfl | 1, h => by cases h; kernel_rfl | (f + 2), h => by simp at h⟩
theorem ty118 : TyOk Tryd.prog 118 (.func) := ⟨⟨_, _, _, Tryd.underlying118⟩, by unfold ScOk; kernel_rfl⟩
theorem ty121 : TyOk Tryd.prog 121 (.func) := ⟨⟨_, _, _, Tryd.underlying121⟩, by unfold ScOk; kernel_rfl⟩
theorem ty122 : TyOk Tryd.prog 122 (.func) := ⟨⟨_, _, _, Tryd.underlying122⟩, by unfold ScOk; kernel_rfl⟩
theorem ty125 : TyOk Tryd.prog 125 (.func) := ⟨⟨_, _, _, Tryd.underlying125⟩, by unfold ScOk; kernel_rfl⟩
theorem ty126 : TyOk Tryd.prog 126 (.func) := ⟨⟨_, _, _, Tryd.underlying126⟩, by unfold ScOk; kernel_rfl⟩
theorem ty127 : TyOk Tryd.prog 127 (.func) := ⟨⟨_, _, _, Tryd.underlying127⟩, by unfold ScOk; kernel_rfl⟩
theorem ty128 : TyOk Tryd.prog 128 (.ptr) := ⟨⟨_, Tryd.underlying128⟩, by unfold ScOk; kernel_rfl⟩
theorem ty129 : TyOk Tryd.prog 129 (.struct [0] 1 [.sc (.string ⟨#[]⟩)]) := ⟨_, Tryd.underlying129, ⟨.agg #[.string ⟨#[]⟩], by kernel_rfl, rfl, rfl⟩, fun f o h => match f, h with | 0, h => by cases h; kernel_rfl | (f + 1), h => by simp at h⟩
theorem ty130 : TyOk Tryd.prog 130 (.struct [0] 1 [.sc (.string ⟨#[]⟩)]) := ⟨_, Tryd.underlying130, ⟨.agg #[.string ⟨#[]⟩], by kernel_rfl, rfl, rfl⟩, fun f o h => match f, h with | 0, h => by cases h; kernel_rfl | (f + 1), h => by simp at h⟩
theorem ty131 : TyOk Tryd.prog 131 (.func) := ⟨⟨_, _, _, Tryd.underlying131⟩, by unfold ScOk; kernel_rfl⟩
theorem ty134 : TyOk Tryd.prog 134 (.struct [0, 1, 2, 3] 4 [.sc (.pointer none), .sc (.pointer none), .sc (.pointer none), .sc (.string ⟨#[]⟩)]) := ⟨_, Tryd.underlying134, ⟨.agg #[.pointer none, .pointer none, .pointer none, .string ⟨#[]⟩], by kernel_rfl, rfl, rfl⟩, fun f o h => match f, h with | 0, h => by cases h; kernel_rfl | 1, h => by cases h; kernel_rfl | 2, h => by cases h; kernel_rfl | 3, h => by cases h; kernel_rfl | (f + 4), h => by simp at h⟩
theorem ty135 : TyOk Tryd.prog 135 (.struct [0, 1, 2, 3] 4 [.sc (.pointer none), .sc (.pointer none), .sc (.pointer none), .sc (.string ⟨#[]⟩)]) := ⟨_, Tryd.underlying135, ⟨.agg #[.pointer none, .pointer none, .pointer none, .string ⟨#[]⟩], by kernel_rfl, rfl, rfl⟩, fun f o h => match f, h with | 0, h => by cases h; kernel_rfl | 1, h => by cases h; kernel_rfl | 2, h => by cases h; kernel_rfl | 3, h => by cases h; kernel_rfl | (f + 4), h => by simp at h⟩
theorem ty139 : TyOk Tryd.prog 139 (.func) := ⟨⟨_, _, _, Tryd.underlying139⟩, by unfold ScOk; kernel_rfl⟩
theorem ty140 : TyOk Tryd.prog 140 (.int .u8) := ⟨Tryd.underlying140, by unfold ScOk; kernel_rfl⟩
theorem ty141 : TyOk Tryd.prog 141 (.int .u8) := ⟨Tryd.underlying141, by unfold ScOk; kernel_rfl⟩
theorem ty142 : TyOk Tryd.prog 142 (.func) := ⟨⟨_, _, _, Tryd.underlying142⟩, by unfold ScOk; kernel_rfl⟩
theorem ty143 : TyOk Tryd.prog 143 (.int .i32) := ⟨Tryd.underlying143, by unfold ScOk; kernel_rfl⟩
theorem ty144 : TyOk Tryd.prog 144 (.int .i32) := ⟨Tryd.underlying144, by unfold ScOk; kernel_rfl⟩
theorem ty147 : TyOk Tryd.prog 147 (.func) := ⟨⟨_, _, _, Tryd.underlying147⟩, by unfold ScOk; kernel_rfl⟩
def tab : List (Nat × Ty) := [(1, .func), (2, .int .i64), (3, .int .i64), (4, .bool), (5, .int .u8), (6, .int .u8), (7, .struct [0, 1, 2, 3] 4 [.sc (.int .i64 0), .sc (.int .i64 0), .sc (.bool false), .sc (.int .u8 0)]), (8, .struct [0, 1, 2, 3] 4 [.sc (.int .i64 0), .sc (.int .i64 0), .sc (.bool false), .sc (.int .u8 0)]), (9, .string), (10, .string), (11, .string), (12, .int .u64), (13, .struct [0, 1] 2 [.sc (.string ⟨#[]⟩), .sc (.int .u64 0)]), (14, .struct [0, 1] 2 [.sc (.string ⟨#[]⟩), .sc (.int .u64 0)]), (15, .ptr), (16, .ptr), (17, .ptr), (18, .struct [0] 1 [.sc (.pointer none)]), (19, .struct [0] 1 [.sc (.pointer none)]), (20, .iface), (21, .int .i32), (22, .slice 3 1 8 [.sc (.int .i64 0)]), (23, .struct [0, 1, 2, 3, 4, 5] 6 [.sc (.int .i64 0), .sc (.int .i64 0), .sc (.int .i64 0), .sc (.bool false), .sc (.bool false), .nilS]), (24, .struct [0, 1, 2, 3, 4, 5] 6 [.sc (.int .i64 0), .sc (.int .i64 0), .sc (.int .i64 0), .sc (.bool false), .sc (.bool false), .nilS]), (25, .func), (26, .func), (27, .struct [0, 1, 2, 3, 4, 5] 6 [.sc (.int .i64 0), .sc (.int .i64 0), .sc (.int .i64 0), .sc (.bool false), .sc (.bool false), .nilS]), (28, .func), (29, .func), (30, .func), (31, .struct [0, 1, 2] 3 [.sc (.int .i64 0), .sc (.int .i64 0), .nilS]), (32, .struct [0, 1, 2] 3 [.sc (.int .i64 0), .sc (.int .i64 0), .nilS]), (34, .func), (35, .func), (36, .func), (37, .func), (39, .func), (40, .func), (41, .func), (42, .func), (43, .func), (44, .func), (45, .func), (46, .slice 9 1 16 [.sc (.string ⟨#[]⟩)]), (47, .func), (48, .func), (49, .func), (51, .func), (52, .func), (53, .func), (54, .func), (55, .func), (56, .func), (58, .func), (60, .func), (61, .func), (63, .func), (64, .func), (65, .func), (66, .func), (67, .slice 5 1 1 [.sc (.int .u8 0)]), (68, .func), (69, .ptr), (70, .struct [0, 1] 2 [.sc (.pointer none), .nilS]), (71, .struct [0, 1] 2 [.sc (.pointer none), .nilS]), (72, .func), (74, .iface), (76, .func), (77, .func), (78, .func), (79, .func), (80, .func), (81, .func), (82, .int .u64), (83, .func), (84, .func), (85, .func), (86, .ptr), (87, .func), (89, .func), (90, .func), (91, .func), (92, .func), (93, .func), (94, .func), (96, .func), (97, .func), (98, .int .i64), (100, .func), (101, .ptr), (102, .func), (103, .func), (105, .int .u64), (106, .func), (107, .func), (109, .func), (110, .int .u32), (112, .func), (114, .struct [0, 1] 2 [.sc (.int .u8 0), .sc (.int .u8 0)]), (115, .struct [0, 1] 2 [.sc (.int .u8 0), .sc (.int .u8 0)]), (118, .func), (121, .func), (122, .func), (125, .func), (126, .func), (127, .func), (128, .ptr), (129, .struct [0] 1 [.sc (.string ⟨#[]⟩)]), (130, .struct [0] 1 [.sc (.string ⟨#[]⟩)]), (131, .func), (134, .struct [0, 1, 2, 3] 4 [.sc (.pointer none), .sc (.pointer none), .sc (.pointer none), .sc (.string ⟨#[]⟩)]), (135, .struct [0, 1, 2, 3] 4 [.sc (.pointer none), .sc (.pointer none), .sc (.pointer none), .sc (.string ⟨#[]⟩)]), (139, .func), (140, .int .u8), (141, .int .u8), (142, .func), (143, .int .i32), (144, .int .i32), (147, .func)]
theorem tabOk : TabOk Tryd.prog tab := by
  intro p hp
  simp only [tab, List.mem_cons, List.not_mem_nil, or_false] at hp
  rcases hp with rfl | rfl | rfl | rfl | rfl | rfl | rfl | rfl | rfl | rfl | rfl | rfl | rfl | rfl | rfl | rfl | rfl | rfl | rfl | rfl | rfl | rfl | rfl | rfl | rfl | rfl | rfl | rfl | rfl | rfl | rfl | rfl | rfl | rfl | rfl | rfl | rfl | rfl | rfl | rfl | rfl | rfl | rfl | rfl | rfl | rfl | rfl | rfl | rfl | rfl | rfl | rfl | rfl | rfl | rfl | rfl | rfl | rfl | rfl | rfl | rfl | rfl | rfl | rfl | rfl | rfl | rfl | rfl | rfl | rfl | rfl | rfl | rfl | rfl | rfl | rfl | rfl | rfl | rfl | rfl | rfl | rfl | rfl | rfl | rfl | rfl | rfl | rfl | rfl | rfl | rfl | rfl | rfl | rfl | rfl | rfl | rfl | rfl | rfl | rfl | rfl | rfl | rfl | rfl | rfl | rfl | rfl | rfl | rfl | rfl | rfl | rfl | rfl | rfl | rfl | rfl | rfl | rfl | rfl
  · exact ty1
  · exact ty2
  · exact ty3
  · exact ty4
  · exact ty5
  · exact ty6
  · exact ty7
  · exact ty8
  · exact ty9
  · exact ty10
  · exact ty11
  · exact ty12
  · exact ty13
  · exact ty14
  · exact ty15
  · exact ty16
  · exact ty17
  · exact ty18
  · exact ty19
  · exact ty20
  · exact ty21
  · exact ty22
  · exact ty23
  · exact ty24
  · exact ty25
  · exact ty26
  · exact ty27
  · exact ty28
  · exact ty29
  · exact ty30
  · exact ty31
  · exact ty32
  · exact ty34
  · exact ty35
  · exact ty36
  · exact ty37
  · exact ty39
  · exact ty40
  · exact ty41
  · exact ty42
  · exact ty43
  · exact ty44
  · exact ty45
  · exact ty46
  · exact ty47
  · exact ty48
  · exact ty49
  · exact ty51
  · exact ty52
  · exact ty53
  · exact ty54
  · exact ty55
  · exact ty56
  · exact ty58
  · exact ty60
  · exact ty61
  · exact ty63
  · exact ty64
  · exact ty65
  · exact ty66
  · exact ty67
  · exact ty68
  · exact ty69
  · exact ty70
  · exact ty71
  · exact ty72
  · exact ty74
  · exact ty76
  · exact ty77
  · exact ty78
  · exact ty79
  · exact ty80
  · exact ty81
  · exact ty82
  · exact ty83
  · exact ty84
  · exact ty85
  · exact ty86
  · exact ty87
  · exact ty89
  · exact ty90
  · exact ty91
  · exact ty92
  · exact ty93
  · exact ty94
  · exact ty96
  · exact ty97
  · exact ty98
  · exact ty100
  · exact ty101
  · exact ty102
  · exact ty103
  · exact ty105
  · exact ty106
  · exact ty107
  · exact ty109
  · exact ty110
  · exact ty112
  · exact ty114
  · exact ty115
  · exact ty118
  · exact ty121
  · exact ty122
  · exact ty125
  · exact ty126
  · exact ty127
  · exact ty128
  · exact ty129
  · exact ty130
  · exact ty131
  · exact ty134
  · exact ty135
  · exact ty139
  · exact ty140
  · exact ty141
  · exact ty142
  · exact ty143
  · exact ty144
  · exact ty147
end Go.Proofs.YtkckmenalehdpaaDoor


namespace Go.Abs
open Go
structure Pin (G : Ctx) (pv : List Value) (pa : List AV) : Prop where
  rel : LRel G.S0 G.w0 (fun _ => none) [] pa pv []
  still : pa.all AV.still = true
  old : ∀ b, G.S0 b → ¬ G.M0 b ∧ b < G.w0.heap.size
theorem Pin.at {n m : Nat} {G : Ctx} {S : Nat → Prop} {ι : Nat → Spot} {F : Nat → List Nat} {σ : St} {a : Act} {w : World} {pv : List Value} {pa : List AV} (hp : Pin G pv pa) (hr : RelAt n m G S ι F σ a w) {S2 : Nat → Prop} (h2 : ∀ b, S b → S2 b) (O : List AObj) (ι2 : Nat → Spot) : LRel S2 w ι2 O pa pv [] :=
  still_all hp.still hp.rel (fun b hb => h2 b (hr.base.1 b hb)) (fun b hb => hr.keeps.block b (hp.old b hb).2 (hp.old b hb).1) (by simp)
def FnX (P : Program) (f : FuncId) (args : List AV) (M : List AObj) (pv : List Value) (pa : List AV) (β : Type) (C : β → Prop) (M' N : β → List AObj) (r : β → AV) : Prop :=
  Runs P f ∧ ∀ (w : World) (S : Nat → Prop) (ι : Nat → Spot) (F : Nat → List Nat) (vs : List Value), (∀ b, S b → b < w.heap.size) → GlbOk S w → ORel S w ι M F → (∀ id, id < M.length → ∀ b ∈ F id, ¬ S b ∧ b < w.heap.size) →
    LRel S w ι M args vs [] → LRel S w (fun _ => none) [] pa pv [] → Calls P f vs.toArray w fun e w' => ∃ y, C y ∧ ∃ v S' ι' F', e = .returned v ∧ (∀ b, S b → S' b) ∧ (∀ b, S' b → S b ∨ w.heap.size ≤ b) ∧ (∀ b, S' b → b < w'.heap.size) ∧ (∀ id, id < M.length → ι' id = ι id) ∧
      ORel S' w' ι' (M' y ++ N y) F' ∧ (∀ id, id < (M' y ++ N y).length → ∀ b ∈ F' id, ((∃ i, i < M.length ∧ b ∈ F i) ∨ w.heap.size ≤ b) ∧ ¬ S' b ∧ b < w'.heap.size) ∧ VRel S' w' ι' (M' y ++ N y) (r y) v [] ∧
      Keeps w (fun b => ∃ i, i < M.length ∧ b ∈ F i) w'
def FinX (tab : List (Nat × Ty)) (m : Nat) (rs : Array ResultVar) (β : Type) (C : β → Prop) (MN : β → List AObj) (r : β → AV) : Exit → St → Prop
  | .ret, σ => ∃ y, C y ∧ ResG tab m (MN y) (r y) rs σ
  | .normal, σ => ∃ y, C y ∧ ResG tab m (MN y) (r y) rs σ
  | _, _ => False
section
variable {P : Program} {n m : Nat} {G : Ctx} {T : List (Nat × AV)} {O : List AObj} {Q : Exit → St → Prop} {ops : Array Oper} {l : List Oper} {tt : TypeId} {pos : String} {after : Array Edge} {tab : List (Nat × Ty)}
theorem callX_rel {β : Type} {f : FuncId} {xs : List Operand} {As : List AV} {M : List AObj} {MX NX : β → List AObj} {rX rX' : β → AV} {C : β → Prop} {hs : List Nat} {pv : List Value} {pa : List AV} (hc : FnX P f As M pv pa β C MX NX rX) (hp : Pin G pv pa) (hh : Hand O hs (xs.map (av T)) As) (hM : HandO O hs M) (hnd : hs.Nodup) (hlenX : ∀ y, (MX y).length = M.length)
    (hszX : ∀ (y : β) (j : Nat) (a b : AObj), M[j]? = some a → (MX y)[j]? = some b → b.size = a.size) (hMX' : ∀ y, Out (MX y)) (hNX : ∀ y, Out (NX y)) (hreX : ∀ y, (rX y).reF M.length O.length = some (rX' y)) {a : Act} {w : World} (hr : Rel n m G ⟨T, O⟩ a w) :
    Calls P f (xs.map a.eval).toArray w fun e w' => ∃ y, C y ∧ ∃ v, e = .returned v ∧ ∃ S ι F, RelAt n m G S ι F ⟨T, newO hs (MX y) 0 O ++ NX y⟩ a w' ∧ VRel S w' ι (newO hs (MX y) 0 O ++ NX y) (rX' y) v [] := by
  obtain ⟨S, ι, F, hr⟩ := hr
  obtain ⟨⟨fn, hf, hb, hnm⟩, hcall⟩ := hc
  obtain ⟨hlM, hatM⟩ := hM.at
  let S2 : Nat → Prop := fun b => b < w.heap.size ∧ ∀ id ∈ hs, b ∉ F id
  let ιM : Nat → Spot := fun j => match hs[j]? with | some id => ι id | none => none
  let FM : Nat → List Nat := fun j => match hs[j]? with | some id => F id | none => []
  have hιM : ∀ (j id : Nat), hs[j]? = some id → ιM j = ι id := fun j id h => by show (match hs[j]? with | some id => ι id | none => none) = _; rw [h]
  have hFM : ∀ (j id : Nat), hs[j]? = some id → FM j = F id := fun j id h => by show (match hs[j]? with | some id => F id | none => []) = _; rw [h]
  have hidl : ∀ (j id : Nat), hs[j]? = some id → id < O.length := fun j id h => by
    have hj : j < M.length := by rw [← hlM]; exact (List.getElem?_eq_some_iff.1 h).1
    obtain ⟨id', ob, e1, e2, _⟩ := hatM j _ (List.getElem?_eq_getElem hj)
    rw [h] at e1; cases e1; exact (List.getElem?_eq_some_iff.1 e2).1
  have hmem : ∀ id ∈ hs, ∃ j, j < M.length ∧ hs[j]? = some id := fun id h => by
    obtain ⟨j, hj, e⟩ := List.getElem_of_mem h
    exact ⟨j, by omega, by rw [List.getElem?_eq_getElem hj, e]⟩
  have hex : ∀ j, j < M.length → ∃ id, hs[j]? = some id := fun j hj => ⟨hs[j], List.getElem?_eq_getElem (by omega)⟩
  have hSS : ∀ b, S b → S2 b := fun b hb => ⟨hr.stable b hb, fun id hid hbf => by
    obtain ⟨j, hj, e⟩ := hmem id hid
    exact (hr.foot id (hidl j id e) b hbf).2.1 hb⟩
  have hOM : ORel S2 w ιM M FM := by
    refine ⟨fun j mb hj => ?_, fun j hj => ?_, fun i j hi hj hij b hb => ?_⟩
    · obtain ⟨id, ob, e1, e2, e3, e4, e5, e6, e7⟩ := hatM j mb hj
      rw [hιM j id e1, hFM j id e1]
      have ho := hr.objs.obj id ob e2
      unfold ObjAt at ho ⊢
      cases hs' : ι id with
      | none => rw [hs'] at ho; rw [← e3]; exact ho
      | some p =>
        obtain ⟨b, k⟩ := p
        rw [hs'] at ho
        obtain ⟨cur', t', fz', f2, q1, q2, q3, q4, q5, q6, q7⟩ := ho
        refine ⟨cur', t', fz', f2, q1, q2, q3, by rw [← e3]; exact q4, q5, fun e he => ?_, ?_⟩
        · rcases e7 with e7 | e7
          · rw [e7] at he; cases he
          · exact q6 e (by rw [← e7]; exact he)
        · rw [← e3]
          exact still_all (by rw [e3]; exact e4) q7 hSS (fun _ _ => rfl) (fun _ _ => rfl)
    · obtain ⟨id, e⟩ := hex j hj
      rw [hFM j id e]; exact hr.objs.nodup id (hidl j id e)
    · obtain ⟨id1, e1⟩ := hex i hi
      obtain ⟨id2, e2⟩ := hex j hj
      rw [hFM i id1 e1] at hb; rw [hFM j id2 e2]
      exact hr.objs.apart id1 id2 (hidl i id1 e1) (hidl j id2 e2) (fun e => hij (nodup_get hnd e1 (e ▸ e2))) b hb
  have hl := hr.evals xs
  obtain ⟨f', hl2, hf'⟩ := hh.rel (S2 := S2) (ιM := ιM) hM hιM hSS hr.objs (fun b h1 h2 => ⟨h1, h2⟩) (fun id hid => by obtain ⟨j, hj, e⟩ := hmem id hid; exact hidl j id e) hl (by simp)
  have hf0 : f' = [] := List.eq_nil_iff_forall_not_mem.2 fun b hb => by simpa using hf' b hb
  subst hf0
  refine (hcall w S2 ιM FM (xs.map a.eval) (fun b h => h.1) (hr.glb.mono hSS) hOM (fun j hj b hb => ?_) hl2 (hp.at hr hSS [] (fun _ => none))).mono fun e w' he => ?_
  · obtain ⟨id, e⟩ := hex j hj
    rw [hFM j id e] at hb
    exact ⟨fun h => h.2 id (List.mem_of_getElem? e) hb, (hr.foot id (hidl j id e) b hb).2.2⟩
  obtain ⟨y, hy, v, S', ι', F', rfl, hS1, hS2, hS3, hι', hO', hF', hv, hk⟩ := he
  refine ⟨y, hy, v, rfl, ?_⟩
  have hlen := hlenX y
  have hsz := hszX y
  have hM' := hMX' y
  have hN := hNX y
  have hre := hreX y
  generalize MX y = M' at hlen hsz hM' hO' hF' hv ⊢
  generalize NX y = N at hN hO' hF' hv ⊢
  generalize rX y = r at hre hv
  generalize rX' y = r' at hre ⊢
  have hold : ∀ b, b < w.heap.size → (∀ id ∈ hs, b ∉ F id) → w'.heap[b]? = w.heap[b]? := fun b hb hn => hk.block b hb (by
    rintro ⟨i, hi, hbf⟩
    obtain ⟨id, e⟩ := hex i hi
    rw [hFM i id e] at hbf
    exact hn id (List.mem_of_getElem? e) hbf)
  let S3 : Nat → Prop := fun b => S b ∨ (S' b ∧ w.heap.size ≤ b)
  let ι3 : Nat → Spot := fun i => if i < O.length then ι i else ι' (M.length + (i - O.length))
  let F3 : Nat → List Nat := fun i => if i < O.length then (match findN hs i 0 with | some j => F' j | none => F i) else F' (M.length + (i - O.length))
  let O3 := newO hs M' 0 O ++ N
  have hl3 : (newO hs M' 0 O).length = O.length := newO_len hs M' 0 O
  have hO3lt : ∀ i, i < O.length → O3[i]? = (O[i]?).map (newOb hs M' i) := fun i hi => by
    show (newO hs M' 0 O ++ N)[i]? = _
    rw [List.getElem?_append_left (by omega), newO_at, Nat.zero_add]
  have hO3ge : ∀ i, O.length ≤ i → O3[i]? = N[i - O.length]? := fun i hi => by
    show (newO hs M' 0 O ++ N)[i]? = _
    rw [List.getElem?_append_right (by omega), hl3]
  have hob : ∀ i ob, O[i]? = some ob → (newOb hs M' i ob).ep = ob.ep ∧ (newOb hs M' i ob).size = ob.size := fun i ob h => by
    unfold newOb
    cases hfd : findN hs i 0 with
    | none => exact ⟨rfl, rfl⟩
    | some j =>
      cases hmj : M'[j]? with
      | none => exact ⟨by simp [hmj], by simp [hmj]⟩
      | some mb =>
        obtain ⟨q, rfl, hq⟩ := findN_some hfd
        rw [Nat.zero_add] at hmj
        have hqm : q < M.length := by rw [← hlM]; exact (List.getElem?_eq_some_iff.1 hq).1
        obtain ⟨id', ob', e1, e2, _, _, _, e6, _⟩ := hatM q _ (List.getElem?_eq_getElem hqm)
        rw [hq] at e1; cases e1
        rw [h] at e2; cases e2
        simp only [Nat.zero_add, hmj, true_and]
        exact (hsz q _ _ (List.getElem?_eq_getElem hqm) hmj).trans e6
  have hlat : Later S w ι O S3 w' ι3 O3 := by
    refine ⟨fun b h => .inl h, fun b hb => hold b (hr.stable b hb) (hSS b hb).2, fun id ob h => ?_⟩
    have hlt : id < O.length := (List.getElem?_eq_some_iff.1 h).1
    obtain ⟨h1, h2⟩ := hob id ob h
    exact ⟨newOb hs M' id ob, by rw [hO3lt id hlt, h]; rfl, .inr ⟨h1, h2, by show (if _ then _ else _) = _; rw [if_pos hlt]⟩⟩
  have hF3f : ∀ (i j : Nat), i < O.length → findN hs i 0 = some j → F3 i = F' j := fun i j hi h => by show (if _ then _ else _) = _; rw [if_pos hi, h]
  have hF3n : ∀ (i : Nat), i < O.length → findN hs i 0 = none → F3 i = F i := fun i hi h => by show (if _ then _ else _) = _; rw [if_pos hi, h]
  have hF3g : ∀ (i : Nat), O.length ≤ i → F3 i = F' (M.length + (i - O.length)) := fun i hi => by show (if _ then _ else _) = _; rw [if_neg (by omega)]
  have hlMN : (M' ++ N).length = M.length + N.length := by rw [List.length_append, hlen]
  have hfind : ∀ (i j : Nat), findN hs i 0 = some j → j < M.length ∧ hs[j]? = some i := fun i j h => by
    obtain ⟨q, rfl, hq⟩ := findN_some h
    rw [Nat.zero_add]
    exact ⟨by rw [← hlM]; exact (List.getElem?_eq_some_iff.1 hq).1, hq⟩
  have hl3' : O3.length = O.length + N.length := by show (newO hs M' 0 O ++ N).length = _; rw [List.length_append, hl3]
  -- each place's blocks: where they come from
  have hsrc : ∀ k, k < (M' ++ N).length → ∀ b ∈ F' k, ((∃ id, id ∈ hs ∧ id < O.length ∧ b ∈ F id) ∨ w.heap.size ≤ b) ∧ ¬ S' b ∧ b < w'.heap.size := fun k hk' b hb => by
    obtain ⟨q1, q2, q3⟩ := hF' k hk' b hb
    refine ⟨?_, q2, q3⟩
    rcases q1 with ⟨i, hi, hbf⟩ | q1
    · obtain ⟨id, e⟩ := hex i hi
      rw [hFM i id e] at hbf
      exact .inl ⟨id, List.mem_of_getElem? e, hidl i id e, hbf⟩
    · exact .inr q1
  have hnoS : ∀ k, k < (M' ++ N).length → ∀ b ∈ F' k, (G.M0 b ∨ G.w0.heap.size ≤ b) ∧ ¬ S3 b ∧ b < w'.heap.size := fun k hk' b hb => by
    obtain ⟨q1, q2, q3⟩ := hsrc k hk' b hb
    rcases q1 with ⟨id, hid, hlt, hbf⟩ | q1
    · obtain ⟨p1, p2, p3⟩ := hr.foot id hlt b hbf
      refine ⟨p1, ?_, q3⟩
      rintro (h | ⟨h, _⟩)
      · exact p2 h
      · exact q2 h
    · refine ⟨.inr (by have := hr.keeps.size; omega), ?_, q3⟩
      rintro (h | ⟨h, _⟩)
      · have := hr.stable b h; omega
      · exact q2 h
  have hnotin : ∀ i, i < O.length → findN hs i 0 = none → ∀ b ∈ F i, w'.heap[b]? = w.heap[b]? := fun i hi h b hb => hold b (hr.foot i hi b hb).2.2 fun id hid hbf => by
    obtain ⟨j, hj, e⟩ := hmem id hid
    have hne : i ≠ id := by rintro rfl; exact findN_none h hid
    exact hr.objs.apart i id hi (hidl j id e) hne b hb hbf
  have hcells : ∀ {cs : List AV} {us g}, cs.all AV.still = true → Loc cs → LRel S' w' ι' (M' ++ N) cs us g → LRel S3 w' ι3 O3 cs us g := fun h1 h2 hl =>
    Loc.rel h2 (still_all (S' := S') h1 hl (fun _ h => h) (fun _ _ => rfl) (fun _ _ => rfl))
  refine ⟨S3, ι3, F3, ⟨hr.defers, hr.size, fun t => (hr.tmps t).mono hlat (by simp), ⟨fun i ob h => ?_, fun i h => ?_, fun i j hi hj hij b hb => ?_⟩, fun i h b hb => ?_, ⟨fun b hb => .inl (hr.base.1 b hb), ?_⟩, ?_, ?_, fun i h => ?_, ?_⟩, ?_⟩
  · have h : O3[i]? = some ob := h
    by_cases hlt : i < O.length
    · rw [hO3lt i hlt, List.getElem?_eq_getElem hlt] at h
      simp only [Option.map_some, Option.some.injEq] at h
      rw [show ι3 i = ι i from if_pos hlt]
      cases hfd : findN hs i 0 with
      | some j =>
        obtain ⟨hjm, hji⟩ := hfind i j hfd
        rw [hF3f i j hlt hfd]
        have hjM' : j < M'.length := by omega
        have hmb : M'[j]? = some M'[j] := List.getElem?_eq_getElem hjM'
        have h' : ob = ⟨M'[j].cells, (O[i]).ep, M'[j].size, M'[j].ty⟩ := by
          rw [← h]; unfold newOb; rw [hfd]; simp only [hmb]
        have ho := hO'.obj j M'[j] (by rw [List.getElem?_append_left hjM']; exact hmb)
        rw [hι' j hjm, hιM j i hji] at ho
        have hout := hM'.at hmb
        rw [h']
        unfold ObjAt at ho ⊢
        cases hs' : ι i with
        | none => rw [hs'] at ho; exact ho
        | some p =>
          obtain ⟨b, k⟩ := p
          rw [hs'] at ho
          obtain ⟨cur', t', fz', f2, q1, q2, q3, q4, q5, q6, q7⟩ := ho
          exact ⟨cur', t', fz', f2, q1, q2, q3, q4, q5, q6, hcells hout.1 hout.2 q7⟩
      | none =>
        rw [hF3n i hlt hfd]
        have h' : ob = O[i] := by rw [← h]; unfold newOb; rw [hfd]
        subst h'
        have ho := hr.objs.obj i O[i] (List.getElem?_eq_getElem hlt)
        have key := hnotin i hlt hfd
        unfold ObjAt at ho ⊢
        cases hs' : ι i with
        | none => rw [hs'] at ho; exact ho
        | some p =>
          obtain ⟨b, k⟩ := p
          rw [hs'] at ho
          obtain ⟨cur', t', fz', f2, q1, q2, q3, q4, q5, q6, q7⟩ := ho
          exact ⟨cur', t', fz', f2, q1, by rw [key b (by rw [q1]; simp)]; exact q2, q3, q4, q5, q6, q7.mono hlat fun b' hb' => key b' (by rw [q1]; simp [hb'])⟩
    · rw [hO3ge i (by omega)] at h
      rw [show ι3 i = ι' (M.length + (i - O.length)) from if_neg hlt, hF3g i (by omega)]
      have ho := hO'.obj (M.length + (i - O.length)) ob (by rw [List.getElem?_append_right (by omega), hlen, Nat.add_sub_cancel_left]; exact h)
      have hout := hN.at h
      unfold ObjAt at ho ⊢
      cases hs' : ι' (M.length + (i - O.length)) with
      | none => rw [hs'] at ho; exact ho
      | some p =>
        obtain ⟨b, k⟩ := p
        rw [hs'] at ho
        obtain ⟨cur', t', fz', f2, q1, q2, q3, q4, q5, q6, q7⟩ := ho
        exact ⟨cur', t', fz', f2, q1, q2, q3, q4, q5, q6, hcells hout.1 hout.2 q7⟩
  · have h : i < O3.length := h
    by_cases hlt : i < O.length
    · cases hfd : findN hs i 0 with
      | some j => rw [hF3f i j hlt hfd]; exact hO'.nodup j (by have := (hfind i j hfd).1; omega)
      | none => rw [hF3n i hlt hfd]; exact hr.objs.nodup i hlt
    · rw [hF3g i (by omega)]; exact hO'.nodup _ (by omega)
  · have hi : i < O3.length := hi
    have hj : j < O3.length := hj
    -- the place in the callee's list, if there is one
    have hpl : ∀ k, k < O3.length → (∃ q, q < (M' ++ N).length ∧ F3 k = F' q ∧ ((q < M.length ∧ hs[q]? = some k) ∨ (O.length ≤ k ∧ q = M.length + (k - O.length)))) ∨ (k < O.length ∧ findN hs k 0 = none ∧ F3 k = F k) := fun k hk' => by
      by_cases hlt : k < O.length
      · cases hfd : findN hs k 0 with
        | some q => obtain ⟨h1, h2⟩ := hfind k q hfd; exact .inl ⟨q, by omega, hF3f k q hlt hfd, .inl ⟨h1, h2⟩⟩
        | none => exact .inr ⟨hlt, rfl, hF3n k hlt hfd⟩
      · exact .inl ⟨_, by omega, hF3g k (by omega), .inr ⟨by omega, rfl⟩⟩
    have hcross : ∀ k q, k < O.length → findN hs k 0 = none → q < (M' ++ N).length → ∀ b ∈ F k, b ∉ F' q := fun k q hk' hn hq b hb hb' => by
      rcases (hsrc q hq b hb').1 with ⟨id, hid, hlt, hbf⟩ | h
      · have hne : k ≠ id := by rintro rfl; exact findN_none hn hid
        exact hr.objs.apart k id hk' hlt hne b hb hbf
      · have := (hr.foot k hk' b hb).2.2; omega
    rcases hpl i hi with ⟨q1, p1, p2, p3⟩ | ⟨p1, p2, p3⟩ <;> rcases hpl j hj with ⟨q2, r1, r2, r3⟩ | ⟨r1, r2, r3⟩
    · rw [p2] at hb; rw [r2]
      refine hO'.apart q1 q2 p1 r1 (fun e => ?_) b hb
      subst e
      rcases p3 with ⟨a1, a2⟩ | ⟨a1, a2⟩ <;> rcases r3 with ⟨b1, b2⟩ | ⟨b1, b2⟩
      · rw [a2] at b2; cases b2; exact hij rfl
      · omega
      · omega
      · omega
    · rw [p2] at hb; rw [r3]; intro hb'; exact hcross j q1 r1 r2 p1 b hb' hb
    · rw [p3] at hb; rw [r2]; exact hcross i q2 p1 p2 r1 b hb
    · rw [p3] at hb; rw [r3]; exact hr.objs.apart i j p1 r1 hij b hb
  · have h : i < O3.length := h
    by_cases hlt : i < O.length
    · cases hfd : findN hs i 0 with
      | some j => rw [hF3f i j hlt hfd] at hb; exact hnoS j (by have := (hfind i j hfd).1; omega) b hb
      | none =>
        rw [hF3n i hlt hfd] at hb
        obtain ⟨q1, q2, q3⟩ := hr.foot i hlt b hb
        refine ⟨q1, ?_, by have := hk.size; omega⟩
        rintro (h' | ⟨_, h'⟩)
        · exact q2 h'
        · omega
    · rw [hF3g i (by omega)] at hb; exact hnoS _ (by omega) b hb
  · rintro b (h' | ⟨_, h'⟩)
    · exact hr.base.2 b h'
    · exact .inr (by have := hr.keeps.size; omega)
  · rintro b (h' | ⟨h', _⟩)
    · have := hr.stable b h'; have := hk.size; omega
    · exact hS3 b h'
  · refine ⟨hk.os.trans hr.keeps.os, hk.tape.trans hr.keeps.tape, hk.output.trans hr.keeps.output, by have := hr.keeps.size; have := hk.size; omega, fun b hb hM0 => ?_⟩
    rw [hold b (by have := hr.keeps.size; omega) fun id hid hbf => ?_]
    · exact hr.keeps.block b hb hM0
    · obtain ⟨j, hj, e⟩ := hmem id hid
      rcases (hr.foot id (hidl j id e) b hbf).1 with h | h
      · exact hM0 h
      · omega
  · have hm : m ≤ O.length := hr.mle
    rw [show ι3 i = ι i from if_pos (by omega)]; exact hr.spots i h
  · have hm : m ≤ O.length := hr.mle
    show m ≤ O3.length
    omega
  · refine AV.reF_rel (S := S') (ι := ι') (O := M' ++ N) (fun id hid => ?_) (fun id ob hid h => ?_) r r' hre hv
    · show (if _ then _ else _) = _
      rw [if_neg (by omega)]; congr 1; omega
    · show O3[id - M.length + O.length]? = some ob
      rw [hO3ge _ (by omega), Nat.add_sub_cancel]
      rw [List.getElem?_append_right (by omega), hlen] at h
      exact h
theorem FinX.mk {rs : Array ResultVar} {β : Type} {C : β → Prop} {MN : β → List AObj} {r : β → AV} {e : Exit} {σ : St} (y : β) (hy : C y) (h : FinG tab m rs (MN y) (r y) e σ) : FinX tab m rs β C MN r e σ := by
  cases e <;> first | exact ⟨y, hy, h⟩ | exact h
theorem WpL.opX {β : Type} {o : Oper} {σ : St} {σX : β → St} {C : β → Prop} (hg : o.guard = none)
    (hop : ∀ a w, Rel n m G σ a w → o.wp P a w (fun a' w' => ∃ y, C y ∧ Rel n m G (σX y) a' w') (fun _ _ _ => False)) (h : ∀ y, C y → WpL P n m G false ops l (σX y) Q) : WpL P n m G false ops (o :: l) σ Q := by
  exact fun a w hr => wpList_plain hg fun K hK => by
    have h1 := hop a w hr
    have hm : ∀ r, o.upon P a (fun a' w' => ∃ y, C y ∧ Rel n m G (σX y) a' w') (fun _ _ _ => False) r → o.upon P a K (fun e a' w' => ∃ σ', Q e σ' ∧ Rel n m G σ' a' w') r := by
      intro r hr'
      cases r with
      | ok x w1 =>
        cases x <;> simp only [Oper.upon] at hr' ⊢
        case value v => obtain ⟨y, hy, h2⟩ := hr'; exact hK _ _ (h y hy _ _ h2)
        case skip => obtain ⟨y, hy, h2⟩ := hr'; exact hK _ _ (h y hy _ _ h2)
        case defer d => obtain ⟨y, hy, h2⟩ := hr'; exact hK _ _ (h y hy _ _ h2)
        case enter f args =>
          refine hr'.mono fun e w2 h2 => ?_
          cases e with
          | returned v => obtain ⟨y, hy, h2⟩ := h2; exact hK _ _ (h y hy _ _ h2)
          | panicked c => exact h2.elim
          | outgrown => obtain ⟨_, _, hf⟩ := h2; exact hf.elim
        case row r ar => exact hr'.mono fun v w2 h2 => by obtain ⟨y, hy, h2⟩ := h2; exact hK _ _ (h y hy _ _ h2)
      | halt x w1 => cases x <;> exact hr'.elim
    exact hm _ h1
theorem WpL.callE {β : Type} {f : FuncId} {xs : List Operand} {ats : Array TypeId} {As : List AV} {M : List AObj} {MX NX OX : β → List AObj} {rX rX' : β → AV} {C : β → Prop} {hs : List Nat} {k base d : Nat} {pv : List Value} {pa : List AV} (hc : FnX P f As M pv pa β C MX NX rX) (hp : Pin G pv pa) (hh : HandM O hs M (xs.map (av T)) As) (hM : HandO O hs M) (hnd : nodupB hs = true)
    (hlen : ∀ y, ((MX y).map AObj.size) = (M.map AObj.size)) (hM' : ∀ y, Out (MX y)) (hN : ∀ y, Out (NX y)) (hk : cnt M.length 0 = some k) (hb : cnt O.length 0 = some base) (hre : ∀ y, (rX y).reF k base = some (rX' y)) (hO2 : ∀ y, newF hs (MX y) 0 O (NX y) = some (OX y)) (hn : d < n)
    (h : ∀ y, C y → WpL P n m G false ops l ⟨(d, rX' y) :: T, OX y⟩ Q) :
    WpL P n m G false ops ({ dst := some d, op := .call { callee := .value (.func f), args := xs.toArray, argTypes := ats }, type := tt, pos := pos, after := after, guard := none } :: l) ⟨T, O⟩ Q :=
  WpL.opX (σX := fun y => ⟨(d, rX' y) :: T, OX y⟩) rfl (fun a w hr => by
    have e1 := cnt_eq hk; rw [Nat.add_zero] at e1; subst e1
    have e2 := cnt_eq hb; rw [Nat.add_zero] at e2; subst e2
    have hl : ∀ y, (MX y).length = M.length := fun y => by have := congrArg List.length (hlen y); simpa using this
    have hcl := callX_rel hc hp hh hM (nodupB_spec hnd) hl (fun y j a b hx hy => by
      have := congrArg (fun l : List Nat => l[j]?) (hlen y)
      simp only [List.getElem?_map, hx, hy, Option.map_some, Option.some.injEq] at this
      exact this) hM' hN hre hr
    obtain ⟨⟨fn, hf, hbd, hnm⟩, _⟩ := hc
    have hex : (execOp a.eval { dst := some d, op := .call { callee := .value (.func f), args := xs.toArray, argTypes := ats }, type := tt, pos := pos, after := after, guard := none }).run P w = .ok (.enter f (xs.map a.eval).toArray) w := by
      simp only [execOp, resolve, Act.eval, Deferred.ofValue, invoke, callFunc, Sem.run_bind, Sem.run_pure, Result.andThen_ok, program, Sem.run, hf, hnm, hbd, Bool.false_eq_true, if_false]
      simp
    unfold Oper.wp
    rw [hex]
    refine hcl.mono fun e w' ⟨y, hy, v, he, S, ι, F, hr', hv⟩ => ?_
    subst he
    rw [newF_eq (hO2 y)] at hr' hv
    exact ⟨y, hy, S, ι, F, hr'.put hn hv⟩) h
end
def FnP (P : Program) (f : FuncId) (args : List AV) (M : List AObj) (pv : List Value) (pa : List AV) (M' N : List AObj) (r : AV) : Prop := FnX P f args M pv pa Unit (fun _ => True) (fun _ => M') (fun _ => N) (fun _ => r)
section
variable {P : Program} {n m : Nat} {G : Ctx} {T : List (Nat × AV)} {O : List AObj} {Q : Exit → St → Prop} {ops : Array Oper} {l : List Oper} {tt : TypeId} {pos : String} {after : Array Edge} {tab : List (Nat × Ty)}
theorem WpL.callP {f : FuncId} {xs : List Operand} {ats : Array TypeId} {As : List AV} {M M' N O2 : List AObj} {pv : List Value} {pa : List AV} {r r' : AV} {hs : List Nat} {k base d : Nat} (hc : FnP P f As M pv pa M' N r) (hp : Pin G pv pa) (hh : HandM O hs M (xs.map (av T)) As) (hM : HandO O hs M) (hnd : nodupB hs = true)
    (hlen : (M'.map AObj.size) = (M.map AObj.size)) (hM' : Out M') (hN : Out N) (hk : cnt M.length 0 = some k) (hb : cnt O.length 0 = some base) (hre : r.reF k base = some r') (hO2 : newF hs M' 0 O N = some O2) (hn : d < n) (h : WpL P n m G false ops l ⟨(d, r') :: T, O2⟩ Q) :
    WpL P n m G false ops ({ dst := some d, op := .call { callee := .value (.func f), args := xs.toArray, argTypes := ats }, type := tt, pos := pos, after := after, guard := none } :: l) ⟨T, O⟩ Q :=
  WpL.callE hc hp hh hM hnd (fun _ => hlen) (fun _ => hM') (fun _ => hN) hk hb (fun _ => hre) (fun _ => hO2) hn (fun _ _ => h)
end
end Go.Abs


namespace Go.Abs
open Go
theorem run_equal_ifc (P : Program) {t te : TypeId} {ms} (ht : P.underlying t = some (.interface ms)) (x : Value) (w : World) : (Op.equal t (.iface te x) .nilIface).run P w = .ok false w := by
  show (Op.equalIn (9999 + 1) t _ _).run P w = _
  rw [Op.equalIn]
  simp only [Sem.run_bind, run_underlying ht, Result.andThen_ok, Sem.run_pure]
theorem run_equal_nif (P : Program) {t : TypeId} {ms} (ht : P.underlying t = some (.interface ms)) (w : World) : (Op.equal t .nilIface .nilIface).run P w = .ok true w := by
  show (Op.equalIn (9999 + 1) t _ _).run P w = _
  rw [Op.equalIn]
  simp only [Sem.run_bind, run_underlying ht, Result.andThen_ok, Sem.run_pure]
section
variable {P : Program} {n m : Nat} {G : Ctx} {md : Bool} {T : List (Nat × AV)} {O : List AObj} {Q : Exit → St → Prop} {ops : Array Oper} {l : List Oper} {d : Nat} {tt : TypeId} {pos : String} {after : Array Edge} {tab : List (Nat × Ty)}
theorem RelAt.ifcE {S ι F a w} (hr : RelAt n m G S ι F ⟨T, O⟩ a w) {x : Operand} {te : TypeId} {V : AV} (hx : av T x = .ifc te V) : ∃ u, a.eval x = .iface te u := by
  have := hr.eval x
  rw [show av (St.mk T O).T x = .ifc te V from hx] at this
  generalize a.eval x = v at this
  cases this with
  | ifc a r => exact ⟨_, rfl⟩
theorem WpL.ifcNe (hP : TabOk P tab) {t te ty : TypeId} {x : Operand} {V : AV} (ht : tlook tab t = some .iface) (hx : av T x = .ifc te V) (hn : d < n) (h : WpL P n m G md ops l ⟨(d, .sc (.bool true)) :: T, O⟩ Q) :
    WpL P n m G md ops ({ dst := some d, op := .binOp .neq t x (.const .nilIface) ty, type := tt, pos := pos, after := after, guard := none } :: l) ⟨T, O⟩ Q := by
  obtain ⟨⟨ms, hm⟩, _⟩ := hP.ty ht
  refine WpL.pure rfl rfl hn (fun S ι F a w hr => ⟨.bool true, ?_, .sc .nil⟩) h
  obtain ⟨u, e1⟩ := hr.ifcE hx
  have e2 : a.eval (.const .nilIface) = .nilIface := rfl
  have e3 : eqGuard .neq t x (.const .nilIface) (.iface te u) .nilIface = (Pure.pure () : Sem Unit) := rfl
  simp only [execOp, e1, e2, e3, binOp, Sem.run_bind, run_equal_ifc P hm, Result.andThen_ok, Sem.run_pure]
  rfl
theorem WpL.nifNe (hP : TabOk P tab) {t ty : TypeId} {x : Operand} (ht : tlook tab t = some .iface) (hx : av T x = .sc .nilIface) (hn : d < n) (h : WpL P n m G md ops l ⟨(d, .sc (.bool false)) :: T, O⟩ Q) :
    WpL P n m G md ops ({ dst := some d, op := .binOp .neq t x (.const .nilIface) ty, type := tt, pos := pos, after := after, guard := none } :: l) ⟨T, O⟩ Q := by
  obtain ⟨⟨ms, hm⟩, _⟩ := hP.ty ht
  refine WpL.pure rfl rfl hn (fun S ι F a w hr => ⟨.bool false, ?_, .sc .nil⟩) h
  have e1 := hr.sc hx
  have e2 : a.eval (.const .nilIface) = .nilIface := rfl
  have e3 : eqGuard .neq t x (.const .nilIface) .nilIface .nilIface = (Pure.pure () : Sem Unit) := by
    unfold eqGuard; cases x <;> simp
  simp only [execOp, e1, e2, e3, binOp, Sem.run_bind, run_equal_nif P hm, Result.andThen_ok, Sem.run_pure]
  rfl
end
end Go.Abs
