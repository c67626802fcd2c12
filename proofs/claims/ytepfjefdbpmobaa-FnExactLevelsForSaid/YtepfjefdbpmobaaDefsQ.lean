/- Short names of objects. No condition. -/
import Derived.Test.YtepfjefdbpmobaaAbsZ
import Derived.Test.YtepfjefdbpmobaaGoR
import Derived.Test.YtepfjefdbpmobaaDefs
namespace Go.Proofs.Ytepfjefdbpmobaa
open Go Go.Abs
abbrev XD (l : List Int) : AObj := ⟨ints l, 1, 1, some 3⟩
abbrev XQ (l : List (Int × Int)) : AObj := ⟨rows prF l, 1, 2, some 142⟩
abbrev DD : AObj := ⟨[], 2, 0, none⟩
end Go.Proofs.Ytepfjefdbpmobaa
