/-
  No cell of these rows narrows 'for every input' (looked for: loops, veiled, ifaces, maps, wideKeys, modest, calm, conditions, laid).
  DERIVED. THE GIVEN ROWS OF THIS SEAT. 3 by the template 'for every input the law returns true; each argument reads behind the call as it read before'; 0 by the template 'total and deterministic' (their statements: YtjhejgamjlokdaaGreatTotals.lean).
  GIVEN WITH THE SEED: the statements are not yours to turn. If you find one false, say at which input.
  Laid BY PROGRAM, IN A SANDBOX (cutbox-rows.mjs): the forced cells as the released guide's own fill.sh prints them over the translation 9b9b2423cbc2376a… (all of the seat's roots in one cut). By AI agents, Wed Nov 11 2026. No macro, syntax, notation, axiom, sorry.
-/
import Derived.Test.YtjhejgamjlokdaaGreatChecked
import GoSem.Claim
import GoSem.ClaimJoined
import GoSem.ClaimMapViews
import Derived.JoinedTies
import Derived.KernelRfl
namespace Go.Proofs.YtjhejgamjlokdaaGreat
/- THE CELL 'sum', in the pinned program and in every row, IS THE sha256 OF THE DUMP (.gsa) THAT YtjhejgamjlokdaaGreatProg.lean LOADS. Nothing in Lean hashes anything: it is a label: what it is worth is what the hold of that sum in a sandbox is worth. -/
noncomputable def Tryz.pinned : Pinned := { name := "ytjhejgamjlokdaagreat", sum := "9b9b2423cbc2376a48aaf06955edc014271733bc981a2c9675addf29cd2e9912", checked := Tryz.checked }
namespace Rows
def none {H : Type} : Left H := { results := [], args := [] }

/-- 'laws.FnExactPutFast': WHATEVER THE INPUT: true; the input reads as it did. -/
def fnExactPutFastSpec : ChangeSpec := { name := "fnExactPutFast", fn := fun _ => fun
  | [d1, d2, d3, d4, d5] => { results := [.lit (.bool true)], args := [d1, d2, d3, d4, d5] }
  | _ => none }
def fnExactPutFastRow : OpenClaim := { program := "ytjhejgamjlokdaagreat", sum := "9b9b2423cbc2376a48aaf06955edc014271733bc981a2c9675addf29cd2e9912", func := "loop.example/g01613/laws.FnExactPutFast", spec := "fnExactPutFast", apart := false }
def FnExactPutFastSaid : Prop := fnExactPutFastRow.holds Tryz.pinned (OpenSpec.ofChange fnExactPutFastSpec)

/-- ITS FALSE NEIGHBOUR: 'it returns false'. Refute it at one input. -/
def fnExactPutFastWrong : ChangeSpec := { name := "fnExactPutFast", fn := fun _ => fun
  | [d1, d2, d3, d4, d5] => { results := [.lit (.bool false)], args := [d1, d2, d3, d4, d5] }
  | _ => none }
def FnExactPutFastWrongFalsely : Prop := fnExactPutFastRow.holds Tryz.pinned (OpenSpec.ofChange fnExactPutFastWrong)

/-- 'laws.FnPlaced': WHATEVER THE INPUT: true; the input reads as it did. -/
def fnPlacedSpec : ChangeSpec := { name := "fnPlaced", fn := fun _ => fun
  | [d] => { results := [.lit (.bool true)], args := [d] }
  | _ => none }
def fnPlacedRow : OpenClaim := { program := "ytjhejgamjlokdaagreat", sum := "9b9b2423cbc2376a48aaf06955edc014271733bc981a2c9675addf29cd2e9912", func := "loop.example/g01613/laws.FnPlaced", spec := "fnPlaced", apart := false }
def FnPlacedSaid : Prop := fnPlacedRow.holds Tryz.pinned (OpenSpec.ofChange fnPlacedSpec)

/-- ITS FALSE NEIGHBOUR: 'it returns false'. Refute it at one input. -/
def fnPlacedWrong : ChangeSpec := { name := "fnPlaced", fn := fun _ => fun
  | [d] => { results := [.lit (.bool false)], args := [d] }
  | _ => none }
def FnPlacedWrongFalsely : Prop := fnPlacedRow.holds Tryz.pinned (OpenSpec.ofChange fnPlacedWrong)

/-- 'laws.FnQuiet': WHATEVER THE INPUT: true; the input reads as it did. -/
def fnQuietSpec : ChangeSpec := { name := "fnQuiet", fn := fun _ => fun
  | [d] => { results := [.lit (.bool true)], args := [d] }
  | _ => none }
def fnQuietRow : OpenClaim := { program := "ytjhejgamjlokdaagreat", sum := "9b9b2423cbc2376a48aaf06955edc014271733bc981a2c9675addf29cd2e9912", func := "loop.example/g01613/laws.FnQuiet", spec := "fnQuiet", apart := false }
def FnQuietSaid : Prop := fnQuietRow.holds Tryz.pinned (OpenSpec.ofChange fnQuietSpec)

/-- ITS FALSE NEIGHBOUR: 'it returns false'. Refute it at one input. -/
def fnQuietWrong : ChangeSpec := { name := "fnQuiet", fn := fun _ => fun
  | [d] => { results := [.lit (.bool false)], args := [d] }
  | _ => none }
def FnQuietWrongFalsely : Prop := fnQuietRow.holds Tryz.pinned (OpenSpec.ofChange fnQuietWrong)

/- THE SECOND FORM. 'bulk': how many values and letters a reading holds, each counted each time it is reached (what is shared counts as often as it is met; a slice's spare places count too). A statement '..UptoSaid' is the law's where the arguments, and the package variables that the reading takes, are together of bulk at most 1048576: NARROWER than '..Said'. Prove '..Said' where nothing that the law and all that it calls make is longer than what came in: it says more and counts as full. Else prove '..UptoSaid'. A law counts once. -/
mutual
def uptoBulk {H : Type} : DataW H → Nat
  | .lit (.string bytes) => bytes.length + 1
  | .lit _ => 1
  | .nil => 1
  | .ptr d => uptoBulk d + 1
  | .slice elems spare => uptoBulkAll elems + uptoBulkAll spare + 1
  | .agg parts => uptoBulkAll parts + 1
  | .iface _ d => uptoBulk d + 1
  | .map entries => uptoBulkEntries entries + 1
  | .held _ => 1
def uptoBulkAll {H : Type} : List (DataW H) → Nat
  | [] => 0
  | d :: r => uptoBulk d + uptoBulkAll r
def uptoBulkEntries {H : Type} : List (Lit × DataW H) → Nat
  | [] => 0
  | x :: r => uptoBulkEntry x + uptoBulkEntries r
def uptoBulkEntry {H : Type} : Lit × DataW H → Nat
  | (.string bytes, d) => bytes.length + uptoBulk d + 1
  | (_, d) => uptoBulk d + 1
 end
def uptoSmall : (H : Type) → List (DataW H) → Bool := fun _ ds => decide (uptoBulkAll ds ≤ 1048576)
def OpenSpec.upto (s : _root_.Go.ChangeSpec) : _root_.Go.OpenSpec := { _root_.Go.OpenSpec.ofChange s with cond := some uptoSmall }

/-- 'laws.FnExactPutFast', WHERE WHAT IT READS IS OF BULK AT MOST 1048576: true; the input reads as it did. -/
def fnExactPutFastUptoRow : OpenClaim := { program := "ytjhejgamjlokdaagreat", sum := "9b9b2423cbc2376a48aaf06955edc014271733bc981a2c9675addf29cd2e9912", func := "loop.example/g01613/laws.FnExactPutFast", spec := "fnExactPutFast", apart := false, narrowed := true }
def FnExactPutFastUptoSaid : Prop := fnExactPutFastUptoRow.holds Tryz.pinned (OpenSpec.upto fnExactPutFastSpec)

/-- 'laws.FnPlaced', WHERE WHAT IT READS IS OF BULK AT MOST 1048576: true; the input reads as it did. -/
def fnPlacedUptoRow : OpenClaim := { program := "ytjhejgamjlokdaagreat", sum := "9b9b2423cbc2376a48aaf06955edc014271733bc981a2c9675addf29cd2e9912", func := "loop.example/g01613/laws.FnPlaced", spec := "fnPlaced", apart := false, narrowed := true }
def FnPlacedUptoSaid : Prop := fnPlacedUptoRow.holds Tryz.pinned (OpenSpec.upto fnPlacedSpec)

/-- 'laws.FnQuiet', WHERE WHAT IT READS IS OF BULK AT MOST 1048576: true; the input reads as it did. -/
def fnQuietUptoRow : OpenClaim := { program := "ytjhejgamjlokdaagreat", sum := "9b9b2423cbc2376a48aaf06955edc014271733bc981a2c9675addf29cd2e9912", func := "loop.example/g01613/laws.FnQuiet", spec := "fnQuiet", apart := false, narrowed := true }
def FnQuietUptoSaid : Prop := fnQuietUptoRow.holds Tryz.pinned (OpenSpec.upto fnQuietSpec)

end Rows
end Go.Proofs.YtjhejgamjlokdaaGreat
