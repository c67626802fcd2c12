/-
  No cell of these rows narrows 'for every input' (looked for: loops, veiled, ifaces, maps, wideKeys, modest, calm, conditions, laid).
  DERIVED. THE GIVEN ROWS OF THIS SEAT. 9 by the template 'for every input the law returns true; each argument reads behind the call as it read before'; 0 by the template 'total and deterministic' (their statements: YtepfjefdbpmobaaTotals.lean).
  GIVEN WITH THE SEED: the statements are not yours to turn. If you find one false, say at which input.
  Laid BY PROGRAM, IN A SANDBOX (cutbox-rows.mjs): the forced cells as the released guide's own fill.sh prints them over the translation da3961af1b68c4b1… (all of the seat's roots in one cut). By AI agents, Wed Nov 11 2026. No macro, syntax, notation, axiom, sorry.
-/
import Derived.Test.YtepfjefdbpmobaaChecked
import GoSem.Claim
import GoSem.ClaimJoined
import GoSem.ClaimMapViews
import Derived.JoinedTies
import Derived.KernelRfl
namespace Go.Proofs.Ytepfjefdbpmobaa
/- THE CELL 'sum', in the pinned program and in every row, IS THE sha256 OF THE DUMP (.gsa) THAT YtepfjefdbpmobaaProg.lean LOADS. Nothing in Lean hashes anything: it is a label: what it is worth is what the hold of that sum in a sandbox is worth. -/
noncomputable def Try.pinned : Pinned := { name := "ytepfjefdbpmobaa", sum := "da3961af1b68c4b14b0390fedcec3550511a400bdcc75a0773c516550973fcec", checked := Try.checked }
namespace Rows
def none {H : Type} : Left H := { results := [], args := [] }

/-- 'laws.FnExactOptionsOk': WHATEVER THE INPUT: true; the input reads as it did. -/
def fnExactOptionsOkSpec : ChangeSpec := { name := "fnExactOptionsOk", fn := fun _ => fun
  | [d] => { results := [.lit (.bool true)], args := [d] }
  | _ => none }
def fnExactOptionsOkRow : OpenClaim := { program := "ytepfjefdbpmobaa", sum := "da3961af1b68c4b14b0390fedcec3550511a400bdcc75a0773c516550973fcec", func := "loop.example/g01613/laws.FnExactOptionsOk", spec := "fnExactOptionsOk", apart := false }
def FnExactOptionsOkSaid : Prop := fnExactOptionsOkRow.holds Try.pinned (OpenSpec.ofChange fnExactOptionsOkSpec)

/-- ITS FALSE NEIGHBOUR: 'it returns false'. Refute it at one input. -/
def fnExactOptionsOkWrong : ChangeSpec := { name := "fnExactOptionsOk", fn := fun _ => fun
  | [d] => { results := [.lit (.bool false)], args := [d] }
  | _ => none }
def FnExactOptionsOkWrongFalsely : Prop := fnExactOptionsOkRow.holds Try.pinned (OpenSpec.ofChange fnExactOptionsOkWrong)

/-- 'laws.FnExactShowFrame': WHATEVER THE INPUT: true; the input reads as it did. -/
def fnExactShowFrameSpec : ChangeSpec := { name := "fnExactShowFrame", fn := fun _ => fun
  | [d] => { results := [.lit (.bool true)], args := [d] }
  | _ => none }
def fnExactShowFrameRow : OpenClaim := { program := "ytepfjefdbpmobaa", sum := "da3961af1b68c4b14b0390fedcec3550511a400bdcc75a0773c516550973fcec", func := "loop.example/g01613/laws.FnExactShowFrame", spec := "fnExactShowFrame", inPlace := ["internal/abi.NoEscape"], apart := false }
def FnExactShowFrameSaid : Prop := fnExactShowFrameRow.holds Try.pinned (OpenSpec.ofChange fnExactShowFrameSpec)

/-- ITS FALSE NEIGHBOUR: 'it returns false'. Refute it at one input. -/
def fnExactShowFrameWrong : ChangeSpec := { name := "fnExactShowFrame", fn := fun _ => fun
  | [d] => { results := [.lit (.bool false)], args := [d] }
  | _ => none }
def FnExactShowFrameWrongFalsely : Prop := fnExactShowFrameRow.holds Try.pinned (OpenSpec.ofChange fnExactShowFrameWrong)

/-- 'laws.FnExactNonZeros': WHATEVER THE INPUT: true; the input reads as it did. -/
def fnExactNonZerosSpec : ChangeSpec := { name := "fnExactNonZeros", fn := fun _ => fun
  | [d] => { results := [.lit (.bool true)], args := [d] }
  | _ => none }
def fnExactNonZerosRow : OpenClaim := { program := "ytepfjefdbpmobaa", sum := "da3961af1b68c4b14b0390fedcec3550511a400bdcc75a0773c516550973fcec", func := "loop.example/g01613/laws.FnExactNonZeros", spec := "fnExactNonZeros", apart := false }
def FnExactNonZerosSaid : Prop := fnExactNonZerosRow.holds Try.pinned (OpenSpec.ofChange fnExactNonZerosSpec)

/-- ITS FALSE NEIGHBOUR: 'it returns false'. Refute it at one input. -/
def fnExactNonZerosWrong : ChangeSpec := { name := "fnExactNonZeros", fn := fun _ => fun
  | [d] => { results := [.lit (.bool false)], args := [d] }
  | _ => none }
def FnExactNonZerosWrongFalsely : Prop := fnExactNonZerosRow.holds Try.pinned (OpenSpec.ofChange fnExactNonZerosWrong)

/-- 'laws.FnExactModeFor': WHATEVER THE INPUT: true; the input reads as it did. -/
def fnExactModeForSpec : ChangeSpec := { name := "fnExactModeFor", fn := fun _ => fun
  | [d1, d2] => { results := [.lit (.bool true)], args := [d1, d2] }
  | _ => none }
def fnExactModeForRow : OpenClaim := { program := "ytepfjefdbpmobaa", sum := "da3961af1b68c4b14b0390fedcec3550511a400bdcc75a0773c516550973fcec", func := "loop.example/g01613/laws.FnExactModeFor", spec := "fnExactModeFor", apart := false }
def FnExactModeForSaid : Prop := fnExactModeForRow.holds Try.pinned (OpenSpec.ofChange fnExactModeForSpec)

/-- ITS FALSE NEIGHBOUR: 'it returns false'. Refute it at one input. -/
def fnExactModeForWrong : ChangeSpec := { name := "fnExactModeFor", fn := fun _ => fun
  | [d1, d2] => { results := [.lit (.bool false)], args := [d1, d2] }
  | _ => none }
def FnExactModeForWrongFalsely : Prop := fnExactModeForRow.holds Try.pinned (OpenSpec.ofChange fnExactModeForWrong)

/-- 'laws.FnExactModeCounts': WHATEVER THE INPUT: true; the input reads as it did. -/
def fnExactModeCountsSpec : ChangeSpec := { name := "fnExactModeCounts", fn := fun _ => fun
  | [d] => { results := [.lit (.bool true)], args := [d] }
  | _ => none }
def fnExactModeCountsRow : OpenClaim := { program := "ytepfjefdbpmobaa", sum := "da3961af1b68c4b14b0390fedcec3550511a400bdcc75a0773c516550973fcec", func := "loop.example/g01613/laws.FnExactModeCounts", spec := "fnExactModeCounts", apart := false }
def FnExactModeCountsSaid : Prop := fnExactModeCountsRow.holds Try.pinned (OpenSpec.ofChange fnExactModeCountsSpec)

/-- ITS FALSE NEIGHBOUR: 'it returns false'. Refute it at one input. -/
def fnExactModeCountsWrong : ChangeSpec := { name := "fnExactModeCounts", fn := fun _ => fun
  | [d] => { results := [.lit (.bool false)], args := [d] }
  | _ => none }
def FnExactModeCountsWrongFalsely : Prop := fnExactModeCountsRow.holds Try.pinned (OpenSpec.ofChange fnExactModeCountsWrong)

/-- 'laws.FnExactBestMode': WHATEVER THE INPUT: true; the input reads as it did. -/
def fnExactBestModeSpec : ChangeSpec := { name := "fnExactBestMode", fn := fun _ => fun
  | [d1, d2, d3, d4] => { results := [.lit (.bool true)], args := [d1, d2, d3, d4] }
  | _ => none }
def fnExactBestModeRow : OpenClaim := { program := "ytepfjefdbpmobaa", sum := "da3961af1b68c4b14b0390fedcec3550511a400bdcc75a0773c516550973fcec", func := "loop.example/g01613/laws.FnExactBestMode", spec := "fnExactBestMode", apart := false }
def FnExactBestModeSaid : Prop := fnExactBestModeRow.holds Try.pinned (OpenSpec.ofChange fnExactBestModeSpec)

/-- ITS FALSE NEIGHBOUR: 'it returns false'. Refute it at one input. -/
def fnExactBestModeWrong : ChangeSpec := { name := "fnExactBestMode", fn := fun _ => fun
  | [d1, d2, d3, d4] => { results := [.lit (.bool false)], args := [d1, d2, d3, d4] }
  | _ => none }
def FnExactBestModeWrongFalsely : Prop := fnExactBestModeRow.holds Try.pinned (OpenSpec.ofChange fnExactBestModeWrong)

/-- 'laws.FnExactLevelsFor': WHATEVER THE INPUT: true; the input reads as it did. -/
def fnExactLevelsForSpec : ChangeSpec := { name := "fnExactLevelsFor", fn := fun _ => fun
  | [d1, d2] => { results := [.lit (.bool true)], args := [d1, d2] }
  | _ => none }
def fnExactLevelsForRow : OpenClaim := { program := "ytepfjefdbpmobaa", sum := "da3961af1b68c4b14b0390fedcec3550511a400bdcc75a0773c516550973fcec", func := "loop.example/g01613/laws.FnExactLevelsFor", spec := "fnExactLevelsFor", apart := false }
def FnExactLevelsForSaid : Prop := fnExactLevelsForRow.holds Try.pinned (OpenSpec.ofChange fnExactLevelsForSpec)

/-- ITS FALSE NEIGHBOUR: 'it returns false'. Refute it at one input. -/
def fnExactLevelsForWrong : ChangeSpec := { name := "fnExactLevelsFor", fn := fun _ => fun
  | [d1, d2] => { results := [.lit (.bool false)], args := [d1, d2] }
  | _ => none }
def FnExactLevelsForWrongFalsely : Prop := fnExactLevelsForRow.holds Try.pinned (OpenSpec.ofChange fnExactLevelsForWrong)

/-- 'laws.FnExactWorkOf': WHATEVER THE INPUT: true; the input reads as it did. -/
def fnExactWorkOfSpec : ChangeSpec := { name := "fnExactWorkOf", fn := fun _ => fun
  | [d] => { results := [.lit (.bool true)], args := [d] }
  | _ => none }
def fnExactWorkOfRow : OpenClaim := { program := "ytepfjefdbpmobaa", sum := "da3961af1b68c4b14b0390fedcec3550511a400bdcc75a0773c516550973fcec", func := "loop.example/g01613/laws.FnExactWorkOf", spec := "fnExactWorkOf", unfollowed := true, recurses := true, apart := false }
def FnExactWorkOfSaid : Prop := fnExactWorkOfRow.holds Try.pinned (OpenSpec.ofChange fnExactWorkOfSpec)

/-- ITS FALSE NEIGHBOUR: 'it returns false'. Refute it at one input. -/
def fnExactWorkOfWrong : ChangeSpec := { name := "fnExactWorkOf", fn := fun _ => fun
  | [d] => { results := [.lit (.bool false)], args := [d] }
  | _ => none }
def FnExactWorkOfWrongFalsely : Prop := fnExactWorkOfRow.holds Try.pinned (OpenSpec.ofChange fnExactWorkOfWrong)

/-- 'laws.FnExactSizeOf': WHATEVER THE INPUT: true; the input reads as it did. -/
def fnExactSizeOfSpec : ChangeSpec := { name := "fnExactSizeOf", fn := fun _ => fun
  | [d] => { results := [.lit (.bool true)], args := [d] }
  | _ => none }
def fnExactSizeOfRow : OpenClaim := { program := "ytepfjefdbpmobaa", sum := "da3961af1b68c4b14b0390fedcec3550511a400bdcc75a0773c516550973fcec", func := "loop.example/g01613/laws.FnExactSizeOf", spec := "fnExactSizeOf", unfollowed := true, recurses := true, apart := false }
def FnExactSizeOfSaid : Prop := fnExactSizeOfRow.holds Try.pinned (OpenSpec.ofChange fnExactSizeOfSpec)

/-- ITS FALSE NEIGHBOUR: 'it returns false'. Refute it at one input. -/
def fnExactSizeOfWrong : ChangeSpec := { name := "fnExactSizeOf", fn := fun _ => fun
  | [d] => { results := [.lit (.bool false)], args := [d] }
  | _ => none }
def FnExactSizeOfWrongFalsely : Prop := fnExactSizeOfRow.holds Try.pinned (OpenSpec.ofChange fnExactSizeOfWrong)

/- THE SECOND FORM. 'bulk': how many values and letters a reading holds, each counted each time it is reached (what is shared counts as often as it is met; a slice's spare places count too). A statement '..UptoSaid' is the law's where the arguments, and the package variables that the reading takes, are together of bulk at most 1048576: NARROWER than '..Said'. Prove '..Said' where nothing that the law and all that it calls make is longer than what came in: it says more and counts as full. Else prove '..UptoSaid'. A law counts once. -/
mutual
def uptoBulk {H : Type} : DataW H → Nat
  | .lit (.string bytes) => bytes.length + 1
  | .lit _ => 1
  | .nil => 1
  | .ptr d => uptoBulk d + 1
  | .slice elems spare => uptoBulkAll elems + uptoBulkAll spare + 1
  | .agg parts => uptoBulkAll parts + 1
  | .iface _ d => uptoBulk d + 1
  | .map entries => uptoBulkEntries entries + 1
  | .held _ => 1
def uptoBulkAll {H : Type} : List (DataW H) → Nat
  | [] => 0
  | d :: r => uptoBulk d + uptoBulkAll r
def uptoBulkEntries {H : Type} : List (Lit × DataW H) → Nat
  | [] => 0
  | x :: r => uptoBulkEntry x + uptoBulkEntries r
def uptoBulkEntry {H : Type} : Lit × DataW H → Nat
  | (.string bytes, d) => bytes.length + uptoBulk d + 1
  | (_, d) => uptoBulk d + 1
 end
def uptoSmall : (H : Type) → List (DataW H) → Bool := fun _ ds => decide (uptoBulkAll ds ≤ 1048576)
def OpenSpec.upto (s : _root_.Go.ChangeSpec) : _root_.Go.OpenSpec := { _root_.Go.OpenSpec.ofChange s with cond := some uptoSmall }

/-- 'laws.FnExactOptionsOk', WHERE WHAT IT READS IS OF BULK AT MOST 1048576: true; the input reads as it did. -/
def fnExactOptionsOkUptoRow : OpenClaim := { program := "ytepfjefdbpmobaa", sum := "da3961af1b68c4b14b0390fedcec3550511a400bdcc75a0773c516550973fcec", func := "loop.example/g01613/laws.FnExactOptionsOk", spec := "fnExactOptionsOk", apart := false, narrowed := true }
def FnExactOptionsOkUptoSaid : Prop := fnExactOptionsOkUptoRow.holds Try.pinned (OpenSpec.upto fnExactOptionsOkSpec)

/-- 'laws.FnExactShowFrame', WHERE WHAT IT READS IS OF BULK AT MOST 1048576: true; the input reads as it did. -/
def fnExactShowFrameUptoRow : OpenClaim := { program := "ytepfjefdbpmobaa", sum := "da3961af1b68c4b14b0390fedcec3550511a400bdcc75a0773c516550973fcec", func := "loop.example/g01613/laws.FnExactShowFrame", spec := "fnExactShowFrame", inPlace := ["internal/abi.NoEscape"], apart := false, narrowed := true }
def FnExactShowFrameUptoSaid : Prop := fnExactShowFrameUptoRow.holds Try.pinned (OpenSpec.upto fnExactShowFrameSpec)

/-- 'laws.FnExactNonZeros', WHERE WHAT IT READS IS OF BULK AT MOST 1048576: true; the input reads as it did. -/
def fnExactNonZerosUptoRow : OpenClaim := { program := "ytepfjefdbpmobaa", sum := "da3961af1b68c4b14b0390fedcec3550511a400bdcc75a0773c516550973fcec", func := "loop.example/g01613/laws.FnExactNonZeros", spec := "fnExactNonZeros", apart := false, narrowed := true }
def FnExactNonZerosUptoSaid : Prop := fnExactNonZerosUptoRow.holds Try.pinned (OpenSpec.upto fnExactNonZerosSpec)

/-- 'laws.FnExactModeFor', WHERE WHAT IT READS IS OF BULK AT MOST 1048576: true; the input reads as it did. -/
def fnExactModeForUptoRow : OpenClaim := { program := "ytepfjefdbpmobaa", sum := "da3961af1b68c4b14b0390fedcec3550511a400bdcc75a0773c516550973fcec", func := "loop.example/g01613/laws.FnExactModeFor", spec := "fnExactModeFor", apart := false, narrowed := true }
def FnExactModeForUptoSaid : Prop := fnExactModeForUptoRow.holds Try.pinned (OpenSpec.upto fnExactModeForSpec)

/-- 'laws.FnExactModeCounts', WHERE WHAT IT READS IS OF BULK AT MOST 1048576: true; the input reads as it did. -/
def fnExactModeCountsUptoRow : OpenClaim := { program := "ytepfjefdbpmobaa", sum := "da3961af1b68c4b14b0390fedcec3550511a400bdcc75a0773c516550973fcec", func := "loop.example/g01613/laws.FnExactModeCounts", spec := "fnExactModeCounts", apart := false, narrowed := true }
def FnExactModeCountsUptoSaid : Prop := fnExactModeCountsUptoRow.holds Try.pinned (OpenSpec.upto fnExactModeCountsSpec)

/-- 'laws.FnExactBestMode', WHERE WHAT IT READS IS OF BULK AT MOST 1048576: true; the input reads as it did. -/
def fnExactBestModeUptoRow : OpenClaim := { program := "ytepfjefdbpmobaa", sum := "da3961af1b68c4b14b0390fedcec3550511a400bdcc75a0773c516550973fcec", func := "loop.example/g01613/laws.FnExactBestMode", spec := "fnExactBestMode", apart := false, narrowed := true }
def FnExactBestModeUptoSaid : Prop := fnExactBestModeUptoRow.holds Try.pinned (OpenSpec.upto fnExactBestModeSpec)

/-- 'laws.FnExactLevelsFor', WHERE WHAT IT READS IS OF BULK AT MOST 1048576: true; the input reads as it did. -/
def fnExactLevelsForUptoRow : OpenClaim := { program := "ytepfjefdbpmobaa", sum := "da3961af1b68c4b14b0390fedcec3550511a400bdcc75a0773c516550973fcec", func := "loop.example/g01613/laws.FnExactLevelsFor", spec := "fnExactLevelsFor", apart := false, narrowed := true }
def FnExactLevelsForUptoSaid : Prop := fnExactLevelsForUptoRow.holds Try.pinned (OpenSpec.upto fnExactLevelsForSpec)

/-- 'laws.FnExactWorkOf', WHERE WHAT IT READS IS OF BULK AT MOST 1048576: true; the input reads as it did. -/
def fnExactWorkOfUptoRow : OpenClaim := { program := "ytepfjefdbpmobaa", sum := "da3961af1b68c4b14b0390fedcec3550511a400bdcc75a0773c516550973fcec", func := "loop.example/g01613/laws.FnExactWorkOf", spec := "fnExactWorkOf", unfollowed := true, recurses := true, apart := false, narrowed := true }
def FnExactWorkOfUptoSaid : Prop := fnExactWorkOfUptoRow.holds Try.pinned (OpenSpec.upto fnExactWorkOfSpec)

/-- 'laws.FnExactSizeOf', WHERE WHAT IT READS IS OF BULK AT MOST 1048576: true; the input reads as it did. -/
def fnExactSizeOfUptoRow : OpenClaim := { program := "ytepfjefdbpmobaa", sum := "da3961af1b68c4b14b0390fedcec3550511a400bdcc75a0773c516550973fcec", func := "loop.example/g01613/laws.FnExactSizeOf", spec := "fnExactSizeOf", unfollowed := true, recurses := true, apart := false, narrowed := true }
def FnExactSizeOfUptoSaid : Prop := fnExactSizeOfUptoRow.holds Try.pinned (OpenSpec.upto fnExactSizeOfSpec)

end Rows
end Go.Proofs.Ytepfjefdbpmobaa
