/-
  No cell of these rows narrows 'for every input' (looked for: loops, veiled, ifaces, maps, wideKeys, modest, calm, conditions, laid).
  DERIVED. THE GIVEN ROWS OF THIS SEAT. 7 by the template 'for every input the law returns true; each argument reads behind the call as it read before'; 0 by the template 'total and deterministic' (their statements: YtainhhfnnclfiaaGreatTotals.lean).
  GIVEN WITH THE SEED: the statements are not yours to turn. If you find one false, say at which input.
  Laid BY PROGRAM, IN A SANDBOX (cutbox-rows.mjs): the forced cells as the released guide's own fill.sh prints them over the translation 747810ba3f903e1c… (all of the seat's roots in one cut). By AI agents, Wed Nov 11 2026. No macro, syntax, notation, axiom, sorry.
-/
import Derived.Test.YtainhhfnnclfiaaGreatChecked
import GoSem.Claim
import GoSem.ClaimJoined
import GoSem.ClaimMapViews
import Derived.JoinedTies
import Derived.KernelRfl
namespace Go.Proofs.YtainhhfnnclfiaaGreat
/- THE CELL 'sum', in the pinned program and in every row, IS THE sha256 OF THE DUMP (.gsa) THAT YtainhhfnnclfiaaGreatProg.lean LOADS. Nothing in Lean hashes anything: it is a label: what it is worth is what the hold of that sum in a sandbox is worth. -/
noncomputable def Tryz.pinned : Pinned := { name := "ytainhhfnnclfiaagreat", sum := "747810ba3f903e1c8c90b4bd9f2fd156fa01100d27620693b180c5ab08a9be01", checked := Tryz.checked }
namespace Rows
def none {H : Type} : Left H := { results := [], args := [] }

/-- 'laws.FnReels': WHATEVER THE INPUT: true; the input reads as it did. -/
def fnReelsSpec : ChangeSpec := { name := "fnReels", fn := fun _ => fun
  | [d] => { results := [.lit (.bool true)], args := [d] }
  | _ => none }
def fnReelsRow : OpenClaim := { program := "ytainhhfnnclfiaagreat", sum := "747810ba3f903e1c8c90b4bd9f2fd156fa01100d27620693b180c5ab08a9be01", func := "loop.example/g01613/laws.FnReels", spec := "fnReels", unfollowed := true, recurses := true, apart := false }
def FnReelsSaid : Prop := fnReelsRow.holds Tryz.pinned (OpenSpec.ofChange fnReelsSpec)

/-- ITS FALSE NEIGHBOUR: 'it returns false'. Refute it at one input. -/
def fnReelsWrong : ChangeSpec := { name := "fnReels", fn := fun _ => fun
  | [d] => { results := [.lit (.bool false)], args := [d] }
  | _ => none }
def FnReelsWrongFalsely : Prop := fnReelsRow.holds Tryz.pinned (OpenSpec.ofChange fnReelsWrong)

/-- 'laws.FnEncoded': WHATEVER THE INPUT: true; the input reads as it did. -/
def fnEncodedSpec : ChangeSpec := { name := "fnEncoded", fn := fun _ => fun
  | [d] => { results := [.lit (.bool true)], args := [d] }
  | _ => none }
def fnEncodedRow : OpenClaim := { program := "ytainhhfnnclfiaagreat", sum := "747810ba3f903e1c8c90b4bd9f2fd156fa01100d27620693b180c5ab08a9be01", func := "loop.example/g01613/laws.FnEncoded", spec := "fnEncoded", unfollowed := true, recurses := true, apart := false }
def FnEncodedSaid : Prop := fnEncodedRow.holds Tryz.pinned (OpenSpec.ofChange fnEncodedSpec)

/-- ITS FALSE NEIGHBOUR: 'it returns false'. Refute it at one input. -/
def fnEncodedWrong : ChangeSpec := { name := "fnEncoded", fn := fun _ => fun
  | [d] => { results := [.lit (.bool false)], args := [d] }
  | _ => none }
def FnEncodedWrongFalsely : Prop := fnEncodedRow.holds Tryz.pinned (OpenSpec.ofChange fnEncodedWrong)

/-- 'laws.FnLossless': WHATEVER THE INPUT: true; the input reads as it did. -/
def fnLosslessSpec : ChangeSpec := { name := "fnLossless", fn := fun _ => fun
  | [d] => { results := [.lit (.bool true)], args := [d] }
  | _ => none }
def fnLosslessRow : OpenClaim := { program := "ytainhhfnnclfiaagreat", sum := "747810ba3f903e1c8c90b4bd9f2fd156fa01100d27620693b180c5ab08a9be01", func := "loop.example/g01613/laws.FnLossless", spec := "fnLossless", unfollowed := true, recurses := true, apart := false }
def FnLosslessSaid : Prop := fnLosslessRow.holds Tryz.pinned (OpenSpec.ofChange fnLosslessSpec)

/-- ITS FALSE NEIGHBOUR: 'it returns false'. Refute it at one input. -/
def fnLosslessWrong : ChangeSpec := { name := "fnLossless", fn := fun _ => fun
  | [d] => { results := [.lit (.bool false)], args := [d] }
  | _ => none }
def FnLosslessWrongFalsely : Prop := fnLosslessRow.holds Tryz.pinned (OpenSpec.ofChange fnLosslessWrong)

/-- 'laws.FnExactEncodeStream': WHATEVER THE INPUT: true; the input reads as it did. -/
def fnExactEncodeStreamSpec : ChangeSpec := { name := "fnExactEncodeStream", fn := fun _ => fun
  | [d1, d2] => { results := [.lit (.bool true)], args := [d1, d2] }
  | _ => none }
def fnExactEncodeStreamRow : OpenClaim := { program := "ytainhhfnnclfiaagreat", sum := "747810ba3f903e1c8c90b4bd9f2fd156fa01100d27620693b180c5ab08a9be01", func := "loop.example/g01613/laws.FnExactEncodeStream", spec := "fnExactEncodeStream", unfollowed := true, recurses := true, apart := false }
def FnExactEncodeStreamSaid : Prop := fnExactEncodeStreamRow.holds Tryz.pinned (OpenSpec.ofChange fnExactEncodeStreamSpec)

/-- ITS FALSE NEIGHBOUR: 'it returns false'. Refute it at one input. -/
def fnExactEncodeStreamWrong : ChangeSpec := { name := "fnExactEncodeStream", fn := fun _ => fun
  | [d1, d2] => { results := [.lit (.bool false)], args := [d1, d2] }
  | _ => none }
def FnExactEncodeStreamWrongFalsely : Prop := fnExactEncodeStreamRow.holds Tryz.pinned (OpenSpec.ofChange fnExactEncodeStreamWrong)

/-- 'laws.FnExactEncode': WHATEVER THE INPUT: true; the input reads as it did. -/
def fnExactEncodeSpec : ChangeSpec := { name := "fnExactEncode", fn := fun _ => fun
  | [d1, d2] => { results := [.lit (.bool true)], args := [d1, d2] }
  | _ => none }
def fnExactEncodeRow : OpenClaim := { program := "ytainhhfnnclfiaagreat", sum := "747810ba3f903e1c8c90b4bd9f2fd156fa01100d27620693b180c5ab08a9be01", func := "loop.example/g01613/laws.FnExactEncode", spec := "fnExactEncode", unfollowed := true, recurses := true, apart := false }
def FnExactEncodeSaid : Prop := fnExactEncodeRow.holds Tryz.pinned (OpenSpec.ofChange fnExactEncodeSpec)

/-- ITS FALSE NEIGHBOUR: 'it returns false'. Refute it at one input. -/
def fnExactEncodeWrong : ChangeSpec := { name := "fnExactEncode", fn := fun _ => fun
  | [d1, d2] => { results := [.lit (.bool false)], args := [d1, d2] }
  | _ => none }
def FnExactEncodeWrongFalsely : Prop := fnExactEncodeRow.holds Tryz.pinned (OpenSpec.ofChange fnExactEncodeWrong)

/-- 'laws.FnBest': WHATEVER THE INPUT: true; the input reads as it did. -/
def fnBestSpec : ChangeSpec := { name := "fnBest", fn := fun _ => fun
  | [d] => { results := [.lit (.bool true)], args := [d] }
  | _ => none }
def fnBestRow : OpenClaim := { program := "ytainhhfnnclfiaagreat", sum := "747810ba3f903e1c8c90b4bd9f2fd156fa01100d27620693b180c5ab08a9be01", func := "loop.example/g01613/laws.FnBest", spec := "fnBest", unfollowed := true, recurses := true, apart := false }
def FnBestSaid : Prop := fnBestRow.holds Tryz.pinned (OpenSpec.ofChange fnBestSpec)

/-- ITS FALSE NEIGHBOUR: 'it returns false'. Refute it at one input. -/
def fnBestWrong : ChangeSpec := { name := "fnBest", fn := fun _ => fun
  | [d] => { results := [.lit (.bool false)], args := [d] }
  | _ => none }
def FnBestWrongFalsely : Prop := fnBestRow.holds Tryz.pinned (OpenSpec.ofChange fnBestWrong)

/-- 'laws.FnExactBestModes': WHATEVER THE INPUT: true; the input reads as it did. -/
def fnExactBestModesSpec : ChangeSpec := { name := "fnExactBestModes", fn := fun _ => fun
  | [d1, d2] => { results := [.lit (.bool true)], args := [d1, d2] }
  | _ => none }
def fnExactBestModesRow : OpenClaim := { program := "ytainhhfnnclfiaagreat", sum := "747810ba3f903e1c8c90b4bd9f2fd156fa01100d27620693b180c5ab08a9be01", func := "loop.example/g01613/laws.FnExactBestModes", spec := "fnExactBestModes", unfollowed := true, recurses := true, apart := false }
def FnExactBestModesSaid : Prop := fnExactBestModesRow.holds Tryz.pinned (OpenSpec.ofChange fnExactBestModesSpec)

/-- ITS FALSE NEIGHBOUR: 'it returns false'. Refute it at one input. -/
def fnExactBestModesWrong : ChangeSpec := { name := "fnExactBestModes", fn := fun _ => fun
  | [d1, d2] => { results := [.lit (.bool false)], args := [d1, d2] }
  | _ => none }
def FnExactBestModesWrongFalsely : Prop := fnExactBestModesRow.holds Tryz.pinned (OpenSpec.ofChange fnExactBestModesWrong)

/- THE SECOND FORM. 'bulk': how many values and letters a reading holds, each counted each time it is reached (what is shared counts as often as it is met; a slice's spare places count too). A statement '..UptoSaid' is the law's where the arguments, and the package variables that the reading takes, are together of bulk at most 1048576: NARROWER than '..Said'. Prove '..Said' where nothing that the law and all that it calls make is longer than what came in: it says more and counts as full. Else prove '..UptoSaid'. A law counts once. -/
mutual
def uptoBulk {H : Type} : DataW H → Nat
  | .lit (.string bytes) => bytes.length + 1
  | .lit _ => 1
  | .nil => 1
  | .ptr d => uptoBulk d + 1
  | .slice elems spare => uptoBulkAll elems + uptoBulkAll spare + 1
  | .agg parts => uptoBulkAll parts + 1
  | .iface _ d => uptoBulk d + 1
  | .map entries => uptoBulkEntries entries + 1
  | .held _ => 1
def uptoBulkAll {H : Type} : List (DataW H) → Nat
  | [] => 0
  | d :: r => uptoBulk d + uptoBulkAll r
def uptoBulkEntries {H : Type} : List (Lit × DataW H) → Nat
  | [] => 0
  | x :: r => uptoBulkEntry x + uptoBulkEntries r
def uptoBulkEntry {H : Type} : Lit × DataW H → Nat
  | (.string bytes, d) => bytes.length + uptoBulk d + 1
  | (_, d) => uptoBulk d + 1
 end
def uptoSmall : (H : Type) → List (DataW H) → Bool := fun _ ds => decide (uptoBulkAll ds ≤ 1048576)
def OpenSpec.upto (s : _root_.Go.ChangeSpec) : _root_.Go.OpenSpec := { _root_.Go.OpenSpec.ofChange s with cond := some uptoSmall }

/-- 'laws.FnReels', WHERE WHAT IT READS IS OF BULK AT MOST 1048576: true; the input reads as it did. -/
def fnReelsUptoRow : OpenClaim := { program := "ytainhhfnnclfiaagreat", sum := "747810ba3f903e1c8c90b4bd9f2fd156fa01100d27620693b180c5ab08a9be01", func := "loop.example/g01613/laws.FnReels", spec := "fnReels", unfollowed := true, recurses := true, apart := false, narrowed := true }
def FnReelsUptoSaid : Prop := fnReelsUptoRow.holds Tryz.pinned (OpenSpec.upto fnReelsSpec)

/-- 'laws.FnEncoded', WHERE WHAT IT READS IS OF BULK AT MOST 1048576: true; the input reads as it did. -/
def fnEncodedUptoRow : OpenClaim := { program := "ytainhhfnnclfiaagreat", sum := "747810ba3f903e1c8c90b4bd9f2fd156fa01100d27620693b180c5ab08a9be01", func := "loop.example/g01613/laws.FnEncoded", spec := "fnEncoded", unfollowed := true, recurses := true, apart := false, narrowed := true }
def FnEncodedUptoSaid : Prop := fnEncodedUptoRow.holds Tryz.pinned (OpenSpec.upto fnEncodedSpec)

/-- 'laws.FnLossless', WHERE WHAT IT READS IS OF BULK AT MOST 1048576: true; the input reads as it did. -/
def fnLosslessUptoRow : OpenClaim := { program := "ytainhhfnnclfiaagreat", sum := "747810ba3f903e1c8c90b4bd9f2fd156fa01100d27620693b180c5ab08a9be01", func := "loop.example/g01613/laws.FnLossless", spec := "fnLossless", unfollowed := true, recurses := true, apart := false, narrowed := true }
def FnLosslessUptoSaid : Prop := fnLosslessUptoRow.holds Tryz.pinned (OpenSpec.upto fnLosslessSpec)

/-- 'laws.FnExactEncodeStream', WHERE WHAT IT READS IS OF BULK AT MOST 1048576: true; the input reads as it did. -/
def fnExactEncodeStreamUptoRow : OpenClaim := { program := "ytainhhfnnclfiaagreat", sum := "747810ba3f903e1c8c90b4bd9f2fd156fa01100d27620693b180c5ab08a9be01", func := "loop.example/g01613/laws.FnExactEncodeStream", spec := "fnExactEncodeStream", unfollowed := true, recurses := true, apart := false, narrowed := true }
def FnExactEncodeStreamUptoSaid : Prop := fnExactEncodeStreamUptoRow.holds Tryz.pinned (OpenSpec.upto fnExactEncodeStreamSpec)

/-- 'laws.FnExactEncode', WHERE WHAT IT READS IS OF BULK AT MOST 1048576: true; the input reads as it did. -/
def fnExactEncodeUptoRow : OpenClaim := { program := "ytainhhfnnclfiaagreat", sum := "747810ba3f903e1c8c90b4bd9f2fd156fa01100d27620693b180c5ab08a9be01", func := "loop.example/g01613/laws.FnExactEncode", spec := "fnExactEncode", unfollowed := true, recurses := true, apart := false, narrowed := true }
def FnExactEncodeUptoSaid : Prop := fnExactEncodeUptoRow.holds Tryz.pinned (OpenSpec.upto fnExactEncodeSpec)

/-- 'laws.FnBest', WHERE WHAT IT READS IS OF BULK AT MOST 1048576: true; the input reads as it did. -/
def fnBestUptoRow : OpenClaim := { program := "ytainhhfnnclfiaagreat", sum := "747810ba3f903e1c8c90b4bd9f2fd156fa01100d27620693b180c5ab08a9be01", func := "loop.example/g01613/laws.FnBest", spec := "fnBest", unfollowed := true, recurses := true, apart := false, narrowed := true }
def FnBestUptoSaid : Prop := fnBestUptoRow.holds Tryz.pinned (OpenSpec.upto fnBestSpec)

/-- 'laws.FnExactBestModes', WHERE WHAT IT READS IS OF BULK AT MOST 1048576: true; the input reads as it did. -/
def fnExactBestModesUptoRow : OpenClaim := { program := "ytainhhfnnclfiaagreat", sum := "747810ba3f903e1c8c90b4bd9f2fd156fa01100d27620693b180c5ab08a9be01", func := "loop.example/g01613/laws.FnExactBestModes", spec := "fnExactBestModes", unfollowed := true, recurses := true, apart := false, narrowed := true }
def FnExactBestModesUptoSaid : Prop := fnExactBestModesUptoRow.holds Tryz.pinned (OpenSpec.upto fnExactBestModesSpec)

end Rows
end Go.Proofs.YtainhhfnnclfiaaGreat
