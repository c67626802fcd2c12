/-
  No cell of these rows narrows 'for every input' (looked for: loops, veiled, ifaces, maps, wideKeys, modest, calm, conditions, laid).
  DERIVED. THE GIVEN ROWS OF THIS SEAT. 8 by the template 'for every input the law returns true; each argument reads behind the call as it read before'; 0 by the template 'total and deterministic' (their statements: YtndflfipaddfoaaGreatTotals.lean).
  GIVEN WITH THE SEED: the statements are not yours to turn. If you find one false, say at which input.
  Laid BY PROGRAM, IN A SANDBOX (cutbox-rows.mjs): the forced cells as the released guide's own fill.sh prints them over the translation 374e0ab9a893b7d7… (all of the seat's roots in one cut). By AI agents, Wed Nov 11 2026. No macro, syntax, notation, axiom, sorry.
-/
import Derived.Test.YtndflfipaddfoaaGreatChecked
import GoSem.Claim
import GoSem.ClaimJoined
import GoSem.ClaimMapViews
import Derived.JoinedTies
import Derived.KernelRfl
namespace Go.Proofs.YtndflfipaddfoaaGreat
/- THE CELL 'sum', in the pinned program and in every row, IS THE sha256 OF THE DUMP (.gsa) THAT YtndflfipaddfoaaGreatProg.lean LOADS. Nothing in Lean hashes anything: it is a label: what it is worth is what the hold of that sum in a sandbox is worth. -/
noncomputable def Tryz.pinned : Pinned := { name := "ytndflfipaddfoaagreat", sum := "374e0ab9a893b7d7c86eddc82e1d8ef59d9ad9dd5b906832e4be03f92b29fb5f", checked := Tryz.checked }
namespace Rows
def none {H : Type} : Left H := { results := [], args := [] }

/-- 'laws.FnExactFastDecode': WHATEVER THE INPUT: true; the input reads as it did. -/
def fnExactFastDecodeSpec : ChangeSpec := { name := "fnExactFastDecode", fn := fun _ => fun
  | [d] => { results := [.lit (.bool true)], args := [d] }
  | _ => none }
def fnExactFastDecodeRow : OpenClaim := { program := "ytndflfipaddfoaagreat", sum := "374e0ab9a893b7d7c86eddc82e1d8ef59d9ad9dd5b906832e4be03f92b29fb5f", func := "loop.example/g01613/laws.FnExactFastDecode", spec := "fnExactFastDecode", unfollowed := true, recurses := true, apart := false }
def FnExactFastDecodeSaid : Prop := fnExactFastDecodeRow.holds Tryz.pinned (OpenSpec.ofChange fnExactFastDecodeSpec)

/-- ITS FALSE NEIGHBOUR: 'it returns false'. Refute it at one input. -/
def fnExactFastDecodeWrong : ChangeSpec := { name := "fnExactFastDecode", fn := fun _ => fun
  | [d] => { results := [.lit (.bool false)], args := [d] }
  | _ => none }
def FnExactFastDecodeWrongFalsely : Prop := fnExactFastDecodeRow.holds Tryz.pinned (OpenSpec.ofChange fnExactFastDecodeWrong)

/-- 'laws.FnExactPlayReel': WHATEVER THE INPUT: true; the input reads as it did. -/
def fnExactPlayReelSpec : ChangeSpec := { name := "fnExactPlayReel", fn := fun _ => fun
  | [d] => { results := [.lit (.bool true)], args := [d] }
  | _ => none }
def fnExactPlayReelRow : OpenClaim := { program := "ytndflfipaddfoaagreat", sum := "374e0ab9a893b7d7c86eddc82e1d8ef59d9ad9dd5b906832e4be03f92b29fb5f", func := "loop.example/g01613/laws.FnExactPlayReel", spec := "fnExactPlayReel", unfollowed := true, recurses := true, apart := false }
def FnExactPlayReelSaid : Prop := fnExactPlayReelRow.holds Tryz.pinned (OpenSpec.ofChange fnExactPlayReelSpec)

/-- ITS FALSE NEIGHBOUR: 'it returns false'. Refute it at one input. -/
def fnExactPlayReelWrong : ChangeSpec := { name := "fnExactPlayReel", fn := fun _ => fun
  | [d] => { results := [.lit (.bool false)], args := [d] }
  | _ => none }
def FnExactPlayReelWrongFalsely : Prop := fnExactPlayReelRow.holds Tryz.pinned (OpenSpec.ofChange fnExactPlayReelWrong)

/-- 'laws.FnBuilt': WHATEVER THE INPUT: true; the input reads as it did. -/
def fnBuiltSpec : ChangeSpec := { name := "fnBuilt", fn := fun _ => fun
  | [d] => { results := [.lit (.bool true)], args := [d] }
  | _ => none }
def fnBuiltRow : OpenClaim := { program := "ytndflfipaddfoaagreat", sum := "374e0ab9a893b7d7c86eddc82e1d8ef59d9ad9dd5b906832e4be03f92b29fb5f", func := "loop.example/g01613/laws.FnBuilt", spec := "fnBuilt", unfollowed := true, recurses := true, apart := false }
def FnBuiltSaid : Prop := fnBuiltRow.holds Tryz.pinned (OpenSpec.ofChange fnBuiltSpec)

/-- ITS FALSE NEIGHBOUR: 'it returns false'. Refute it at one input. -/
def fnBuiltWrong : ChangeSpec := { name := "fnBuilt", fn := fun _ => fun
  | [d] => { results := [.lit (.bool false)], args := [d] }
  | _ => none }
def FnBuiltWrongFalsely : Prop := fnBuiltRow.holds Tryz.pinned (OpenSpec.ofChange fnBuiltWrong)

/-- 'laws.FnTop': WHATEVER THE INPUT: true; the input reads as it did. -/
def fnTopSpec : ChangeSpec := { name := "fnTop", fn := fun _ => fun
  | [d] => { results := [.lit (.bool true)], args := [d] }
  | _ => none }
def fnTopRow : OpenClaim := { program := "ytndflfipaddfoaagreat", sum := "374e0ab9a893b7d7c86eddc82e1d8ef59d9ad9dd5b906832e4be03f92b29fb5f", func := "loop.example/g01613/laws.FnTop", spec := "fnTop", unfollowed := true, recurses := true, apart := false }
def FnTopSaid : Prop := fnTopRow.holds Tryz.pinned (OpenSpec.ofChange fnTopSpec)

/-- ITS FALSE NEIGHBOUR: 'it returns false'. Refute it at one input. -/
def fnTopWrong : ChangeSpec := { name := "fnTop", fn := fun _ => fun
  | [d] => { results := [.lit (.bool false)], args := [d] }
  | _ => none }
def FnTopWrongFalsely : Prop := fnTopRow.holds Tryz.pinned (OpenSpec.ofChange fnTopWrong)

/-- 'laws.FnFlipped': WHATEVER THE INPUT: true; the input reads as it did. -/
def fnFlippedSpec : ChangeSpec := { name := "fnFlipped", fn := fun _ => fun
  | [d] => { results := [.lit (.bool true)], args := [d] }
  | _ => none }
def fnFlippedRow : OpenClaim := { program := "ytndflfipaddfoaagreat", sum := "374e0ab9a893b7d7c86eddc82e1d8ef59d9ad9dd5b906832e4be03f92b29fb5f", func := "loop.example/g01613/laws.FnFlipped", spec := "fnFlipped", unfollowed := true, recurses := true, apart := false }
def FnFlippedSaid : Prop := fnFlippedRow.holds Tryz.pinned (OpenSpec.ofChange fnFlippedSpec)

/-- ITS FALSE NEIGHBOUR: 'it returns false'. Refute it at one input. -/
def fnFlippedWrong : ChangeSpec := { name := "fnFlipped", fn := fun _ => fun
  | [d] => { results := [.lit (.bool false)], args := [d] }
  | _ => none }
def FnFlippedWrongFalsely : Prop := fnFlippedRow.holds Tryz.pinned (OpenSpec.ofChange fnFlippedWrong)

/-- 'laws.FnCut': WHATEVER THE INPUT: true; the input reads as it did. -/
def fnCutSpec : ChangeSpec := { name := "fnCut", fn := fun _ => fun
  | [d] => { results := [.lit (.bool true)], args := [d] }
  | _ => none }
def fnCutRow : OpenClaim := { program := "ytndflfipaddfoaagreat", sum := "374e0ab9a893b7d7c86eddc82e1d8ef59d9ad9dd5b906832e4be03f92b29fb5f", func := "loop.example/g01613/laws.FnCut", spec := "fnCut", unfollowed := true, recurses := true, apart := false }
def FnCutSaid : Prop := fnCutRow.holds Tryz.pinned (OpenSpec.ofChange fnCutSpec)

/-- ITS FALSE NEIGHBOUR: 'it returns false'. Refute it at one input. -/
def fnCutWrong : ChangeSpec := { name := "fnCut", fn := fun _ => fun
  | [d] => { results := [.lit (.bool false)], args := [d] }
  | _ => none }
def FnCutWrongFalsely : Prop := fnCutRow.holds Tryz.pinned (OpenSpec.ofChange fnCutWrong)

/-- 'laws.FnStreams': WHATEVER THE INPUT: true; the input reads as it did. -/
def fnStreamsSpec : ChangeSpec := { name := "fnStreams", fn := fun _ => fun
  | [d] => { results := [.lit (.bool true)], args := [d] }
  | _ => none }
def fnStreamsRow : OpenClaim := { program := "ytndflfipaddfoaagreat", sum := "374e0ab9a893b7d7c86eddc82e1d8ef59d9ad9dd5b906832e4be03f92b29fb5f", func := "loop.example/g01613/laws.FnStreams", spec := "fnStreams", unfollowed := true, recurses := true, apart := false }
def FnStreamsSaid : Prop := fnStreamsRow.holds Tryz.pinned (OpenSpec.ofChange fnStreamsSpec)

/-- ITS FALSE NEIGHBOUR: 'it returns false'. Refute it at one input. -/
def fnStreamsWrong : ChangeSpec := { name := "fnStreams", fn := fun _ => fun
  | [d] => { results := [.lit (.bool false)], args := [d] }
  | _ => none }
def FnStreamsWrongFalsely : Prop := fnStreamsRow.holds Tryz.pinned (OpenSpec.ofChange fnStreamsWrong)

/-- 'laws.FnWrongBlocks': WHATEVER THE INPUT: true; the input reads as it did. -/
def fnWrongBlocksSpec : ChangeSpec := { name := "fnWrongBlocks", fn := fun _ => fun
  | [d] => { results := [.lit (.bool true)], args := [d] }
  | _ => none }
def fnWrongBlocksRow : OpenClaim := { program := "ytndflfipaddfoaagreat", sum := "374e0ab9a893b7d7c86eddc82e1d8ef59d9ad9dd5b906832e4be03f92b29fb5f", func := "loop.example/g01613/laws.FnWrongBlocks", spec := "fnWrongBlocks", unfollowed := true, recurses := true, apart := false }
def FnWrongBlocksSaid : Prop := fnWrongBlocksRow.holds Tryz.pinned (OpenSpec.ofChange fnWrongBlocksSpec)

/-- ITS FALSE NEIGHBOUR: 'it returns false'. Refute it at one input. -/
def fnWrongBlocksWrong : ChangeSpec := { name := "fnWrongBlocks", fn := fun _ => fun
  | [d] => { results := [.lit (.bool false)], args := [d] }
  | _ => none }
def FnWrongBlocksWrongFalsely : Prop := fnWrongBlocksRow.holds Tryz.pinned (OpenSpec.ofChange fnWrongBlocksWrong)

/- THE SECOND FORM. 'bulk': how many values and letters a reading holds, each counted each time it is reached (what is shared counts as often as it is met; a slice's spare places count too). A statement '..UptoSaid' is the law's where the arguments, and the package variables that the reading takes, are together of bulk at most 1048576: NARROWER than '..Said'. Prove '..Said' where nothing that the law and all that it calls make is longer than what came in: it says more and counts as full. Else prove '..UptoSaid'. A law counts once. -/
mutual
def uptoBulk {H : Type} : DataW H → Nat
  | .lit (.string bytes) => bytes.length + 1
  | .lit _ => 1
  | .nil => 1
  | .ptr d => uptoBulk d + 1
  | .slice elems spare => uptoBulkAll elems + uptoBulkAll spare + 1
  | .agg parts => uptoBulkAll parts + 1
  | .iface _ d => uptoBulk d + 1
  | .map entries => uptoBulkEntries entries + 1
  | .held _ => 1
def uptoBulkAll {H : Type} : List (DataW H) → Nat
  | [] => 0
  | d :: r => uptoBulk d + uptoBulkAll r
def uptoBulkEntries {H : Type} : List (Lit × DataW H) → Nat
  | [] => 0
  | x :: r => uptoBulkEntry x + uptoBulkEntries r
def uptoBulkEntry {H : Type} : Lit × DataW H → Nat
  | (.string bytes, d) => bytes.length + uptoBulk d + 1
  | (_, d) => uptoBulk d + 1
 end
def uptoSmall : (H : Type) → List (DataW H) → Bool := fun _ ds => decide (uptoBulkAll ds ≤ 1048576)
def OpenSpec.upto (s : _root_.Go.ChangeSpec) : _root_.Go.OpenSpec := { _root_.Go.OpenSpec.ofChange s with cond := some uptoSmall }

/-- 'laws.FnExactFastDecode', WHERE WHAT IT READS IS OF BULK AT MOST 1048576: true; the input reads as it did. -/
def fnExactFastDecodeUptoRow : OpenClaim := { program := "ytndflfipaddfoaagreat", sum := "374e0ab9a893b7d7c86eddc82e1d8ef59d9ad9dd5b906832e4be03f92b29fb5f", func := "loop.example/g01613/laws.FnExactFastDecode", spec := "fnExactFastDecode", unfollowed := true, recurses := true, apart := false, narrowed := true }
def FnExactFastDecodeUptoSaid : Prop := fnExactFastDecodeUptoRow.holds Tryz.pinned (OpenSpec.upto fnExactFastDecodeSpec)

/-- 'laws.FnExactPlayReel', WHERE WHAT IT READS IS OF BULK AT MOST 1048576: true; the input reads as it did. -/
def fnExactPlayReelUptoRow : OpenClaim := { program := "ytndflfipaddfoaagreat", sum := "374e0ab9a893b7d7c86eddc82e1d8ef59d9ad9dd5b906832e4be03f92b29fb5f", func := "loop.example/g01613/laws.FnExactPlayReel", spec := "fnExactPlayReel", unfollowed := true, recurses := true, apart := false, narrowed := true }
def FnExactPlayReelUptoSaid : Prop := fnExactPlayReelUptoRow.holds Tryz.pinned (OpenSpec.upto fnExactPlayReelSpec)

/-- 'laws.FnBuilt', WHERE WHAT IT READS IS OF BULK AT MOST 1048576: true; the input reads as it did. -/
def fnBuiltUptoRow : OpenClaim := { program := "ytndflfipaddfoaagreat", sum := "374e0ab9a893b7d7c86eddc82e1d8ef59d9ad9dd5b906832e4be03f92b29fb5f", func := "loop.example/g01613/laws.FnBuilt", spec := "fnBuilt", unfollowed := true, recurses := true, apart := false, narrowed := true }
def FnBuiltUptoSaid : Prop := fnBuiltUptoRow.holds Tryz.pinned (OpenSpec.upto fnBuiltSpec)

/-- 'laws.FnTop', WHERE WHAT IT READS IS OF BULK AT MOST 1048576: true; the input reads as it did. -/
def fnTopUptoRow : OpenClaim := { program := "ytndflfipaddfoaagreat", sum := "374e0ab9a893b7d7c86eddc82e1d8ef59d9ad9dd5b906832e4be03f92b29fb5f", func := "loop.example/g01613/laws.FnTop", spec := "fnTop", unfollowed := true, recurses := true, apart := false, narrowed := true }
def FnTopUptoSaid : Prop := fnTopUptoRow.holds Tryz.pinned (OpenSpec.upto fnTopSpec)

/-- 'laws.FnFlipped', WHERE WHAT IT READS IS OF BULK AT MOST 1048576: true; the input reads as it did. -/
def fnFlippedUptoRow : OpenClaim := { program := "ytndflfipaddfoaagreat", sum := "374e0ab9a893b7d7c86eddc82e1d8ef59d9ad9dd5b906832e4be03f92b29fb5f", func := "loop.example/g01613/laws.FnFlipped", spec := "fnFlipped", unfollowed := true, recurses := true, apart := false, narrowed := true }
def FnFlippedUptoSaid : Prop := fnFlippedUptoRow.holds Tryz.pinned (OpenSpec.upto fnFlippedSpec)

/-- 'laws.FnCut', WHERE WHAT IT READS IS OF BULK AT MOST 1048576: true; the input reads as it did. -/
def fnCutUptoRow : OpenClaim := { program := "ytndflfipaddfoaagreat", sum := "374e0ab9a893b7d7c86eddc82e1d8ef59d9ad9dd5b906832e4be03f92b29fb5f", func := "loop.example/g01613/laws.FnCut", spec := "fnCut", unfollowed := true, recurses := true, apart := false, narrowed := true }
def FnCutUptoSaid : Prop := fnCutUptoRow.holds Tryz.pinned (OpenSpec.upto fnCutSpec)

/-- 'laws.FnStreams', WHERE WHAT IT READS IS OF BULK AT MOST 1048576: true; the input reads as it did. -/
def fnStreamsUptoRow : OpenClaim := { program := "ytndflfipaddfoaagreat", sum := "374e0ab9a893b7d7c86eddc82e1d8ef59d9ad9dd5b906832e4be03f92b29fb5f", func := "loop.example/g01613/laws.FnStreams", spec := "fnStreams", unfollowed := true, recurses := true, apart := false, narrowed := true }
def FnStreamsUptoSaid : Prop := fnStreamsUptoRow.holds Tryz.pinned (OpenSpec.upto fnStreamsSpec)

/-- 'laws.FnWrongBlocks', WHERE WHAT IT READS IS OF BULK AT MOST 1048576: true; the input reads as it did. -/
def fnWrongBlocksUptoRow : OpenClaim := { program := "ytndflfipaddfoaagreat", sum := "374e0ab9a893b7d7c86eddc82e1d8ef59d9ad9dd5b906832e4be03f92b29fb5f", func := "loop.example/g01613/laws.FnWrongBlocks", spec := "fnWrongBlocks", unfollowed := true, recurses := true, apart := false, narrowed := true }
def FnWrongBlocksUptoSaid : Prop := fnWrongBlocksUptoRow.holds Tryz.pinned (OpenSpec.upto fnWrongBlocksSpec)

end Rows
end Go.Proofs.YtndflfipaddfoaaGreat
