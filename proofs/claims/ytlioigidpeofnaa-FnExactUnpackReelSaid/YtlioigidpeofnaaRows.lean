/-
  No cell of these rows narrows 'for every input' (looked for: loops, veiled, ifaces, maps, wideKeys, modest, calm, conditions, laid).
  DERIVED. THE GIVEN ROWS OF THIS SEAT. 6 by the template 'for every input the law returns true; each argument reads behind the call as it read before'; 0 by the template 'total and deterministic' (their statements: YtlioigidpeofnaaTotals.lean).
  GIVEN WITH THE SEED: the statements are not yours to turn. If you find one false, say at which input.
  Laid BY PROGRAM, IN A SANDBOX (cutbox-rows.mjs): the forced cells as the released guide's own fill.sh prints them over the translation 182822945c964c5f… (all of the seat's roots in one cut). By AI agents, Wed Nov 11 2026. No macro, syntax, notation, axiom, sorry.
-/
import Derived.Test.YtlioigidpeofnaaChecked
import GoSem.Claim
import GoSem.ClaimJoined
import GoSem.ClaimMapViews
import Derived.JoinedTies
import Derived.KernelRfl
namespace Go.Proofs.Ytlioigidpeofnaa
/- THE CELL 'sum', in the pinned program and in every row, IS THE sha256 OF THE DUMP (.gsa) THAT YtlioigidpeofnaaProg.lean LOADS. Nothing in Lean hashes anything: it is a label: what it is worth is what the hold of that sum in a sandbox is worth. -/
noncomputable def Try.pinned : Pinned := { name := "ytlioigidpeofnaa", sum := "182822945c964c5f0916353ab6b59e9d90c02f04fca2f065dc0310937633ae5c", checked := Try.checked }
namespace Rows
def none {H : Type} : Left H := { results := [], args := [] }

/-- 'laws.FnExactCutTo': WHATEVER THE INPUT: true; the input reads as it did. -/
def fnExactCutToSpec : ChangeSpec := { name := "fnExactCutTo", fn := fun _ => fun
  | [d1, d2] => { results := [.lit (.bool true)], args := [d1, d2] }
  | _ => none }
def fnExactCutToRow : OpenClaim := { program := "ytlioigidpeofnaa", sum := "182822945c964c5f0916353ab6b59e9d90c02f04fca2f065dc0310937633ae5c", func := "loop.example/g01613/laws.FnExactCutTo", spec := "fnExactCutTo", apart := false }
def FnExactCutToSaid : Prop := fnExactCutToRow.holds Try.pinned (OpenSpec.ofChange fnExactCutToSpec)

/-- ITS FALSE NEIGHBOUR: 'it returns false'. Refute it at one input. -/
def fnExactCutToWrong : ChangeSpec := { name := "fnExactCutTo", fn := fun _ => fun
  | [d1, d2] => { results := [.lit (.bool false)], args := [d1, d2] }
  | _ => none }
def FnExactCutToWrongFalsely : Prop := fnExactCutToRow.holds Try.pinned (OpenSpec.ofChange fnExactCutToWrong)

/-- 'laws.FnExactFlipBit': WHATEVER THE INPUT: true; the input reads as it did. -/
def fnExactFlipBitSpec : ChangeSpec := { name := "fnExactFlipBit", fn := fun _ => fun
  | [d1, d2] => { results := [.lit (.bool true)], args := [d1, d2] }
  | _ => none }
def fnExactFlipBitRow : OpenClaim := { program := "ytlioigidpeofnaa", sum := "182822945c964c5f0916353ab6b59e9d90c02f04fca2f065dc0310937633ae5c", func := "loop.example/g01613/laws.FnExactFlipBit", spec := "fnExactFlipBit", apart := false }
def FnExactFlipBitSaid : Prop := fnExactFlipBitRow.holds Try.pinned (OpenSpec.ofChange fnExactFlipBitSpec)

/-- ITS FALSE NEIGHBOUR: 'it returns false'. Refute it at one input. -/
def fnExactFlipBitWrong : ChangeSpec := { name := "fnExactFlipBit", fn := fun _ => fun
  | [d1, d2] => { results := [.lit (.bool false)], args := [d1, d2] }
  | _ => none }
def FnExactFlipBitWrongFalsely : Prop := fnExactFlipBitRow.holds Try.pinned (OpenSpec.ofChange fnExactFlipBitWrong)

/-- 'laws.FnExactCostOf': WHATEVER THE INPUT: true; the input reads as it did. -/
def fnExactCostOfSpec : ChangeSpec := { name := "fnExactCostOf", fn := fun _ => fun
  | [d] => { results := [.lit (.bool true)], args := [d] }
  | _ => none }
def fnExactCostOfRow : OpenClaim := { program := "ytlioigidpeofnaa", sum := "182822945c964c5f0916353ab6b59e9d90c02f04fca2f065dc0310937633ae5c", func := "loop.example/g01613/laws.FnExactCostOf", spec := "fnExactCostOf", apart := false }
def FnExactCostOfSaid : Prop := fnExactCostOfRow.holds Try.pinned (OpenSpec.ofChange fnExactCostOfSpec)

/-- ITS FALSE NEIGHBOUR: 'it returns false'. Refute it at one input. -/
def fnExactCostOfWrong : ChangeSpec := { name := "fnExactCostOf", fn := fun _ => fun
  | [d] => { results := [.lit (.bool false)], args := [d] }
  | _ => none }
def FnExactCostOfWrongFalsely : Prop := fnExactCostOfRow.holds Try.pinned (OpenSpec.ofChange fnExactCostOfWrong)

/-- 'laws.FnExactPackReel': WHATEVER THE INPUT: true; the input reads as it did. -/
def fnExactPackReelSpec : ChangeSpec := { name := "fnExactPackReel", fn := fun _ => fun
  | [d] => { results := [.lit (.bool true)], args := [d] }
  | _ => none }
def fnExactPackReelRow : OpenClaim := { program := "ytlioigidpeofnaa", sum := "182822945c964c5f0916353ab6b59e9d90c02f04fca2f065dc0310937633ae5c", func := "loop.example/g01613/laws.FnExactPackReel", spec := "fnExactPackReel", apart := false }
def FnExactPackReelSaid : Prop := fnExactPackReelRow.holds Try.pinned (OpenSpec.ofChange fnExactPackReelSpec)

/-- ITS FALSE NEIGHBOUR: 'it returns false'. Refute it at one input. -/
def fnExactPackReelWrong : ChangeSpec := { name := "fnExactPackReel", fn := fun _ => fun
  | [d] => { results := [.lit (.bool false)], args := [d] }
  | _ => none }
def FnExactPackReelWrongFalsely : Prop := fnExactPackReelRow.holds Try.pinned (OpenSpec.ofChange fnExactPackReelWrong)

/-- 'laws.FnExactSse': WHATEVER THE INPUT: true; the input reads as it did. -/
def fnExactSseSpec : ChangeSpec := { name := "fnExactSse", fn := fun _ => fun
  | [d1, d2] => { results := [.lit (.bool true)], args := [d1, d2] }
  | _ => none }
def fnExactSseRow : OpenClaim := { program := "ytlioigidpeofnaa", sum := "182822945c964c5f0916353ab6b59e9d90c02f04fca2f065dc0310937633ae5c", func := "loop.example/g01613/laws.FnExactSse", spec := "fnExactSse", apart := false }
def FnExactSseSaid : Prop := fnExactSseRow.holds Try.pinned (OpenSpec.ofChange fnExactSseSpec)

/-- ITS FALSE NEIGHBOUR: 'it returns false'. Refute it at one input. -/
def fnExactSseWrong : ChangeSpec := { name := "fnExactSse", fn := fun _ => fun
  | [d1, d2] => { results := [.lit (.bool false)], args := [d1, d2] }
  | _ => none }
def FnExactSseWrongFalsely : Prop := fnExactSseRow.holds Try.pinned (OpenSpec.ofChange fnExactSseWrong)

/-- 'laws.FnExactUnpackReel': WHATEVER THE INPUT: true; the input reads as it did. -/
def fnExactUnpackReelSpec : ChangeSpec := { name := "fnExactUnpackReel", fn := fun _ => fun
  | [d] => { results := [.lit (.bool true)], args := [d] }
  | _ => none }
def fnExactUnpackReelRow : OpenClaim := { program := "ytlioigidpeofnaa", sum := "182822945c964c5f0916353ab6b59e9d90c02f04fca2f065dc0310937633ae5c", func := "loop.example/g01613/laws.FnExactUnpackReel", spec := "fnExactUnpackReel", apart := false }
def FnExactUnpackReelSaid : Prop := fnExactUnpackReelRow.holds Try.pinned (OpenSpec.ofChange fnExactUnpackReelSpec)

/-- ITS FALSE NEIGHBOUR: 'it returns false'. Refute it at one input. -/
def fnExactUnpackReelWrong : ChangeSpec := { name := "fnExactUnpackReel", fn := fun _ => fun
  | [d] => { results := [.lit (.bool false)], args := [d] }
  | _ => none }
def FnExactUnpackReelWrongFalsely : Prop := fnExactUnpackReelRow.holds Try.pinned (OpenSpec.ofChange fnExactUnpackReelWrong)

/- THE SECOND FORM. 'bulk': how many values and letters a reading holds, each counted each time it is reached (what is shared counts as often as it is met; a slice's spare places count too). A statement '..UptoSaid' is the law's where the arguments, and the package variables that the reading takes, are together of bulk at most 1048576: NARROWER than '..Said'. Prove '..Said' where nothing that the law and all that it calls make is longer than what came in: it says more and counts as full. Else prove '..UptoSaid'. A law counts once. -/
mutual
def uptoBulk {H : Type} : DataW H → Nat
  | .lit (.string bytes) => bytes.length + 1
  | .lit _ => 1
  | .nil => 1
  | .ptr d => uptoBulk d + 1
  | .slice elems spare => uptoBulkAll elems + uptoBulkAll spare + 1
  | .agg parts => uptoBulkAll parts + 1
  | .iface _ d => uptoBulk d + 1
  | .map entries => uptoBulkEntries entries + 1
  | .held _ => 1
def uptoBulkAll {H : Type} : List (DataW H) → Nat
  | [] => 0
  | d :: r => uptoBulk d + uptoBulkAll r
def uptoBulkEntries {H : Type} : List (Lit × DataW H) → Nat
  | [] => 0
  | x :: r => uptoBulkEntry x + uptoBulkEntries r
def uptoBulkEntry {H : Type} : Lit × DataW H → Nat
  | (.string bytes, d) => bytes.length + uptoBulk d + 1
  | (_, d) => uptoBulk d + 1
 end
def uptoSmall : (H : Type) → List (DataW H) → Bool := fun _ ds => decide (uptoBulkAll ds ≤ 1048576)
def OpenSpec.upto (s : _root_.Go.ChangeSpec) : _root_.Go.OpenSpec := { _root_.Go.OpenSpec.ofChange s with cond := some uptoSmall }

/-- 'laws.FnExactCutTo', WHERE WHAT IT READS IS OF BULK AT MOST 1048576: true; the input reads as it did. -/
def fnExactCutToUptoRow : OpenClaim := { program := "ytlioigidpeofnaa", sum := "182822945c964c5f0916353ab6b59e9d90c02f04fca2f065dc0310937633ae5c", func := "loop.example/g01613/laws.FnExactCutTo", spec := "fnExactCutTo", apart := false, narrowed := true }
def FnExactCutToUptoSaid : Prop := fnExactCutToUptoRow.holds Try.pinned (OpenSpec.upto fnExactCutToSpec)

/-- 'laws.FnExactFlipBit', WHERE WHAT IT READS IS OF BULK AT MOST 1048576: true; the input reads as it did. -/
def fnExactFlipBitUptoRow : OpenClaim := { program := "ytlioigidpeofnaa", sum := "182822945c964c5f0916353ab6b59e9d90c02f04fca2f065dc0310937633ae5c", func := "loop.example/g01613/laws.FnExactFlipBit", spec := "fnExactFlipBit", apart := false, narrowed := true }
def FnExactFlipBitUptoSaid : Prop := fnExactFlipBitUptoRow.holds Try.pinned (OpenSpec.upto fnExactFlipBitSpec)

/-- 'laws.FnExactCostOf', WHERE WHAT IT READS IS OF BULK AT MOST 1048576: true; the input reads as it did. -/
def fnExactCostOfUptoRow : OpenClaim := { program := "ytlioigidpeofnaa", sum := "182822945c964c5f0916353ab6b59e9d90c02f04fca2f065dc0310937633ae5c", func := "loop.example/g01613/laws.FnExactCostOf", spec := "fnExactCostOf", apart := false, narrowed := true }
def FnExactCostOfUptoSaid : Prop := fnExactCostOfUptoRow.holds Try.pinned (OpenSpec.upto fnExactCostOfSpec)

/-- 'laws.FnExactPackReel', WHERE WHAT IT READS IS OF BULK AT MOST 1048576: true; the input reads as it did. -/
def fnExactPackReelUptoRow : OpenClaim := { program := "ytlioigidpeofnaa", sum := "182822945c964c5f0916353ab6b59e9d90c02f04fca2f065dc0310937633ae5c", func := "loop.example/g01613/laws.FnExactPackReel", spec := "fnExactPackReel", apart := false, narrowed := true }
def FnExactPackReelUptoSaid : Prop := fnExactPackReelUptoRow.holds Try.pinned (OpenSpec.upto fnExactPackReelSpec)

/-- 'laws.FnExactSse', WHERE WHAT IT READS IS OF BULK AT MOST 1048576: true; the input reads as it did. -/
def fnExactSseUptoRow : OpenClaim := { program := "ytlioigidpeofnaa", sum := "182822945c964c5f0916353ab6b59e9d90c02f04fca2f065dc0310937633ae5c", func := "loop.example/g01613/laws.FnExactSse", spec := "fnExactSse", apart := false, narrowed := true }
def FnExactSseUptoSaid : Prop := fnExactSseUptoRow.holds Try.pinned (OpenSpec.upto fnExactSseSpec)

/-- 'laws.FnExactUnpackReel', WHERE WHAT IT READS IS OF BULK AT MOST 1048576: true; the input reads as it did. -/
def fnExactUnpackReelUptoRow : OpenClaim := { program := "ytlioigidpeofnaa", sum := "182822945c964c5f0916353ab6b59e9d90c02f04fca2f065dc0310937633ae5c", func := "loop.example/g01613/laws.FnExactUnpackReel", spec := "fnExactUnpackReel", apart := false, narrowed := true }
def FnExactUnpackReelUptoSaid : Prop := fnExactUnpackReelUptoRow.holds Try.pinned (OpenSpec.upto fnExactUnpackReelSpec)

end Rows
end Go.Proofs.Ytlioigidpeofnaa
