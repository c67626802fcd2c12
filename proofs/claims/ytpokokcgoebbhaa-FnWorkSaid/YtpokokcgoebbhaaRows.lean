/-
  No cell of these rows narrows 'for every input' (looked for: loops, veiled, ifaces, maps, wideKeys, modest, calm, conditions, laid).
  DERIVED. THE GIVEN ROWS OF THIS SEAT. 2 by the template 'for every input the law returns true; each argument reads behind the call as it read before'; 0 by the template 'total and deterministic' (their statements: YtpokokcgoebbhaaTotals.lean).
  GIVEN WITH THE SEED: the statements are not yours to turn. If you find one false, say at which input.
  Laid BY PROGRAM, IN A SANDBOX (cutbox-rows.mjs): the forced cells as the released guide's own fill.sh prints them over the translation 7220cb685742149f… (all of the seat's roots in one cut). By AI agents, Wed Nov 11 2026. No macro, syntax, notation, axiom, sorry.
-/
import Derived.Test.YtpokokcgoebbhaaChecked
import GoSem.Claim
import GoSem.ClaimJoined
import GoSem.ClaimMapViews
import Derived.JoinedTies
import Derived.KernelRfl
namespace Go.Proofs.Ytpokokcgoebbhaa
/- THE CELL 'sum', in the pinned program and in every row, IS THE sha256 OF THE DUMP (.gsa) THAT YtpokokcgoebbhaaProg.lean LOADS. Nothing in Lean hashes anything: it is a label: what it is worth is what the hold of that sum in a sandbox is worth. -/
noncomputable def Try.pinned : Pinned := { name := "ytpokokcgoebbhaa", sum := "7220cb685742149fff5f11fd2b92366ecf6d08e3f8b3e32309a69a0fd29c9eb6", checked := Try.checked }
namespace Rows
def none {H : Type} : Left H := { results := [], args := [] }

/-- 'laws.FnWork': WHATEVER THE INPUT: true; the input reads as it did. -/
def fnWorkSpec : ChangeSpec := { name := "fnWork", fn := fun _ => fun
  | [d] => { results := [.lit (.bool true)], args := [d] }
  | _ => none }
def fnWorkRow : OpenClaim := { program := "ytpokokcgoebbhaa", sum := "7220cb685742149fff5f11fd2b92366ecf6d08e3f8b3e32309a69a0fd29c9eb6", func := "loop.example/g01613/laws.FnWork", spec := "fnWork", unfollowed := true, recurses := true, apart := false }
def FnWorkSaid : Prop := fnWorkRow.holds Try.pinned (OpenSpec.ofChange fnWorkSpec)

/-- ITS FALSE NEIGHBOUR: 'it returns false'. Refute it at one input. -/
def fnWorkWrong : ChangeSpec := { name := "fnWork", fn := fun _ => fun
  | [d] => { results := [.lit (.bool false)], args := [d] }
  | _ => none }
def FnWorkWrongFalsely : Prop := fnWorkRow.holds Try.pinned (OpenSpec.ofChange fnWorkWrong)

/-- 'laws.FnBlocksRead': WHATEVER THE INPUT: true; the input reads as it did. -/
def fnBlocksReadSpec : ChangeSpec := { name := "fnBlocksRead", fn := fun _ => fun
  | [d] => { results := [.lit (.bool true)], args := [d] }
  | _ => none }
def fnBlocksReadRow : OpenClaim := { program := "ytpokokcgoebbhaa", sum := "7220cb685742149fff5f11fd2b92366ecf6d08e3f8b3e32309a69a0fd29c9eb6", func := "loop.example/g01613/laws.FnBlocksRead", spec := "fnBlocksRead", unfollowed := true, recurses := true, apart := false }
def FnBlocksReadSaid : Prop := fnBlocksReadRow.holds Try.pinned (OpenSpec.ofChange fnBlocksReadSpec)

/-- ITS FALSE NEIGHBOUR: 'it returns false'. Refute it at one input. -/
def fnBlocksReadWrong : ChangeSpec := { name := "fnBlocksRead", fn := fun _ => fun
  | [d] => { results := [.lit (.bool false)], args := [d] }
  | _ => none }
def FnBlocksReadWrongFalsely : Prop := fnBlocksReadRow.holds Try.pinned (OpenSpec.ofChange fnBlocksReadWrong)

/- THE SECOND FORM. 'bulk': how many values and letters a reading holds, each counted each time it is reached (what is shared counts as often as it is met; a slice's spare places count too). A statement '..UptoSaid' is the law's where the arguments, and the package variables that the reading takes, are together of bulk at most 1048576: NARROWER than '..Said'. Prove '..Said' where nothing that the law and all that it calls make is longer than what came in: it says more and counts as full. Else prove '..UptoSaid'. A law counts once. -/
mutual
def uptoBulk {H : Type} : DataW H → Nat
  | .lit (.string bytes) => bytes.length + 1
  | .lit _ => 1
  | .nil => 1
  | .ptr d => uptoBulk d + 1
  | .slice elems spare => uptoBulkAll elems + uptoBulkAll spare + 1
  | .agg parts => uptoBulkAll parts + 1
  | .iface _ d => uptoBulk d + 1
  | .map entries => uptoBulkEntries entries + 1
  | .held _ => 1
def uptoBulkAll {H : Type} : List (DataW H) → Nat
  | [] => 0
  | d :: r => uptoBulk d + uptoBulkAll r
def uptoBulkEntries {H : Type} : List (Lit × DataW H) → Nat
  | [] => 0
  | x :: r => uptoBulkEntry x + uptoBulkEntries r
def uptoBulkEntry {H : Type} : Lit × DataW H → Nat
  | (.string bytes, d) => bytes.length + uptoBulk d + 1
  | (_, d) => uptoBulk d + 1
 end
def uptoSmall : (H : Type) → List (DataW H) → Bool := fun _ ds => decide (uptoBulkAll ds ≤ 1048576)
def OpenSpec.upto (s : _root_.Go.ChangeSpec) : _root_.Go.OpenSpec := { _root_.Go.OpenSpec.ofChange s with cond := some uptoSmall }

/-- 'laws.FnWork', WHERE WHAT IT READS IS OF BULK AT MOST 1048576: true; the input reads as it did. -/
def fnWorkUptoRow : OpenClaim := { program := "ytpokokcgoebbhaa", sum := "7220cb685742149fff5f11fd2b92366ecf6d08e3f8b3e32309a69a0fd29c9eb6", func := "loop.example/g01613/laws.FnWork", spec := "fnWork", unfollowed := true, recurses := true, apart := false, narrowed := true }
def FnWorkUptoSaid : Prop := fnWorkUptoRow.holds Try.pinned (OpenSpec.upto fnWorkSpec)

/-- 'laws.FnBlocksRead', WHERE WHAT IT READS IS OF BULK AT MOST 1048576: true; the input reads as it did. -/
def fnBlocksReadUptoRow : OpenClaim := { program := "ytpokokcgoebbhaa", sum := "7220cb685742149fff5f11fd2b92366ecf6d08e3f8b3e32309a69a0fd29c9eb6", func := "loop.example/g01613/laws.FnBlocksRead", spec := "fnBlocksRead", unfollowed := true, recurses := true, apart := false, narrowed := true }
def FnBlocksReadUptoSaid : Prop := fnBlocksReadUptoRow.holds Try.pinned (OpenSpec.upto fnBlocksReadSpec)

end Rows
end Go.Proofs.Ytpokokcgoebbhaa
