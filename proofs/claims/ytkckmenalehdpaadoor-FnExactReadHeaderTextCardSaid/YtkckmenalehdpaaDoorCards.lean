/-
  DERIVED. GIVEN WITH THE SEED: THE CARDS: each row of YtkckmenalehdpaaDoorRows.lean that lists a variable, with what it lists TIED to the program's text (the seventh form; the later family's looks); each row that meets fmt, with fmt's text TOLD by the authors' own Lean function (tested against real Go, not proved from fmt's source: count such statements apart). THE CARD IS WHAT COUNTS. Prove the row's statement (the work); the ties are given (YtkckmenalehdpaaDoorTie.lean); close each card by the builder's one call (the guide's Derived/Test/ToyasCard.lean, 'card_holds'). Laid BY PROGRAM, IN A SANDBOX (cutbox-door.mjs). By AI agents, Wed Nov 11 2026. No macro, syntax, notation, axiom, sorry.
-/
import Derived.Test.YtkckmenalehdpaaDoorRows
import GoSem.ClaimSeven
namespace Go.Proofs.YtkckmenalehdpaaDoor
namespace Rows

/-- THE TIED CARD OF 'laws.FnExactShowHeader'. -/
def fnExactShowHeaderCard : Claim7 := { stood := { row := fnExactShowHeaderRow, standIns := [], harness := (true, "ddb1c2b3bba28cdbe9685975461b76e353a23ee1547feecca2e0d01cf4000476"), looks := true }, kinds := [], alts := [], laidByText := true, laidKinds := [.data, .data, .data], laidTests := true, laidLooks := .later }
def FnExactShowHeaderCardSaid : Prop := Claim7.holds Tryd.pinned (.plain (OpenSpec.ofChange fnExactShowHeaderSpec)) fnExactShowHeaderCard

/-- THE TIED CARD OF 'laws.FnExactReadFrame'. -/
def fnExactReadFrameCard : Claim7 := { stood := { row := fnExactReadFrameRow, standIns := [], harness := (true, "ddb1c2b3bba28cdbe9685975461b76e353a23ee1547feecca2e0d01cf4000476"), looks := true }, kinds := [], alts := [], laidByText := true, laidKinds := [.data, .pinned], laidTests := true, laidLooks := .later }
def FnExactReadFrameCardSaid : Prop := Claim7.holds Tryd.pinned (.plain (OpenSpec.ofChange fnExactReadFrameSpec)) fnExactReadFrameCard

/-- THE TIED CARD OF 'laws.FnExactReadHeaderText'. -/
def fnExactReadHeaderTextCard : Claim7 := { stood := { row := fnExactReadHeaderTextRow, standIns := [], harness := (true, "ddb1c2b3bba28cdbe9685975461b76e353a23ee1547feecca2e0d01cf4000476"), looks := true }, kinds := [], alts := [], laidByText := true, laidKinds := [.data, .data, .data, .data, .sentinel, .sentinel, .pinned], laidTests := true, laidLooks := .later }
def FnExactReadHeaderTextCardSaid : Prop := Claim7.holds Tryd.pinned (.plain (OpenSpec.ofChange fnExactReadHeaderTextSpec)) fnExactReadHeaderTextCard

/-- THE SECOND FORM's CARD OF 'laws.FnExactShowHeader'. -/
def fnExactShowHeaderUptoCard : Claim7 := { stood := { row := fnExactShowHeaderUptoRow, standIns := [], harness := (true, "ddb1c2b3bba28cdbe9685975461b76e353a23ee1547feecca2e0d01cf4000476"), looks := true }, kinds := [], alts := [], laidByText := true, laidKinds := [.data, .data, .data], laidTests := true, laidLooks := .later }
def FnExactShowHeaderUptoCardSaid : Prop := Claim7.holds Tryd.pinned (.plain (OpenSpec.upto fnExactShowHeaderSpec)) fnExactShowHeaderUptoCard

/-- THE SECOND FORM's CARD OF 'laws.FnExactReadFrame'. -/
def fnExactReadFrameUptoCard : Claim7 := { stood := { row := fnExactReadFrameUptoRow, standIns := [], harness := (true, "ddb1c2b3bba28cdbe9685975461b76e353a23ee1547feecca2e0d01cf4000476"), looks := true }, kinds := [], alts := [], laidByText := true, laidKinds := [.data, .pinned], laidTests := true, laidLooks := .later }
def FnExactReadFrameUptoCardSaid : Prop := Claim7.holds Tryd.pinned (.plain (OpenSpec.upto fnExactReadFrameSpec)) fnExactReadFrameUptoCard

/-- THE SECOND FORM's CARD OF 'laws.FnExactReadHeaderText'. -/
def fnExactReadHeaderTextUptoCard : Claim7 := { stood := { row := fnExactReadHeaderTextUptoRow, standIns := [], harness := (true, "ddb1c2b3bba28cdbe9685975461b76e353a23ee1547feecca2e0d01cf4000476"), looks := true }, kinds := [], alts := [], laidByText := true, laidKinds := [.data, .data, .data, .data, .sentinel, .sentinel, .pinned], laidTests := true, laidLooks := .later }
def FnExactReadHeaderTextUptoCardSaid : Prop := Claim7.holds Tryd.pinned (.plain (OpenSpec.upto fnExactReadHeaderTextSpec)) fnExactReadHeaderTextUptoCard
end Rows
end Go.Proofs.YtkckmenalehdpaaDoor
