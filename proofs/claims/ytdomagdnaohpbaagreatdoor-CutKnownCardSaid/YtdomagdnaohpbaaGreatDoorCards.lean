/-
  DERIVED. GIVEN WITH THE SEED: THE CARDS: each row of YtdomagdnaohpbaaGreatDoorRows.lean that lists a variable, with what it lists TIED to the program's text (the seventh form; the later family's looks); each row that meets fmt, with fmt's text TOLD by the authors' own Lean function (tested against real Go, not proved from fmt's source: count such statements apart). THE CARD IS WHAT COUNTS. Prove the row's statement (the work); the ties are given (YtdomagdnaohpbaaGreatDoorTie.lean); close each card by the builder's one call (the guide's Derived/Test/ToyasCard.lean, 'card_holds'). Laid BY PROGRAM, IN A SANDBOX (cutbox-door.mjs). By AI agents, Wed Nov 11 2026. No macro, syntax, notation, axiom, sorry.
-/
import Derived.Test.YtdomagdnaohpbaaGreatDoorRows
import GoSem.ClaimSeven
namespace Go.Proofs.YtdomagdnaohpbaaGreatDoor
namespace Rows

/-- THE TIED CARD OF 'chamferlaw21.CutKnown'. -/
def cutKnownCard : Claim7 := { stood := { row := cutKnownRow, standIns := [], harness := (true, "ff496554ec0da4641c39a5a7238b47c1dab02cf47808d6d92d7161d75c8278be"), looks := false }, kinds := [], alts := [], laidByText := true, laidKinds := [.data, .pinned], laidTests := true, laidLooks := .later }
def CutKnownCardSaid : Prop := Claim7.holds Tryz.pinned (.plain (OpenSpec.ofChange cutKnownSpec)) cutKnownCard

/-- THE SECOND FORM's CARD OF 'chamferlaw21.CutKnown'. -/
def cutKnownUptoCard : Claim7 := { stood := { row := cutKnownUptoRow, standIns := [], harness := (true, "ff496554ec0da4641c39a5a7238b47c1dab02cf47808d6d92d7161d75c8278be"), looks := false }, kinds := [], alts := [], laidByText := true, laidKinds := [.data, .pinned], laidTests := true, laidLooks := .later }
def CutKnownUptoCardSaid : Prop := Claim7.holds Tryz.pinned (.plain (OpenSpec.upto cutKnownSpec)) cutKnownUptoCard
end Rows
end Go.Proofs.YtdomagdnaohpbaaGreatDoor
