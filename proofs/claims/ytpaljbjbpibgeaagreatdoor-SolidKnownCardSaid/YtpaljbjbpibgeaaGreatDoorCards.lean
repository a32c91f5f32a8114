/-
  DERIVED. GIVEN WITH THE SEED: THE CARDS: each row of YtpaljbjbpibgeaaGreatDoorRows.lean that lists a variable, with what it lists TIED to the program's text (the seventh form; the later family's looks); each row that meets fmt, with fmt's text TOLD by the authors' own Lean function (tested against real Go, not proved from fmt's source: count such statements apart). THE CARD IS WHAT COUNTS. Prove the row's statement (the work); the ties are given (YtpaljbjbpibgeaaGreatDoorTie.lean); close each card by the builder's one call (the guide's Derived/Test/ToyasCard.lean, 'card_holds'). Laid BY PROGRAM, IN A SANDBOX (cutbox-door.mjs). By AI agents, Wed Nov 11 2026. No macro, syntax, notation, axiom, sorry.
-/
import Derived.Test.YtpaljbjbpibgeaaGreatDoorRows
import GoSem.ClaimSeven
namespace Go.Proofs.YtpaljbjbpibgeaaGreatDoor
namespace Rows

/-- THE TIED CARD OF 'chamferlaw11.SolidKnown'. -/
def solidKnownCard : Claim7 := { stood := { row := solidKnownRow, standIns := [], harness := (true, "5e74d89b71f9901105ed3dd3501f29ac6cbc0e1859c6d109dd10f2a8694b5fc7"), looks := false }, kinds := [], alts := [], laidByText := true, laidKinds := [.data, .pinned], laidTests := true, laidLooks := .later }
def SolidKnownCardSaid : Prop := Claim7.holds Tryz.pinned (.plain (OpenSpec.ofChange solidKnownSpec)) solidKnownCard

/-- THE SECOND FORM's CARD OF 'chamferlaw11.SolidKnown'. -/
def solidKnownUptoCard : Claim7 := { stood := { row := solidKnownUptoRow, standIns := [], harness := (true, "5e74d89b71f9901105ed3dd3501f29ac6cbc0e1859c6d109dd10f2a8694b5fc7"), looks := false }, kinds := [], alts := [], laidByText := true, laidKinds := [.data, .pinned], laidTests := true, laidLooks := .later }
def SolidKnownUptoCardSaid : Prop := Claim7.holds Tryz.pinned (.plain (OpenSpec.upto solidKnownSpec)) solidKnownUptoCard
end Rows
end Go.Proofs.YtpaljbjbpibgeaaGreatDoor
