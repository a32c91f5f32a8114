/-
  No cell of these rows narrows 'for every input' (looked for: loops, veiled, ifaces, maps, wideKeys, modest, calm, conditions, laid).
  DERIVED. THE GIVEN ROWS OF THIS SEAT. 8 by the template 'for every input the law returns true; each argument reads behind the call as it read before'; 0 by the template 'total and deterministic' (their statements: YtemnnjamgnhgaaaGreatTotals.lean).
  GIVEN WITH THE SEED: the statements are not yours to turn. If you find one false, say at which input.
  Laid BY PROGRAM, IN A SANDBOX (cutbox-rows.mjs): the forced cells as the released guide's own fill.sh prints them over the translation 6a119492aad871aa… (all of the seat's roots in one cut). By AI agents, Wed Nov 11 2026. No macro, syntax, notation, axiom, sorry.
-/
import Derived.Test.YtemnnjamgnhgaaaGreatChecked
import GoSem.Claim
import GoSem.ClaimJoined
import GoSem.ClaimMapViews
import Derived.JoinedTies
import Derived.KernelRfl
namespace Go.Proofs.YtemnnjamgnhgaaaGreat
/- THE CELL 'sum', in the pinned program and in every row, IS THE sha256 OF THE DUMP (.gsa) THAT YtemnnjamgnhgaaaGreatProg.lean LOADS. Nothing in Lean hashes anything: it is a label: what it is worth is what the hold of that sum in a sandbox is worth. -/
noncomputable def Tryz.pinned : Pinned := { name := "ytemnnjamgnhgaaagreat", sum := "6a119492aad871aa625d06553b86517c1b86c2faea1391bc430176cd40fff8d2", checked := Tryz.checked }
namespace Rows
def none {H : Type} : Left H := { results := [], args := [] }

/-- 'chamferlaw09.ConeKnown': WHATEVER THE INPUT: true; the input reads as it did. -/
def coneKnownSpec : ChangeSpec := { name := "coneKnown", fn := fun _ => fun
  | [] => { results := [.lit (.bool true)], args := [] }
  | _ => none }
def coneKnownRow : OpenClaim := { program := "ytemnnjamgnhgaaagreat", sum := "6a119492aad871aa625d06553b86517c1b86c2faea1391bc430176cd40fff8d2", func := "chamfer/chamferlaw09.ConeKnown", spec := "coneKnown", inPlace := ["math/bits.Add64", "math/bits.Sub64"], unfollowed := true, recurses := true, named := ["math/bits.divideError", "math/bits.overflowError"], apart := false }
def ConeKnownSaid : Prop := coneKnownRow.holds Tryz.pinned (OpenSpec.ofChange coneKnownSpec)

/-- ITS FALSE NEIGHBOUR: 'it returns false'. Refute it at one input. -/
def coneKnownWrong : ChangeSpec := { name := "coneKnown", fn := fun _ => fun
  | [] => { results := [.lit (.bool false)], args := [] }
  | _ => none }
def ConeKnownWrongFalsely : Prop := coneKnownRow.holds Tryz.pinned (OpenSpec.ofChange coneKnownWrong)

/-- 'chamferlaw10.CellsKnown': WHATEVER THE INPUT: true; the input reads as it did. -/
def cellsKnownSpec : ChangeSpec := { name := "cellsKnown", fn := fun _ => fun
  | [] => { results := [.lit (.bool true)], args := [] }
  | _ => none }
def cellsKnownRow : OpenClaim := { program := "ytemnnjamgnhgaaagreat", sum := "6a119492aad871aa625d06553b86517c1b86c2faea1391bc430176cd40fff8d2", func := "chamfer/chamferlaw10.CellsKnown", spec := "cellsKnown", inPlace := ["math/bits.Add64", "math/bits.Sub64"], unfollowed := true, recurses := true, named := ["math/bits.divideError", "math/bits.overflowError"], apart := false }
def CellsKnownSaid : Prop := cellsKnownRow.holds Tryz.pinned (OpenSpec.ofChange cellsKnownSpec)

/-- ITS FALSE NEIGHBOUR: 'it returns false'. Refute it at one input. -/
def cellsKnownWrong : ChangeSpec := { name := "cellsKnown", fn := fun _ => fun
  | [] => { results := [.lit (.bool false)], args := [] }
  | _ => none }
def CellsKnownWrongFalsely : Prop := cellsKnownRow.holds Tryz.pinned (OpenSpec.ofChange cellsKnownWrong)

/-- 'chamferlaw12.BooleKnown': WHATEVER THE INPUT: true; the input reads as it did. -/
def booleKnownSpec : ChangeSpec := { name := "booleKnown", fn := fun _ => fun
  | [] => { results := [.lit (.bool true)], args := [] }
  | _ => none }
def booleKnownRow : OpenClaim := { program := "ytemnnjamgnhgaaagreat", sum := "6a119492aad871aa625d06553b86517c1b86c2faea1391bc430176cd40fff8d2", func := "chamfer/chamferlaw12.BooleKnown", spec := "booleKnown", inPlace := ["math/bits.Add64", "math/bits.Sub64"], unfollowed := true, recurses := true, named := ["math/bits.divideError", "math/bits.overflowError"], apart := false }
def BooleKnownSaid : Prop := booleKnownRow.holds Tryz.pinned (OpenSpec.ofChange booleKnownSpec)

/-- ITS FALSE NEIGHBOUR: 'it returns false'. Refute it at one input. -/
def booleKnownWrong : ChangeSpec := { name := "booleKnown", fn := fun _ => fun
  | [] => { results := [.lit (.bool false)], args := [] }
  | _ => none }
def BooleKnownWrongFalsely : Prop := booleKnownRow.holds Tryz.pinned (OpenSpec.ofChange booleKnownWrong)

/-- 'chamferlaw13.TopoKnown': WHATEVER THE INPUT: true; the input reads as it did. -/
def topoKnownSpec : ChangeSpec := { name := "topoKnown", fn := fun _ => fun
  | [] => { results := [.lit (.bool true)], args := [] }
  | _ => none }
def topoKnownRow : OpenClaim := { program := "ytemnnjamgnhgaaagreat", sum := "6a119492aad871aa625d06553b86517c1b86c2faea1391bc430176cd40fff8d2", func := "chamfer/chamferlaw13.TopoKnown", spec := "topoKnown", inPlace := ["math/bits.Add64", "math/bits.Sub64"], unfollowed := true, recurses := true, named := ["math/bits.divideError", "math/bits.overflowError"], apart := false }
def TopoKnownSaid : Prop := topoKnownRow.holds Tryz.pinned (OpenSpec.ofChange topoKnownSpec)

/-- ITS FALSE NEIGHBOUR: 'it returns false'. Refute it at one input. -/
def topoKnownWrong : ChangeSpec := { name := "topoKnown", fn := fun _ => fun
  | [] => { results := [.lit (.bool false)], args := [] }
  | _ => none }
def TopoKnownWrongFalsely : Prop := topoKnownRow.holds Tryz.pinned (OpenSpec.ofChange topoKnownWrong)

/-- 'chamferlaw14.ImageKnown': WHATEVER THE INPUT: true; the input reads as it did. -/
def imageKnownSpec : ChangeSpec := { name := "imageKnown", fn := fun _ => fun
  | [] => { results := [.lit (.bool true)], args := [] }
  | _ => none }
def imageKnownRow : OpenClaim := { program := "ytemnnjamgnhgaaagreat", sum := "6a119492aad871aa625d06553b86517c1b86c2faea1391bc430176cd40fff8d2", func := "chamfer/chamferlaw14.ImageKnown", spec := "imageKnown", inPlace := ["math/bits.Add64", "math/bits.Sub64"], unfollowed := true, recurses := true, named := ["math/bits.divideError", "math/bits.overflowError"], apart := false }
def ImageKnownSaid : Prop := imageKnownRow.holds Tryz.pinned (OpenSpec.ofChange imageKnownSpec)

/-- ITS FALSE NEIGHBOUR: 'it returns false'. Refute it at one input. -/
def imageKnownWrong : ChangeSpec := { name := "imageKnown", fn := fun _ => fun
  | [] => { results := [.lit (.bool false)], args := [] }
  | _ => none }
def ImageKnownWrongFalsely : Prop := imageKnownRow.holds Tryz.pinned (OpenSpec.ofChange imageKnownWrong)

/-- 'chamferlaw17.PartsKnown': WHATEVER THE INPUT: true; the input reads as it did. -/
def partsKnownSpec : ChangeSpec := { name := "partsKnown", fn := fun _ => fun
  | [] => { results := [.lit (.bool true)], args := [] }
  | _ => none }
def partsKnownRow : OpenClaim := { program := "ytemnnjamgnhgaaagreat", sum := "6a119492aad871aa625d06553b86517c1b86c2faea1391bc430176cd40fff8d2", func := "chamfer/chamferlaw17.PartsKnown", spec := "partsKnown", inPlace := ["math/bits.Add64", "math/bits.Sub64"], unfollowed := true, recurses := true, named := ["math/bits.divideError", "math/bits.overflowError"], apart := false }
def PartsKnownSaid : Prop := partsKnownRow.holds Tryz.pinned (OpenSpec.ofChange partsKnownSpec)

/-- ITS FALSE NEIGHBOUR: 'it returns false'. Refute it at one input. -/
def partsKnownWrong : ChangeSpec := { name := "partsKnown", fn := fun _ => fun
  | [] => { results := [.lit (.bool false)], args := [] }
  | _ => none }
def PartsKnownWrongFalsely : Prop := partsKnownRow.holds Tryz.pinned (OpenSpec.ofChange partsKnownWrong)

/-- 'chamferlaw15.LocalKnown': WHATEVER THE INPUT: true; the input reads as it did. -/
def localKnownSpec : ChangeSpec := { name := "localKnown", fn := fun _ => fun
  | [] => { results := [.lit (.bool true)], args := [] }
  | _ => none }
def localKnownRow : OpenClaim := { program := "ytemnnjamgnhgaaagreat", sum := "6a119492aad871aa625d06553b86517c1b86c2faea1391bc430176cd40fff8d2", func := "chamfer/chamferlaw15.LocalKnown", spec := "localKnown", inPlace := ["math/bits.Add64", "math/bits.Sub64"], unfollowed := true, recurses := true, named := ["math/bits.divideError", "math/bits.overflowError"], apart := false }
def LocalKnownSaid : Prop := localKnownRow.holds Tryz.pinned (OpenSpec.ofChange localKnownSpec)

/-- ITS FALSE NEIGHBOUR: 'it returns false'. Refute it at one input. -/
def localKnownWrong : ChangeSpec := { name := "localKnown", fn := fun _ => fun
  | [] => { results := [.lit (.bool false)], args := [] }
  | _ => none }
def LocalKnownWrongFalsely : Prop := localKnownRow.holds Tryz.pinned (OpenSpec.ofChange localKnownWrong)

/-- 'chamferlaw18.BoundKnown': WHATEVER THE INPUT: true; the input reads as it did. -/
def boundKnownSpec : ChangeSpec := { name := "boundKnown", fn := fun _ => fun
  | [] => { results := [.lit (.bool true)], args := [] }
  | _ => none }
def boundKnownRow : OpenClaim := { program := "ytemnnjamgnhgaaagreat", sum := "6a119492aad871aa625d06553b86517c1b86c2faea1391bc430176cd40fff8d2", func := "chamfer/chamferlaw18.BoundKnown", spec := "boundKnown", inPlace := ["math/bits.Add64", "math/bits.Sub64"], unfollowed := true, recurses := true, named := ["math/bits.divideError", "math/bits.overflowError"], apart := false }
def BoundKnownSaid : Prop := boundKnownRow.holds Tryz.pinned (OpenSpec.ofChange boundKnownSpec)

/-- ITS FALSE NEIGHBOUR: 'it returns false'. Refute it at one input. -/
def boundKnownWrong : ChangeSpec := { name := "boundKnown", fn := fun _ => fun
  | [] => { results := [.lit (.bool false)], args := [] }
  | _ => none }
def BoundKnownWrongFalsely : Prop := boundKnownRow.holds Tryz.pinned (OpenSpec.ofChange boundKnownWrong)

/- THE SECOND FORM. 'bulk': how many values and letters a reading holds, each counted each time it is reached (what is shared counts as often as it is met; a slice's spare places count too). A statement '..UptoSaid' is the law's where the arguments, and the package variables that the reading takes, are together of bulk at most 1048576: NARROWER than '..Said'. Prove '..Said' where nothing that the law and all that it calls make is longer than what came in: it says more and counts as full. Else prove '..UptoSaid'. A law counts once. -/
mutual
def uptoBulk {H : Type} : DataW H → Nat
  | .lit (.string bytes) => bytes.length + 1
  | .lit _ => 1
  | .nil => 1
  | .ptr d => uptoBulk d + 1
  | .slice elems spare => uptoBulkAll elems + uptoBulkAll spare + 1
  | .agg parts => uptoBulkAll parts + 1
  | .iface _ d => uptoBulk d + 1
  | .map entries => uptoBulkEntries entries + 1
  | .held _ => 1
def uptoBulkAll {H : Type} : List (DataW H) → Nat
  | [] => 0
  | d :: r => uptoBulk d + uptoBulkAll r
def uptoBulkEntries {H : Type} : List (Lit × DataW H) → Nat
  | [] => 0
  | x :: r => uptoBulkEntry x + uptoBulkEntries r
def uptoBulkEntry {H : Type} : Lit × DataW H → Nat
  | (.string bytes, d) => bytes.length + uptoBulk d + 1
  | (_, d) => uptoBulk d + 1
 end
def uptoSmall : (H : Type) → List (DataW H) → Bool := fun _ ds => decide (uptoBulkAll ds ≤ 1048576)
def OpenSpec.upto (s : _root_.Go.ChangeSpec) : _root_.Go.OpenSpec := { _root_.Go.OpenSpec.ofChange s with cond := some uptoSmall }

/-- 'chamferlaw09.ConeKnown', WHERE WHAT IT READS IS OF BULK AT MOST 1048576: true; the input reads as it did. -/
def coneKnownUptoRow : OpenClaim := { program := "ytemnnjamgnhgaaagreat", sum := "6a119492aad871aa625d06553b86517c1b86c2faea1391bc430176cd40fff8d2", func := "chamfer/chamferlaw09.ConeKnown", spec := "coneKnown", inPlace := ["math/bits.Add64", "math/bits.Sub64"], unfollowed := true, recurses := true, named := ["math/bits.divideError", "math/bits.overflowError"], apart := false, narrowed := true }
def ConeKnownUptoSaid : Prop := coneKnownUptoRow.holds Tryz.pinned (OpenSpec.upto coneKnownSpec)

/-- 'chamferlaw10.CellsKnown', WHERE WHAT IT READS IS OF BULK AT MOST 1048576: true; the input reads as it did. -/
def cellsKnownUptoRow : OpenClaim := { program := "ytemnnjamgnhgaaagreat", sum := "6a119492aad871aa625d06553b86517c1b86c2faea1391bc430176cd40fff8d2", func := "chamfer/chamferlaw10.CellsKnown", spec := "cellsKnown", inPlace := ["math/bits.Add64", "math/bits.Sub64"], unfollowed := true, recurses := true, named := ["math/bits.divideError", "math/bits.overflowError"], apart := false, narrowed := true }
def CellsKnownUptoSaid : Prop := cellsKnownUptoRow.holds Tryz.pinned (OpenSpec.upto cellsKnownSpec)

/-- 'chamferlaw12.BooleKnown', WHERE WHAT IT READS IS OF BULK AT MOST 1048576: true; the input reads as it did. -/
def booleKnownUptoRow : OpenClaim := { program := "ytemnnjamgnhgaaagreat", sum := "6a119492aad871aa625d06553b86517c1b86c2faea1391bc430176cd40fff8d2", func := "chamfer/chamferlaw12.BooleKnown", spec := "booleKnown", inPlace := ["math/bits.Add64", "math/bits.Sub64"], unfollowed := true, recurses := true, named := ["math/bits.divideError", "math/bits.overflowError"], apart := false, narrowed := true }
def BooleKnownUptoSaid : Prop := booleKnownUptoRow.holds Tryz.pinned (OpenSpec.upto booleKnownSpec)

/-- 'chamferlaw13.TopoKnown', WHERE WHAT IT READS IS OF BULK AT MOST 1048576: true; the input reads as it did. -/
def topoKnownUptoRow : OpenClaim := { program := "ytemnnjamgnhgaaagreat", sum := "6a119492aad871aa625d06553b86517c1b86c2faea1391bc430176cd40fff8d2", func := "chamfer/chamferlaw13.TopoKnown", spec := "topoKnown", inPlace := ["math/bits.Add64", "math/bits.Sub64"], unfollowed := true, recurses := true, named := ["math/bits.divideError", "math/bits.overflowError"], apart := false, narrowed := true }
def TopoKnownUptoSaid : Prop := topoKnownUptoRow.holds Tryz.pinned (OpenSpec.upto topoKnownSpec)

/-- 'chamferlaw14.ImageKnown', WHERE WHAT IT READS IS OF BULK AT MOST 1048576: true; the input reads as it did. -/
def imageKnownUptoRow : OpenClaim := { program := "ytemnnjamgnhgaaagreat", sum := "6a119492aad871aa625d06553b86517c1b86c2faea1391bc430176cd40fff8d2", func := "chamfer/chamferlaw14.ImageKnown", spec := "imageKnown", inPlace := ["math/bits.Add64", "math/bits.Sub64"], unfollowed := true, recurses := true, named := ["math/bits.divideError", "math/bits.overflowError"], apart := false, narrowed := true }
def ImageKnownUptoSaid : Prop := imageKnownUptoRow.holds Tryz.pinned (OpenSpec.upto imageKnownSpec)

/-- 'chamferlaw17.PartsKnown', WHERE WHAT IT READS IS OF BULK AT MOST 1048576: true; the input reads as it did. -/
def partsKnownUptoRow : OpenClaim := { program := "ytemnnjamgnhgaaagreat", sum := "6a119492aad871aa625d06553b86517c1b86c2faea1391bc430176cd40fff8d2", func := "chamfer/chamferlaw17.PartsKnown", spec := "partsKnown", inPlace := ["math/bits.Add64", "math/bits.Sub64"], unfollowed := true, recurses := true, named := ["math/bits.divideError", "math/bits.overflowError"], apart := false, narrowed := true }
def PartsKnownUptoSaid : Prop := partsKnownUptoRow.holds Tryz.pinned (OpenSpec.upto partsKnownSpec)

/-- 'chamferlaw15.LocalKnown', WHERE WHAT IT READS IS OF BULK AT MOST 1048576: true; the input reads as it did. -/
def localKnownUptoRow : OpenClaim := { program := "ytemnnjamgnhgaaagreat", sum := "6a119492aad871aa625d06553b86517c1b86c2faea1391bc430176cd40fff8d2", func := "chamfer/chamferlaw15.LocalKnown", spec := "localKnown", inPlace := ["math/bits.Add64", "math/bits.Sub64"], unfollowed := true, recurses := true, named := ["math/bits.divideError", "math/bits.overflowError"], apart := false, narrowed := true }
def LocalKnownUptoSaid : Prop := localKnownUptoRow.holds Tryz.pinned (OpenSpec.upto localKnownSpec)

/-- 'chamferlaw18.BoundKnown', WHERE WHAT IT READS IS OF BULK AT MOST 1048576: true; the input reads as it did. -/
def boundKnownUptoRow : OpenClaim := { program := "ytemnnjamgnhgaaagreat", sum := "6a119492aad871aa625d06553b86517c1b86c2faea1391bc430176cd40fff8d2", func := "chamfer/chamferlaw18.BoundKnown", spec := "boundKnown", inPlace := ["math/bits.Add64", "math/bits.Sub64"], unfollowed := true, recurses := true, named := ["math/bits.divideError", "math/bits.overflowError"], apart := false, narrowed := true }
def BoundKnownUptoSaid : Prop := boundKnownUptoRow.holds Tryz.pinned (OpenSpec.upto boundKnownSpec)

end Rows
end Go.Proofs.YtemnnjamgnhgaaaGreat
