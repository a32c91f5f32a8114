/-
  No cell of these rows narrows 'for every input' (looked for: loops, veiled, ifaces, maps, wideKeys, modest, calm, conditions, laid).
  DERIVED. THE GIVEN ROWS OF THIS SEAT. 3 by the template 'for every input the law returns true; each argument reads behind the call as it read before'; 0 by the template 'total and deterministic' (their statements: YtlbkdklkmdaefaaGreatTotals.lean).
  GIVEN WITH THE SEED: the statements are not yours to turn. If you find one false, say at which input.
  Laid BY PROGRAM, IN A SANDBOX (cutbox-rows.mjs): the forced cells as the released guide's own fill.sh prints them over the translation f20dc877b4e8248e… (all of the seat's roots in one cut). By AI agents, Wed Nov 11 2026. No macro, syntax, notation, axiom, sorry.
-/
import Derived.Test.YtlbkdklkmdaefaaGreatChecked
import GoSem.Claim
import GoSem.ClaimJoined
import GoSem.ClaimMapViews
import Derived.JoinedTies
import Derived.KernelRfl
namespace Go.Proofs.YtlbkdklkmdaefaaGreat
/- THE CELL 'sum', in the pinned program and in every row, IS THE sha256 OF THE DUMP (.gsa) THAT YtlbkdklkmdaefaaGreatProg.lean LOADS. Nothing in Lean hashes anything: it is a label: what it is worth is what the hold of that sum in a sandbox is worth. -/
noncomputable def Tryz.pinned : Pinned := { name := "ytlbkdklkmdaefaagreat", sum := "f20dc877b4e8248ea7f4e3468f21d474ef3a755385cde45164cf4db9c4fe5fdf", checked := Tryz.checked }
namespace Rows
def none {H : Type} : Left H := { results := [], args := [] }

/-- 'chamferlaw09.ConeKnown': WHATEVER THE INPUT: true; the input reads as it did. -/
def coneKnownSpec : ChangeSpec := { name := "coneKnown", fn := fun _ => fun
  | [] => { results := [.lit (.bool true)], args := [] }
  | _ => none }
def coneKnownRow : OpenClaim := { program := "ytlbkdklkmdaefaagreat", sum := "f20dc877b4e8248ea7f4e3468f21d474ef3a755385cde45164cf4db9c4fe5fdf", func := "chamfer/chamferlaw09.ConeKnown", spec := "coneKnown", inPlace := ["math/bits.Add64", "math/bits.Sub64"], unfollowed := true, recurses := true, named := ["math/bits.divideError", "math/bits.overflowError"], apart := false }
def ConeKnownSaid : Prop := coneKnownRow.holds Tryz.pinned (OpenSpec.ofChange coneKnownSpec)

/-- ITS FALSE NEIGHBOUR: 'it returns false'. Refute it at one input. -/
def coneKnownWrong : ChangeSpec := { name := "coneKnown", fn := fun _ => fun
  | [] => { results := [.lit (.bool false)], args := [] }
  | _ => none }
def ConeKnownWrongFalsely : Prop := coneKnownRow.holds Tryz.pinned (OpenSpec.ofChange coneKnownWrong)

/-- 'chamferlaw10.CellsKnown': WHATEVER THE INPUT: true; the input reads as it did. -/
def cellsKnownSpec : ChangeSpec := { name := "cellsKnown", fn := fun _ => fun
  | [] => { results := [.lit (.bool true)], args := [] }
  | _ => none }
def cellsKnownRow : OpenClaim := { program := "ytlbkdklkmdaefaagreat", sum := "f20dc877b4e8248ea7f4e3468f21d474ef3a755385cde45164cf4db9c4fe5fdf", func := "chamfer/chamferlaw10.CellsKnown", spec := "cellsKnown", inPlace := ["math/bits.Add64", "math/bits.Sub64"], unfollowed := true, recurses := true, named := ["math/bits.divideError", "math/bits.overflowError"], apart := false }
def CellsKnownSaid : Prop := cellsKnownRow.holds Tryz.pinned (OpenSpec.ofChange cellsKnownSpec)

/-- ITS FALSE NEIGHBOUR: 'it returns false'. Refute it at one input. -/
def cellsKnownWrong : ChangeSpec := { name := "cellsKnown", fn := fun _ => fun
  | [] => { results := [.lit (.bool false)], args := [] }
  | _ => none }
def CellsKnownWrongFalsely : Prop := cellsKnownRow.holds Tryz.pinned (OpenSpec.ofChange cellsKnownWrong)

/-- 'chamferlaw12.BooleKnown': WHATEVER THE INPUT: true; the input reads as it did. -/
def booleKnownSpec : ChangeSpec := { name := "booleKnown", fn := fun _ => fun
  | [] => { results := [.lit (.bool true)], args := [] }
  | _ => none }
def booleKnownRow : OpenClaim := { program := "ytlbkdklkmdaefaagreat", sum := "f20dc877b4e8248ea7f4e3468f21d474ef3a755385cde45164cf4db9c4fe5fdf", func := "chamfer/chamferlaw12.BooleKnown", spec := "booleKnown", inPlace := ["math/bits.Add64", "math/bits.Sub64"], unfollowed := true, recurses := true, named := ["math/bits.divideError", "math/bits.overflowError"], apart := false }
def BooleKnownSaid : Prop := booleKnownRow.holds Tryz.pinned (OpenSpec.ofChange booleKnownSpec)

/-- ITS FALSE NEIGHBOUR: 'it returns false'. Refute it at one input. -/
def booleKnownWrong : ChangeSpec := { name := "booleKnown", fn := fun _ => fun
  | [] => { results := [.lit (.bool false)], args := [] }
  | _ => none }
def BooleKnownWrongFalsely : Prop := booleKnownRow.holds Tryz.pinned (OpenSpec.ofChange booleKnownWrong)

/- THE SECOND FORM. 'bulk': how many values and letters a reading holds, each counted each time it is reached (what is shared counts as often as it is met; a slice's spare places count too). A statement '..UptoSaid' is the law's where the arguments, and the package variables that the reading takes, are together of bulk at most 1048576: NARROWER than '..Said'. Prove '..Said' where nothing that the law and all that it calls make is longer than what came in: it says more and counts as full. Else prove '..UptoSaid'. A law counts once. -/
mutual
def uptoBulk {H : Type} : DataW H → Nat
  | .lit (.string bytes) => bytes.length + 1
  | .lit _ => 1
  | .nil => 1
  | .ptr d => uptoBulk d + 1
  | .slice elems spare => uptoBulkAll elems + uptoBulkAll spare + 1
  | .agg parts => uptoBulkAll parts + 1
  | .iface _ d => uptoBulk d + 1
  | .map entries => uptoBulkEntries entries + 1
  | .held _ => 1
def uptoBulkAll {H : Type} : List (DataW H) → Nat
  | [] => 0
  | d :: r => uptoBulk d + uptoBulkAll r
def uptoBulkEntries {H : Type} : List (Lit × DataW H) → Nat
  | [] => 0
  | x :: r => uptoBulkEntry x + uptoBulkEntries r
def uptoBulkEntry {H : Type} : Lit × DataW H → Nat
  | (.string bytes, d) => bytes.length + uptoBulk d + 1
  | (_, d) => uptoBulk d + 1
 end
def uptoSmall : (H : Type) → List (DataW H) → Bool := fun _ ds => decide (uptoBulkAll ds ≤ 1048576)
def OpenSpec.upto (s : _root_.Go.ChangeSpec) : _root_.Go.OpenSpec := { _root_.Go.OpenSpec.ofChange s with cond := some uptoSmall }

/-- 'chamferlaw09.ConeKnown', WHERE WHAT IT READS IS OF BULK AT MOST 1048576: true; the input reads as it did. -/
def coneKnownUptoRow : OpenClaim := { program := "ytlbkdklkmdaefaagreat", sum := "f20dc877b4e8248ea7f4e3468f21d474ef3a755385cde45164cf4db9c4fe5fdf", func := "chamfer/chamferlaw09.ConeKnown", spec := "coneKnown", inPlace := ["math/bits.Add64", "math/bits.Sub64"], unfollowed := true, recurses := true, named := ["math/bits.divideError", "math/bits.overflowError"], apart := false, narrowed := true }
def ConeKnownUptoSaid : Prop := coneKnownUptoRow.holds Tryz.pinned (OpenSpec.upto coneKnownSpec)

/-- 'chamferlaw10.CellsKnown', WHERE WHAT IT READS IS OF BULK AT MOST 1048576: true; the input reads as it did. -/
def cellsKnownUptoRow : OpenClaim := { program := "ytlbkdklkmdaefaagreat", sum := "f20dc877b4e8248ea7f4e3468f21d474ef3a755385cde45164cf4db9c4fe5fdf", func := "chamfer/chamferlaw10.CellsKnown", spec := "cellsKnown", inPlace := ["math/bits.Add64", "math/bits.Sub64"], unfollowed := true, recurses := true, named := ["math/bits.divideError", "math/bits.overflowError"], apart := false, narrowed := true }
def CellsKnownUptoSaid : Prop := cellsKnownUptoRow.holds Tryz.pinned (OpenSpec.upto cellsKnownSpec)

/-- 'chamferlaw12.BooleKnown', WHERE WHAT IT READS IS OF BULK AT MOST 1048576: true; the input reads as it did. -/
def booleKnownUptoRow : OpenClaim := { program := "ytlbkdklkmdaefaagreat", sum := "f20dc877b4e8248ea7f4e3468f21d474ef3a755385cde45164cf4db9c4fe5fdf", func := "chamfer/chamferlaw12.BooleKnown", spec := "booleKnown", inPlace := ["math/bits.Add64", "math/bits.Sub64"], unfollowed := true, recurses := true, named := ["math/bits.divideError", "math/bits.overflowError"], apart := false, narrowed := true }
def BooleKnownUptoSaid : Prop := booleKnownUptoRow.holds Tryz.pinned (OpenSpec.upto booleKnownSpec)

end Rows
end Go.Proofs.YtlbkdklkmdaefaaGreat
