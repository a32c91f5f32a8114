/- Words for the states of a run in pieces. (Printed by a program.) -/
import Derived.Test.YtdomagdnaohpbaaGreatDoorCutBase
import Derived.Test.YtdomagdnaohpbaaGreatDoorEvMemo
set_option linter.unusedVariables false
namespace Go.Proofs.YtdomagdnaohpbaaGreatDoor.cutRun
open Go Go.Abs
abbrev L := List AV
abbrev Q := Nat → List (Nat × Blk)
abbrev E := List (Nat × AV)
def G (d : Nat) (r : Q) : Q := fun a => (Nat.add a d, .gone) :: r (Nat.add a d)
def C (d : Nat) (t : T AV) (n : Nat) (r : Q) : Q := fun a => (Nat.add a d, .cells t n) :: r (Nat.add a d)
def X (d : Nat) (b : Blk) (r : Q) : Q := fun a => (Nat.add a d, b) :: r (Nat.add a d)
def O : Q := fun _ => []
def j (k : Nat) (v : AV) (l : E) : E := (k, v) :: l
noncomputable def upsQ (H : T Blk) (q : Q) : T Blk := upsL H (q 0)
end Go.Proofs.YtdomagdnaohpbaaGreatDoor.cutRun
