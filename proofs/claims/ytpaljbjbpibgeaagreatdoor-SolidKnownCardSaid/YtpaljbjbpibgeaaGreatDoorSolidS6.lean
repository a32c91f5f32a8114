/- States of a run in pieces. (Printed by a program.) -/
import Derived.Test.YtpaljbjbpibgeaaGreatDoorSolidS5
set_option linter.unusedVariables false
set_option maxRecDepth 100000
namespace Go.Proofs.YtpaljbjbpibgeaaGreatDoor.solidRun
open Go Go.Abs
noncomputable section

def m6 : M := .fin (.value tt (some []))
end
end Go.Proofs.YtpaljbjbpibgeaaGreatDoor.solidRun
