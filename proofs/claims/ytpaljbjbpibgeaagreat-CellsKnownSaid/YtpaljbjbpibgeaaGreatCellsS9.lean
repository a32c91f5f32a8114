/- States of a run in pieces. (Printed by a program.) -/
import Derived.Test.YtpaljbjbpibgeaaGreatCellsS8
set_option linter.unusedVariables false
set_option maxRecDepth 100000
namespace Go.Proofs.YtpaljbjbpibgeaaGreat.cellsRun
open Go Go.Abs
noncomputable section

def m9 : M := .fin (.value tt (some []))
end
end Go.Proofs.YtpaljbjbpibgeaaGreat.cellsRun
