/- States of a run in pieces. (Printed by a program.) -/
import Derived.Test.YtfcnpmiaglmjmaaGreatLocalS9
set_option linter.unusedVariables false
set_option maxRecDepth 100000
namespace Go.Proofs.YtfcnpmiaglmjmaaGreat.localRun
open Go Go.Abs
noncomputable section

def m10 : M := .fin (.value tt (some []))
end
end Go.Proofs.YtfcnpmiaglmjmaaGreat.localRun
