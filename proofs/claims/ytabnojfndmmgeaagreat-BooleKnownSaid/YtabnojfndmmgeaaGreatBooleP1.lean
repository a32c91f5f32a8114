/- Calls, run. (Printed by a program.) -/
import Derived.Test.YtabnojfndmmgeaaGreatBooleTab
set_option maxRecDepth 100000
set_option linter.unusedVariables false
namespace Go.Proofs.YtabnojfndmmgeaaGreat.booleRun
open Go Go.Abs
theorem c4:chk cx fs L4 gr4 []=true:=by kernel_rfl
theorem c5:chk cx fs L5 gr5 []=true:=by kernel_rfl
theorem c6:chk cx fs L6 gr6 []=true:=by kernel_rfl
theorem c7:chk cx fs L7 gr7 []=true:=by kernel_rfl
end Go.Proofs.YtabnojfndmmgeaaGreat.booleRun
