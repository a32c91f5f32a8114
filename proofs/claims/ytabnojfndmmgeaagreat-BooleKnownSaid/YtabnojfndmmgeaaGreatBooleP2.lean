/- Calls, run. (Printed by a program.) -/
import Derived.Test.YtabnojfndmmgeaaGreatBooleTab
set_option maxRecDepth 100000
set_option linter.unusedVariables false
namespace Go.Proofs.YtabnojfndmmgeaaGreat.booleRun
open Go Go.Abs
theorem c8:chk cx fs L8 gr8 []=true:=by kernel_rfl
theorem c9:chk cx fs L9 gr9 []=true:=by kernel_rfl
theorem c10:chk cx fs L10 gr10 []=true:=by kernel_rfl
theorem c11:chk cx fs L11 gr11 []=true:=by kernel_rfl
end Go.Proofs.YtabnojfndmmgeaaGreat.booleRun
