/- Calls, run. (Printed by a program.) -/
import Derived.Test.YtabnojfndmmgeaaGreatBooleTab
set_option maxRecDepth 100000
set_option linter.unusedVariables false
namespace Go.Proofs.YtabnojfndmmgeaaGreat.booleRun
open Go Go.Abs
theorem c12:chk cx fs L12 gr12 []=true:=by kernel_rfl
theorem c13:chk cx fs L13 gr13 []=true:=by kernel_rfl
theorem c14:chk cx fs L14 gr14 []=true:=by kernel_rfl
theorem c15:chk cx fs L15 gr15 []=true:=by kernel_rfl
end Go.Proofs.YtabnojfndmmgeaaGreat.booleRun
