/- Calls, run. (Printed by a program.) -/
import Derived.Test.YtabnojfndmmgeaaGreatBooleTab
set_option maxRecDepth 100000
set_option linter.unusedVariables false
namespace Go.Proofs.YtabnojfndmmgeaaGreat.booleRun
open Go Go.Abs
theorem c16:chk cx fs L16 gr16 []=true:=by kernel_rfl
theorem c17:chk cx fs L17 gr17 []=true:=by kernel_rfl
theorem c18:chk cx fs L18 gr18 []=true:=by kernel_rfl
theorem c19:chk cx fs L19 gr19 []=true:=by kernel_rfl
end Go.Proofs.YtabnojfndmmgeaaGreat.booleRun
