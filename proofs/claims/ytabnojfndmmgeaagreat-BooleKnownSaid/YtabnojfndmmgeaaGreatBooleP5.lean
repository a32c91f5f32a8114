/- Calls, run. (Printed by a program.) -/
import Derived.Test.YtabnojfndmmgeaaGreatBooleTab
set_option maxRecDepth 100000
set_option linter.unusedVariables false
namespace Go.Proofs.YtabnojfndmmgeaaGreat.booleRun
open Go Go.Abs
theorem c20:chk cx fs L20 gr20 []=true:=by kernel_rfl
theorem c21:chk cx fs L21 gr21 []=true:=by kernel_rfl
theorem c22:chk cx fs L22 gr22 []=true:=by kernel_rfl
theorem c23:chk cx fs L23 gr23 []=true:=by kernel_rfl
end Go.Proofs.YtabnojfndmmgeaaGreat.booleRun
