/- Calls, run. (Printed by a program.) -/
import Derived.Test.YtabnojfndmmgeaaGreatBooleTab
set_option maxRecDepth 100000
set_option linter.unusedVariables false
namespace Go.Proofs.YtabnojfndmmgeaaGreat.booleRun
open Go Go.Abs
theorem c29:chk cx fs L29 gr29 []=true:=by kernel_rfl
theorem c30:chk cx fs L30 gr30 []=true:=by kernel_rfl
theorem last:Fast.call (memoC cx fs L31 []) 3000 3 []=.value (.v (.bool true)) ((some [])):=by kernel_rfl
end Go.Proofs.YtabnojfndmmgeaaGreat.booleRun
