/- Calls, run. (Printed by a program.) -/
import Derived.Test.YtabnojfndmmgeaaGreatBooleTab
set_option maxRecDepth 100000
set_option linter.unusedVariables false
namespace Go.Proofs.YtabnojfndmmgeaaGreat.booleRun
open Go Go.Abs
theorem c24:chk cx fs L24 gr24 []=true:=by kernel_rfl
theorem c25:chk cx fs L25 gr25 []=true:=by kernel_rfl
theorem c26:chk cx fs L26 gr26 []=true:=by kernel_rfl
theorem c27:chk cx fs L27 gr27 []=true:=by kernel_rfl
end Go.Proofs.YtabnojfndmmgeaaGreat.booleRun
