/- Calls, run. (Printed by a program.) -/
import Derived.Test.YtcgnkejpcjcaoaaGreatBoundTab
set_option maxRecDepth 100000
set_option linter.unusedVariables false
namespace Go.Proofs.YtcgnkejpcjcaoaaGreat.boundRun
open Go Go.Abs
theorem c9:chk cxR fs L9 gr9 []=true:=by kernel_rfl
theorem c10:chk cx fs L10 gr10 []=true:=by kernel_rfl
end Go.Proofs.YtcgnkejpcjcaoaaGreat.boundRun
