/- Calls, run. (Printed by a program.) -/
import Derived.Test.YtcgnkejpcjcaoaaGreatBoundTab
set_option maxRecDepth 100000
set_option linter.unusedVariables false
namespace Go.Proofs.YtcgnkejpcjcaoaaGreat.boundRun
open Go Go.Abs
theorem c11:chk cxR fs L11 gr11 []=true:=by kernel_rfl
theorem c12:chk cx fs L12 gr12 []=true:=by kernel_rfl
end Go.Proofs.YtcgnkejpcjcaoaaGreat.boundRun
