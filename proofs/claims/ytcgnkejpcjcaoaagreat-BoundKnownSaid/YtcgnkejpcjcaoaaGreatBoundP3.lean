/- Calls, run. (Printed by a program.) -/
import Derived.Test.YtcgnkejpcjcaoaaGreatBoundTab
set_option maxRecDepth 100000
set_option linter.unusedVariables false
namespace Go.Proofs.YtcgnkejpcjcaoaaGreat.boundRun
open Go Go.Abs
theorem c7:chk cxR fs L7 gr7 []=true:=by kernel_rfl
theorem c8:chk cx fs L8 gr8 []=true:=by kernel_rfl
end Go.Proofs.YtcgnkejpcjcaoaaGreat.boundRun
