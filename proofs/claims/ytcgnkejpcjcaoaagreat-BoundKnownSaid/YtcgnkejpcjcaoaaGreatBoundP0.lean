/- Calls, run. (Printed by a program.) -/
import Derived.Test.YtcgnkejpcjcaoaaGreatBoundTab
set_option maxRecDepth 100000
set_option linter.unusedVariables false
namespace Go.Proofs.YtcgnkejpcjcaoaaGreat.boundRun
open Go Go.Abs
theorem c0:chk cx fs L0 gr0 []=true:=by kernel_rfl
theorem c1:chk cx fs L1 gr1 []=true:=by kernel_rfl
end Go.Proofs.YtcgnkejpcjcaoaaGreat.boundRun
