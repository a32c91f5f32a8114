/- Calls, run. (Printed by a program.) -/
import Derived.Test.YtcgnkejpcjcaoaaGreatBoundTab
set_option maxRecDepth 100000
set_option linter.unusedVariables false
namespace Go.Proofs.YtcgnkejpcjcaoaaGreat.boundRun
open Go Go.Abs
theorem c4:chk cx fs L4 gr4 []=true:=by kernel_rfl
theorem c6:chk cx fs L6 gr6 []=true:=by kernel_rfl
end Go.Proofs.YtcgnkejpcjcaoaaGreat.boundRun
