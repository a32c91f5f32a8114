/- Calls, run. (Printed by a program.) -/
import Derived.Test.YtcgnkejpcjcaoaaGreatBoundTab
set_option maxRecDepth 100000
set_option linter.unusedVariables false
namespace Go.Proofs.YtcgnkejpcjcaoaaGreat.boundRun
open Go Go.Abs
theorem last:Fast.call (memoC cx fs L13 []) 3000 4 []=.value (.v (.bool true)) ((some [])):=by kernel_rfl
end Go.Proofs.YtcgnkejpcjcaoaaGreat.boundRun
