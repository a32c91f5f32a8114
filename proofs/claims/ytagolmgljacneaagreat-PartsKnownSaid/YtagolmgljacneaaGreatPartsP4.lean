/- Calls, run. (Printed by a program.) -/
import Derived.Test.YtagolmgljacneaaGreatPartsTab
set_option maxRecDepth 100000
set_option linter.unusedVariables false
namespace Go.Proofs.YtagolmgljacneaaGreat.partsRun
open Go Go.Abs
theorem c45:chk cx fs L45 gr45 []=true:=by kernel_rfl
theorem c46:chk cx fs L46 gr46 []=true:=by kernel_rfl
theorem c46a:chk cx fs L46a gr46a []=true:=by kernel_rfl
theorem c46b:chk cx fs L46b gr46b []=true:=by kernel_rfl
theorem c47:chk cx fs L47 gr47 []=true:=by kernel_rfl
theorem c48:chk cx fs L48 gr48 []=true:=by kernel_rfl
theorem c49:chk cx fs L49 gr49 []=true:=by kernel_rfl
theorem c50:chk cx fs L50 gr50 []=true:=by kernel_rfl
theorem last:Fast.call (memoC cx fs L51 []) 3000 3 []=.value (.v (.bool true)) ((some [])):=by kernel_rfl
end Go.Proofs.YtagolmgljacneaaGreat.partsRun
