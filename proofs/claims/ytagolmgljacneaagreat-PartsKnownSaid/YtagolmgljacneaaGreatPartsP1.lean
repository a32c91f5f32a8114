/- Calls, run. (Printed by a program.) -/
import Derived.Test.YtagolmgljacneaaGreatPartsTab
set_option maxRecDepth 100000
set_option linter.unusedVariables false
namespace Go.Proofs.YtagolmgljacneaaGreat.partsRun
open Go Go.Abs
theorem c11:chk cx fs L11 gr11 []=true:=by kernel_rfl
theorem c12:chk cx fs L12 gr12 []=true:=by kernel_rfl
theorem c14:chk cx fs L14 gr14 []=true:=by kernel_rfl
theorem c15:chk cx fs L15 gr15 []=true:=by kernel_rfl
theorem c16:chk cx fs L16 gr16 []=true:=by kernel_rfl
theorem c17:chk cx fs L17 gr17 []=true:=by kernel_rfl
theorem c18:chk cx fs L18 gr18 []=true:=by kernel_rfl
theorem c19:chk cx fs L19 gr19 []=true:=by kernel_rfl
theorem c20:chk cx fs L20 gr20 []=true:=by kernel_rfl
theorem c21:chk cx fs L21 gr21 []=true:=by kernel_rfl
end Go.Proofs.YtagolmgljacneaaGreat.partsRun
