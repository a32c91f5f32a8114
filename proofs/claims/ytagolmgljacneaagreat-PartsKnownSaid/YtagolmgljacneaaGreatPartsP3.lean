/- Calls, run. (Printed by a program.) -/
import Derived.Test.YtagolmgljacneaaGreatPartsTab
set_option maxRecDepth 100000
set_option linter.unusedVariables false
namespace Go.Proofs.YtagolmgljacneaaGreat.partsRun
open Go Go.Abs
theorem c32:chk cx fs L32 gr32 []=true:=by kernel_rfl
theorem c34:chk cx fs L34 gr34 []=true:=by kernel_rfl
theorem c35:chk cx fs L35 gr35 []=true:=by kernel_rfl
theorem c36:chk cx fs L36 gr36 []=true:=by kernel_rfl
theorem c37:chk cx fs L37 gr37 []=true:=by kernel_rfl
theorem c38:chk cx fs L38 gr38 []=true:=by kernel_rfl
theorem c39:chk cx fs L39 gr39 []=true:=by kernel_rfl
theorem c40:chk cx fs L40 gr40 []=true:=by kernel_rfl
theorem c42:chk cx fs L42 gr42 []=true:=by kernel_rfl
theorem c44:chk cx fs L44 gr44 []=true:=by kernel_rfl
end Go.Proofs.YtagolmgljacneaaGreat.partsRun
