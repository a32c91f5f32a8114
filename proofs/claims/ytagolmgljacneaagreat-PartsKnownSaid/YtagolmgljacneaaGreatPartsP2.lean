/- Calls, run. (Printed by a program.) -/
import Derived.Test.YtagolmgljacneaaGreatPartsTab
set_option maxRecDepth 100000
set_option linter.unusedVariables false
namespace Go.Proofs.YtagolmgljacneaaGreat.partsRun
open Go Go.Abs
theorem c22:chk cx fs L22 gr22 []=true:=by kernel_rfl
theorem c23:chk cx fs L23 gr23 []=true:=by kernel_rfl
theorem c24:chk cx fs L24 gr24 []=true:=by kernel_rfl
theorem c25:chk cx fs L25 gr25 []=true:=by kernel_rfl
theorem c26:chk cx fs L26 gr26 []=true:=by kernel_rfl
theorem c27:chk cx fs L27 gr27 []=true:=by kernel_rfl
theorem c28:chk cx fs L28 gr28 []=true:=by kernel_rfl
theorem c29:chk cx fs L29 gr29 []=true:=by kernel_rfl
theorem c30:chk cx fs L30 gr30 []=true:=by kernel_rfl
theorem c31:chk cx fs L31 gr31 []=true:=by kernel_rfl
end Go.Proofs.YtagolmgljacneaaGreat.partsRun
