/- Calls, run. (Printed by a program.) -/
import Derived.Test.YtdomagdnaohpbaaGreatDoorCutTab
set_option maxRecDepth 100000
set_option linter.unusedVariables false
namespace Go.Proofs.YtdomagdnaohpbaaGreatDoor.cutRun
open Go Go.Abs
theorem c0:chk cx fs L0 gr0 []=true:=by kernel_rfl
theorem c1:chk cx fs L1 gr1 []=true:=by kernel_rfl
theorem c2:chk cx fs L2 gr2 []=true:=by kernel_rfl
theorem c3:chk cx fs L3 gr3 []=true:=by kernel_rfl
theorem c4:chk cx fs L4 gr4 []=true:=by kernel_rfl
theorem c6:chk cx fs L6 gr6 []=true:=by kernel_rfl
theorem c7:chk cx fs L7 gr7 []=true:=by kernel_rfl
theorem c8:chk cx fs L8 gr8 []=true:=by kernel_rfl
theorem c9:chk cx fs L9 gr9 []=true:=by kernel_rfl
theorem c10:chk cx fs L10 gr10 []=true:=by kernel_rfl
end Go.Proofs.YtdomagdnaohpbaaGreatDoor.cutRun
