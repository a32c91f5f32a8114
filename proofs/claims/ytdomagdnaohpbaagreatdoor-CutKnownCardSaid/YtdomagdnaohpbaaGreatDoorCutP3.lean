/- Calls, run. (Printed by a program.) -/
import Derived.Test.YtdomagdnaohpbaaGreatDoorCutTab
set_option maxRecDepth 100000
set_option linter.unusedVariables false
namespace Go.Proofs.YtdomagdnaohpbaaGreatDoor.cutRun
open Go Go.Abs
theorem rr33:∀ l,callR (memoC cx fs L33 []) 400 (entF en1133) (entL en1133) l=some (entV en1133):=by intro l; kernel_rfl
theorem ra33:∀ l,callAsk (memoC cx fs L33 []) 400 (entF en1133) (entL en1133) l=(callAsk (memoC cx fs L33 []) 400 (entF en1133) (entL en1133) l).map fun _=>l:=by intro l; kernel_rfl
theorem rf33:allB (flat 4) (entL en1133)=true:=by kernel_rfl
theorem c34:chk cx fs L34 gr34 []=true:=by kernel_rfl
theorem last:Fast.call (memoC cx fs L35 []) 3000 3 []=.value (.v (.bool true)) ((some [])):=by kernel_rfl
end Go.Proofs.YtdomagdnaohpbaaGreatDoor.cutRun
