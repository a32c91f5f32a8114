/- Calls, run. (Printed by a program.) -/
import Derived.Test.YtdomagdnaohpbaaGreatDoorCutTab
set_option maxRecDepth 100000
set_option linter.unusedVariables false
namespace Go.Proofs.YtdomagdnaohpbaaGreatDoor.cutRun
open Go Go.Abs
theorem c11:chk cx fs L11 gr11 []=true:=by kernel_rfl
theorem c13:chk cx fs L13 gr13 []=true:=by kernel_rfl
theorem c14:chk cx fs L14 gr14 []=true:=by kernel_rfl
theorem c15:chk cx fs L15 gr15 []=true:=by kernel_rfl
theorem c17:chk cx fs L17 gr17 []=true:=by kernel_rfl
theorem rr18:∀ l,callR (memoC cx fs L18 []) 400 (entF en1096) (entL en1096) l=some (entV en1096):=by intro l; kernel_rfl
theorem ra18:∀ l,callAsk (memoC cx fs L18 []) 400 (entF en1096) (entL en1096) l=(callAsk (memoC cx fs L18 []) 400 (entF en1096) (entL en1096) l).map fun _=>l:=by intro l; kernel_rfl
theorem rf18:allB (flat 4) (entL en1096)=true:=by kernel_rfl
theorem c19:chk cx fs L19 gr19 []=true:=by kernel_rfl
theorem rr20:∀ l,callR (memoC cx fs L20 []) 400 (entF en1100) (entL en1100) l=some (entV en1100):=by intro l; kernel_rfl
theorem ra20:∀ l,callAsk (memoC cx fs L20 []) 400 (entF en1100) (entL en1100) l=(callAsk (memoC cx fs L20 []) 400 (entF en1100) (entL en1100) l).map fun _=>l:=by intro l; kernel_rfl
theorem rf20:allB (flat 4) (entL en1100)=true:=by kernel_rfl
theorem rr21:∀ l,callR (memoC cx fs L21 []) 400 (entF en1101) (entL en1101) l=some (entV en1101):=by intro l; kernel_rfl
theorem ra21:∀ l,callAsk (memoC cx fs L21 []) 400 (entF en1101) (entL en1101) l=(callAsk (memoC cx fs L21 []) 400 (entF en1101) (entL en1101) l).map fun _=>l:=by intro l; kernel_rfl
theorem rf21:allB (flat 4) (entL en1101)=true:=by kernel_rfl
theorem c22:chk cx fs L22 gr22 []=true:=by kernel_rfl
end Go.Proofs.YtdomagdnaohpbaaGreatDoor.cutRun
