/- Calls, run. (Printed by a program.) -/
import Derived.Test.YtdomagdnaohpbaaGreatDoorCutTab
set_option maxRecDepth 100000
set_option linter.unusedVariables false
namespace Go.Proofs.YtdomagdnaohpbaaGreatDoor.cutRun
open Go Go.Abs
theorem rr23:∀ l,callR (memoC cx fs L23 []) 400 (entF en1105) (entL en1105) l=some (entV en1105):=by intro l; kernel_rfl
theorem ra23:∀ l,callAsk (memoC cx fs L23 []) 400 (entF en1105) (entL en1105) l=(callAsk (memoC cx fs L23 []) 400 (entF en1105) (entL en1105) l).map fun _=>l:=by intro l; kernel_rfl
theorem rf23:allB (flat 4) (entL en1105)=true:=by kernel_rfl
theorem rr24:∀ l,callR (memoC cx fs L24 []) 400 (entF en1106) (entL en1106) l=some (entV en1106):=by intro l; kernel_rfl
theorem ra24:∀ l,callAsk (memoC cx fs L24 []) 400 (entF en1106) (entL en1106) l=(callAsk (memoC cx fs L24 []) 400 (entF en1106) (entL en1106) l).map fun _=>l:=by intro l; kernel_rfl
theorem rf24:allB (flat 4) (entL en1106)=true:=by kernel_rfl
theorem c25:chk cx fs L25 gr25 []=true:=by kernel_rfl
theorem rr26:∀ l,callR (memoC cx fs L26 []) 400 (entF en1125) (entL en1125) l=some (entV en1125):=by intro l; kernel_rfl
theorem ra26:∀ l,callAsk (memoC cx fs L26 []) 400 (entF en1125) (entL en1125) l=(callAsk (memoC cx fs L26 []) 400 (entF en1125) (entL en1125) l).map fun _=>l:=by intro l; kernel_rfl
theorem rf26:allB (flat 4) (entL en1125)=true:=by kernel_rfl
theorem c27:chk cx fs L27 gr27 []=true:=by kernel_rfl
theorem rr28:∀ l,callR (memoC cx fs L28 []) 400 (entF en1127) (entL en1127) l=some (entV en1127):=by intro l; kernel_rfl
theorem ra28:∀ l,callAsk (memoC cx fs L28 []) 400 (entF en1127) (entL en1127) l=(callAsk (memoC cx fs L28 []) 400 (entF en1127) (entL en1127) l).map fun _=>l:=by intro l; kernel_rfl
theorem rf28:allB (flat 4) (entL en1127)=true:=by kernel_rfl
theorem c29:chk cx fs L29 gr29 []=true:=by kernel_rfl
theorem rr30:∀ l,callR (memoC cx fs L30 []) 400 (entF en1129) (entL en1129) l=some (entV en1129):=by intro l; kernel_rfl
theorem ra30:∀ l,callAsk (memoC cx fs L30 []) 400 (entF en1129) (entL en1129) l=(callAsk (memoC cx fs L30 []) 400 (entF en1129) (entL en1129) l).map fun _=>l:=by intro l; kernel_rfl
theorem rf30:allB (flat 4) (entL en1129)=true:=by kernel_rfl
theorem rr31:∀ l,callR (memoC cx fs L31 []) 400 (entF en1130) (entL en1130) l=some (entV en1130):=by intro l; kernel_rfl
theorem ra31:∀ l,callAsk (memoC cx fs L31 []) 400 (entF en1130) (entL en1130) l=(callAsk (memoC cx fs L31 []) 400 (entF en1130) (entL en1130) l).map fun _=>l:=by intro l; kernel_rfl
theorem rf31:allB (flat 4) (entL en1130)=true:=by kernel_rfl
theorem c32:chk cx fs L32 gr32 []=true:=by kernel_rfl
end Go.Proofs.YtdomagdnaohpbaaGreatDoor.cutRun
