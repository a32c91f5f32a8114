/- slices.Clip of bytes in the heap: the same bytes, no room behind them. The library's text is walked. -/
import Derived.Test.YtdomagdnaohpbaaGreatDoorProg
import Derived.WalkKit
set_option linter.unusedVariables false
namespace Go.Proofs
set_option maxHeartbeats 1000000 in
theorem JS (B o len c:Nat) (h1:len≤c) (w:World) :
    Calls Tryz.prog 153 #[.slice (some ⟨B,o,none⟩) len c] w fun e w'=>e=.returned (.slice (some ⟨B,o,none⟩) len len)∧w'=w:=by
  go_enter Tryz.func153,Tryz.ntmps153
  go_wp2
  go_ret
  exact ⟨rfl,rfl⟩
end Go.Proofs
