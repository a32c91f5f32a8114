/- The pieces of the run together: what the call comes to. (Printed by a program.) -/
import Derived.Test.YtpaljbjbpibgeaaGreatDoorSolidC0
import Derived.Test.YtpaljbjbpibgeaaGreatDoorSolidC1
import Derived.Test.YtpaljbjbpibgeaaGreatDoorSolidC2
import Derived.Test.YtpaljbjbpibgeaaGreatDoorSolidC3
import Derived.Test.YtpaljbjbpibgeaaGreatDoorSolidC4
import Derived.Test.YtpaljbjbpibgeaaGreatDoorSolidC5
set_option maxRecDepth 100000
namespace Go.Proofs.YtpaljbjbpibgeaaGreatDoor.solidRun
open Go Go.Abs
def R : CR := .value (.v (.bool true)) (some [])
theorem d6 : Den cx m6 R := Eq.mpr (show Den cx m6 R = (R = R) by kernel_rfl) rfl
theorem d5 : Den cx m5 R := piece c5 d6
theorem d4 : Den cx m4 R := piece c4 d5
theorem d3 : Den cx m3 R := piece c3 d4
theorem d2 : Den cx m2 R := piece c2 d3
theorem d1 : Den cx m1 R := piece c1 d2
theorem d0 : Den cx m0 R := piece c0 d1
theorem ran : ∃ n, Go.Abs.call cx n 3 [] = .value (.v (.bool true)) (some []) := start_ok (by kernel_rfl) d0
end Go.Proofs.YtpaljbjbpibgeaaGreatDoor.solidRun
