/- A piece of a run. (Printed by a program.) -/
import Derived.Test.YtpaljbjbpibgeaaGreatDoorSolidS1
set_option maxRecDepth 100000
namespace Go.Proofs.YtpaljbjbpibgeaaGreatDoor.solidRun
open Go Go.Abs
theorem c0 : ms 12500 m0 = m1 := by kernel_rfl
end Go.Proofs.YtpaljbjbpibgeaaGreatDoor.solidRun
