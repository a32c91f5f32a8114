/- A piece of a run. (Printed by a program.) -/
import Derived.Test.YtpaljbjbpibgeaaGreatDoorSolidS2
set_option maxRecDepth 100000
namespace Go.Proofs.YtpaljbjbpibgeaaGreatDoor.solidRun
open Go Go.Abs
theorem c1 : ms 14350 m1 = m2 := by kernel_rfl
end Go.Proofs.YtpaljbjbpibgeaaGreatDoor.solidRun
