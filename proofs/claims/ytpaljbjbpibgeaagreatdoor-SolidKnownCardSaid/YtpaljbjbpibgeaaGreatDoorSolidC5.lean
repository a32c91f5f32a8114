/- A piece of a run. (Printed by a program.) -/
import Derived.Test.YtpaljbjbpibgeaaGreatDoorSolidS6
set_option maxRecDepth 100000
namespace Go.Proofs.YtpaljbjbpibgeaaGreatDoor.solidRun
open Go Go.Abs
theorem c5 : ms 20925 m5 = m6 := by kernel_rfl
end Go.Proofs.YtpaljbjbpibgeaaGreatDoor.solidRun
