/- A piece of a run. (Printed by a program.) -/
import Derived.Test.YtpaljbjbpibgeaaGreatDoorSolidS4
set_option maxRecDepth 100000
namespace Go.Proofs.YtpaljbjbpibgeaaGreatDoor.solidRun
open Go Go.Abs
theorem c3 : ms 13025 m3 = m4 := by kernel_rfl
end Go.Proofs.YtpaljbjbpibgeaaGreatDoor.solidRun
