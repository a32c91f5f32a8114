/- A piece of a run. (Printed by a program.) -/
import Derived.Test.YtpaljbjbpibgeaaGreatDoorSolidS3
set_option maxRecDepth 100000
namespace Go.Proofs.YtpaljbjbpibgeaaGreatDoor.solidRun
open Go Go.Abs
theorem c2 : ms 13525 m2 = m3 := by kernel_rfl
end Go.Proofs.YtpaljbjbpibgeaaGreatDoor.solidRun
