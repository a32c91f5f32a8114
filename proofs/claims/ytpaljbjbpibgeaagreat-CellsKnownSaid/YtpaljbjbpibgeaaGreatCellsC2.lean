/- A piece of a run. (Printed by a program.) -/
import Derived.Test.YtpaljbjbpibgeaaGreatCellsS3
set_option maxRecDepth 100000
namespace Go.Proofs.YtpaljbjbpibgeaaGreat.cellsRun
open Go Go.Abs
theorem c2 : ms 10225 m2 = m3 := by kernel_rfl
end Go.Proofs.YtpaljbjbpibgeaaGreat.cellsRun
