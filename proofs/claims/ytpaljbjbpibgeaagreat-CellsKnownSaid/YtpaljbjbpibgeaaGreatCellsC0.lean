/- A piece of a run. (Printed by a program.) -/
import Derived.Test.YtpaljbjbpibgeaaGreatCellsS1
set_option maxRecDepth 100000
namespace Go.Proofs.YtpaljbjbpibgeaaGreat.cellsRun
open Go Go.Abs
theorem c0 : ms 4550 m0 = m1 := by kernel_rfl
end Go.Proofs.YtpaljbjbpibgeaaGreat.cellsRun
