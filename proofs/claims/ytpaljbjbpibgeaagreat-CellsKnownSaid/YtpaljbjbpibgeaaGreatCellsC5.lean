/- A piece of a run. (Printed by a program.) -/
import Derived.Test.YtpaljbjbpibgeaaGreatCellsS6
set_option maxRecDepth 100000
namespace Go.Proofs.YtpaljbjbpibgeaaGreat.cellsRun
open Go Go.Abs
theorem c5 : ms 7900 m5 = m6 := by kernel_rfl
end Go.Proofs.YtpaljbjbpibgeaaGreat.cellsRun
