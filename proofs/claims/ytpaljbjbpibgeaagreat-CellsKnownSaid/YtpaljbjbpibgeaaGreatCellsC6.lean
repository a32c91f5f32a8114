/- A piece of a run. (Printed by a program.) -/
import Derived.Test.YtpaljbjbpibgeaaGreatCellsS7
set_option maxRecDepth 100000
namespace Go.Proofs.YtpaljbjbpibgeaaGreat.cellsRun
open Go Go.Abs
theorem c6 : ms 5800 m6 = m7 := by kernel_rfl
end Go.Proofs.YtpaljbjbpibgeaaGreat.cellsRun
