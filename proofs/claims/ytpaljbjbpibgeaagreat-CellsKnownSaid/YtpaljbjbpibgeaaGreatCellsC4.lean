/- A piece of a run. (Printed by a program.) -/
import Derived.Test.YtpaljbjbpibgeaaGreatCellsS5
set_option maxRecDepth 100000
namespace Go.Proofs.YtpaljbjbpibgeaaGreat.cellsRun
open Go Go.Abs
theorem c4 : ms 7750 m4 = m5 := by kernel_rfl
end Go.Proofs.YtpaljbjbpibgeaaGreat.cellsRun
