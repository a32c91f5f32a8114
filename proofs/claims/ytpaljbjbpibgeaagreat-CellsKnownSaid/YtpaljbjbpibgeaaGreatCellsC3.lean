/- A piece of a run. (Printed by a program.) -/
import Derived.Test.YtpaljbjbpibgeaaGreatCellsS4
set_option maxRecDepth 100000
namespace Go.Proofs.YtpaljbjbpibgeaaGreat.cellsRun
open Go Go.Abs
theorem c3 : ms 8250 m3 = m4 := by kernel_rfl
end Go.Proofs.YtpaljbjbpibgeaaGreat.cellsRun
