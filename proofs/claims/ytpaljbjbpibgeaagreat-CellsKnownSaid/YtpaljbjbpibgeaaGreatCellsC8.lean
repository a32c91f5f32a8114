/- A piece of a run. (Printed by a program.) -/
import Derived.Test.YtpaljbjbpibgeaaGreatCellsS9
set_option maxRecDepth 100000
namespace Go.Proofs.YtpaljbjbpibgeaaGreat.cellsRun
open Go Go.Abs
theorem c8 : ms 1000 m8 = m9 := by kernel_rfl
end Go.Proofs.YtpaljbjbpibgeaaGreat.cellsRun
