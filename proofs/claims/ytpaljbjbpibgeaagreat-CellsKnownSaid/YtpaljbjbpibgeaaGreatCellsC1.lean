/- A piece of a run. (Printed by a program.) -/
import Derived.Test.YtpaljbjbpibgeaaGreatCellsS2
set_option maxRecDepth 100000
namespace Go.Proofs.YtpaljbjbpibgeaaGreat.cellsRun
open Go Go.Abs
theorem c1 : ms 9400 m1 = m2 := by kernel_rfl
end Go.Proofs.YtpaljbjbpibgeaaGreat.cellsRun
