/- A piece of a run. (Printed by a program.) -/
import Derived.Test.YtpaljbjbpibgeaaGreatCellsS8
set_option maxRecDepth 100000
namespace Go.Proofs.YtpaljbjbpibgeaaGreat.cellsRun
open Go Go.Abs
theorem c7 : ms 5225 m7 = m8 := by kernel_rfl
end Go.Proofs.YtpaljbjbpibgeaaGreat.cellsRun
