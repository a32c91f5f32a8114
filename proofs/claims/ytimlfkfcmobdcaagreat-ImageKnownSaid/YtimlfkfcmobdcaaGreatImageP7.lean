/- Pieces of a run. (Printed by a program.) -/
import Derived.Test.YtimlfkfcmobdcaaGreatImageSt2
set_option maxRecDepth 100000
namespace Go.Proofs.YtimlfkfcmobdcaaGreat.imageRun
open Go Go.Abs
theorem c14 : ms 1975 m14 = m15 := by kernel_rfl
theorem c15 : ms 3450 m15 = m16 := by kernel_rfl
end Go.Proofs.YtimlfkfcmobdcaaGreat.imageRun
