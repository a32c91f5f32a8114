/- Pieces of a run. (Printed by a program.) -/
import Derived.Test.YtimlfkfcmobdcaaGreatImageSt2
set_option maxRecDepth 100000
namespace Go.Proofs.YtimlfkfcmobdcaaGreat.imageRun
open Go Go.Abs
theorem c16 : ms 4075 m16 = m17 := by kernel_rfl
theorem c17 : ms 17050 m17 = m18 := by kernel_rfl
end Go.Proofs.YtimlfkfcmobdcaaGreat.imageRun
