/- Pieces of a run. (Printed by a program.) -/
import Derived.Test.YtimlfkfcmobdcaaGreatImageSt2
set_option maxRecDepth 100000
namespace Go.Proofs.YtimlfkfcmobdcaaGreat.imageRun
open Go Go.Abs
theorem c20 : ms 3075 m20 = m21 := by kernel_rfl
theorem c21 : ms 2450 m21 = m22 := by kernel_rfl
end Go.Proofs.YtimlfkfcmobdcaaGreat.imageRun
