/- Pieces of a run. (Printed by a program.) -/
import Derived.Test.YtimlfkfcmobdcaaGreatImageSt2
set_option maxRecDepth 100000
namespace Go.Proofs.YtimlfkfcmobdcaaGreat.imageRun
open Go Go.Abs
theorem c22 : ms 2800 m22 = m23 := by kernel_rfl
theorem c23 : ms 14350 m23 = m24 := by kernel_rfl
end Go.Proofs.YtimlfkfcmobdcaaGreat.imageRun
