/- Pieces of a run. (Printed by a program.) -/
import Derived.Test.YtimlfkfcmobdcaaGreatImageSt1
set_option maxRecDepth 100000
namespace Go.Proofs.YtimlfkfcmobdcaaGreat.imageRun
open Go Go.Abs
theorem c10 : ms 15500 m10 = m11 := by kernel_rfl
theorem c11 : ms 7375 m11 = m12 := by kernel_rfl
end Go.Proofs.YtimlfkfcmobdcaaGreat.imageRun
