/- Pieces of a run. (Printed by a program.) -/
import Derived.Test.YtimlfkfcmobdcaaGreatImageSt1
set_option maxRecDepth 100000
namespace Go.Proofs.YtimlfkfcmobdcaaGreat.imageRun
open Go Go.Abs
theorem c6 : ms 6900 m6 = m7 := by kernel_rfl
theorem c7 : ms 4775 m7 = m8 := by kernel_rfl
end Go.Proofs.YtimlfkfcmobdcaaGreat.imageRun
