/- Pieces of a run. (Printed by a program.) -/
import Derived.Test.YtimlfkfcmobdcaaGreatImageSt1
set_option maxRecDepth 100000
namespace Go.Proofs.YtimlfkfcmobdcaaGreat.imageRun
open Go Go.Abs
theorem c8 : ms 2400 m8 = m9 := by kernel_rfl
theorem c9 : ms 3800 m9 = m10 := by kernel_rfl
end Go.Proofs.YtimlfkfcmobdcaaGreat.imageRun
