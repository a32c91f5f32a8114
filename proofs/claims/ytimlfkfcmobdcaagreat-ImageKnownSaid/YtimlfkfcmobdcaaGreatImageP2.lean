/- Pieces of a run. (Printed by a program.) -/
import Derived.Test.YtimlfkfcmobdcaaGreatImageSt1
set_option maxRecDepth 100000
namespace Go.Proofs.YtimlfkfcmobdcaaGreat.imageRun
open Go Go.Abs
theorem c4 : ms 8550 m4 = m5 := by kernel_rfl
theorem c5 : ms 16825 m5 = m6 := by kernel_rfl
end Go.Proofs.YtimlfkfcmobdcaaGreat.imageRun
