/- Pieces of a run. (Printed by a program.) -/
import Derived.Test.YtimlfkfcmobdcaaGreatImageSt1
set_option maxRecDepth 100000
namespace Go.Proofs.YtimlfkfcmobdcaaGreat.imageRun
open Go Go.Abs
theorem c2 : ms 4600 m2 = m3 := by kernel_rfl
theorem c3 : ms 2250 m3 = m4 := by kernel_rfl
end Go.Proofs.YtimlfkfcmobdcaaGreat.imageRun
