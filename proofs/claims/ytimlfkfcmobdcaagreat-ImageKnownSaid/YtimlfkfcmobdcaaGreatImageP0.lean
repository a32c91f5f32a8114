/- Pieces of a run. (Printed by a program.) -/
import Derived.Test.YtimlfkfcmobdcaaGreatImageSt1
set_option maxRecDepth 100000
namespace Go.Proofs.YtimlfkfcmobdcaaGreat.imageRun
open Go Go.Abs
theorem c0 : ms 7275 m0 = m1 := by kernel_rfl
theorem c1 : ms 6725 m1 = m2 := by kernel_rfl
end Go.Proofs.YtimlfkfcmobdcaaGreat.imageRun
