/- Pieces of a run. (Printed by a program.) -/
import Derived.Test.YtimlfkfcmobdcaaGreatImageSt1
set_option maxRecDepth 100000
namespace Go.Proofs.YtimlfkfcmobdcaaGreat.imageRun
open Go Go.Abs
theorem c12 : ms 6475 m12 = m13 := by kernel_rfl
theorem c13 : ms 4350 m13 = m14 := by kernel_rfl
end Go.Proofs.YtimlfkfcmobdcaaGreat.imageRun
