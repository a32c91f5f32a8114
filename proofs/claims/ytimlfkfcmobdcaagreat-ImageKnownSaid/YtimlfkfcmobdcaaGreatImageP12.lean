/- Pieces of a run. (Printed by a program.) -/
import Derived.Test.YtimlfkfcmobdcaaGreatImageSt2
set_option maxRecDepth 100000
namespace Go.Proofs.YtimlfkfcmobdcaaGreat.imageRun
open Go Go.Abs
theorem c24 : ms 4825 m24 = m25 := by kernel_rfl
end Go.Proofs.YtimlfkfcmobdcaaGreat.imageRun
