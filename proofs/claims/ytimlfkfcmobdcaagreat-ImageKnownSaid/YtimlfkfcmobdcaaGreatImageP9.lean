/- Pieces of a run. (Printed by a program.) -/
import Derived.Test.YtimlfkfcmobdcaaGreatImageSt2
set_option maxRecDepth 100000
namespace Go.Proofs.YtimlfkfcmobdcaaGreat.imageRun
open Go Go.Abs
theorem c18 : ms 6175 m18 = m19 := by kernel_rfl
theorem c19 : ms 5125 m19 = m20 := by kernel_rfl
end Go.Proofs.YtimlfkfcmobdcaaGreat.imageRun
