/- A piece of a run. (Printed by a program.) -/
import Derived.Test.YtfcnpmiaglmjmaaGreatLocalS3
set_option maxRecDepth 100000
namespace Go.Proofs.YtfcnpmiaglmjmaaGreat.localRun
open Go Go.Abs
theorem c2 : ms 14700 m2 = m3 := by kernel_rfl
end Go.Proofs.YtfcnpmiaglmjmaaGreat.localRun
