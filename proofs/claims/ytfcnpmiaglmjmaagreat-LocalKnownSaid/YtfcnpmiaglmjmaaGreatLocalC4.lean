/- A piece of a run. (Printed by a program.) -/
import Derived.Test.YtfcnpmiaglmjmaaGreatLocalS5
set_option maxRecDepth 100000
namespace Go.Proofs.YtfcnpmiaglmjmaaGreat.localRun
open Go Go.Abs
theorem c4 : ms 8825 m4 = m5 := by kernel_rfl
end Go.Proofs.YtfcnpmiaglmjmaaGreat.localRun
