/- A piece of a run. (Printed by a program.) -/
import Derived.Test.YtfcnpmiaglmjmaaGreatLocalS6
set_option maxRecDepth 100000
namespace Go.Proofs.YtfcnpmiaglmjmaaGreat.localRun
open Go Go.Abs
theorem c5 : ms 7950 m5 = m6 := by kernel_rfl
end Go.Proofs.YtfcnpmiaglmjmaaGreat.localRun
