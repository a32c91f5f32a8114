/- A piece of a run. (Printed by a program.) -/
import Derived.Test.YtfcnpmiaglmjmaaGreatLocalS7
set_option maxRecDepth 100000
namespace Go.Proofs.YtfcnpmiaglmjmaaGreat.localRun
open Go Go.Abs
theorem c6 : ms 5250 m6 = m7 := by kernel_rfl
end Go.Proofs.YtfcnpmiaglmjmaaGreat.localRun
