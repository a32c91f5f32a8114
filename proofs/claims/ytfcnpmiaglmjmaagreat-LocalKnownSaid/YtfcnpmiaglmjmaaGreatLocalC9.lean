/- A piece of a run. (Printed by a program.) -/
import Derived.Test.YtfcnpmiaglmjmaaGreatLocalS10
set_option maxRecDepth 100000
namespace Go.Proofs.YtfcnpmiaglmjmaaGreat.localRun
open Go Go.Abs
theorem c9 : ms 23800 m9 = m10 := by kernel_rfl
end Go.Proofs.YtfcnpmiaglmjmaaGreat.localRun
