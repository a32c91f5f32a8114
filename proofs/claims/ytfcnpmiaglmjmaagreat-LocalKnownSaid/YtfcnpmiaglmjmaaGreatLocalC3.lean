/- A piece of a run. (Printed by a program.) -/
import Derived.Test.YtfcnpmiaglmjmaaGreatLocalS4
set_option maxRecDepth 100000
namespace Go.Proofs.YtfcnpmiaglmjmaaGreat.localRun
open Go Go.Abs
theorem c3 : ms 16775 m3 = m4 := by kernel_rfl
end Go.Proofs.YtfcnpmiaglmjmaaGreat.localRun
