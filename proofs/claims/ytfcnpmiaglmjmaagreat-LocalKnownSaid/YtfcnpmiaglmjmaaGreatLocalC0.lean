/- A piece of a run. (Printed by a program.) -/
import Derived.Test.YtfcnpmiaglmjmaaGreatLocalS1
set_option maxRecDepth 100000
namespace Go.Proofs.YtfcnpmiaglmjmaaGreat.localRun
open Go Go.Abs
theorem c0 : ms 8725 m0 = m1 := by kernel_rfl
end Go.Proofs.YtfcnpmiaglmjmaaGreat.localRun
