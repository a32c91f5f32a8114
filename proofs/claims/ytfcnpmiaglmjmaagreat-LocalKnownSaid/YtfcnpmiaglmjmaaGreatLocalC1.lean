/- A piece of a run. (Printed by a program.) -/
import Derived.Test.YtfcnpmiaglmjmaaGreatLocalS2
set_option maxRecDepth 100000
namespace Go.Proofs.YtfcnpmiaglmjmaaGreat.localRun
open Go Go.Abs
theorem c1 : ms 7675 m1 = m2 := by kernel_rfl
end Go.Proofs.YtfcnpmiaglmjmaaGreat.localRun
