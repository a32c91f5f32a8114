/- A piece of a run. (Printed by a program.) -/
import Derived.Test.YtfcnpmiaglmjmaaGreatLocalS8
set_option maxRecDepth 100000
namespace Go.Proofs.YtfcnpmiaglmjmaaGreat.localRun
open Go Go.Abs
theorem c7 : ms 10850 m7 = m8 := by kernel_rfl
end Go.Proofs.YtfcnpmiaglmjmaaGreat.localRun
