/- A piece of a run. (Printed by a program.) -/
import Derived.Test.YtfcnpmiaglmjmaaGreatLocalS9
set_option maxRecDepth 100000
namespace Go.Proofs.YtfcnpmiaglmjmaaGreat.localRun
open Go Go.Abs
theorem c8 : ms 36100 m8 = m9 := by kernel_rfl
end Go.Proofs.YtfcnpmiaglmjmaaGreat.localRun
