/- Pieces of a run. (Printed by a program.) -/
import Derived.Test.YtabnojfndmmgeaaGreatMid1744Base
set_option maxRecDepth 100000
namespace Go.Proofs.YtabnojfndmmgeaaGreat.mid1744Run
open Go Go.Abs
theorem c1:ms 14025 Go.Proofs.YtabnojfndmmgeaaGreat.booleRun.m1=.fin (.value (entV Go.Proofs.YtabnojfndmmgeaaGreat.booleRun.en1744) ((some []))):=by kernel_rfl
end Go.Proofs.YtabnojfndmmgeaaGreat.mid1744Run
