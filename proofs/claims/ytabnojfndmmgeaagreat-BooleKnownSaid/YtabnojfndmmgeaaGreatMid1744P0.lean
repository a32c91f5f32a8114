/- Pieces of a run. (Printed by a program.) -/
import Derived.Test.YtabnojfndmmgeaaGreatMid1744Base
set_option maxRecDepth 100000
namespace Go.Proofs.YtabnojfndmmgeaaGreat.mid1744Run
open Go Go.Abs
theorem c0:ms 41600 m0=Go.Proofs.YtabnojfndmmgeaaGreat.booleRun.m1:=by kernel_rfl
end Go.Proofs.YtabnojfndmmgeaaGreat.mid1744Run
