/- One call of the table, run in pieces: the context. (Printed by a program.) -/
import Derived.Test.YtabnojfndmmgeaaGreatBooleTab
import Derived.Test.YtabnojfndmmgeaaGreatEvMachOk
set_option linter.unusedVariables false
namespace Go.Proofs.YtabnojfndmmgeaaGreat.mid1744Run
open Go Go.Abs
noncomputable abbrev cx:Cx:=memoC Go.Proofs.YtabnojfndmmgeaaGreat.booleRun.cx Go.Proofs.YtabnojfndmmgeaaGreat.booleRun.fs Go.Proofs.YtabnojfndmmgeaaGreat.booleRun.L28 []
/-- The functions that the machine itself enters. -/
noncomputable def sp:Nat→Bool:=fun f=>memN f [69, 86, 87, 107, 132, 158, 159, 160, 161, 162, 163, 164, 165, 177, 178, 179, 181]
noncomputable def ms (n:Nat) (m:M):M:=msteps cx (Fast.run cx 3000) sp n m
noncomputable def m0:M:=startM cx (entF Go.Proofs.YtabnojfndmmgeaaGreat.booleRun.en1744) (entL Go.Proofs.YtabnojfndmmgeaaGreat.booleRun.en1744)
theorem piece {n:Nat} {a b:M} {r:CR} (h:ms n a=b) (hb:Den cx b r):Den cx a r:=msteps_ok n (h ▸ hb)
end Go.Proofs.YtabnojfndmmgeaaGreat.mid1744Run
