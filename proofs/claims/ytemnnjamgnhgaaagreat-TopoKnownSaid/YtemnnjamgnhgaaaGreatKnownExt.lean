/- THE EVALUATOR's CONTEXT for this program: the functions on small numbers are answered; which functions hand back what a caller writes. -/
import Derived.Test.YtemnnjamgnhgaaaGreatFrac
namespace Go.Proofs.YtemnnjamgnhgaaaGreat.known
open Go.Abs

/-- Functions whose result its caller may write. -/
noncomputable def nf : Nat → Bool := fun f => memN f [99, 131, 181, 216, 126, 254, 45, 144]
noncomputable def cx0 : Cx := { P := Tryz.prog, ext := extOf num.E0, nf := nf, hb := fun t => Nat.beq t 154 }
theorem ext0 : ExtOk cx0 := extOk_all (P := Tryz.prog) rfl rfl num.all_ok
end Go.Proofs.YtemnnjamgnhgaaaGreat.known
