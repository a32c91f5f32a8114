/- The calls together: what the law comes to. (Printed by a program.) -/
import Derived.Test.YtcgnkejpcjcaoaaGreatBoundP0
import Derived.Test.YtcgnkejpcjcaoaaGreatBoundP1
import Derived.Test.YtcgnkejpcjcaoaaGreatBoundP2
import Derived.Test.YtcgnkejpcjcaoaaGreatBoundP3
import Derived.Test.YtcgnkejpcjcaoaaGreatBoundP4
import Derived.Test.YtcgnkejpcjcaoaaGreatBoundP5
import Derived.Test.YtcgnkejpcjcaoaaGreatBoundP6
import Derived.Test.YtcgnkejpcjcaoaaGreatMid373All
set_option maxRecDepth 100000
set_option linter.unusedVariables false
namespace Go.Proofs.YtcgnkejpcjcaoaaGreat.boundRun
open Go Go.Abs
theorem ok0:AllVals cx L0:=vals_nil
theorem ok1:AllVals cx L1:=chk_ok (fs:=fs) Go.Proofs.YtcgnkejpcjcaoaaGreat.num.mixed extX ok0 _ gr0 c0
theorem ok2:AllVals cx L2:=chk_ok (fs:=fs) Go.Proofs.YtcgnkejpcjcaoaaGreat.num.mixed extX ok1 _ gr1 c1
theorem ok3:AllVals cx L3:=chk_ok (fs:=fs) Go.Proofs.YtcgnkejpcjcaoaaGreat.num.mixed extX ok2 _ gr2 c2
theorem ok4:AllVals cx L4:=chk_ok (fs:=fs) Go.Proofs.YtcgnkejpcjcaoaaGreat.num.mixed extX ok3 _ gr3 c3
theorem ok5:AllVals cx L5:=chk_ok (fs:=fs) Go.Proofs.YtcgnkejpcjcaoaaGreat.num.mixed extX ok4 _ gr4 c4
theorem ok6:AllVals cx L6:=Go.Proofs.YtcgnkejpcjcaoaaGreat.mid373Run.one_ok Go.Proofs.YtcgnkejpcjcaoaaGreat.num.mixed extX ok5 _ en373 Go.Proofs.YtcgnkejpcjcaoaaGreat.mid373Run.ran Go.Proofs.YtcgnkejpcjcaoaaGreat.mid373Run.fl Go.Proofs.YtcgnkejpcjcaoaaGreat.mid373Run.fv
theorem ok7:AllVals cx L7:=chk_ok (fs:=fs) Go.Proofs.YtcgnkejpcjcaoaaGreat.num.mixed extX ok6 _ gr6 c6
theorem ok8:AllVals cx L8:=chk_ok (fs:=fs) Go.Proofs.YtcgnkejpcjcaoaaGreat.num.mixed extR ok7 _ gr7 c7
theorem ok9:AllVals cx L9:=chk_ok (fs:=fs) Go.Proofs.YtcgnkejpcjcaoaaGreat.num.mixed extX ok8 _ gr8 c8
theorem ok10:AllVals cx L10:=chk_ok (fs:=fs) Go.Proofs.YtcgnkejpcjcaoaaGreat.num.mixed extR ok9 _ gr9 c9
theorem ok11:AllVals cx L11:=chk_ok (fs:=fs) Go.Proofs.YtcgnkejpcjcaoaaGreat.num.mixed extX ok10 _ gr10 c10
theorem ok12:AllVals cx L12:=chk_ok (fs:=fs) Go.Proofs.YtcgnkejpcjcaoaaGreat.num.mixed extR ok11 _ gr11 c11
theorem ok13:AllVals cx L13:=chk_ok (fs:=fs) Go.Proofs.YtcgnkejpcjcaoaaGreat.num.mixed extX ok12 _ gr12 c12
noncomputable abbrev cxL:Cx:=memoC cx fs L13 []
theorem extL:ExtOk cxL:=memo_ext fs extX ok13 (fun e he=>by cases he)
theorem ran:∃ n,Go.Abs.call cxL n 4 []=.value (.v (.bool true)) ((some [])):=⟨3000,by rw [← Fast.call_e]; exact last⟩
end Go.Proofs.YtcgnkejpcjcaoaaGreat.boundRun
