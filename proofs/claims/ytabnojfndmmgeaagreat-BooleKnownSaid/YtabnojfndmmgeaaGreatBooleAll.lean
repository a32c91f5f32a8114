/- The calls together: what the law comes to. (Printed by a program.) -/
import Derived.Test.YtabnojfndmmgeaaGreatBooleP0
import Derived.Test.YtabnojfndmmgeaaGreatBooleP1
import Derived.Test.YtabnojfndmmgeaaGreatBooleP2
import Derived.Test.YtabnojfndmmgeaaGreatBooleP3
import Derived.Test.YtabnojfndmmgeaaGreatBooleP4
import Derived.Test.YtabnojfndmmgeaaGreatBooleP5
import Derived.Test.YtabnojfndmmgeaaGreatBooleP6
import Derived.Test.YtabnojfndmmgeaaGreatBooleP7
import Derived.Test.YtabnojfndmmgeaaGreatMid1744All
set_option maxRecDepth 100000
set_option linter.unusedVariables false
namespace Go.Proofs.YtabnojfndmmgeaaGreat.booleRun
open Go Go.Abs
theorem ok0:AllVals cx L0:=vals_nil
theorem ok1:AllVals cx L1:=chk_ok (fs:=fs) Go.Proofs.YtabnojfndmmgeaaGreat.num.mixed extX ok0 _ gr0 c0
theorem ok2:AllVals cx L2:=chk_ok (fs:=fs) Go.Proofs.YtabnojfndmmgeaaGreat.num.mixed extX ok1 _ gr1 c1
theorem ok3:AllVals cx L3:=chk_ok (fs:=fs) Go.Proofs.YtabnojfndmmgeaaGreat.num.mixed extX ok2 _ gr2 c2
theorem ok4:AllVals cx L4:=chk_ok (fs:=fs) Go.Proofs.YtabnojfndmmgeaaGreat.num.mixed extX ok3 _ gr3 c3
theorem ok5:AllVals cx L5:=chk_ok (fs:=fs) Go.Proofs.YtabnojfndmmgeaaGreat.num.mixed extX ok4 _ gr4 c4
theorem ok6:AllVals cx L6:=chk_ok (fs:=fs) Go.Proofs.YtabnojfndmmgeaaGreat.num.mixed extX ok5 _ gr5 c5
theorem ok7:AllVals cx L7:=chk_ok (fs:=fs) Go.Proofs.YtabnojfndmmgeaaGreat.num.mixed extX ok6 _ gr6 c6
theorem ok8:AllVals cx L8:=chk_ok (fs:=fs) Go.Proofs.YtabnojfndmmgeaaGreat.num.mixed extX ok7 _ gr7 c7
theorem ok9:AllVals cx L9:=chk_ok (fs:=fs) Go.Proofs.YtabnojfndmmgeaaGreat.num.mixed extX ok8 _ gr8 c8
theorem ok10:AllVals cx L10:=chk_ok (fs:=fs) Go.Proofs.YtabnojfndmmgeaaGreat.num.mixed extX ok9 _ gr9 c9
theorem ok11:AllVals cx L11:=chk_ok (fs:=fs) Go.Proofs.YtabnojfndmmgeaaGreat.num.mixed extX ok10 _ gr10 c10
theorem ok12:AllVals cx L12:=chk_ok (fs:=fs) Go.Proofs.YtabnojfndmmgeaaGreat.num.mixed extX ok11 _ gr11 c11
theorem ok13:AllVals cx L13:=chk_ok (fs:=fs) Go.Proofs.YtabnojfndmmgeaaGreat.num.mixed extX ok12 _ gr12 c12
theorem ok14:AllVals cx L14:=chk_ok (fs:=fs) Go.Proofs.YtabnojfndmmgeaaGreat.num.mixed extX ok13 _ gr13 c13
theorem ok15:AllVals cx L15:=chk_ok (fs:=fs) Go.Proofs.YtabnojfndmmgeaaGreat.num.mixed extX ok14 _ gr14 c14
theorem ok16:AllVals cx L16:=chk_ok (fs:=fs) Go.Proofs.YtabnojfndmmgeaaGreat.num.mixed extX ok15 _ gr15 c15
theorem ok17:AllVals cx L17:=chk_ok (fs:=fs) Go.Proofs.YtabnojfndmmgeaaGreat.num.mixed extX ok16 _ gr16 c16
theorem ok18:AllVals cx L18:=chk_ok (fs:=fs) Go.Proofs.YtabnojfndmmgeaaGreat.num.mixed extX ok17 _ gr17 c17
theorem ok19:AllVals cx L19:=chk_ok (fs:=fs) Go.Proofs.YtabnojfndmmgeaaGreat.num.mixed extX ok18 _ gr18 c18
theorem ok20:AllVals cx L20:=chk_ok (fs:=fs) Go.Proofs.YtabnojfndmmgeaaGreat.num.mixed extX ok19 _ gr19 c19
theorem ok21:AllVals cx L21:=chk_ok (fs:=fs) Go.Proofs.YtabnojfndmmgeaaGreat.num.mixed extX ok20 _ gr20 c20
theorem ok22:AllVals cx L22:=chk_ok (fs:=fs) Go.Proofs.YtabnojfndmmgeaaGreat.num.mixed extX ok21 _ gr21 c21
theorem ok23:AllVals cx L23:=chk_ok (fs:=fs) Go.Proofs.YtabnojfndmmgeaaGreat.num.mixed extX ok22 _ gr22 c22
theorem ok24:AllVals cx L24:=chk_ok (fs:=fs) Go.Proofs.YtabnojfndmmgeaaGreat.num.mixed extX ok23 _ gr23 c23
theorem ok25:AllVals cx L25:=chk_ok (fs:=fs) Go.Proofs.YtabnojfndmmgeaaGreat.num.mixed extX ok24 _ gr24 c24
theorem ok26:AllVals cx L26:=chk_ok (fs:=fs) Go.Proofs.YtabnojfndmmgeaaGreat.num.mixed extX ok25 _ gr25 c25
theorem ok27:AllVals cx L27:=chk_ok (fs:=fs) Go.Proofs.YtabnojfndmmgeaaGreat.num.mixed extX ok26 _ gr26 c26
theorem ok28:AllVals cx L28:=chk_ok (fs:=fs) Go.Proofs.YtabnojfndmmgeaaGreat.num.mixed extX ok27 _ gr27 c27
theorem ok29:AllVals cx L29:=Go.Proofs.YtabnojfndmmgeaaGreat.mid1744Run.one_ok Go.Proofs.YtabnojfndmmgeaaGreat.num.mixed extX ok28 _ en1744 Go.Proofs.YtabnojfndmmgeaaGreat.mid1744Run.ran Go.Proofs.YtabnojfndmmgeaaGreat.mid1744Run.fl Go.Proofs.YtabnojfndmmgeaaGreat.mid1744Run.fv
theorem ok30:AllVals cx L30:=chk_ok (fs:=fs) Go.Proofs.YtabnojfndmmgeaaGreat.num.mixed extX ok29 _ gr29 c29
theorem ok31:AllVals cx L31:=chk_ok (fs:=fs) Go.Proofs.YtabnojfndmmgeaaGreat.num.mixed extX ok30 _ gr30 c30
noncomputable abbrev cxL:Cx:=memoC cx fs L31 []
theorem extL:ExtOk cxL:=memo_ext fs extX ok31 (fun e he=>by cases he)
theorem ran:∃ n,Go.Abs.call cxL n 3 []=.value (.v (.bool true)) ((some [])):=⟨3000,by rw [← Fast.call_e]; exact last⟩
end Go.Proofs.YtabnojfndmmgeaaGreat.booleRun
