/- The pieces of the run together: what the call comes to. (Printed by a program.) -/
import Derived.Test.YtcgnkejpcjcaoaaGreatMid373P0
import Derived.Test.YtcgnkejpcjcaoaaGreatMid373P1
import Derived.Test.YtcgnkejpcjcaoaaGreatMid373P2
set_option maxRecDepth 100000
namespace Go.Proofs.YtcgnkejpcjcaoaaGreat.mid373Run
open Go Go.Abs
theorem one_ok {C:Cx} {fs:List Nat} {G:List (Nat×List Ent)} (hm:C.P.follows .mixedOrders=true) (h:ExtOk C) (hG:AllVals C G) (m:Nat) (e:Ent) {rd:Option (List Nat)} (hc:∃ n,Go.Abs.call (memoC C fs G []) n (entF e) (entL e)=.value (entV e) rd)
    (h2:allB (flat 4) (entL e)=true) (h3:flat 4 (entV e)=true):AllVals C ((m,[e])::G) := by
  obtain ⟨n,hc⟩:=hc
  intro g hg
  rcases List.mem_cons.1 hg with rfl | hg
  · intro e' he'
    rcases List.mem_cons.1 he' with rfl | he'
    · exact fun X j w args hX hr => call_soundX (C:=memoC C fs G []) hm (memo_ext fs h hG (fun e he => by cases he)) hc h2 h3 hX hr
    · cases he'
  · exact hG g hg
noncomputable def R:CR:=.value (entV Go.Proofs.YtcgnkejpcjcaoaaGreat.boundRun.en373) ((some []))
theorem d3:Den cx (.fin (.value (entV Go.Proofs.YtcgnkejpcjcaoaaGreat.boundRun.en373) ((some [])))) R:=rfl
theorem d2:Den cx m2 R:=piece c2 d3
theorem d1:Den cx m1 R:=piece c1 d2
theorem d0:Den cx m0 R:=piece c0 d1
theorem ran:∃ n,Go.Abs.call cx n (entF Go.Proofs.YtcgnkejpcjcaoaaGreat.boundRun.en373) (entL Go.Proofs.YtcgnkejpcjcaoaaGreat.boundRun.en373)=.value (entV Go.Proofs.YtcgnkejpcjcaoaaGreat.boundRun.en373) ((some [])):=start_ok (by kernel_rfl) d0
theorem fl:allB (flat 4) (entL Go.Proofs.YtcgnkejpcjcaoaaGreat.boundRun.en373)=true:=by kernel_rfl
theorem fv:flat 4 (entV Go.Proofs.YtcgnkejpcjcaoaaGreat.boundRun.en373)=true:=by kernel_rfl
end Go.Proofs.YtcgnkejpcjcaoaaGreat.mid373Run
