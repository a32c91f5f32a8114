/- One call of the table, run in pieces: the context, the pieces, what the call comes to. (Printed by a program.) -/
import Derived.Test.YtdomagdnaohpbaaGreatDoorCutTab
import Derived.Test.YtdomagdnaohpbaaGreatDoorEvMachOk
import Derived.Test.YtdomagdnaohpbaaGreatDoorEvEqZ
set_option linter.unusedVariables false
set_option maxRecDepth 100000
namespace Go.Proofs.YtdomagdnaohpbaaGreatDoor.mid432Run
open Go Go.Abs Go.Abs.Cmpd Go.Proofs.YtdomagdnaohpbaaGreatDoor.cutRun
noncomputable abbrev cx:Cx:={memoC Go.Proofs.YtdomagdnaohpbaaGreatDoor.cutRun.cx Go.Proofs.YtdomagdnaohpbaaGreatDoor.cutRun.fs Go.Proofs.YtdomagdnaohpbaaGreatDoor.cutRun.L5 [] with dr:=true}
/-- The functions that the machine itself enters. -/
noncomputable def sp:Nat→Bool:=fun f=>memN f [58, 113, 114, 167, 197, 223, 225, 226, 227, 228, 229, 230]
noncomputable def ms (n:Nat) (m:M):M:=msteps cx (Fast.run cx 3000) sp n m
noncomputable def m0:M:=startM cx (entF Go.Proofs.YtdomagdnaohpbaaGreatDoor.cutRun.en432) (entL Go.Proofs.YtdomagdnaohpbaaGreatDoor.cutRun.en432)
theorem piece {n:Nat} {a b:M} {r:CR} (h:ms n a=b) (hb:Den cx b r):Den cx a r:=msteps_ok n (h ▸ hb)
theorem c0:ms 19825 m0=m43201:=viewK_s (s0:=s1320) (f:=228) (p:=[1, 0, 0, 0, 0, 0, 1, 0, 0, 1, 0, 1, 1]) (k0:=k1316) (by kernel_rfl)
theorem c1:ms 2925 m43201=m43202:=viewK_s (s0:=s1330) (f:=58) (p:=[0, 0, 1, 1, 0, 0, 1, 0, 1, 1, 1, 1, 1, 1, 1]) (k0:=k1325) (by kernel_rfl)
theorem c2:ms 1250 m43202=.fin (.value (entV en432) ((some []))):=viewF_t (by kernel_rfl) (by kernel_rfl)
theorem one_ok {C:Cx} {fs:List Nat} {G:List (Nat×List Ent)} (hm:C.P.follows .mixedOrders=true) (h:ExtOk C) (hG:AllVals C G) (m:Nat) (e:Ent) {rd:Option (List Nat)} (hc:∃ n,Go.Abs.call {memoC C fs G [] with dr:=true} n (entF e) (entL e)=.value (entV e) rd)
    (h2:allB (flat 4) (entL e)=true) (h3:flat 4 (entV e)=true):AllVals C ((m,[e])::G) := by
  obtain ⟨n,hc⟩:=hc
  intro g hg
  rcases List.mem_cons.1 hg with rfl | hg
  · intro e' he'
    rcases List.mem_cons.1 he' with rfl | he'
    · exact fun X j w args hX hr => call_soundX (C:={memoC C fs G [] with dr:=true}) hm (fun f l v hx X j w args hX hr => memo_ext fs h hG (fun e he => by cases he) f l v hx X j w args hX hr) hc h2 h3 hX hr
    · cases he'
  · exact hG g hg
noncomputable def R:CR:=.value (entV Go.Proofs.YtdomagdnaohpbaaGreatDoor.cutRun.en432) ((some []))
theorem d3:Den cx (.fin (.value (entV Go.Proofs.YtdomagdnaohpbaaGreatDoor.cutRun.en432) ((some [])))) R:=rfl
theorem d2:Den cx m43202 R:=piece c2 d3
theorem d1:Den cx m43201 R:=piece c1 d2
theorem d0:Den cx m0 R:=piece c0 d1
theorem ran:∃ n,Go.Abs.call cx n (entF Go.Proofs.YtdomagdnaohpbaaGreatDoor.cutRun.en432) (entL Go.Proofs.YtdomagdnaohpbaaGreatDoor.cutRun.en432)=.value (entV Go.Proofs.YtdomagdnaohpbaaGreatDoor.cutRun.en432) ((some [])):=start_ok (by kernel_rfl) d0
theorem fl:allB (flat 4) (entL Go.Proofs.YtdomagdnaohpbaaGreatDoor.cutRun.en432)=true:=by kernel_rfl
theorem fv:flat 4 (entV Go.Proofs.YtdomagdnaohpbaaGreatDoor.cutRun.en432)=true:=by kernel_rfl
end Go.Proofs.YtdomagdnaohpbaaGreatDoor.mid432Run
