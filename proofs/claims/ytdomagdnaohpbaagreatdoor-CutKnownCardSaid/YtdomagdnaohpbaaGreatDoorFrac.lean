/- THE FUNCTIONS ON SMALL FRACTIONS, in this program: what they answer; all together. Printed by a program (wip/num/gen_num.py). -/
import Derived.Test.YtdomagdnaohpbaaGreatDoorNum
set_option linter.unusedSimpArgs false
set_option linter.unusedVariables false
set_option maxRecDepth 100000
namespace Go.Proofs.YtdomagdnaohpbaaGreatDoor.num
noncomputable section
open Go.Abs
abbrev zch:List Nat:=[104,25,66,64,60,33,36,40,22,35,165,164,39,65,83,38,26,34,32,23,85,89,86,24,82,135,79,78,134]
abbrev K3:List Nat:=163::zch
def zW:Es:=only (fun g=>memN g zch) E0
theorem zgo (l:List AV):E0 163 l=(Kx 164 165) l:=by kernel_rfl
abbrev Fo (a:Bool×Bool)(l:Ob):Ob:=a::l
abbrev FC (S:Es)(f:Nat)(a:List AV)(d:List Dc):=symCall (cxOf Tryz.prog S) S 100 f a d
abbrev FR (v:AV)(o:Ob):Option (CR×List Dc×Ob):=some (CR.value v (some []),[],o)
def F0 (e0 e1:Nat):=(e0.add 1).mul (e1.add 1)
def F1 (e0 x1:Nat):=mk false (x1.mul (e0.add 1))
def F2 (e0 x1:Nat):=mk true (x1.mul (e0.add 1))
def F3 (e1 x0:Nat):=mk false (x0.mul (e1.add 1))
def F4 (e1 x0:Nat):=mk true (x0.mul (e1.add 1))
def F5 (e0 x1:Nat):=mk (notB (F2 e0 x1)) (x1.mul (e0.add 1))
def F6 (e0 x1:Nat):=mk (notB (F1 e0 x1)) (x1.mul (e0.add 1))
def F7 (e0 e1 x0 x1:Nat):=yw (F4 e1 x0) (x0.mul (e1.add 1)) (F2 e0 x1) (x1.mul (e0.add 1))
def F8 (e0 e1 x0 x1:Nat):=yw (F4 e1 x0) (x0.mul (e1.add 1)) (F1 e0 x1) (x1.mul (e0.add 1))
def F9 (e0 e1 x0 x1:Nat):=yw (F3 e1 x0) (x0.mul (e1.add 1)) (F2 e0 x1) (x1.mul (e0.add 1))
def F10 (e0 e1 x0 x1:Nat):=yw (F3 e1 x0) (x0.mul (e1.add 1)) (F1 e0 x1) (x1.mul (e0.add 1))
def F11 (e0 e1 x0 x1:Nat):=yw (F4 e1 x0) (x0.mul (e1.add 1)) (F5 e0 x1) (x1.mul (e0.add 1))
def F12 (e0 e1 x0 x1:Nat):=yw (F4 e1 x0) (x0.mul (e1.add 1)) (F6 e0 x1) (x1.mul (e0.add 1))
def F13 (e0 e1 x0 x1:Nat):=yw (F3 e1 x0) (x0.mul (e1.add 1)) (F5 e0 x1) (x1.mul (e0.add 1))
def F14 (e0 e1 x0 x1:Nat):=yw (F3 e1 x0) (x0.mul (e1.add 1)) (F6 e0 x1) (x1.mul (e0.add 1))
def F39 (e0 e1 x0 x1:Nat):=xY (x1.mul (e0.add 1)) (x0.mul (e1.add 1))
def F40 (e0 e1 x0 x1:Nat):=xY (x0.mul (e1.add 1)) (x1.mul (e0.add 1))
def F15 (e0 e1 x0 x1:Nat):=ifB (F4 e1 x0) (ifB (F2 e0 x1) (F39 e0 e1 x0 x1) (Int.negSucc 0)) (ifB (F2 e0 x1) (Int.ofNat 1) (F40 e0 e1 x0 x1))
def F16 (e0 e1 x0 x1:Nat):=ifB (F4 e1 x0) (ifB (F1 e0 x1) (F39 e0 e1 x0 x1) (Int.negSucc 0)) (ifB (F1 e0 x1) (Int.ofNat 1) (F40 e0 e1 x0 x1))
def F17 (e0 e1 x0 x1:Nat):=ifB (F3 e1 x0) (ifB (F2 e0 x1) (F39 e0 e1 x0 x1) (Int.negSucc 0)) (ifB (F2 e0 x1) (Int.ofNat 1) (F40 e0 e1 x0 x1))
def F18 (e0 e1 x0 x1:Nat):=ifB (F3 e1 x0) (ifB (F1 e0 x1) (F39 e0 e1 x0 x1) (Int.negSucc 0)) (ifB (F1 e0 x1) (Int.ofNat 1) (F40 e0 e1 x0 x1))
def F19 (e0 e1:Nat):=andB (e0.beq 0) (e1.beq 0)
def F20 (e0 e1 x0 x1:Nat):=xb (xe (F3 e1 x0) (x0.mul (e1.add 1)) (F1 e0 x1) (x1.mul (e0.add 1))) (F10 e0 e1 x0 x1) (F0 e0 e1)
def F21 (e0 e1 x0 x1:Nat):=xb (xe (F4 e1 x0) (x0.mul (e1.add 1)) (F2 e0 x1) (x1.mul (e0.add 1))) (F7 e0 e1 x0 x1) (F0 e0 e1)
def F22 (e0 e1 x0 x1:Nat):=xb (xe (F4 e1 x0) (x0.mul (e1.add 1)) (F1 e0 x1) (x1.mul (e0.add 1))) (F8 e0 e1 x0 x1) (F0 e0 e1)
def F23 (e0 e1 x0 x1:Nat):=xb (xe (F3 e1 x0) (x0.mul (e1.add 1)) (F2 e0 x1) (x1.mul (e0.add 1))) (F9 e0 e1 x0 x1) (F0 e0 e1)
def F24 (e0 e1 x0 x1:Nat):=xb (xe (F4 e1 x0) (x0.mul (e1.add 1)) (F5 e0 x1) (x1.mul (e0.add 1))) (F11 e0 e1 x0 x1) (F0 e0 e1)
def F25 (e0 e1 x0 x1:Nat):=xb (xe (F4 e1 x0) (x0.mul (e1.add 1)) (F6 e0 x1) (x1.mul (e0.add 1))) (F12 e0 e1 x0 x1) (F0 e0 e1)
def F26 (e0 e1 x0 x1:Nat):=xb (xe (F3 e1 x0) (x0.mul (e1.add 1)) (F5 e0 x1) (x1.mul (e0.add 1))) (F13 e0 e1 x0 x1) (F0 e0 e1)
def F27 (e0 e1 x0 x1:Nat):=xb (xe (F3 e1 x0) (x0.mul (e1.add 1)) (F6 e0 x1) (x1.mul (e0.add 1))) (F14 e0 e1 x0 x1) (F0 e0 e1)
def F28 (e0 e1 x0 x1:Nat):=yH (x0.mul x1) (F0 e0 e1)
def F29 (e0 e1 x0 x1:Nat):=yI (x0.mul x1) (F0 e0 e1)
def F30 (e0 x1:Nat):=(e0.add 1).mul x1.succ
def F31 (e0 e1 x0 x1:Nat):=xb (mk (xC false false) (x0.mul x1)) (x0.mul x1) (F0 e0 e1)
def F32 (e0 e1 x0 x1:Nat):=xb (mk (xC true false) (x0.mul x1)) (x0.mul x1) (F0 e0 e1)
def F33 (e0 e1 x0 x1:Nat):=xb (mk (xC false true) (x0.mul x1)) (x0.mul x1) (F0 e0 e1)
def F34 (e0 e1 x0 x1:Nat):=xb (mk (xC true true) (x0.mul x1)) (x0.mul x1) (F0 e0 e1)
def F35 (e0 e1 x0 x1:Nat):=zP (F4 e1 x0) (x0.mul (e1.add 1)) (F2 e0 x1) (x1.mul (e0.add 1))
def F36 (e0 e1 x0 x1:Nat):=zP (F4 e1 x0) (x0.mul (e1.add 1)) (F1 e0 x1) (x1.mul (e0.add 1))
def F37 (e0 e1 x0 x1:Nat):=zP (F3 e1 x0) (x0.mul (e1.add 1)) (F2 e0 x1) (x1.mul (e0.add 1))
def F38 (e0 e1 x0 x1:Nat):=zP (F3 e1 x0) (x0.mul (e1.add 1)) (F1 e0 x1) (x1.mul (e0.add 1))
def F41 (e0 e1 x0 x1:Nat):=yH (F10 e0 e1 x0 x1) (F0 e0 e1)
def F42 (e0 e1 x0 x1:Nat):=yI (F10 e0 e1 x0 x1) (F0 e0 e1)
def F43 (e0 e1 x0 x1:Nat):=yH (F7 e0 e1 x0 x1) (F0 e0 e1)
def F44 (e0 e1 x0 x1:Nat):=yI (F7 e0 e1 x0 x1) (F0 e0 e1)
def F45 (e0 e1 x0 x1:Nat):=yH (F8 e0 e1 x0 x1) (F0 e0 e1)
def F46 (e0 e1 x0 x1:Nat):=yI (F8 e0 e1 x0 x1) (F0 e0 e1)
def F47 (e0 e1 x0 x1:Nat):=yH (F9 e0 e1 x0 x1) (F0 e0 e1)
def F48 (e0 e1 x0 x1:Nat):=yI (F9 e0 e1 x0 x1) (F0 e0 e1)
abbrev F49 (e0 e1:Nat)(l:Ob):Ob:=Fo (andB (small (e0.add 1)) (andB (small (e1.add 1)) (small ((e0.add 1).mul (e1.add 1)))),true)<|Fo (small (e1.add 1),true)<|l
abbrev F50 (e0:Nat)(l:Ob):Ob:=Fo (ifB (2,true).snd (e0.beq 0) (notB (e0.beq 0)),true)<|Fo (ifB (2,true).snd (e0.beq 0) (notB (e0.beq 0)),true)<|l
abbrev F51 (e0:Nat)(l:Ob):Ob:=Fo (e0.beq 0,false)<|Fo (ifB (2,true).snd (e0.beq 0) (notB (e0.beq 0)),false)<|l
abbrev F52 (e0 x1:Nat)(l:Ob):Ob:=Fo (zA x1 (e0.add 1),true)<|Fo (small (e0.add 1),true)<|l
abbrev F53 (e1 x0:Nat)(l:Ob):Ob:=Fo (zA x0 (e1.add 1),true)<|Fo (small (e1.add 1),true)<|l
abbrev F54 (e0 e1:Nat)(l:Ob):Ob:=F49 e0 e1<|Fo (small (e0.add 1),true)<|l
abbrev F55 (e0:Nat)(l:Ob):Ob:=Fo (ifB (2,true).snd (e0.beq 0) (notB (e0.beq 0)),false)<|Fo (small e0,true)<|l
abbrev F56 (e0:Nat)(l:Ob):Ob:=Fo (ifB (2,true).snd (e0.beq 0) (notB (e0.beq 0)),true)<|Fo (small e0,true)<|l
abbrev F57 (e0:Nat)(l:Ob):Ob:=F50 e0<|Fo (small e0,true)<|l
abbrev F58 (e0 e1:Nat)(l:Ob):Ob:=Fo (e0.beq 0,true)<|Fo (small e1,true)<|l
abbrev F59 (e0 e1 x0 x1:Nat)(l:Ob):Ob:=Fo (zL (x0.mul x1) ((e0.add 1).mul (e1.add 1)),true)<|F54 e0 e1<|l
abbrev F60 (e0 e1 x0 x1:Nat)(l:Ob):Ob:=Fo (zL (yw (mk false (x0.mul (e1.add 1))) (x0.mul (e1.add 1)) (mk (notB (mk false (x1.mul (e0.add 1)))) (x1.mul (e0.add 1))) (x1.mul (e0.add 1))) ((e0.add 1).mul (e1.add 1)),true)<|F54 e0 e1<|l
abbrev F61 (e0 e1 x0 x1:Nat)(l:Ob):Ob:=Fo (zL (yw (mk true (x0.mul (e1.add 1))) (x0.mul (e1.add 1)) (mk (notB (mk false (x1.mul (e0.add 1)))) (x1.mul (e0.add 1))) (x1.mul (e0.add 1))) ((e0.add 1).mul (e1.add 1)),true)<|F54 e0 e1<|l
abbrev F62 (e0 e1 x0 x1:Nat)(l:Ob):Ob:=Fo (zL (yw (mk false (x0.mul (e1.add 1))) (x0.mul (e1.add 1)) (mk (notB (mk true (x1.mul (e0.add 1)))) (x1.mul (e0.add 1))) (x1.mul (e0.add 1))) ((e0.add 1).mul (e1.add 1)),true)<|F54 e0 e1<|l
abbrev F63 (e0 e1 x0 x1:Nat)(l:Ob):Ob:=Fo (zL (yw (mk true (x0.mul (e1.add 1))) (x0.mul (e1.add 1)) (mk (notB (mk true (x1.mul (e0.add 1)))) (x1.mul (e0.add 1))) (x1.mul (e0.add 1))) ((e0.add 1).mul (e1.add 1)),true)<|F54 e0 e1<|l
abbrev F64 (e0 e1 x0 x1:Nat)(l:Ob):Ob:=F60 e0 e1 x0 x1<|Fo (yP (mk false (x0.mul (e1.add 1))) (x0.mul (e1.add 1)) (mk (notB (mk false (x1.mul (e0.add 1)))) (x1.mul (e0.add 1))) (x1.mul (e0.add 1)),true)<|l
abbrev F65 (e0 e1 x0 x1:Nat)(l:Ob):Ob:=F61 e0 e1 x0 x1<|Fo (yP (mk true (x0.mul (e1.add 1))) (x0.mul (e1.add 1)) (mk (notB (mk false (x1.mul (e0.add 1)))) (x1.mul (e0.add 1))) (x1.mul (e0.add 1)),true)<|l
abbrev F66 (e0 e1 x0 x1:Nat)(l:Ob):Ob:=F62 e0 e1 x0 x1<|Fo (yP (mk false (x0.mul (e1.add 1))) (x0.mul (e1.add 1)) (mk (notB (mk true (x1.mul (e0.add 1)))) (x1.mul (e0.add 1))) (x1.mul (e0.add 1)),true)<|l
abbrev F67 (e0 e1 x0 x1:Nat)(l:Ob):Ob:=F63 e0 e1 x0 x1<|Fo (yP (mk true (x0.mul (e1.add 1))) (x0.mul (e1.add 1)) (mk (notB (mk true (x1.mul (e0.add 1)))) (x1.mul (e0.add 1))) (x1.mul (e0.add 1)),true)<|l
abbrev F68 (e0 e1 x0 x1:Nat)(l:Ob):Ob:=Fo (zL (yw (mk false (x0.mul (e1.add 1))) (x0.mul (e1.add 1)) (mk false (x1.mul (e0.add 1))) (x1.mul (e0.add 1))) ((e0.add 1).mul (e1.add 1)),true)<|F54 e0 e1<|l
abbrev F69 (e0 e1 x0 x1:Nat)(l:Ob):Ob:=Fo (zL (yw (mk true (x0.mul (e1.add 1))) (x0.mul (e1.add 1)) (mk false (x1.mul (e0.add 1))) (x1.mul (e0.add 1))) ((e0.add 1).mul (e1.add 1)),true)<|F54 e0 e1<|l
abbrev F70 (e0 e1 x0 x1:Nat)(l:Ob):Ob:=Fo (zL (yw (mk false (x0.mul (e1.add 1))) (x0.mul (e1.add 1)) (mk true (x1.mul (e0.add 1))) (x1.mul (e0.add 1))) ((e0.add 1).mul (e1.add 1)),true)<|F54 e0 e1<|l
abbrev F71 (e0 e1 x0 x1:Nat)(l:Ob):Ob:=Fo (zL (yw (mk true (x0.mul (e1.add 1))) (x0.mul (e1.add 1)) (mk true (x1.mul (e0.add 1))) (x1.mul (e0.add 1))) ((e0.add 1).mul (e1.add 1)),true)<|F54 e0 e1<|l
abbrev F72 (e0 e1 x0 x1:Nat)(l:Ob):Ob:=Fo (zL ((x0.mul 1).mul (e1.add 1)) ((e0.add 1).mul x1.succ),true)<|Fo (andB (small (e0.add 1)) (andB (small x1.succ) (small ((e0.add 1).mul x1.succ))),true)<|l
abbrev F73 (e0 e1:Nat)(l:Ob):Ob:=Fo (e0.beq 0,false)<|Fo (small e1,true)<|l
abbrev F74 (e0 e1 x0 x1:Nat)(l:Ob):Ob:=F68 e0 e1 x0 x1<|Fo (yP (mk false (x0.mul (e1.add 1))) (x0.mul (e1.add 1)) (mk false (x1.mul (e0.add 1))) (x1.mul (e0.add 1)),true)<|l
abbrev F75 (e0 e1 x0 x1:Nat)(l:Ob):Ob:=F69 e0 e1 x0 x1<|Fo (yP (mk true (x0.mul (e1.add 1))) (x0.mul (e1.add 1)) (mk false (x1.mul (e0.add 1))) (x1.mul (e0.add 1)),true)<|l
abbrev F76 (e0 e1 x0 x1:Nat)(l:Ob):Ob:=F70 e0 e1 x0 x1<|Fo (yP (mk false (x0.mul (e1.add 1))) (x0.mul (e1.add 1)) (mk true (x1.mul (e0.add 1))) (x1.mul (e0.add 1)),true)<|l
abbrev F77 (e0 e1 x0 x1:Nat)(l:Ob):Ob:=F71 e0 e1 x0 x1<|Fo (yP (mk true (x0.mul (e1.add 1))) (x0.mul (e1.add 1)) (mk true (x1.mul (e0.add 1))) (x1.mul (e0.add 1)),true)<|l
abbrev F78 (e0 e1:Nat)(l:Ob):Ob:=Fo (e1.beq 0,false)<|F58 e0 e1<|l
abbrev F79 (e0 e1:Nat)(l:Ob):Ob:=Fo (e1.beq 0,true)<|F58 e0 e1<|l
abbrev F80 (e0 e1 x0 x1:Nat)(l:Ob):Ob:=F52 e0 x1<|F53 e1 x0<|l
abbrev F81 (e0 e1 x0 x1:Nat)(l:Ob):Ob:=Fo (true,true)<|F80 e0 e1 x0 x1<|l
abbrev F82 (x0 x1:Nat)(l:Ob):Ob:=Fo (zL x0 x1,true)<|Fo (true,true)<|l
abbrev F83 (e1 x0:Nat)(l:Ob):Ob:=Fo (zA (x0.mul 1) (e1.add 1),true)<|Fo (small (e1.add 1),true)<|l
abbrev F84 (e0 x0 x1:Nat)(l:Ob):Ob:=F57 e0<|Fo (zA x0 x1,true)<|l
abbrev F85 (x1:Nat)(l:Ob):Ob:=Fo (small x1,true)<|Fo (eqI (yK false x1) 0,false)<|l
abbrev F86 (e0:Nat)(l:Ob):Ob:=F51 e0<|F56 e0<|l
abbrev F87 (e0:Nat)(l:Ob):Ob:=F51 e0<|F55 e0<|l
abbrev F88 (x1:Nat)(l:Ob):Ob:=Fo (small x1,true)<|Fo (eqI (yK true x1) 0,false)<|l
abbrev F89 (x1:Nat)(l:Ob):Ob:=Fo (small x1.succ,true)<|Fo (small x1.succ,true)<|l
abbrev F90 (e0:Nat)(l:Ob):Ob:=Fo (true,true)<|Fo (small (e0.add 1),true)<|l
abbrev F91 (e0 e1:Nat)(l:Ob):Ob:=F79 e0 e1<|F57 e0<|l
abbrev F92 (e0 e1:Nat)(l:Ob):Ob:=F78 e0 e1<|F57 e0<|l
abbrev F93 (e0 e1:Nat)(l:Ob):Ob:=F73 e0 e1<|F57 e0<|l
abbrev F94 (x0:Nat)(l:Ob):Ob:=Fo (zA x0 1,true)<|Fo (true,true)<|l
abbrev F95 (e0 e1 x0 x1:Nat)(l:Ob):Ob:=F80 e0 e1 x0 x1<|F92 e0 e1<|l
abbrev F96 (e0 e1 x0 x1:Nat)(l:Ob):Ob:=F80 e0 e1 x0 x1<|F93 e0 e1<|l
theorem XQ (x0 e0 x1 e1:Nat):FC zW 163 [zg true x0 e0,zg true x1 e1,.fn (.func 164) [] []] [.t,.t,.t,.t]=FR (.agg [ze (xe true x0 true x1),zd (yw true x0 true x1),zb,zd 0,zb]) (Fo (yP true x0 true x1,true)<|F91 e0 e1<|[]):=by kernel_rfl
theorem XR (x0 e0 x1 e1:Nat):FC zW 163 [zg true x0 e0,zg true x1 e1,.fn (.func 164) [] []] [.t,.t,.t,.f]=FR (.agg [ze (F21 e0 e1 x0 x1),zd (F43 e0 e1 x0 x1),zb,zd (F44 e0 e1 x0 x1),zb]) (F77 e0 e1 x0 x1<|F95 e0 e1 x0 x1<|[]):=by kernel_rfl
theorem zdQ (x0 e0 x1 e1:Nat):FC zW 163 [zg true x0 e0,zg true x1 e1,.fn (.func 164) [] []] [.t,.t,.f,.c]=FR (.agg [ze (F21 e0 e1 x0 x1),zd (F43 e0 e1 x0 x1),zb,zd (F44 e0 e1 x0 x1),zb]) (F77 e0 e1 x0 x1<|F96 e0 e1 x0 x1<|[]):=by kernel_rfl
theorem zdR (x0 e0 x1 e1:Nat):FC zW 163 [zg true x0 e0,zg true x1 e1,.fn (.func 164) [] []] [.t,.f,.f,.c]=FR (.agg [ze (F21 e0 e1 x0 x1),zd (F43 e0 e1 x0 x1),zb,zd (F44 e0 e1 x0 x1),zb]) (F77 e0 e1 x0 x1<|F80 e0 e1 x0 x1<|F86 e0<|[]):=by kernel_rfl
theorem XS (x0 e0 x1 e1:Nat):FC zW 163 [zg true x0 e0,zg true x1 e1,.fn (.func 164) [] []] [.f,.f,.f,.c]=FR (.agg [ze (F21 e0 e1 x0 x1),zd (F43 e0 e1 x0 x1),zb,zd (F44 e0 e1 x0 x1),zb]) (F77 e0 e1 x0 x1<|F80 e0 e1 x0 x1<|F87 e0<|[]):=by kernel_rfl
theorem XT (x0 e0 x1 e1:Nat):FC zW 163 [zg true x0 e0,zg true x1 e1,.fn (.func 165) [] []] [.t,.t,.t,.t]=FR (.agg [ze (xe true x0 (mk (notB true) x1) x1),zd (yw true x0 (mk (notB true) x1) x1),zb,zd 0,zb]) (Fo (yP true x0 (mk (notB true) x1) x1,true)<|F91 e0 e1<|[]):=by kernel_rfl
theorem XU (x0 e0 x1 e1:Nat):FC zW 163 [zg true x0 e0,zg true x1 e1,.fn (.func 165) [] []] [.t,.t,.t,.f]=FR (.agg [ze (F24 e0 e1 x0 x1),zd (yH (F11 e0 e1 x0 x1) (F0 e0 e1)),zb,zd (yI (F11 e0 e1 x0 x1) (F0 e0 e1)),zb]) (F67 e0 e1 x0 x1<|F95 e0 e1 x0 x1<|[]):=by kernel_rfl
theorem zdS (x0 e0 x1 e1:Nat):FC zW 163 [zg true x0 e0,zg true x1 e1,.fn (.func 165) [] []] [.t,.t,.f,.c]=FR (.agg [ze (F24 e0 e1 x0 x1),zd (yH (F11 e0 e1 x0 x1) (F0 e0 e1)),zb,zd (yI (F11 e0 e1 x0 x1) (F0 e0 e1)),zb]) (F67 e0 e1 x0 x1<|F96 e0 e1 x0 x1<|[]):=by kernel_rfl
theorem zdT (x0 e0 x1 e1:Nat):FC zW 163 [zg true x0 e0,zg true x1 e1,.fn (.func 165) [] []] [.t,.f,.f,.c]=FR (.agg [ze (F24 e0 e1 x0 x1),zd (yH (F11 e0 e1 x0 x1) (F0 e0 e1)),zb,zd (yI (F11 e0 e1 x0 x1) (F0 e0 e1)),zb]) (F67 e0 e1 x0 x1<|F80 e0 e1 x0 x1<|F86 e0<|[]):=by kernel_rfl
theorem XV (x0 e0 x1 e1:Nat):FC zW 163 [zg true x0 e0,zg true x1 e1,.fn (.func 165) [] []] [.f,.f,.f,.c]=FR (.agg [ze (F24 e0 e1 x0 x1),zd (yH (F11 e0 e1 x0 x1) (F0 e0 e1)),zb,zd (yI (F11 e0 e1 x0 x1) (F0 e0 e1)),zb]) (F67 e0 e1 x0 x1<|F80 e0 e1 x0 x1<|F87 e0<|[]):=by kernel_rfl
theorem XW (x0 e0 x1 e1:Nat):FC zW 163 [zg true x0 e0,zg false x1 e1,.fn (.func 164) [] []] [.t,.t,.t,.t]=FR (.agg [ze (xe true x0 false x1),zd (yw true x0 false x1),zb,zd 0,zb]) (Fo (yP true x0 false x1,true)<|F91 e0 e1<|[]):=by kernel_rfl
theorem XY (x0 e0 x1 e1:Nat):FC zW 163 [zg true x0 e0,zg false x1 e1,.fn (.func 164) [] []] [.t,.t,.t,.f]=FR (.agg [ze (F22 e0 e1 x0 x1),zd (F45 e0 e1 x0 x1),zb,zd (F46 e0 e1 x0 x1),zb]) (F75 e0 e1 x0 x1<|F95 e0 e1 x0 x1<|[]):=by kernel_rfl
theorem zdU (x0 e0 x1 e1:Nat):FC zW 163 [zg true x0 e0,zg false x1 e1,.fn (.func 164) [] []] [.t,.t,.f,.c]=FR (.agg [ze (F22 e0 e1 x0 x1),zd (F45 e0 e1 x0 x1),zb,zd (F46 e0 e1 x0 x1),zb]) (F75 e0 e1 x0 x1<|F96 e0 e1 x0 x1<|[]):=by kernel_rfl
theorem zdV (x0 e0 x1 e1:Nat):FC zW 163 [zg true x0 e0,zg false x1 e1,.fn (.func 164) [] []] [.t,.f,.f,.c]=FR (.agg [ze (F22 e0 e1 x0 x1),zd (F45 e0 e1 x0 x1),zb,zd (F46 e0 e1 x0 x1),zb]) (F75 e0 e1 x0 x1<|F80 e0 e1 x0 x1<|F86 e0<|[]):=by kernel_rfl
theorem XZ (x0 e0 x1 e1:Nat):FC zW 163 [zg true x0 e0,zg false x1 e1,.fn (.func 164) [] []] [.f,.f,.f,.c]=FR (.agg [ze (F22 e0 e1 x0 x1),zd (F45 e0 e1 x0 x1),zb,zd (F46 e0 e1 x0 x1),zb]) (F75 e0 e1 x0 x1<|F80 e0 e1 x0 x1<|F87 e0<|[]):=by kernel_rfl
theorem X3 (x0 e0 x1 e1:Nat):FC zW 163 [zg true x0 e0,zg false x1 e1,.fn (.func 165) [] []] [.t,.t,.t,.t]=FR (.agg [ze (xe true x0 (mk (notB false) x1) x1),zd (yw true x0 (mk (notB false) x1) x1),zb,zd 0,zb]) (Fo (yP true x0 (mk (notB false) x1) x1,true)<|F91 e0 e1<|[]):=by kernel_rfl
theorem X4 (x0 e0 x1 e1:Nat):FC zW 163 [zg true x0 e0,zg false x1 e1,.fn (.func 165) [] []] [.t,.t,.t,.f]=FR (.agg [ze (F25 e0 e1 x0 x1),zd (yH (F12 e0 e1 x0 x1) (F0 e0 e1)),zb,zd (yI (F12 e0 e1 x0 x1) (F0 e0 e1)),zb]) (F65 e0 e1 x0 x1<|F95 e0 e1 x0 x1<|[]):=by kernel_rfl
theorem zdW (x0 e0 x1 e1:Nat):FC zW 163 [zg true x0 e0,zg false x1 e1,.fn (.func 165) [] []] [.t,.t,.f,.c]=FR (.agg [ze (F25 e0 e1 x0 x1),zd (yH (F12 e0 e1 x0 x1) (F0 e0 e1)),zb,zd (yI (F12 e0 e1 x0 x1) (F0 e0 e1)),zb]) (F65 e0 e1 x0 x1<|F96 e0 e1 x0 x1<|[]):=by kernel_rfl
theorem zdX (x0 e0 x1 e1:Nat):FC zW 163 [zg true x0 e0,zg false x1 e1,.fn (.func 165) [] []] [.t,.f,.f,.c]=FR (.agg [ze (F25 e0 e1 x0 x1),zd (yH (F12 e0 e1 x0 x1) (F0 e0 e1)),zb,zd (yI (F12 e0 e1 x0 x1) (F0 e0 e1)),zb]) (F65 e0 e1 x0 x1<|F80 e0 e1 x0 x1<|F86 e0<|[]):=by kernel_rfl
theorem X5 (x0 e0 x1 e1:Nat):FC zW 163 [zg true x0 e0,zg false x1 e1,.fn (.func 165) [] []] [.f,.f,.f,.c]=FR (.agg [ze (F25 e0 e1 x0 x1),zd (yH (F12 e0 e1 x0 x1) (F0 e0 e1)),zb,zd (yI (F12 e0 e1 x0 x1) (F0 e0 e1)),zb]) (F65 e0 e1 x0 x1<|F80 e0 e1 x0 x1<|F87 e0<|[]):=by kernel_rfl
theorem X6 (x0 e0 x1 e1:Nat):FC zW 163 [zg false x0 e0,zg true x1 e1,.fn (.func 164) [] []] [.t,.t,.t,.t]=FR (.agg [ze (xe false x0 true x1),zd (yw false x0 true x1),zb,zd 0,zb]) (Fo (yP false x0 true x1,true)<|F91 e0 e1<|[]):=by kernel_rfl
theorem X7 (x0 e0 x1 e1:Nat):FC zW 163 [zg false x0 e0,zg true x1 e1,.fn (.func 164) [] []] [.t,.t,.t,.f]=FR (.agg [ze (F23 e0 e1 x0 x1),zd (F47 e0 e1 x0 x1),zb,zd (F48 e0 e1 x0 x1),zb]) (F76 e0 e1 x0 x1<|F95 e0 e1 x0 x1<|[]):=by kernel_rfl
theorem zdY (x0 e0 x1 e1:Nat):FC zW 163 [zg false x0 e0,zg true x1 e1,.fn (.func 164) [] []] [.t,.t,.f,.c]=FR (.agg [ze (F23 e0 e1 x0 x1),zd (F47 e0 e1 x0 x1),zb,zd (F48 e0 e1 x0 x1),zb]) (F76 e0 e1 x0 x1<|F96 e0 e1 x0 x1<|[]):=by kernel_rfl
theorem zdZ (x0 e0 x1 e1:Nat):FC zW 163 [zg false x0 e0,zg true x1 e1,.fn (.func 164) [] []] [.t,.f,.f,.c]=FR (.agg [ze (F23 e0 e1 x0 x1),zd (F47 e0 e1 x0 x1),zb,zd (F48 e0 e1 x0 x1),zb]) (F76 e0 e1 x0 x1<|F80 e0 e1 x0 x1<|F86 e0<|[]):=by kernel_rfl
theorem X8 (x0 e0 x1 e1:Nat):FC zW 163 [zg false x0 e0,zg true x1 e1,.fn (.func 164) [] []] [.f,.f,.f,.c]=FR (.agg [ze (F23 e0 e1 x0 x1),zd (F47 e0 e1 x0 x1),zb,zd (F48 e0 e1 x0 x1),zb]) (F76 e0 e1 x0 x1<|F80 e0 e1 x0 x1<|F87 e0<|[]):=by kernel_rfl
theorem X9 (x0 e0 x1 e1:Nat):FC zW 163 [zg false x0 e0,zg true x1 e1,.fn (.func 165) [] []] [.t,.t,.t,.t]=FR (.agg [ze (xe false x0 (mk (notB true) x1) x1),zd (yw false x0 (mk (notB true) x1) x1),zb,zd 0,zb]) (Fo (yP false x0 (mk (notB true) x1) x1,true)<|F91 e0 e1<|[]):=by kernel_rfl
theorem X_ (x0 e0 x1 e1:Nat):FC zW 163 [zg false x0 e0,zg true x1 e1,.fn (.func 165) [] []] [.t,.t,.t,.f]=FR (.agg [ze (F26 e0 e1 x0 x1),zd (yH (F13 e0 e1 x0 x1) (F0 e0 e1)),zb,zd (yI (F13 e0 e1 x0 x1) (F0 e0 e1)),zb]) (F66 e0 e1 x0 x1<|F95 e0 e1 x0 x1<|[]):=by kernel_rfl
theorem zd0 (x0 e0 x1 e1:Nat):FC zW 163 [zg false x0 e0,zg true x1 e1,.fn (.func 165) [] []] [.t,.t,.f,.c]=FR (.agg [ze (F26 e0 e1 x0 x1),zd (yH (F13 e0 e1 x0 x1) (F0 e0 e1)),zb,zd (yI (F13 e0 e1 x0 x1) (F0 e0 e1)),zb]) (F66 e0 e1 x0 x1<|F96 e0 e1 x0 x1<|[]):=by kernel_rfl
theorem zd1 (x0 e0 x1 e1:Nat):FC zW 163 [zg false x0 e0,zg true x1 e1,.fn (.func 165) [] []] [.t,.f,.f,.c]=FR (.agg [ze (F26 e0 e1 x0 x1),zd (yH (F13 e0 e1 x0 x1) (F0 e0 e1)),zb,zd (yI (F13 e0 e1 x0 x1) (F0 e0 e1)),zb]) (F66 e0 e1 x0 x1<|F80 e0 e1 x0 x1<|F86 e0<|[]):=by kernel_rfl
theorem Wa (x0 e0 x1 e1:Nat):FC zW 163 [zg false x0 e0,zg true x1 e1,.fn (.func 165) [] []] [.f,.f,.f,.c]=FR (.agg [ze (F26 e0 e1 x0 x1),zd (yH (F13 e0 e1 x0 x1) (F0 e0 e1)),zb,zd (yI (F13 e0 e1 x0 x1) (F0 e0 e1)),zb]) (F66 e0 e1 x0 x1<|F80 e0 e1 x0 x1<|F87 e0<|[]):=by kernel_rfl
theorem Wb (x0 e0 x1 e1:Nat):FC zW 163 [zg false x0 e0,zg false x1 e1,.fn (.func 164) [] []] [.t,.t,.t,.t]=FR (.agg [ze (xe false x0 false x1),zd (yw false x0 false x1),zb,zd 0,zb]) (Fo (yP false x0 false x1,true)<|F91 e0 e1<|[]):=by kernel_rfl
theorem Wc (x0 e0 x1 e1:Nat):FC zW 163 [zg false x0 e0,zg false x1 e1,.fn (.func 164) [] []] [.t,.t,.t,.f]=FR (.agg [ze (F20 e0 e1 x0 x1),zd (F41 e0 e1 x0 x1),zb,zd (F42 e0 e1 x0 x1),zb]) (F74 e0 e1 x0 x1<|F95 e0 e1 x0 x1<|[]):=by kernel_rfl
theorem zd2 (x0 e0 x1 e1:Nat):FC zW 163 [zg false x0 e0,zg false x1 e1,.fn (.func 164) [] []] [.t,.t,.f,.c]=FR (.agg [ze (F20 e0 e1 x0 x1),zd (F41 e0 e1 x0 x1),zb,zd (F42 e0 e1 x0 x1),zb]) (F74 e0 e1 x0 x1<|F96 e0 e1 x0 x1<|[]):=by kernel_rfl
theorem zd3 (x0 e0 x1 e1:Nat):FC zW 163 [zg false x0 e0,zg false x1 e1,.fn (.func 164) [] []] [.t,.f,.f,.c]=FR (.agg [ze (F20 e0 e1 x0 x1),zd (F41 e0 e1 x0 x1),zb,zd (F42 e0 e1 x0 x1),zb]) (F74 e0 e1 x0 x1<|F80 e0 e1 x0 x1<|F86 e0<|[]):=by kernel_rfl
theorem Wd (x0 e0 x1 e1:Nat):FC zW 163 [zg false x0 e0,zg false x1 e1,.fn (.func 164) [] []] [.f,.f,.f,.c]=FR (.agg [ze (F20 e0 e1 x0 x1),zd (F41 e0 e1 x0 x1),zb,zd (F42 e0 e1 x0 x1),zb]) (F74 e0 e1 x0 x1<|F80 e0 e1 x0 x1<|F87 e0<|[]):=by kernel_rfl
theorem We (x0 e0 x1 e1:Nat):FC zW 163 [zg false x0 e0,zg false x1 e1,.fn (.func 165) [] []] [.t,.t,.t,.t]=FR (.agg [ze (xe false x0 (mk (notB false) x1) x1),zd (yw false x0 (mk (notB false) x1) x1),zb,zd 0,zb]) (Fo (yP false x0 (mk (notB false) x1) x1,true)<|F91 e0 e1<|[]):=by kernel_rfl
theorem Wf (x0 e0 x1 e1:Nat):FC zW 163 [zg false x0 e0,zg false x1 e1,.fn (.func 165) [] []] [.t,.t,.t,.f]=FR (.agg [ze (F27 e0 e1 x0 x1),zd (yH (F14 e0 e1 x0 x1) (F0 e0 e1)),zb,zd (yI (F14 e0 e1 x0 x1) (F0 e0 e1)),zb]) (F64 e0 e1 x0 x1<|F95 e0 e1 x0 x1<|[]):=by kernel_rfl
theorem zd4 (x0 e0 x1 e1:Nat):FC zW 163 [zg false x0 e0,zg false x1 e1,.fn (.func 165) [] []] [.t,.t,.f,.c]=FR (.agg [ze (F27 e0 e1 x0 x1),zd (yH (F14 e0 e1 x0 x1) (F0 e0 e1)),zb,zd (yI (F14 e0 e1 x0 x1) (F0 e0 e1)),zb]) (F64 e0 e1 x0 x1<|F96 e0 e1 x0 x1<|[]):=by kernel_rfl
theorem zd5 (x0 e0 x1 e1:Nat):FC zW 163 [zg false x0 e0,zg false x1 e1,.fn (.func 165) [] []] [.t,.f,.f,.c]=FR (.agg [ze (F27 e0 e1 x0 x1),zd (yH (F14 e0 e1 x0 x1) (F0 e0 e1)),zb,zd (yI (F14 e0 e1 x0 x1) (F0 e0 e1)),zb]) (F64 e0 e1 x0 x1<|F80 e0 e1 x0 x1<|F86 e0<|[]):=by kernel_rfl
theorem Wg (x0 e0 x1 e1:Nat):FC zW 163 [zg false x0 e0,zg false x1 e1,.fn (.func 165) [] []] [.f,.f,.f,.c]=FR (.agg [ze (F27 e0 e1 x0 x1),zd (yH (F14 e0 e1 x0 x1) (F0 e0 e1)),zb,zd (yI (F14 e0 e1 x0 x1) (F0 e0 e1)),zb]) (F64 e0 e1 x0 x1<|F80 e0 e1 x0 x1<|F87 e0<|[]):=by kernel_rfl
theorem zd6:Ok Tryz.prog E0 163:=zM (S:=fun g=>memN g zch) mixed K1 rfl fun l v h=>by
  rw [zgo] at h
  replace h:=YA h; obtain ⟨a,b,c,rfl,h⟩:=h
  replace h:=z0 h; obtain ⟨s0,x0,e0,rfl,h⟩:=h
  replace h:=z0 h; obtain ⟨s1,x1,e1,rfl,h⟩:=h
  replace h:=zbj h; obtain ⟨g,p,q,rfl,h⟩:=h
  replace h:=yy h; obtain ⟨rfl,h⟩:=h
  replace h:=yy h; obtain ⟨rfl,h⟩:=h
  have hg:(g=164∧YB yw xe yP s0 x0 e0 s1 x1 e1=some (v,true))∨(g=165∧YB zP zS zT s0 x0 e0 s1 x1 e1=some (v,true)):=by
    cases h1:Nat.beq g 164 with
    | true=>rw [h1,ifB_true] at h; exact .inl ⟨beq_true.1 h1,h⟩
    |
      false =>
      rw [h1,zj] at h
      cases h2:Nat.beq g 165 with
      | true=>rw [h2,ifB_true] at h; exact .inr ⟨beq_true.1 h2,h⟩
      | false=>rw [h2] at h; cases h
  clear h
  rcases hg with ⟨rfl,h⟩ | ⟨rfl,h⟩
  ·
    obtain ⟨rfl,hc⟩:=zC h
    cases s0 <;> cases s1 <;> refine ⟨rfl,rfl,?_⟩
    ·
      by_cases h0:e0=0
      ·
        by_cases h1:e1=0
        ·
          have he:andB (Nat.beq e0 0) (Nat.beq e1 0)=true:=zl.2 ⟨Abs.beq_true.2 h0,Abs.beq_true.2 h1⟩
          rw [he] at hc ⊢
          simp only [NQ,zA,zL,not_false_eq_true,and_true,true_and,and_self,reduceCtorEq,zP,zS,zT,ne_eq] at hc
          exact zp (Wb x0 e0 x1 e1) rfl
        ·
          have he:andB (Nat.beq e0 0) (Nat.beq e1 0)=false:=by rw [zQ.2 h1]; cases Nat.beq e0 0 <;> rfl
          rw [he] at hc ⊢
          simp only [NQ,zA,zL,not_false_eq_true,and_true,true_and,and_self,reduceCtorEq,zP,zS,zT,ne_eq] at hc
          exact zp (Wc x0 e0 x1 e1) rfl
      ·
        have he:andB (Nat.beq e0 0) (Nat.beq e1 0)=false:=by rw [zQ.2 h0]; rfl
        rw [he] at hc ⊢
        simp only [NQ,zA,zL,not_false_eq_true,and_true,true_and,and_self,reduceCtorEq,zP,zS,zT,ne_eq] at hc
        exact zp (Wd x0 e0 x1 e1) rfl
    ·
      by_cases h0:e0=0
      ·
        by_cases h1:e1=0
        ·
          have he:andB (Nat.beq e0 0) (Nat.beq e1 0)=true:=zl.2 ⟨Abs.beq_true.2 h0,Abs.beq_true.2 h1⟩
          rw [he] at hc ⊢
          simp only [NQ,zA,zL,not_false_eq_true,and_true,true_and,and_self,reduceCtorEq,zP,zS,zT,ne_eq] at hc
          exact zp (X6 x0 e0 x1 e1) rfl
        ·
          have he:andB (Nat.beq e0 0) (Nat.beq e1 0)=false:=by rw [zQ.2 h1]; cases Nat.beq e0 0 <;> rfl
          rw [he] at hc ⊢
          simp only [NQ,zA,zL,not_false_eq_true,and_true,true_and,and_self,reduceCtorEq,zP,zS,zT,ne_eq] at hc
          exact zp (X7 x0 e0 x1 e1) rfl
      ·
        have he:andB (Nat.beq e0 0) (Nat.beq e1 0)=false:=by rw [zQ.2 h0]; rfl
        rw [he] at hc ⊢
        simp only [NQ,zA,zL,not_false_eq_true,and_true,true_and,and_self,reduceCtorEq,zP,zS,zT,ne_eq] at hc
        exact zp (X8 x0 e0 x1 e1) rfl
    ·
      by_cases h0:e0=0
      ·
        by_cases h1:e1=0
        ·
          have he:andB (Nat.beq e0 0) (Nat.beq e1 0)=true:=zl.2 ⟨Abs.beq_true.2 h0,Abs.beq_true.2 h1⟩
          rw [he] at hc ⊢
          simp only [NQ,zA,zL,not_false_eq_true,and_true,true_and,and_self,reduceCtorEq,zP,zS,zT,ne_eq] at hc
          exact zp (XW x0 e0 x1 e1) rfl
        ·
          have he:andB (Nat.beq e0 0) (Nat.beq e1 0)=false:=by rw [zQ.2 h1]; cases Nat.beq e0 0 <;> rfl
          rw [he] at hc ⊢
          simp only [NQ,zA,zL,not_false_eq_true,and_true,true_and,and_self,reduceCtorEq,zP,zS,zT,ne_eq] at hc
          exact zp (XY x0 e0 x1 e1) rfl
      ·
        have he:andB (Nat.beq e0 0) (Nat.beq e1 0)=false:=by rw [zQ.2 h0]; rfl
        rw [he] at hc ⊢
        simp only [NQ,zA,zL,not_false_eq_true,and_true,true_and,and_self,reduceCtorEq,zP,zS,zT,ne_eq] at hc
        exact zp (XZ x0 e0 x1 e1) rfl
    ·
      by_cases h0:e0=0
      ·
        by_cases h1:e1=0
        ·
          have he:andB (Nat.beq e0 0) (Nat.beq e1 0)=true:=zl.2 ⟨Abs.beq_true.2 h0,Abs.beq_true.2 h1⟩
          rw [he] at hc ⊢
          simp only [NQ,zA,zL,not_false_eq_true,and_true,true_and,and_self,reduceCtorEq,zP,zS,zT,ne_eq] at hc
          exact zp (XQ x0 e0 x1 e1) rfl
        ·
          have he:andB (Nat.beq e0 0) (Nat.beq e1 0)=false:=by rw [zQ.2 h1]; cases Nat.beq e0 0 <;> rfl
          rw [he] at hc ⊢
          simp only [NQ,zA,zL,not_false_eq_true,and_true,true_and,and_self,reduceCtorEq,zP,zS,zT,ne_eq] at hc
          exact zp (XR x0 e0 x1 e1) rfl
      ·
        have he:andB (Nat.beq e0 0) (Nat.beq e1 0)=false:=by rw [zQ.2 h0]; rfl
        rw [he] at hc ⊢
        simp only [NQ,zA,zL,not_false_eq_true,and_true,true_and,and_self,reduceCtorEq,zP,zS,zT,ne_eq] at hc
        exact zp (XS x0 e0 x1 e1) rfl
  ·
    obtain ⟨rfl,hc⟩:=zC h
    cases s0 <;> cases s1 <;> refine ⟨rfl,rfl,?_⟩
    ·
      by_cases h0:e0=0
      ·
        by_cases h1:e1=0
        ·
          have he:andB (Nat.beq e0 0) (Nat.beq e1 0)=true:=zl.2 ⟨Abs.beq_true.2 h0,Abs.beq_true.2 h1⟩
          rw [he] at hc ⊢
          simp only [NQ,zA,zL,not_false_eq_true,and_true,true_and,and_self,reduceCtorEq,zP,zS,zT,ne_eq] at hc
          exact zp (We x0 e0 x1 e1) rfl
        ·
          have he:andB (Nat.beq e0 0) (Nat.beq e1 0)=false:=by rw [zQ.2 h1]; cases Nat.beq e0 0 <;> rfl
          rw [he] at hc ⊢
          simp only [NQ,zA,zL,not_false_eq_true,and_true,true_and,and_self,reduceCtorEq,zP,zS,zT,ne_eq] at hc
          exact zp (Wf x0 e0 x1 e1) rfl
      ·
        have he:andB (Nat.beq e0 0) (Nat.beq e1 0)=false:=by rw [zQ.2 h0]; rfl
        rw [he] at hc ⊢
        simp only [NQ,zA,zL,not_false_eq_true,and_true,true_and,and_self,reduceCtorEq,zP,zS,zT,ne_eq] at hc
        exact zp (Wg x0 e0 x1 e1) rfl
    ·
      by_cases h0:e0=0
      ·
        by_cases h1:e1=0
        ·
          have he:andB (Nat.beq e0 0) (Nat.beq e1 0)=true:=zl.2 ⟨Abs.beq_true.2 h0,Abs.beq_true.2 h1⟩
          rw [he] at hc ⊢
          simp only [NQ,zA,zL,not_false_eq_true,and_true,true_and,and_self,reduceCtorEq,zP,zS,zT,ne_eq] at hc
          exact zp (X9 x0 e0 x1 e1) rfl
        ·
          have he:andB (Nat.beq e0 0) (Nat.beq e1 0)=false:=by rw [zQ.2 h1]; cases Nat.beq e0 0 <;> rfl
          rw [he] at hc ⊢
          simp only [NQ,zA,zL,not_false_eq_true,and_true,true_and,and_self,reduceCtorEq,zP,zS,zT,ne_eq] at hc
          exact zp (X_ x0 e0 x1 e1) rfl
      ·
        have he:andB (Nat.beq e0 0) (Nat.beq e1 0)=false:=by rw [zQ.2 h0]; rfl
        rw [he] at hc ⊢
        simp only [NQ,zA,zL,not_false_eq_true,and_true,true_and,and_self,reduceCtorEq,zP,zS,zT,ne_eq] at hc
        exact zp (Wa x0 e0 x1 e1) rfl
    ·
      by_cases h0:e0=0
      ·
        by_cases h1:e1=0
        ·
          have he:andB (Nat.beq e0 0) (Nat.beq e1 0)=true:=zl.2 ⟨Abs.beq_true.2 h0,Abs.beq_true.2 h1⟩
          rw [he] at hc ⊢
          simp only [NQ,zA,zL,not_false_eq_true,and_true,true_and,and_self,reduceCtorEq,zP,zS,zT,ne_eq] at hc
          exact zp (X3 x0 e0 x1 e1) rfl
        ·
          have he:andB (Nat.beq e0 0) (Nat.beq e1 0)=false:=by rw [zQ.2 h1]; cases Nat.beq e0 0 <;> rfl
          rw [he] at hc ⊢
          simp only [NQ,zA,zL,not_false_eq_true,and_true,true_and,and_self,reduceCtorEq,zP,zS,zT,ne_eq] at hc
          exact zp (X4 x0 e0 x1 e1) rfl
      ·
        have he:andB (Nat.beq e0 0) (Nat.beq e1 0)=false:=by rw [zQ.2 h0]; rfl
        rw [he] at hc ⊢
        simp only [NQ,zA,zL,not_false_eq_true,and_true,true_and,and_self,reduceCtorEq,zP,zS,zT,ne_eq] at hc
        exact zp (X5 x0 e0 x1 e1) rfl
    ·
      by_cases h0:e0=0
      ·
        by_cases h1:e1=0
        ·
          have he:andB (Nat.beq e0 0) (Nat.beq e1 0)=true:=zl.2 ⟨Abs.beq_true.2 h0,Abs.beq_true.2 h1⟩
          rw [he] at hc ⊢
          simp only [NQ,zA,zL,not_false_eq_true,and_true,true_and,and_self,reduceCtorEq,zP,zS,zT,ne_eq] at hc
          exact zp (XT x0 e0 x1 e1) rfl
        ·
          have he:andB (Nat.beq e0 0) (Nat.beq e1 0)=false:=by rw [zQ.2 h1]; cases Nat.beq e0 0 <;> rfl
          rw [he] at hc ⊢
          simp only [NQ,zA,zL,not_false_eq_true,and_true,true_and,and_self,reduceCtorEq,zP,zS,zT,ne_eq] at hc
          exact zp (XU x0 e0 x1 e1) rfl
      ·
        have he:andB (Nat.beq e0 0) (Nat.beq e1 0)=false:=by rw [zQ.2 h0]; rfl
        rw [he] at hc ⊢
        simp only [NQ,zA,zL,not_false_eq_true,and_true,true_and,and_self,reduceCtorEq,zP,zS,zT,ne_eq] at hc
        exact zp (XV x0 e0 x1 e1) rfl
theorem K5:∀ g,memN g K3=true→Ok Tryz.prog E0 g:=zE K1 zd6
abbrev K6:List Nat:=109::K3
def Wh:Es:=only (fun g=>memN g K3) E0
theorem zgp (l:List AV):E0 109 l=Kv l:=by kernel_rfl
theorem VW (x0 e0 x1 e1:Nat):FC Wh 109 [zg true x0 e0,zg true x1 e1] []=FR (.agg [ze (ifB (F19 e0 e1) (xe true x0 true x1) (F21 e0 e1 x0 x1)),zd (ifB (F19 e0 e1) (yw true x0 true x1) (F43 e0 e1 x0 x1)),zb,zd (ifB (F19 e0 e1) 0 (F44 e0 e1 x0 x1)),zb]) (Fo (andB (small e0) (andB (small e1) (ifB (andB (e0.beq 0) (e1.beq 0)) (yP true x0 true x1) (andB (small (e0.add 1)) (andB (small (e1.add 1)) (andB (zA x0 (e1.add 1)) (andB (zA x1 (e0.add 1)) (andB (yP (mk true (x0.mul (e1.add 1))) (x0.mul (e1.add 1)) (mk true (x1.mul (e0.add 1))) (x1.mul (e0.add 1))) (andB (zA (e0.add 1) (e1.add 1)) (zL (yw (mk true (x0.mul (e1.add 1))) (x0.mul (e1.add 1)) (mk true (x1.mul (e0.add 1))) (x1.mul (e0.add 1))) ((e0.add 1).mul (e1.add 1))))))))))),true)<|[]):=by kernel_rfl
theorem VX (x0 e0 x1 e1:Nat):FC Wh 109 [zg true x0 e0,zg false x1 e1] []=FR (.agg [ze (ifB (F19 e0 e1) (xe true x0 false x1) (F22 e0 e1 x0 x1)),zd (ifB (F19 e0 e1) (yw true x0 false x1) (F45 e0 e1 x0 x1)),zb,zd (ifB (F19 e0 e1) 0 (F46 e0 e1 x0 x1)),zb]) (Fo (andB (small e0) (andB (small e1) (ifB (andB (e0.beq 0) (e1.beq 0)) (yP true x0 false x1) (andB (small (e0.add 1)) (andB (small (e1.add 1)) (andB (zA x0 (e1.add 1)) (andB (zA x1 (e0.add 1)) (andB (yP (mk true (x0.mul (e1.add 1))) (x0.mul (e1.add 1)) (mk false (x1.mul (e0.add 1))) (x1.mul (e0.add 1))) (andB (zA (e0.add 1) (e1.add 1)) (zL (yw (mk true (x0.mul (e1.add 1))) (x0.mul (e1.add 1)) (mk false (x1.mul (e0.add 1))) (x1.mul (e0.add 1))) ((e0.add 1).mul (e1.add 1))))))))))),true)<|[]):=by kernel_rfl
theorem VY (x0 e0 x1 e1:Nat):FC Wh 109 [zg false x0 e0,zg true x1 e1] []=FR (.agg [ze (ifB (F19 e0 e1) (xe false x0 true x1) (F23 e0 e1 x0 x1)),zd (ifB (F19 e0 e1) (yw false x0 true x1) (F47 e0 e1 x0 x1)),zb,zd (ifB (F19 e0 e1) 0 (F48 e0 e1 x0 x1)),zb]) (Fo (andB (small e0) (andB (small e1) (ifB (andB (e0.beq 0) (e1.beq 0)) (yP false x0 true x1) (andB (small (e0.add 1)) (andB (small (e1.add 1)) (andB (zA x0 (e1.add 1)) (andB (zA x1 (e0.add 1)) (andB (yP (mk false (x0.mul (e1.add 1))) (x0.mul (e1.add 1)) (mk true (x1.mul (e0.add 1))) (x1.mul (e0.add 1))) (andB (zA (e0.add 1) (e1.add 1)) (zL (yw (mk false (x0.mul (e1.add 1))) (x0.mul (e1.add 1)) (mk true (x1.mul (e0.add 1))) (x1.mul (e0.add 1))) ((e0.add 1).mul (e1.add 1))))))))))),true)<|[]):=by kernel_rfl
theorem VZ (x0 e0 x1 e1:Nat):FC Wh 109 [zg false x0 e0,zg false x1 e1] []=FR (.agg [ze (ifB (F19 e0 e1) (xe false x0 false x1) (F20 e0 e1 x0 x1)),zd (ifB (F19 e0 e1) (yw false x0 false x1) (F41 e0 e1 x0 x1)),zb,zd (ifB (F19 e0 e1) 0 (F42 e0 e1 x0 x1)),zb]) (Fo (andB (small e0) (andB (small e1) (ifB (andB (e0.beq 0) (e1.beq 0)) (yP false x0 false x1) (andB (small (e0.add 1)) (andB (small (e1.add 1)) (andB (zA x0 (e1.add 1)) (andB (zA x1 (e0.add 1)) (andB (yP (mk false (x0.mul (e1.add 1))) (x0.mul (e1.add 1)) (mk false (x1.mul (e0.add 1))) (x1.mul (e0.add 1))) (andB (zA (e0.add 1) (e1.add 1)) (zL (yw (mk false (x0.mul (e1.add 1))) (x0.mul (e1.add 1)) (mk false (x1.mul (e0.add 1))) (x1.mul (e0.add 1))) ((e0.add 1).mul (e1.add 1))))))))))),true)<|[]):=by kernel_rfl
theorem zd7:Ok Tryz.prog E0 109:=zM (S:=fun g=>memN g K3) mixed K5 rfl fun l v h=>by
  rw [zgp] at h
  replace h:=zF h; obtain ⟨a,b,rfl,h⟩:=h
  replace h:=z0 h; obtain ⟨s0,x0,e0,rfl,h⟩:=h
  replace h:=z0 h; obtain ⟨s1,x1,e1,rfl,h⟩:=h
  obtain ⟨rfl,hc⟩:=zC h
  cases s0 <;> cases s1 <;> refine ⟨rfl,rfl,?_⟩
  · exact zp (VZ x0 e0 x1 e1) rfl
  · exact zp (VY x0 e0 x1 e1) rfl
  · exact zp (VX x0 e0 x1 e1) rfl
  · exact zp (VW x0 e0 x1 e1) rfl
theorem K7:∀ g,memN g K6=true→Ok Tryz.prog E0 g:=zE K5 zd7
abbrev K9:List Nat:=110::K6
def Wi:Es:=only (fun g=>memN g K6) E0
theorem zgq (l:List AV):E0 110 l=Kw l:=by kernel_rfl
theorem V0 (x0 e0 x1 e1:Nat):FC Wi 110 [zg true x0 e0,zg true x1 e1] []=FR (.agg [ze (ifB (F19 e0 e1) (zS true x0 true x1) (xb (zS (F4 e1 x0) (x0.mul (e1.add 1)) (F2 e0 x1) (x1.mul (e0.add 1))) (F35 e0 e1 x0 x1) (F0 e0 e1))),zd (ifB (F19 e0 e1) (zP true x0 true x1) (yH (F35 e0 e1 x0 x1) (F0 e0 e1))),zb,zd (ifB (F19 e0 e1) 0 (yI (F35 e0 e1 x0 x1) (F0 e0 e1))),zb]) (Fo (andB (small e0) (andB (small e1) (ifB (andB (e0.beq 0) (e1.beq 0)) (zT true x0 true x1) (andB (small (e0.add 1)) (andB (small (e1.add 1)) (andB (zA x0 (e1.add 1)) (andB (zA x1 (e0.add 1)) (andB (zT (mk true (x0.mul (e1.add 1))) (x0.mul (e1.add 1)) (mk true (x1.mul (e0.add 1))) (x1.mul (e0.add 1))) (andB (zA (e0.add 1) (e1.add 1)) (zL (zP (mk true (x0.mul (e1.add 1))) (x0.mul (e1.add 1)) (mk true (x1.mul (e0.add 1))) (x1.mul (e0.add 1))) ((e0.add 1).mul (e1.add 1))))))))))),true)<|[]):=by kernel_rfl
theorem V1 (x0 e0 x1 e1:Nat):FC Wi 110 [zg true x0 e0,zg false x1 e1] []=FR (.agg [ze (ifB (F19 e0 e1) (zS true x0 false x1) (xb (zS (F4 e1 x0) (x0.mul (e1.add 1)) (F1 e0 x1) (x1.mul (e0.add 1))) (F36 e0 e1 x0 x1) (F0 e0 e1))),zd (ifB (F19 e0 e1) (zP true x0 false x1) (yH (F36 e0 e1 x0 x1) (F0 e0 e1))),zb,zd (ifB (F19 e0 e1) 0 (yI (F36 e0 e1 x0 x1) (F0 e0 e1))),zb]) (Fo (andB (small e0) (andB (small e1) (ifB (andB (e0.beq 0) (e1.beq 0)) (zT true x0 false x1) (andB (small (e0.add 1)) (andB (small (e1.add 1)) (andB (zA x0 (e1.add 1)) (andB (zA x1 (e0.add 1)) (andB (zT (mk true (x0.mul (e1.add 1))) (x0.mul (e1.add 1)) (mk false (x1.mul (e0.add 1))) (x1.mul (e0.add 1))) (andB (zA (e0.add 1) (e1.add 1)) (zL (zP (mk true (x0.mul (e1.add 1))) (x0.mul (e1.add 1)) (mk false (x1.mul (e0.add 1))) (x1.mul (e0.add 1))) ((e0.add 1).mul (e1.add 1))))))))))),true)<|[]):=by kernel_rfl
theorem V2 (x0 e0 x1 e1:Nat):FC Wi 110 [zg false x0 e0,zg true x1 e1] []=FR (.agg [ze (ifB (F19 e0 e1) (zS false x0 true x1) (xb (zS (F3 e1 x0) (x0.mul (e1.add 1)) (F2 e0 x1) (x1.mul (e0.add 1))) (F37 e0 e1 x0 x1) (F0 e0 e1))),zd (ifB (F19 e0 e1) (zP false x0 true x1) (yH (F37 e0 e1 x0 x1) (F0 e0 e1))),zb,zd (ifB (F19 e0 e1) 0 (yI (F37 e0 e1 x0 x1) (F0 e0 e1))),zb]) (Fo (andB (small e0) (andB (small e1) (ifB (andB (e0.beq 0) (e1.beq 0)) (zT false x0 true x1) (andB (small (e0.add 1)) (andB (small (e1.add 1)) (andB (zA x0 (e1.add 1)) (andB (zA x1 (e0.add 1)) (andB (zT (mk false (x0.mul (e1.add 1))) (x0.mul (e1.add 1)) (mk true (x1.mul (e0.add 1))) (x1.mul (e0.add 1))) (andB (zA (e0.add 1) (e1.add 1)) (zL (zP (mk false (x0.mul (e1.add 1))) (x0.mul (e1.add 1)) (mk true (x1.mul (e0.add 1))) (x1.mul (e0.add 1))) ((e0.add 1).mul (e1.add 1))))))))))),true)<|[]):=by kernel_rfl
theorem V3 (x0 e0 x1 e1:Nat):FC Wi 110 [zg false x0 e0,zg false x1 e1] []=FR (.agg [ze (ifB (F19 e0 e1) (zS false x0 false x1) (xb (zS (F3 e1 x0) (x0.mul (e1.add 1)) (F1 e0 x1) (x1.mul (e0.add 1))) (F38 e0 e1 x0 x1) (F0 e0 e1))),zd (ifB (F19 e0 e1) (zP false x0 false x1) (yH (F38 e0 e1 x0 x1) (F0 e0 e1))),zb,zd (ifB (F19 e0 e1) 0 (yI (F38 e0 e1 x0 x1) (F0 e0 e1))),zb]) (Fo (andB (small e0) (andB (small e1) (ifB (andB (e0.beq 0) (e1.beq 0)) (zT false x0 false x1) (andB (small (e0.add 1)) (andB (small (e1.add 1)) (andB (zA x0 (e1.add 1)) (andB (zA x1 (e0.add 1)) (andB (zT (mk false (x0.mul (e1.add 1))) (x0.mul (e1.add 1)) (mk false (x1.mul (e0.add 1))) (x1.mul (e0.add 1))) (andB (zA (e0.add 1) (e1.add 1)) (zL (zP (mk false (x0.mul (e1.add 1))) (x0.mul (e1.add 1)) (mk false (x1.mul (e0.add 1))) (x1.mul (e0.add 1))) ((e0.add 1).mul (e1.add 1))))))))))),true)<|[]):=by kernel_rfl
theorem zd8:Ok Tryz.prog E0 110:=zM (S:=fun g=>memN g K6) mixed K7 rfl fun l v h=>by
  rw [zgq] at h
  replace h:=zF h; obtain ⟨a,b,rfl,h⟩:=h
  replace h:=z0 h; obtain ⟨s0,x0,e0,rfl,h⟩:=h
  replace h:=z0 h; obtain ⟨s1,x1,e1,rfl,h⟩:=h
  obtain ⟨rfl,hc⟩:=zC h
  cases s0 <;> cases s1 <;> refine ⟨rfl,rfl,?_⟩
  · exact zp (V3 x0 e0 x1 e1) rfl
  · exact zp (V2 x0 e0 x1 e1) rfl
  · exact zp (V1 x0 e0 x1 e1) rfl
  · exact zp (V0 x0 e0 x1 e1) rfl
theorem K_:∀ g,memN g K9=true→Ok Tryz.prog E0 g:=zE K7 zd8
abbrev Ja:List Nat:=108::K9
def yW:Es:=only (fun g=>memN g K9) E0
theorem zgr (l:List AV):E0 108 l=Ky l:=by kernel_rfl
theorem V4 (x0 e0 x1 e1:Nat):FC yW 108 [zg true x0 e0,zg true x1 e1] [.t,.t,.t,.t]=FR (.agg [ze (mk (xC true true) (x0.mul x1)),zd (x0.mul x1),zb,zd 0,zb]) (F79 e0 e1<|F84 e0 x0 x1<|[]):=by kernel_rfl
theorem V5 (x0 e0 x1 e1:Nat):FC yW 108 [zg true x0 e0,zg true x1 e1] [.t,.t,.t,.f]=FR (.agg [ze (F34 e0 e1 x0 x1),zd (F28 e0 e1 x0 x1),zb,zd (F29 e0 e1 x0 x1),zb]) (F59 e0 e1 x0 x1<|F78 e0 e1<|F84 e0 x0 x1<|[]):=by kernel_rfl
theorem zfg (x0 e0 x1 e1:Nat):FC yW 108 [zg true x0 e0,zg true x1 e1] [.t,.t,.f,.c]=FR (.agg [ze (F34 e0 e1 x0 x1),zd (F28 e0 e1 x0 x1),zb,zd (F29 e0 e1 x0 x1),zb]) (F59 e0 e1 x0 x1<|F73 e0 e1<|F84 e0 x0 x1<|[]):=by kernel_rfl
theorem zfh (x0 e0 x1 e1:Nat):FC yW 108 [zg true x0 e0,zg true x1 e1] [.t,.f,.f,.c]=FR (.agg [ze (F34 e0 e1 x0 x1),zd (F28 e0 e1 x0 x1),zb,zd (F29 e0 e1 x0 x1),zb]) (F59 e0 e1 x0 x1<|F86 e0<|Fo (zA x0 x1,true)<|[]):=by kernel_rfl
theorem V6 (x0 e0 x1 e1:Nat):FC yW 108 [zg true x0 e0,zg true x1 e1] [.f,.f,.f,.c]=FR (.agg [ze (F34 e0 e1 x0 x1),zd (F28 e0 e1 x0 x1),zb,zd (F29 e0 e1 x0 x1),zb]) (F59 e0 e1 x0 x1<|F87 e0<|Fo (zA x0 x1,true)<|[]):=by kernel_rfl
theorem V7 (x0 e0 x1 e1:Nat):FC yW 108 [zg true x0 e0,zg false x1 e1] [.t,.t,.t,.t]=FR (.agg [ze (mk (xC true false) (x0.mul x1)),zd (x0.mul x1),zb,zd 0,zb]) (F79 e0 e1<|F84 e0 x0 x1<|[]):=by kernel_rfl
theorem V8 (x0 e0 x1 e1:Nat):FC yW 108 [zg true x0 e0,zg false x1 e1] [.t,.t,.t,.f]=FR (.agg [ze (F32 e0 e1 x0 x1),zd (F28 e0 e1 x0 x1),zb,zd (F29 e0 e1 x0 x1),zb]) (F59 e0 e1 x0 x1<|F78 e0 e1<|F84 e0 x0 x1<|[]):=by kernel_rfl
theorem zfi (x0 e0 x1 e1:Nat):FC yW 108 [zg true x0 e0,zg false x1 e1] [.t,.t,.f,.c]=FR (.agg [ze (F32 e0 e1 x0 x1),zd (F28 e0 e1 x0 x1),zb,zd (F29 e0 e1 x0 x1),zb]) (F59 e0 e1 x0 x1<|F73 e0 e1<|F84 e0 x0 x1<|[]):=by kernel_rfl
theorem zfj (x0 e0 x1 e1:Nat):FC yW 108 [zg true x0 e0,zg false x1 e1] [.t,.f,.f,.c]=FR (.agg [ze (F32 e0 e1 x0 x1),zd (F28 e0 e1 x0 x1),zb,zd (F29 e0 e1 x0 x1),zb]) (F59 e0 e1 x0 x1<|F86 e0<|Fo (zA x0 x1,true)<|[]):=by kernel_rfl
theorem V9 (x0 e0 x1 e1:Nat):FC yW 108 [zg true x0 e0,zg false x1 e1] [.f,.f,.f,.c]=FR (.agg [ze (F32 e0 e1 x0 x1),zd (F28 e0 e1 x0 x1),zb,zd (F29 e0 e1 x0 x1),zb]) (F59 e0 e1 x0 x1<|F87 e0<|Fo (zA x0 x1,true)<|[]):=by kernel_rfl
theorem V_ (x0 e0 x1 e1:Nat):FC yW 108 [zg false x0 e0,zg true x1 e1] [.t,.t,.t,.t]=FR (.agg [ze (mk (xC false true) (x0.mul x1)),zd (x0.mul x1),zb,zd 0,zb]) (F79 e0 e1<|F84 e0 x0 x1<|[]):=by kernel_rfl
theorem Ua (x0 e0 x1 e1:Nat):FC yW 108 [zg false x0 e0,zg true x1 e1] [.t,.t,.t,.f]=FR (.agg [ze (F33 e0 e1 x0 x1),zd (F28 e0 e1 x0 x1),zb,zd (F29 e0 e1 x0 x1),zb]) (F59 e0 e1 x0 x1<|F78 e0 e1<|F84 e0 x0 x1<|[]):=by kernel_rfl
theorem zfk (x0 e0 x1 e1:Nat):FC yW 108 [zg false x0 e0,zg true x1 e1] [.t,.t,.f,.c]=FR (.agg [ze (F33 e0 e1 x0 x1),zd (F28 e0 e1 x0 x1),zb,zd (F29 e0 e1 x0 x1),zb]) (F59 e0 e1 x0 x1<|F73 e0 e1<|F84 e0 x0 x1<|[]):=by kernel_rfl
theorem zfl (x0 e0 x1 e1:Nat):FC yW 108 [zg false x0 e0,zg true x1 e1] [.t,.f,.f,.c]=FR (.agg [ze (F33 e0 e1 x0 x1),zd (F28 e0 e1 x0 x1),zb,zd (F29 e0 e1 x0 x1),zb]) (F59 e0 e1 x0 x1<|F86 e0<|Fo (zA x0 x1,true)<|[]):=by kernel_rfl
theorem Ub (x0 e0 x1 e1:Nat):FC yW 108 [zg false x0 e0,zg true x1 e1] [.f,.f,.f,.c]=FR (.agg [ze (F33 e0 e1 x0 x1),zd (F28 e0 e1 x0 x1),zb,zd (F29 e0 e1 x0 x1),zb]) (F59 e0 e1 x0 x1<|F87 e0<|Fo (zA x0 x1,true)<|[]):=by kernel_rfl
theorem Uc (x0 e0 x1 e1:Nat):FC yW 108 [zg false x0 e0,zg false x1 e1] [.t,.t,.t,.t]=FR (.agg [ze (mk (xC false false) (x0.mul x1)),zd (x0.mul x1),zb,zd 0,zb]) (F79 e0 e1<|F84 e0 x0 x1<|[]):=by kernel_rfl
theorem Ud (x0 e0 x1 e1:Nat):FC yW 108 [zg false x0 e0,zg false x1 e1] [.t,.t,.t,.f]=FR (.agg [ze (F31 e0 e1 x0 x1),zd (F28 e0 e1 x0 x1),zb,zd (F29 e0 e1 x0 x1),zb]) (F59 e0 e1 x0 x1<|F78 e0 e1<|F84 e0 x0 x1<|[]):=by kernel_rfl
theorem zfm (x0 e0 x1 e1:Nat):FC yW 108 [zg false x0 e0,zg false x1 e1] [.t,.t,.f,.c]=FR (.agg [ze (F31 e0 e1 x0 x1),zd (F28 e0 e1 x0 x1),zb,zd (F29 e0 e1 x0 x1),zb]) (F59 e0 e1 x0 x1<|F73 e0 e1<|F84 e0 x0 x1<|[]):=by kernel_rfl
theorem zfn (x0 e0 x1 e1:Nat):FC yW 108 [zg false x0 e0,zg false x1 e1] [.t,.f,.f,.c]=FR (.agg [ze (F31 e0 e1 x0 x1),zd (F28 e0 e1 x0 x1),zb,zd (F29 e0 e1 x0 x1),zb]) (F59 e0 e1 x0 x1<|F86 e0<|Fo (zA x0 x1,true)<|[]):=by kernel_rfl
theorem Ue (x0 e0 x1 e1:Nat):FC yW 108 [zg false x0 e0,zg false x1 e1] [.f,.f,.f,.c]=FR (.agg [ze (F31 e0 e1 x0 x1),zd (F28 e0 e1 x0 x1),zb,zd (F29 e0 e1 x0 x1),zb]) (F59 e0 e1 x0 x1<|F87 e0<|Fo (zA x0 x1,true)<|[]):=by kernel_rfl
theorem zd9:Ok Tryz.prog E0 108:=zM (S:=fun g=>memN g K9) mixed K_ rfl fun l v h=>by
  rw [zgr] at h
  replace h:=zF h; obtain ⟨a,b,rfl,h⟩:=h
  replace h:=z0 h; obtain ⟨s0,x0,e0,rfl,h⟩:=h
  replace h:=z0 h; obtain ⟨s1,x1,e1,rfl,h⟩:=h
  obtain ⟨rfl,hc⟩:=zC h
  cases s0 <;> cases s1 <;> refine ⟨rfl,rfl,?_⟩
  ·
    by_cases h0:e0=0
    ·
      by_cases h1:e1=0
      ·
        have he:andB (Nat.beq e0 0) (Nat.beq e1 0)=true:=zl.2 ⟨Abs.beq_true.2 h0,Abs.beq_true.2 h1⟩
        rw [he] at hc ⊢
        simp only [NQ,zA,zL,not_false_eq_true,and_true,true_and,and_self,reduceCtorEq,zP,zS,zT,ne_eq] at hc
        exact zp (Uc x0 e0 x1 e1) rfl
      ·
        have he:andB (Nat.beq e0 0) (Nat.beq e1 0)=false:=by rw [zQ.2 h1]; cases Nat.beq e0 0 <;> rfl
        rw [he] at hc ⊢
        simp only [NQ,zA,zL,not_false_eq_true,and_true,true_and,and_self,reduceCtorEq,zP,zS,zT,ne_eq] at hc
        exact zp (Ud x0 e0 x1 e1) rfl
    ·
      have he:andB (Nat.beq e0 0) (Nat.beq e1 0)=false:=by rw [zQ.2 h0]; rfl
      rw [he] at hc ⊢
      simp only [NQ,zA,zL,not_false_eq_true,and_true,true_and,and_self,reduceCtorEq,zP,zS,zT,ne_eq] at hc
      exact zp (Ue x0 e0 x1 e1) rfl
  ·
    by_cases h0:e0=0
    ·
      by_cases h1:e1=0
      ·
        have he:andB (Nat.beq e0 0) (Nat.beq e1 0)=true:=zl.2 ⟨Abs.beq_true.2 h0,Abs.beq_true.2 h1⟩
        rw [he] at hc ⊢
        simp only [NQ,zA,zL,not_false_eq_true,and_true,true_and,and_self,reduceCtorEq,zP,zS,zT,ne_eq] at hc
        exact zp (V_ x0 e0 x1 e1) rfl
      ·
        have he:andB (Nat.beq e0 0) (Nat.beq e1 0)=false:=by rw [zQ.2 h1]; cases Nat.beq e0 0 <;> rfl
        rw [he] at hc ⊢
        simp only [NQ,zA,zL,not_false_eq_true,and_true,true_and,and_self,reduceCtorEq,zP,zS,zT,ne_eq] at hc
        exact zp (Ua x0 e0 x1 e1) rfl
    ·
      have he:andB (Nat.beq e0 0) (Nat.beq e1 0)=false:=by rw [zQ.2 h0]; rfl
      rw [he] at hc ⊢
      simp only [NQ,zA,zL,not_false_eq_true,and_true,true_and,and_self,reduceCtorEq,zP,zS,zT,ne_eq] at hc
      exact zp (Ub x0 e0 x1 e1) rfl
  ·
    by_cases h0:e0=0
    ·
      by_cases h1:e1=0
      ·
        have he:andB (Nat.beq e0 0) (Nat.beq e1 0)=true:=zl.2 ⟨Abs.beq_true.2 h0,Abs.beq_true.2 h1⟩
        rw [he] at hc ⊢
        simp only [NQ,zA,zL,not_false_eq_true,and_true,true_and,and_self,reduceCtorEq,zP,zS,zT,ne_eq] at hc
        exact zp (V7 x0 e0 x1 e1) rfl
      ·
        have he:andB (Nat.beq e0 0) (Nat.beq e1 0)=false:=by rw [zQ.2 h1]; cases Nat.beq e0 0 <;> rfl
        rw [he] at hc ⊢
        simp only [NQ,zA,zL,not_false_eq_true,and_true,true_and,and_self,reduceCtorEq,zP,zS,zT,ne_eq] at hc
        exact zp (V8 x0 e0 x1 e1) rfl
    ·
      have he:andB (Nat.beq e0 0) (Nat.beq e1 0)=false:=by rw [zQ.2 h0]; rfl
      rw [he] at hc ⊢
      simp only [NQ,zA,zL,not_false_eq_true,and_true,true_and,and_self,reduceCtorEq,zP,zS,zT,ne_eq] at hc
      exact zp (V9 x0 e0 x1 e1) rfl
  ·
    by_cases h0:e0=0
    ·
      by_cases h1:e1=0
      ·
        have he:andB (Nat.beq e0 0) (Nat.beq e1 0)=true:=zl.2 ⟨Abs.beq_true.2 h0,Abs.beq_true.2 h1⟩
        rw [he] at hc ⊢
        simp only [NQ,zA,zL,not_false_eq_true,and_true,true_and,and_self,reduceCtorEq,zP,zS,zT,ne_eq] at hc
        exact zp (V4 x0 e0 x1 e1) rfl
      ·
        have he:andB (Nat.beq e0 0) (Nat.beq e1 0)=false:=by rw [zQ.2 h1]; cases Nat.beq e0 0 <;> rfl
        rw [he] at hc ⊢
        simp only [NQ,zA,zL,not_false_eq_true,and_true,true_and,and_self,reduceCtorEq,zP,zS,zT,ne_eq] at hc
        exact zp (V5 x0 e0 x1 e1) rfl
    ·
      have he:andB (Nat.beq e0 0) (Nat.beq e1 0)=false:=by rw [zQ.2 h0]; rfl
      rw [he] at hc ⊢
      simp only [NQ,zA,zL,not_false_eq_true,and_true,true_and,and_self,reduceCtorEq,zP,zS,zT,ne_eq] at hc
      exact zp (V6 x0 e0 x1 e1) rfl
theorem Jb:∀ g,memN g Ja=true→Ok Tryz.prog E0 g:=zE K_ zd9
abbrev Jc:List Nat:=16::Ja
def yX:Es:=only (fun g=>memN g Ja) E0
theorem zgs (l:List AV):E0 16 l=Kz l:=by kernel_rfl
theorem Uf (x0 e0 x1 e1:Nat):FC yX 16 [zg true x0 e0,zg true x1 e1] [.t,.t,.t,.t]=FR (zw (ifB true (ifB true (xY x1 x0) (Int.negSucc 0)) (ifB true (Int.ofNat 1) (xY x0 x1)))) (Fo (true,true)<|F91 e0 e1<|[]):=by kernel_rfl
theorem Ug (x0 e0 x1 e1:Nat):FC yX 16 [zg true x0 e0,zg true x1 e1] [.t,.t,.t,.f]=FR (zw (F15 e0 e1 x0 x1)) (F81 e0 e1 x0 x1<|F92 e0 e1<|[]):=by kernel_rfl
theorem zfo (x0 e0 x1 e1:Nat):FC yX 16 [zg true x0 e0,zg true x1 e1] [.t,.t,.f,.c]=FR (zw (F15 e0 e1 x0 x1)) (F81 e0 e1 x0 x1<|F93 e0 e1<|[]):=by kernel_rfl
theorem zfp (x0 e0 x1 e1:Nat):FC yX 16 [zg true x0 e0,zg true x1 e1] [.t,.f,.f,.c]=FR (zw (F15 e0 e1 x0 x1)) (F81 e0 e1 x0 x1<|F86 e0<|[]):=by kernel_rfl
theorem Uh (x0 e0 x1 e1:Nat):FC yX 16 [zg true x0 e0,zg true x1 e1] [.f,.f,.f,.c]=FR (zw (F15 e0 e1 x0 x1)) (F81 e0 e1 x0 x1<|F87 e0<|[]):=by kernel_rfl
theorem Ui (x0 e0 x1 e1:Nat):FC yX 16 [zg true x0 e0,zg false x1 e1] [.t,.t,.t,.t]=FR (zw (ifB true (ifB false (xY x1 x0) (Int.negSucc 0)) (ifB false (Int.ofNat 1) (xY x0 x1)))) (Fo (true,true)<|F91 e0 e1<|[]):=by kernel_rfl
theorem Uj (x0 e0 x1 e1:Nat):FC yX 16 [zg true x0 e0,zg false x1 e1] [.t,.t,.t,.f]=FR (zw (F16 e0 e1 x0 x1)) (F81 e0 e1 x0 x1<|F92 e0 e1<|[]):=by kernel_rfl
theorem zfq (x0 e0 x1 e1:Nat):FC yX 16 [zg true x0 e0,zg false x1 e1] [.t,.t,.f,.c]=FR (zw (F16 e0 e1 x0 x1)) (F81 e0 e1 x0 x1<|F93 e0 e1<|[]):=by kernel_rfl
theorem zfr (x0 e0 x1 e1:Nat):FC yX 16 [zg true x0 e0,zg false x1 e1] [.t,.f,.f,.c]=FR (zw (F16 e0 e1 x0 x1)) (F81 e0 e1 x0 x1<|F86 e0<|[]):=by kernel_rfl
theorem Uk (x0 e0 x1 e1:Nat):FC yX 16 [zg true x0 e0,zg false x1 e1] [.f,.f,.f,.c]=FR (zw (F16 e0 e1 x0 x1)) (F81 e0 e1 x0 x1<|F87 e0<|[]):=by kernel_rfl
theorem Ul (x0 e0 x1 e1:Nat):FC yX 16 [zg false x0 e0,zg true x1 e1] [.t,.t,.t,.t]=FR (zw (ifB false (ifB true (xY x1 x0) (Int.negSucc 0)) (ifB true (Int.ofNat 1) (xY x0 x1)))) (Fo (true,true)<|F91 e0 e1<|[]):=by kernel_rfl
theorem Um (x0 e0 x1 e1:Nat):FC yX 16 [zg false x0 e0,zg true x1 e1] [.t,.t,.t,.f]=FR (zw (F17 e0 e1 x0 x1)) (F81 e0 e1 x0 x1<|F92 e0 e1<|[]):=by kernel_rfl
theorem zfs (x0 e0 x1 e1:Nat):FC yX 16 [zg false x0 e0,zg true x1 e1] [.t,.t,.f,.c]=FR (zw (F17 e0 e1 x0 x1)) (F81 e0 e1 x0 x1<|F93 e0 e1<|[]):=by kernel_rfl
theorem zft (x0 e0 x1 e1:Nat):FC yX 16 [zg false x0 e0,zg true x1 e1] [.t,.f,.f,.c]=FR (zw (F17 e0 e1 x0 x1)) (F81 e0 e1 x0 x1<|F86 e0<|[]):=by kernel_rfl
theorem Un (x0 e0 x1 e1:Nat):FC yX 16 [zg false x0 e0,zg true x1 e1] [.f,.f,.f,.c]=FR (zw (F17 e0 e1 x0 x1)) (F81 e0 e1 x0 x1<|F87 e0<|[]):=by kernel_rfl
theorem Uo (x0 e0 x1 e1:Nat):FC yX 16 [zg false x0 e0,zg false x1 e1] [.t,.t,.t,.t]=FR (zw (ifB false (ifB false (xY x1 x0) (Int.negSucc 0)) (ifB false (Int.ofNat 1) (xY x0 x1)))) (Fo (true,true)<|F91 e0 e1<|[]):=by kernel_rfl
theorem Up (x0 e0 x1 e1:Nat):FC yX 16 [zg false x0 e0,zg false x1 e1] [.t,.t,.t,.f]=FR (zw (F18 e0 e1 x0 x1)) (F81 e0 e1 x0 x1<|F92 e0 e1<|[]):=by kernel_rfl
theorem zfu (x0 e0 x1 e1:Nat):FC yX 16 [zg false x0 e0,zg false x1 e1] [.t,.t,.f,.c]=FR (zw (F18 e0 e1 x0 x1)) (F81 e0 e1 x0 x1<|F93 e0 e1<|[]):=by kernel_rfl
theorem zfv (x0 e0 x1 e1:Nat):FC yX 16 [zg false x0 e0,zg false x1 e1] [.t,.f,.f,.c]=FR (zw (F18 e0 e1 x0 x1)) (F81 e0 e1 x0 x1<|F86 e0<|[]):=by kernel_rfl
theorem Uq (x0 e0 x1 e1:Nat):FC yX 16 [zg false x0 e0,zg false x1 e1] [.f,.f,.f,.c]=FR (zw (F18 e0 e1 x0 x1)) (F81 e0 e1 x0 x1<|F87 e0<|[]):=by kernel_rfl
theorem zea:Ok Tryz.prog E0 16:=zM (S:=fun g=>memN g Ja) mixed Jb rfl fun l v h=>by
  rw [zgs] at h
  replace h:=zF h; obtain ⟨a,b,rfl,h⟩:=h
  replace h:=z0 h; obtain ⟨s0,x0,e0,rfl,h⟩:=h
  replace h:=z0 h; obtain ⟨s1,x1,e1,rfl,h⟩:=h
  obtain ⟨rfl,hc⟩:=zC h
  cases s0 <;> cases s1 <;> refine ⟨rfl,rfl,?_⟩
  ·
    by_cases h0:e0=0
    ·
      by_cases h1:e1=0
      ·
        have he:andB (Nat.beq e0 0) (Nat.beq e1 0)=true:=zl.2 ⟨Abs.beq_true.2 h0,Abs.beq_true.2 h1⟩
        rw [he] at hc ⊢
        simp only [NQ,zA,zL,not_false_eq_true,and_true,true_and,and_self,reduceCtorEq,zP,zS,zT,ne_eq] at hc
        exact zp (Uo x0 e0 x1 e1) rfl
      ·
        have he:andB (Nat.beq e0 0) (Nat.beq e1 0)=false:=by rw [zQ.2 h1]; cases Nat.beq e0 0 <;> rfl
        rw [he] at hc ⊢
        simp only [NQ,zA,zL,not_false_eq_true,and_true,true_and,and_self,reduceCtorEq,zP,zS,zT,ne_eq] at hc
        exact zp (Up x0 e0 x1 e1) rfl
    ·
      have he:andB (Nat.beq e0 0) (Nat.beq e1 0)=false:=by rw [zQ.2 h0]; rfl
      rw [he] at hc ⊢
      simp only [NQ,zA,zL,not_false_eq_true,and_true,true_and,and_self,reduceCtorEq,zP,zS,zT,ne_eq] at hc
      exact zp (Uq x0 e0 x1 e1) rfl
  ·
    by_cases h0:e0=0
    ·
      by_cases h1:e1=0
      ·
        have he:andB (Nat.beq e0 0) (Nat.beq e1 0)=true:=zl.2 ⟨Abs.beq_true.2 h0,Abs.beq_true.2 h1⟩
        rw [he] at hc ⊢
        simp only [NQ,zA,zL,not_false_eq_true,and_true,true_and,and_self,reduceCtorEq,zP,zS,zT,ne_eq] at hc
        exact zp (Ul x0 e0 x1 e1) rfl
      ·
        have he:andB (Nat.beq e0 0) (Nat.beq e1 0)=false:=by rw [zQ.2 h1]; cases Nat.beq e0 0 <;> rfl
        rw [he] at hc ⊢
        simp only [NQ,zA,zL,not_false_eq_true,and_true,true_and,and_self,reduceCtorEq,zP,zS,zT,ne_eq] at hc
        exact zp (Um x0 e0 x1 e1) rfl
    ·
      have he:andB (Nat.beq e0 0) (Nat.beq e1 0)=false:=by rw [zQ.2 h0]; rfl
      rw [he] at hc ⊢
      simp only [NQ,zA,zL,not_false_eq_true,and_true,true_and,and_self,reduceCtorEq,zP,zS,zT,ne_eq] at hc
      exact zp (Un x0 e0 x1 e1) rfl
  ·
    by_cases h0:e0=0
    ·
      by_cases h1:e1=0
      ·
        have he:andB (Nat.beq e0 0) (Nat.beq e1 0)=true:=zl.2 ⟨Abs.beq_true.2 h0,Abs.beq_true.2 h1⟩
        rw [he] at hc ⊢
        simp only [NQ,zA,zL,not_false_eq_true,and_true,true_and,and_self,reduceCtorEq,zP,zS,zT,ne_eq] at hc
        exact zp (Ui x0 e0 x1 e1) rfl
      ·
        have he:andB (Nat.beq e0 0) (Nat.beq e1 0)=false:=by rw [zQ.2 h1]; cases Nat.beq e0 0 <;> rfl
        rw [he] at hc ⊢
        simp only [NQ,zA,zL,not_false_eq_true,and_true,true_and,and_self,reduceCtorEq,zP,zS,zT,ne_eq] at hc
        exact zp (Uj x0 e0 x1 e1) rfl
    ·
      have he:andB (Nat.beq e0 0) (Nat.beq e1 0)=false:=by rw [zQ.2 h0]; rfl
      rw [he] at hc ⊢
      simp only [NQ,zA,zL,not_false_eq_true,and_true,true_and,and_self,reduceCtorEq,zP,zS,zT,ne_eq] at hc
      exact zp (Uk x0 e0 x1 e1) rfl
  ·
    by_cases h0:e0=0
    ·
      by_cases h1:e1=0
      ·
        have he:andB (Nat.beq e0 0) (Nat.beq e1 0)=true:=zl.2 ⟨Abs.beq_true.2 h0,Abs.beq_true.2 h1⟩
        rw [he] at hc ⊢
        simp only [NQ,zA,zL,not_false_eq_true,and_true,true_and,and_self,reduceCtorEq,zP,zS,zT,ne_eq] at hc
        exact zp (Uf x0 e0 x1 e1) rfl
      ·
        have he:andB (Nat.beq e0 0) (Nat.beq e1 0)=false:=by rw [zQ.2 h1]; cases Nat.beq e0 0 <;> rfl
        rw [he] at hc ⊢
        simp only [NQ,zA,zL,not_false_eq_true,and_true,true_and,and_self,reduceCtorEq,zP,zS,zT,ne_eq] at hc
        exact zp (Ug x0 e0 x1 e1) rfl
    ·
      have he:andB (Nat.beq e0 0) (Nat.beq e1 0)=false:=by rw [zQ.2 h0]; rfl
      rw [he] at hc ⊢
      simp only [NQ,zA,zL,not_false_eq_true,and_true,true_and,and_self,reduceCtorEq,zP,zS,zT,ne_eq] at hc
      exact zp (Uh x0 e0 x1 e1) rfl
theorem Jd:∀ g,memN g Jc=true→Ok Tryz.prog E0 g:=zE Jb zea
abbrev Wj:List Nat:=171::Jc
def xK:Es:=only (fun g=>memN g Jc) E0
theorem zeb (l:List AV):E0 171 l=(Xu ok) l:=by kernel_rfl
theorem zec (x0 x1:Nat):FC xK 171 [zh true x0,zh true x1] [.t]=FR (AV.tuple [.agg [ze false,zd 0,zb,zd 0,zb],zw (Int.ofNat 11)]) (Fo (eqI (yK true x1) 0,true)<|Fo (small x1,true)<|[]):=by kernel_rfl
theorem Wk (x0 x1:Nat):FC xK 171 [zh true x0,zh true x1] [.f,.t]=FR (AV.tuple [.agg [ze (xb (mk (notB true) x0) x0 x1),zd (yH x0 x1),zb,zd (yI x0 x1),zb],zw (Int.ofNat 0)]) (F82 x0 x1<|Fo (small x0,true)<|Fo (ltI (yK true x1) 0,true)<|F88 x1<|Fo (small x1,true)<|[]):=by kernel_rfl
theorem zed (x0 x1:Nat):FC xK 171 [zh true x0,zh true x1] [.f,.f]=FR (AV.tuple [.agg [ze (xb true x0 x1),zd (yH x0 x1),zb,zd (yI x0 x1),zb],zw (Int.ofNat 0)]) (F82 x0 x1<|Fo (ltI (yK true x1) 0,false)<|F88 x1<|Fo (small x1,true)<|[]):=by kernel_rfl
theorem zee (x0 x1:Nat):FC xK 171 [zh true x0,zh false x1] [.t]=FR (AV.tuple [.agg [ze false,zd 0,zb,zd 0,zb],zw (Int.ofNat 11)]) (Fo (eqI (yK false x1) 0,true)<|Fo (small x1,true)<|[]):=by kernel_rfl
theorem zef (x0 x1:Nat):FC xK 171 [zh true x0,zh false x1] [.f,.t]=FR (AV.tuple [.agg [ze (xb (mk (notB true) x0) x0 x1),zd (yH x0 x1),zb,zd (yI x0 x1),zb],zw (Int.ofNat 0)]) (F82 x0 x1<|Fo (small x0,true)<|Fo (ltI (yK false x1) 0,true)<|F85 x1<|Fo (small x1,true)<|[]):=by kernel_rfl
theorem Wl (x0 x1:Nat):FC xK 171 [zh true x0,zh false x1] [.f,.f]=FR (AV.tuple [.agg [ze (xb true x0 x1),zd (yH x0 x1),zb,zd (yI x0 x1),zb],zw (Int.ofNat 0)]) (F82 x0 x1<|Fo (ltI (yK false x1) 0,false)<|F85 x1<|Fo (small x1,true)<|[]):=by kernel_rfl
theorem zeg (x0 x1:Nat):FC xK 171 [zh false x0,zh true x1] [.t]=FR (AV.tuple [.agg [ze false,zd 0,zb,zd 0,zb],zw (Int.ofNat 11)]) (Fo (eqI (yK true x1) 0,true)<|Fo (small x1,true)<|[]):=by kernel_rfl
theorem Wm (x0 x1:Nat):FC xK 171 [zh false x0,zh true x1] [.f,.t]=FR (AV.tuple [.agg [ze (xb (mk (notB false) x0) x0 x1),zd (yH x0 x1),zb,zd (yI x0 x1),zb],zw (Int.ofNat 0)]) (F82 x0 x1<|Fo (small x0,true)<|Fo (ltI (yK true x1) 0,true)<|F88 x1<|Fo (small x1,true)<|[]):=by kernel_rfl
theorem zeh (x0 x1:Nat):FC xK 171 [zh false x0,zh true x1] [.f,.f]=FR (AV.tuple [.agg [ze (xb false x0 x1),zd (yH x0 x1),zb,zd (yI x0 x1),zb],zw (Int.ofNat 0)]) (F82 x0 x1<|Fo (ltI (yK true x1) 0,false)<|F88 x1<|Fo (small x1,true)<|[]):=by kernel_rfl
theorem zei (x0 x1:Nat):FC xK 171 [zh false x0,zh false x1] [.t]=FR (AV.tuple [.agg [ze false,zd 0,zb,zd 0,zb],zw (Int.ofNat 11)]) (Fo (eqI (yK false x1) 0,true)<|Fo (small x1,true)<|[]):=by kernel_rfl
theorem zej (x0 x1:Nat):FC xK 171 [zh false x0,zh false x1] [.f,.t]=FR (AV.tuple [.agg [ze (xb (mk (notB false) x0) x0 x1),zd (yH x0 x1),zb,zd (yI x0 x1),zb],zw (Int.ofNat 0)]) (F82 x0 x1<|Fo (small x0,true)<|Fo (ltI (yK false x1) 0,true)<|F85 x1<|Fo (small x1,true)<|[]):=by kernel_rfl
theorem Wn (x0 x1:Nat):FC xK 171 [zh false x0,zh false x1] [.f,.f]=FR (AV.tuple [.agg [ze (xb false x0 x1),zd (yH x0 x1),zb,zd (yI x0 x1),zb],zw (Int.ofNat 0)]) (F82 x0 x1<|Fo (ltI (yK false x1) 0,false)<|F85 x1<|Fo (small x1,true)<|[]):=by kernel_rfl
theorem zci:Ok Tryz.prog E0 171:=zM (S:=fun g=>memN g Jc) mixed Jd rfl fun l v h=>by
  rw [zeb] at h
  replace h:=zF h; obtain ⟨a,b,rfl,h⟩:=h
  replace h:=zR h; obtain ⟨s0,x0,rfl,h⟩:=h
  replace h:=zR h; obtain ⟨s1,x1,rfl,h⟩:=h
  obtain ⟨rfl,hc⟩:=zC h
  try simp only [NQ,zA,zL,not_false_eq_true,and_true,true_and,and_self,reduceCtorEq,zP,zS,zT,ne_eq] at hc
  cases s0 <;> cases s1 <;> refine ⟨rfl,rfl,?_⟩
  ·
    have h1:=hc.1
    exact zp (Wn x0 x1) rfl
  ·
    have h1:=hc.1
    exact zp (Wm x0 x1) rfl
  ·
    have h1:=hc.1
    exact zp (Wl x0 x1) rfl
  ·
    have h1:=hc.1
    exact zp (Wk x0 x1) rfl
theorem Ur:∀ g,memN g Wj=true→Ok Tryz.prog E0 g:=zE Jd zci
abbrev BFDiv:List Nat:=103::Wj
def Wo:Es:=only (fun g=>memN g Wj) E0
theorem zgt (l:List AV):E0 103 l=(KB ok) l:=by kernel_rfl
theorem Us (x0 e0 x1 e1:Nat):FC Wo 103 [zg true x0 e0,zg true (Nat.succ x1) e1] [.c,.c]=FR (AV.tuple [.agg [ze (xb (mk (mk (xC true true) (x0.mul 1)) ((x0.mul 1).mul (e1.add 1))) ((x0.mul 1).mul (e1.add 1)) (F30 e0 x1)),zd (yH ((x0.mul 1).mul (e1.add 1)) (F30 e0 x1)),zb,zd (yI ((x0.mul 1).mul (e1.add 1)) (F30 e0 x1)),zb],zw (Int.ofNat 0)]) (F72 e0 e1 x0 x1<|F90 e0<|F83 e1 x0<|F94 x0<|F89 x1<|[]):=by kernel_rfl
theorem Ut (x0 e0 x1 e1:Nat):FC Wo 103 [zg true x0 e0,zg false (Nat.succ x1) e1] [.c,.c]=FR (AV.tuple [.agg [ze (xb (mk (mk (xC true false) (x0.mul 1)) ((x0.mul 1).mul (e1.add 1))) ((x0.mul 1).mul (e1.add 1)) (F30 e0 x1)),zd (yH ((x0.mul 1).mul (e1.add 1)) (F30 e0 x1)),zb,zd (yI ((x0.mul 1).mul (e1.add 1)) (F30 e0 x1)),zb],zw (Int.ofNat 0)]) (F72 e0 e1 x0 x1<|F90 e0<|F83 e1 x0<|F94 x0<|F89 x1<|[]):=by kernel_rfl
theorem Uu (x0 e0 x1 e1:Nat):FC Wo 103 [zg false x0 e0,zg true (Nat.succ x1) e1] [.c,.c]=FR (AV.tuple [.agg [ze (xb (mk (mk (xC false true) (x0.mul 1)) ((x0.mul 1).mul (e1.add 1))) ((x0.mul 1).mul (e1.add 1)) (F30 e0 x1)),zd (yH ((x0.mul 1).mul (e1.add 1)) (F30 e0 x1)),zb,zd (yI ((x0.mul 1).mul (e1.add 1)) (F30 e0 x1)),zb],zw (Int.ofNat 0)]) (F72 e0 e1 x0 x1<|F90 e0<|F83 e1 x0<|F94 x0<|F89 x1<|[]):=by kernel_rfl
theorem Uv (x0 e0 x1 e1:Nat):FC Wo 103 [zg false x0 e0,zg false (Nat.succ x1) e1] [.c,.c]=FR (AV.tuple [.agg [ze (xb (mk (mk (xC false false) (x0.mul 1)) ((x0.mul 1).mul (e1.add 1))) ((x0.mul 1).mul (e1.add 1)) (F30 e0 x1)),zd (yH ((x0.mul 1).mul (e1.add 1)) (F30 e0 x1)),zb,zd (yI ((x0.mul 1).mul (e1.add 1)) (F30 e0 x1)),zb],zw (Int.ofNat 0)]) (F72 e0 e1 x0 x1<|F90 e0<|F83 e1 x0<|F94 x0<|F89 x1<|[]):=by kernel_rfl
theorem zek:Ok Tryz.prog E0 103:=zM (S:=fun g=>memN g Wj) mixed Ur rfl fun l v h=>by
  rw [zgt] at h
  replace h:=zF h; obtain ⟨a,b,rfl,h⟩:=h
  replace h:=z0 h; obtain ⟨s0,x0,e0,rfl,h⟩:=h
  replace h:=z0 h; obtain ⟨s1,x1,e1,rfl,h⟩:=h
  obtain ⟨rfl,hc⟩:=zC h
  have hp:x1≠0:=by simp only [NQ,zA,zL,not_false_eq_true,and_true,true_and,and_self,reduceCtorEq,zP,zS,zT,ne_eq] at hc; exact hc.1
  obtain ⟨x1,rfl⟩:=Nat.exists_eq_succ_of_ne_zero hp
  try simp only [NQ,zA,zL,not_false_eq_true,and_true,true_and,and_self,reduceCtorEq,zP,zS,zT,ne_eq] at hc
  cases s0 <;> cases s1 <;> refine ⟨rfl,rfl,?_⟩
  · exact zp (Uv x0 e0 x1 e1) (kj (by rw [show Nat.mul x0 1=x0 from Nat.mul_one x0] <;> rfl) rfl)
  · exact zp (Uu x0 e0 x1 e1) (kj (by rw [show Nat.mul x0 1=x0 from Nat.mul_one x0] <;> rfl) rfl)
  · exact zp (Ut x0 e0 x1 e1) (kj (by rw [show Nat.mul x0 1=x0 from Nat.mul_one x0] <;> rfl) rfl)
  · exact zp (Us x0 e0 x1 e1) (kj (by rw [show Nat.mul x0 1=x0 from Nat.mul_one x0] <;> rfl) rfl)
theorem zel:∀ g,memN g BFDiv=true→Ok Tryz.prog E0 g:=zE Ur zek
theorem zgu:∀ f,Ok Tryz.prog E0 f:=by
  intro f
  cases h:memN f [103,171,16,108,110,109,163,104,25,66,64,60,33,36,40,22,35,165,164,39,65,83,38,26,34,32,23,85,89,86,24,82,135,79,78,134] with
  | true=>exact zel f h
  |
    false =>
    intro l v hv
    have e:tblT=Vs [(103,(KB ok)),(171,(Xu ok)),(16,Kz),(108,Ky),(110,Kw),(109,Kv),(163,(Kx 164 165)),(104,Ku),(25,zdh),(66,eBy),(64,jJ),(60,Xt),(33,zdk),(36,zdj),(40,eOf),(22,zdi),(35,zdg),(165,zdf),(164,zde),(39,zdd),(65,zdc),(83,zdb),(38,Kt),(26,Ks),(34,zda),(32,(jI ok)),(23,jH),(85,(jG ok)),(89,jF),(86,jE),(24,Xs),(82,Kr),(135,Xr),(79,Xq),(78,ZH),(134,ZG)]:=rfl
    have hn:E0 f l=none:=by
      unfold E0
      rw [e,qB (l:=[(103,(KB ok)),(171,(Xu ok)),(16,Kz),(108,Ky),(110,Kw),(109,Kv),(163,(Kx 164 165)),(104,Ku),(25,zdh),(66,eBy),(64,jJ),(60,Xt),(33,zdk),(36,zdj),(40,eOf),(22,zdi),(35,zdg),(165,zdf),(164,zde),(39,zdd),(65,zdc),(83,zdb),(38,Kt),(26,Ks),(34,zda),(32,(jI ok)),(23,jH),(85,(jG ok)),(89,jF),(86,jE),(24,Xs),(82,Kr),(135,Xr),(79,Xq),(78,ZH),(134,ZG)]) h]
      rfl
    rw [hn] at hv; cases hv
end
end Go.Proofs.YtdomagdnaohpbaaGreatDoor.num
