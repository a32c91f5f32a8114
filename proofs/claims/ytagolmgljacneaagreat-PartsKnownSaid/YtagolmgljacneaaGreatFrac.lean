/- THE FUNCTIONS ON SMALL FRACTIONS, in this program: what they answer; all together. Printed by a program (wip/num/gen_num.py). -/
import Derived.Test.YtagolmgljacneaaGreatNum
set_option linter.unusedSimpArgs false
set_option linter.unusedVariables false
set_option maxRecDepth 100000
namespace Go.Proofs.YtagolmgljacneaaGreat.num
noncomputable section
open Go.Abs
abbrev zby:List Nat:=[160,163,162,54,24,28,34,61,27,134,164,32,182,120,31,29,25,23,26,193,60,56,22,55,132,64,62,90]
abbrev Kj:List Nat:=133::zby
def zW:Es:=only (fun g=>memN g zby) E0
theorem zfC (l:List AV):E0 133 l=(QV 164 134) l:=by kernel_rfl
abbrev Fo (a:Bool×Bool)(l:Ob):Ob:=a::l
abbrev FC (S:Es)(f:Nat)(a:List AV)(d:List Dc):=symCall (cxOf Tryz.prog S) S 100 f a d
abbrev FR (v:AV)(o:Ob):Option (CR×List Dc×Ob):=some (CR.value v (some []),[],o)
def F0 (e0 e1:Nat):=(e0.add 1).mul (e1.add 1)
def F1 (e0 x1:Nat):=mk false (x1.mul (e0.add 1))
def F2 (e0 x1:Nat):=mk true (x1.mul (e0.add 1))
def F3 (e1 x0:Nat):=mk false (x0.mul (e1.add 1))
def F4 (e1 x0:Nat):=mk true (x0.mul (e1.add 1))
def F5 (e0 x1:Nat):=mk (notB (F2 e0 x1)) (x1.mul (e0.add 1))
def F6 (e0 x1:Nat):=mk (notB (F1 e0 x1)) (x1.mul (e0.add 1))
def F7 (e0 e1 x0 x1:Nat):=yu (F4 e1 x0) (x0.mul (e1.add 1)) (F2 e0 x1) (x1.mul (e0.add 1))
def F8 (e0 e1 x0 x1:Nat):=yu (F4 e1 x0) (x0.mul (e1.add 1)) (F1 e0 x1) (x1.mul (e0.add 1))
def F9 (e0 e1 x0 x1:Nat):=yu (F3 e1 x0) (x0.mul (e1.add 1)) (F2 e0 x1) (x1.mul (e0.add 1))
def F10 (e0 e1 x0 x1:Nat):=yu (F3 e1 x0) (x0.mul (e1.add 1)) (F1 e0 x1) (x1.mul (e0.add 1))
def F11 (e0 e1 x0 x1:Nat):=yu (F4 e1 x0) (x0.mul (e1.add 1)) (F5 e0 x1) (x1.mul (e0.add 1))
def F12 (e0 e1 x0 x1:Nat):=yu (F4 e1 x0) (x0.mul (e1.add 1)) (F6 e0 x1) (x1.mul (e0.add 1))
def F13 (e0 e1 x0 x1:Nat):=yu (F3 e1 x0) (x0.mul (e1.add 1)) (F5 e0 x1) (x1.mul (e0.add 1))
def F14 (e0 e1 x0 x1:Nat):=yu (F3 e1 x0) (x0.mul (e1.add 1)) (F6 e0 x1) (x1.mul (e0.add 1))
def F38 (e0 e1 x0 x1:Nat):=xT (x1.mul (e0.add 1)) (x0.mul (e1.add 1))
def F39 (e0 e1 x0 x1:Nat):=xT (x0.mul (e1.add 1)) (x1.mul (e0.add 1))
def F15 (e0 e1 x0 x1:Nat):=ifB (F4 e1 x0) (ifB (F2 e0 x1) (F38 e0 e1 x0 x1) (Int.negSucc 0)) (ifB (F2 e0 x1) (Int.ofNat 1) (F39 e0 e1 x0 x1))
def F16 (e0 e1 x0 x1:Nat):=ifB (F4 e1 x0) (ifB (F1 e0 x1) (F38 e0 e1 x0 x1) (Int.negSucc 0)) (ifB (F1 e0 x1) (Int.ofNat 1) (F39 e0 e1 x0 x1))
def F17 (e0 e1 x0 x1:Nat):=ifB (F3 e1 x0) (ifB (F2 e0 x1) (F38 e0 e1 x0 x1) (Int.negSucc 0)) (ifB (F2 e0 x1) (Int.ofNat 1) (F39 e0 e1 x0 x1))
def F18 (e0 e1 x0 x1:Nat):=ifB (F3 e1 x0) (ifB (F1 e0 x1) (F38 e0 e1 x0 x1) (Int.negSucc 0)) (ifB (F1 e0 x1) (Int.ofNat 1) (F39 e0 e1 x0 x1))
def F19 (e0 e1:Nat):=andB (e0.beq 0) (e1.beq 0)
def F20 (e0 e1 x0 x1:Nat):=xy (xc (F3 e1 x0) (x0.mul (e1.add 1)) (F1 e0 x1) (x1.mul (e0.add 1))) (F10 e0 e1 x0 x1) (F0 e0 e1)
def F21 (e0 e1 x0 x1:Nat):=xy (xc (F4 e1 x0) (x0.mul (e1.add 1)) (F2 e0 x1) (x1.mul (e0.add 1))) (F7 e0 e1 x0 x1) (F0 e0 e1)
def F22 (e0 e1 x0 x1:Nat):=xy (xc (F4 e1 x0) (x0.mul (e1.add 1)) (F1 e0 x1) (x1.mul (e0.add 1))) (F8 e0 e1 x0 x1) (F0 e0 e1)
def F23 (e0 e1 x0 x1:Nat):=xy (xc (F3 e1 x0) (x0.mul (e1.add 1)) (F2 e0 x1) (x1.mul (e0.add 1))) (F9 e0 e1 x0 x1) (F0 e0 e1)
def F24 (e0 e1 x0 x1:Nat):=xy (xc (F4 e1 x0) (x0.mul (e1.add 1)) (F5 e0 x1) (x1.mul (e0.add 1))) (F11 e0 e1 x0 x1) (F0 e0 e1)
def F25 (e0 e1 x0 x1:Nat):=xy (xc (F4 e1 x0) (x0.mul (e1.add 1)) (F6 e0 x1) (x1.mul (e0.add 1))) (F12 e0 e1 x0 x1) (F0 e0 e1)
def F26 (e0 e1 x0 x1:Nat):=xy (xc (F3 e1 x0) (x0.mul (e1.add 1)) (F5 e0 x1) (x1.mul (e0.add 1))) (F13 e0 e1 x0 x1) (F0 e0 e1)
def F27 (e0 e1 x0 x1:Nat):=xy (xc (F3 e1 x0) (x0.mul (e1.add 1)) (F6 e0 x1) (x1.mul (e0.add 1))) (F14 e0 e1 x0 x1) (F0 e0 e1)
def F28 (e0 e1 x0 x1:Nat):=yP (x0.mul x1) (F0 e0 e1)
def F29 (e0 e1 x0 x1:Nat):=yQ (x0.mul x1) (F0 e0 e1)
def F30 (e0 e1 x0 x1:Nat):=xy (mk (xU false false) (x0.mul x1)) (x0.mul x1) (F0 e0 e1)
def F31 (e0 e1 x0 x1:Nat):=xy (mk (xU true false) (x0.mul x1)) (x0.mul x1) (F0 e0 e1)
def F32 (e0 e1 x0 x1:Nat):=xy (mk (xU false true) (x0.mul x1)) (x0.mul x1) (F0 e0 e1)
def F33 (e0 e1 x0 x1:Nat):=xy (mk (xU true true) (x0.mul x1)) (x0.mul x1) (F0 e0 e1)
def F34 (e0 e1 x0 x1:Nat):=zR (F4 e1 x0) (x0.mul (e1.add 1)) (F2 e0 x1) (x1.mul (e0.add 1))
def F35 (e0 e1 x0 x1:Nat):=zR (F4 e1 x0) (x0.mul (e1.add 1)) (F1 e0 x1) (x1.mul (e0.add 1))
def F36 (e0 e1 x0 x1:Nat):=zR (F3 e1 x0) (x0.mul (e1.add 1)) (F2 e0 x1) (x1.mul (e0.add 1))
def F37 (e0 e1 x0 x1:Nat):=zR (F3 e1 x0) (x0.mul (e1.add 1)) (F1 e0 x1) (x1.mul (e0.add 1))
def F40 (e0 e1 x0 x1:Nat):=yP (F10 e0 e1 x0 x1) (F0 e0 e1)
def F41 (e0 e1 x0 x1:Nat):=yQ (F10 e0 e1 x0 x1) (F0 e0 e1)
def F42 (e0 e1 x0 x1:Nat):=yP (F7 e0 e1 x0 x1) (F0 e0 e1)
def F43 (e0 e1 x0 x1:Nat):=yQ (F7 e0 e1 x0 x1) (F0 e0 e1)
def F44 (e0 e1 x0 x1:Nat):=yP (F8 e0 e1 x0 x1) (F0 e0 e1)
def F45 (e0 e1 x0 x1:Nat):=yQ (F8 e0 e1 x0 x1) (F0 e0 e1)
def F46 (e0 e1 x0 x1:Nat):=yP (F9 e0 e1 x0 x1) (F0 e0 e1)
def F47 (e0 e1 x0 x1:Nat):=yQ (F9 e0 e1 x0 x1) (F0 e0 e1)
abbrev F48 (e0 e1:Nat)(l:Ob):Ob:=Fo (andB (small (e0.add 1)) (andB (small (e1.add 1)) (small ((e0.add 1).mul (e1.add 1)))),true)<|Fo (small (e1.add 1),true)<|l
abbrev F49 (e0:Nat)(l:Ob):Ob:=Fo (ifB (2,true).snd (e0.beq 0) (notB (e0.beq 0)),true)<|Fo (ifB (2,true).snd (e0.beq 0) (notB (e0.beq 0)),true)<|l
abbrev F50 (e0:Nat)(l:Ob):Ob:=Fo (e0.beq 0,false)<|Fo (ifB (2,true).snd (e0.beq 0) (notB (e0.beq 0)),false)<|l
abbrev F51 (e0 x1:Nat)(l:Ob):Ob:=Fo (zA x1 (e0.add 1),true)<|Fo (small (e0.add 1),true)<|l
abbrev F52 (e1 x0:Nat)(l:Ob):Ob:=Fo (zA x0 (e1.add 1),true)<|Fo (small (e1.add 1),true)<|l
abbrev F53 (e0 e1:Nat)(l:Ob):Ob:=F48 e0 e1<|Fo (small (e0.add 1),true)<|l
abbrev F54 (e0:Nat)(l:Ob):Ob:=Fo (ifB (2,true).snd (e0.beq 0) (notB (e0.beq 0)),false)<|Fo (small e0,true)<|l
abbrev F55 (e0:Nat)(l:Ob):Ob:=Fo (ifB (2,true).snd (e0.beq 0) (notB (e0.beq 0)),true)<|Fo (small e0,true)<|l
abbrev F56 (e0:Nat)(l:Ob):Ob:=F49 e0<|Fo (small e0,true)<|l
abbrev F57 (e0 e1:Nat)(l:Ob):Ob:=Fo (e0.beq 0,true)<|Fo (small e1,true)<|l
abbrev F58 (e0 e1 x0 x1:Nat)(l:Ob):Ob:=Fo (zK (x0.mul x1) ((e0.add 1).mul (e1.add 1)),true)<|F53 e0 e1<|l
abbrev F59 (e0 e1 x0 x1:Nat)(l:Ob):Ob:=Fo (zK (yu (mk false (x0.mul (e1.add 1))) (x0.mul (e1.add 1)) (mk (notB (mk false (x1.mul (e0.add 1)))) (x1.mul (e0.add 1))) (x1.mul (e0.add 1))) ((e0.add 1).mul (e1.add 1)),true)<|F53 e0 e1<|l
abbrev F60 (e0 e1 x0 x1:Nat)(l:Ob):Ob:=Fo (zK (yu (mk true (x0.mul (e1.add 1))) (x0.mul (e1.add 1)) (mk (notB (mk false (x1.mul (e0.add 1)))) (x1.mul (e0.add 1))) (x1.mul (e0.add 1))) ((e0.add 1).mul (e1.add 1)),true)<|F53 e0 e1<|l
abbrev F61 (e0 e1 x0 x1:Nat)(l:Ob):Ob:=Fo (zK (yu (mk false (x0.mul (e1.add 1))) (x0.mul (e1.add 1)) (mk (notB (mk true (x1.mul (e0.add 1)))) (x1.mul (e0.add 1))) (x1.mul (e0.add 1))) ((e0.add 1).mul (e1.add 1)),true)<|F53 e0 e1<|l
abbrev F62 (e0 e1 x0 x1:Nat)(l:Ob):Ob:=Fo (zK (yu (mk true (x0.mul (e1.add 1))) (x0.mul (e1.add 1)) (mk (notB (mk true (x1.mul (e0.add 1)))) (x1.mul (e0.add 1))) (x1.mul (e0.add 1))) ((e0.add 1).mul (e1.add 1)),true)<|F53 e0 e1<|l
abbrev F63 (e0 e1 x0 x1:Nat)(l:Ob):Ob:=F59 e0 e1 x0 x1<|Fo (yN (mk false (x0.mul (e1.add 1))) (x0.mul (e1.add 1)) (mk (notB (mk false (x1.mul (e0.add 1)))) (x1.mul (e0.add 1))) (x1.mul (e0.add 1)),true)<|l
abbrev F64 (e0 e1 x0 x1:Nat)(l:Ob):Ob:=F60 e0 e1 x0 x1<|Fo (yN (mk true (x0.mul (e1.add 1))) (x0.mul (e1.add 1)) (mk (notB (mk false (x1.mul (e0.add 1)))) (x1.mul (e0.add 1))) (x1.mul (e0.add 1)),true)<|l
abbrev F65 (e0 e1 x0 x1:Nat)(l:Ob):Ob:=F61 e0 e1 x0 x1<|Fo (yN (mk false (x0.mul (e1.add 1))) (x0.mul (e1.add 1)) (mk (notB (mk true (x1.mul (e0.add 1)))) (x1.mul (e0.add 1))) (x1.mul (e0.add 1)),true)<|l
abbrev F66 (e0 e1 x0 x1:Nat)(l:Ob):Ob:=F62 e0 e1 x0 x1<|Fo (yN (mk true (x0.mul (e1.add 1))) (x0.mul (e1.add 1)) (mk (notB (mk true (x1.mul (e0.add 1)))) (x1.mul (e0.add 1))) (x1.mul (e0.add 1)),true)<|l
abbrev F67 (e0 e1 x0 x1:Nat)(l:Ob):Ob:=Fo (zK (yu (mk false (x0.mul (e1.add 1))) (x0.mul (e1.add 1)) (mk false (x1.mul (e0.add 1))) (x1.mul (e0.add 1))) ((e0.add 1).mul (e1.add 1)),true)<|F53 e0 e1<|l
abbrev F68 (e0 e1 x0 x1:Nat)(l:Ob):Ob:=Fo (zK (yu (mk true (x0.mul (e1.add 1))) (x0.mul (e1.add 1)) (mk false (x1.mul (e0.add 1))) (x1.mul (e0.add 1))) ((e0.add 1).mul (e1.add 1)),true)<|F53 e0 e1<|l
abbrev F69 (e0 e1 x0 x1:Nat)(l:Ob):Ob:=Fo (zK (yu (mk false (x0.mul (e1.add 1))) (x0.mul (e1.add 1)) (mk true (x1.mul (e0.add 1))) (x1.mul (e0.add 1))) ((e0.add 1).mul (e1.add 1)),true)<|F53 e0 e1<|l
abbrev F70 (e0 e1 x0 x1:Nat)(l:Ob):Ob:=Fo (zK (yu (mk true (x0.mul (e1.add 1))) (x0.mul (e1.add 1)) (mk true (x1.mul (e0.add 1))) (x1.mul (e0.add 1))) ((e0.add 1).mul (e1.add 1)),true)<|F53 e0 e1<|l
abbrev F71 (e0 e1:Nat)(l:Ob):Ob:=Fo (e0.beq 0,false)<|Fo (small e1,true)<|l
abbrev F72 (e0 e1 x0 x1:Nat)(l:Ob):Ob:=F67 e0 e1 x0 x1<|Fo (yN (mk false (x0.mul (e1.add 1))) (x0.mul (e1.add 1)) (mk false (x1.mul (e0.add 1))) (x1.mul (e0.add 1)),true)<|l
abbrev F73 (e0 e1 x0 x1:Nat)(l:Ob):Ob:=F68 e0 e1 x0 x1<|Fo (yN (mk true (x0.mul (e1.add 1))) (x0.mul (e1.add 1)) (mk false (x1.mul (e0.add 1))) (x1.mul (e0.add 1)),true)<|l
abbrev F74 (e0 e1 x0 x1:Nat)(l:Ob):Ob:=F69 e0 e1 x0 x1<|Fo (yN (mk false (x0.mul (e1.add 1))) (x0.mul (e1.add 1)) (mk true (x1.mul (e0.add 1))) (x1.mul (e0.add 1)),true)<|l
abbrev F75 (e0 e1 x0 x1:Nat)(l:Ob):Ob:=F70 e0 e1 x0 x1<|Fo (yN (mk true (x0.mul (e1.add 1))) (x0.mul (e1.add 1)) (mk true (x1.mul (e0.add 1))) (x1.mul (e0.add 1)),true)<|l
abbrev F76 (e0 e1:Nat)(l:Ob):Ob:=Fo (e1.beq 0,false)<|F57 e0 e1<|l
abbrev F77 (e0 e1:Nat)(l:Ob):Ob:=Fo (e1.beq 0,true)<|F57 e0 e1<|l
abbrev F78 (e0 e1 x0 x1:Nat)(l:Ob):Ob:=F51 e0 x1<|F52 e1 x0<|l
abbrev F79 (e0 e1 x0 x1:Nat)(l:Ob):Ob:=Fo (true,true)<|F78 e0 e1 x0 x1<|l
abbrev F80 (x0 x1:Nat)(l:Ob):Ob:=Fo (zK x0 x1,true)<|Fo (true,true)<|l
abbrev F81 (e0 x0 x1:Nat)(l:Ob):Ob:=F56 e0<|Fo (zA x0 x1,true)<|l
abbrev F82 (x1:Nat)(l:Ob):Ob:=Fo (small x1,true)<|Fo (eqI (yG false x1) 0,false)<|l
abbrev F83 (e0:Nat)(l:Ob):Ob:=F50 e0<|F55 e0<|l
abbrev F84 (e0:Nat)(l:Ob):Ob:=F50 e0<|F54 e0<|l
abbrev F85 (x1:Nat)(l:Ob):Ob:=Fo (small x1,true)<|Fo (eqI (yG true x1) 0,false)<|l
abbrev F86 (e0 e1:Nat)(l:Ob):Ob:=F77 e0 e1<|F56 e0<|l
abbrev F87 (e0 e1:Nat)(l:Ob):Ob:=F76 e0 e1<|F56 e0<|l
abbrev F88 (e0 e1:Nat)(l:Ob):Ob:=F71 e0 e1<|F56 e0<|l
abbrev F89 (e0 e1 x0 x1:Nat)(l:Ob):Ob:=F78 e0 e1 x0 x1<|F87 e0 e1<|l
abbrev F90 (e0 e1 x0 x1:Nat)(l:Ob):Ob:=F78 e0 e1 x0 x1<|F88 e0 e1<|l
theorem Xt (x0 e0 x1 e1:Nat):FC zW 133 [zg true x0 e0,zg true x1 e1,.fn (.func 164) [] []] [.t,.t,.t,.t]=FR (.agg [ze (xc true x0 true x1),zd (yu true x0 true x1),zb,zd 0,zb]) (Fo (yN true x0 true x1,true)<|F86 e0 e1<|[]):=by kernel_rfl
theorem Xu (x0 e0 x1 e1:Nat):FC zW 133 [zg true x0 e0,zg true x1 e1,.fn (.func 164) [] []] [.t,.t,.t,.f]=FR (.agg [ze (F21 e0 e1 x0 x1),zd (F42 e0 e1 x0 x1),zb,zd (F43 e0 e1 x0 x1),zb]) (F75 e0 e1 x0 x1<|F89 e0 e1 x0 x1<|[]):=by kernel_rfl
theorem zc9 (x0 e0 x1 e1:Nat):FC zW 133 [zg true x0 e0,zg true x1 e1,.fn (.func 164) [] []] [.t,.t,.f,.c]=FR (.agg [ze (F21 e0 e1 x0 x1),zd (F42 e0 e1 x0 x1),zb,zd (F43 e0 e1 x0 x1),zb]) (F75 e0 e1 x0 x1<|F90 e0 e1 x0 x1<|[]):=by kernel_rfl
theorem zda (x0 e0 x1 e1:Nat):FC zW 133 [zg true x0 e0,zg true x1 e1,.fn (.func 164) [] []] [.t,.f,.f,.c]=FR (.agg [ze (F21 e0 e1 x0 x1),zd (F42 e0 e1 x0 x1),zb,zd (F43 e0 e1 x0 x1),zb]) (F75 e0 e1 x0 x1<|F78 e0 e1 x0 x1<|F83 e0<|[]):=by kernel_rfl
theorem Xv (x0 e0 x1 e1:Nat):FC zW 133 [zg true x0 e0,zg true x1 e1,.fn (.func 164) [] []] [.f,.f,.f,.c]=FR (.agg [ze (F21 e0 e1 x0 x1),zd (F42 e0 e1 x0 x1),zb,zd (F43 e0 e1 x0 x1),zb]) (F75 e0 e1 x0 x1<|F78 e0 e1 x0 x1<|F84 e0<|[]):=by kernel_rfl
theorem Xw (x0 e0 x1 e1:Nat):FC zW 133 [zg true x0 e0,zg true x1 e1,.fn (.func 134) [] []] [.t,.t,.t,.t]=FR (.agg [ze (xc true x0 (mk (notB true) x1) x1),zd (yu true x0 (mk (notB true) x1) x1),zb,zd 0,zb]) (Fo (yN true x0 (mk (notB true) x1) x1,true)<|F86 e0 e1<|[]):=by kernel_rfl
theorem Xx (x0 e0 x1 e1:Nat):FC zW 133 [zg true x0 e0,zg true x1 e1,.fn (.func 134) [] []] [.t,.t,.t,.f]=FR (.agg [ze (F24 e0 e1 x0 x1),zd (yP (F11 e0 e1 x0 x1) (F0 e0 e1)),zb,zd (yQ (F11 e0 e1 x0 x1) (F0 e0 e1)),zb]) (F66 e0 e1 x0 x1<|F89 e0 e1 x0 x1<|[]):=by kernel_rfl
theorem zdb (x0 e0 x1 e1:Nat):FC zW 133 [zg true x0 e0,zg true x1 e1,.fn (.func 134) [] []] [.t,.t,.f,.c]=FR (.agg [ze (F24 e0 e1 x0 x1),zd (yP (F11 e0 e1 x0 x1) (F0 e0 e1)),zb,zd (yQ (F11 e0 e1 x0 x1) (F0 e0 e1)),zb]) (F66 e0 e1 x0 x1<|F90 e0 e1 x0 x1<|[]):=by kernel_rfl
theorem zdc (x0 e0 x1 e1:Nat):FC zW 133 [zg true x0 e0,zg true x1 e1,.fn (.func 134) [] []] [.t,.f,.f,.c]=FR (.agg [ze (F24 e0 e1 x0 x1),zd (yP (F11 e0 e1 x0 x1) (F0 e0 e1)),zb,zd (yQ (F11 e0 e1 x0 x1) (F0 e0 e1)),zb]) (F66 e0 e1 x0 x1<|F78 e0 e1 x0 x1<|F83 e0<|[]):=by kernel_rfl
theorem Xy (x0 e0 x1 e1:Nat):FC zW 133 [zg true x0 e0,zg true x1 e1,.fn (.func 134) [] []] [.f,.f,.f,.c]=FR (.agg [ze (F24 e0 e1 x0 x1),zd (yP (F11 e0 e1 x0 x1) (F0 e0 e1)),zb,zd (yQ (F11 e0 e1 x0 x1) (F0 e0 e1)),zb]) (F66 e0 e1 x0 x1<|F78 e0 e1 x0 x1<|F84 e0<|[]):=by kernel_rfl
theorem Xz (x0 e0 x1 e1:Nat):FC zW 133 [zg true x0 e0,zg false x1 e1,.fn (.func 164) [] []] [.t,.t,.t,.t]=FR (.agg [ze (xc true x0 false x1),zd (yu true x0 false x1),zb,zd 0,zb]) (Fo (yN true x0 false x1,true)<|F86 e0 e1<|[]):=by kernel_rfl
theorem XA (x0 e0 x1 e1:Nat):FC zW 133 [zg true x0 e0,zg false x1 e1,.fn (.func 164) [] []] [.t,.t,.t,.f]=FR (.agg [ze (F22 e0 e1 x0 x1),zd (F44 e0 e1 x0 x1),zb,zd (F45 e0 e1 x0 x1),zb]) (F73 e0 e1 x0 x1<|F89 e0 e1 x0 x1<|[]):=by kernel_rfl
theorem zdd (x0 e0 x1 e1:Nat):FC zW 133 [zg true x0 e0,zg false x1 e1,.fn (.func 164) [] []] [.t,.t,.f,.c]=FR (.agg [ze (F22 e0 e1 x0 x1),zd (F44 e0 e1 x0 x1),zb,zd (F45 e0 e1 x0 x1),zb]) (F73 e0 e1 x0 x1<|F90 e0 e1 x0 x1<|[]):=by kernel_rfl
theorem zde (x0 e0 x1 e1:Nat):FC zW 133 [zg true x0 e0,zg false x1 e1,.fn (.func 164) [] []] [.t,.f,.f,.c]=FR (.agg [ze (F22 e0 e1 x0 x1),zd (F44 e0 e1 x0 x1),zb,zd (F45 e0 e1 x0 x1),zb]) (F73 e0 e1 x0 x1<|F78 e0 e1 x0 x1<|F83 e0<|[]):=by kernel_rfl
theorem XB (x0 e0 x1 e1:Nat):FC zW 133 [zg true x0 e0,zg false x1 e1,.fn (.func 164) [] []] [.f,.f,.f,.c]=FR (.agg [ze (F22 e0 e1 x0 x1),zd (F44 e0 e1 x0 x1),zb,zd (F45 e0 e1 x0 x1),zb]) (F73 e0 e1 x0 x1<|F78 e0 e1 x0 x1<|F84 e0<|[]):=by kernel_rfl
theorem XC (x0 e0 x1 e1:Nat):FC zW 133 [zg true x0 e0,zg false x1 e1,.fn (.func 134) [] []] [.t,.t,.t,.t]=FR (.agg [ze (xc true x0 (mk (notB false) x1) x1),zd (yu true x0 (mk (notB false) x1) x1),zb,zd 0,zb]) (Fo (yN true x0 (mk (notB false) x1) x1,true)<|F86 e0 e1<|[]):=by kernel_rfl
theorem XD (x0 e0 x1 e1:Nat):FC zW 133 [zg true x0 e0,zg false x1 e1,.fn (.func 134) [] []] [.t,.t,.t,.f]=FR (.agg [ze (F25 e0 e1 x0 x1),zd (yP (F12 e0 e1 x0 x1) (F0 e0 e1)),zb,zd (yQ (F12 e0 e1 x0 x1) (F0 e0 e1)),zb]) (F64 e0 e1 x0 x1<|F89 e0 e1 x0 x1<|[]):=by kernel_rfl
theorem zdf (x0 e0 x1 e1:Nat):FC zW 133 [zg true x0 e0,zg false x1 e1,.fn (.func 134) [] []] [.t,.t,.f,.c]=FR (.agg [ze (F25 e0 e1 x0 x1),zd (yP (F12 e0 e1 x0 x1) (F0 e0 e1)),zb,zd (yQ (F12 e0 e1 x0 x1) (F0 e0 e1)),zb]) (F64 e0 e1 x0 x1<|F90 e0 e1 x0 x1<|[]):=by kernel_rfl
theorem zdg (x0 e0 x1 e1:Nat):FC zW 133 [zg true x0 e0,zg false x1 e1,.fn (.func 134) [] []] [.t,.f,.f,.c]=FR (.agg [ze (F25 e0 e1 x0 x1),zd (yP (F12 e0 e1 x0 x1) (F0 e0 e1)),zb,zd (yQ (F12 e0 e1 x0 x1) (F0 e0 e1)),zb]) (F64 e0 e1 x0 x1<|F78 e0 e1 x0 x1<|F83 e0<|[]):=by kernel_rfl
theorem XE (x0 e0 x1 e1:Nat):FC zW 133 [zg true x0 e0,zg false x1 e1,.fn (.func 134) [] []] [.f,.f,.f,.c]=FR (.agg [ze (F25 e0 e1 x0 x1),zd (yP (F12 e0 e1 x0 x1) (F0 e0 e1)),zb,zd (yQ (F12 e0 e1 x0 x1) (F0 e0 e1)),zb]) (F64 e0 e1 x0 x1<|F78 e0 e1 x0 x1<|F84 e0<|[]):=by kernel_rfl
theorem XF (x0 e0 x1 e1:Nat):FC zW 133 [zg false x0 e0,zg true x1 e1,.fn (.func 164) [] []] [.t,.t,.t,.t]=FR (.agg [ze (xc false x0 true x1),zd (yu false x0 true x1),zb,zd 0,zb]) (Fo (yN false x0 true x1,true)<|F86 e0 e1<|[]):=by kernel_rfl
theorem XG (x0 e0 x1 e1:Nat):FC zW 133 [zg false x0 e0,zg true x1 e1,.fn (.func 164) [] []] [.t,.t,.t,.f]=FR (.agg [ze (F23 e0 e1 x0 x1),zd (F46 e0 e1 x0 x1),zb,zd (F47 e0 e1 x0 x1),zb]) (F74 e0 e1 x0 x1<|F89 e0 e1 x0 x1<|[]):=by kernel_rfl
theorem zdh (x0 e0 x1 e1:Nat):FC zW 133 [zg false x0 e0,zg true x1 e1,.fn (.func 164) [] []] [.t,.t,.f,.c]=FR (.agg [ze (F23 e0 e1 x0 x1),zd (F46 e0 e1 x0 x1),zb,zd (F47 e0 e1 x0 x1),zb]) (F74 e0 e1 x0 x1<|F90 e0 e1 x0 x1<|[]):=by kernel_rfl
theorem zdi (x0 e0 x1 e1:Nat):FC zW 133 [zg false x0 e0,zg true x1 e1,.fn (.func 164) [] []] [.t,.f,.f,.c]=FR (.agg [ze (F23 e0 e1 x0 x1),zd (F46 e0 e1 x0 x1),zb,zd (F47 e0 e1 x0 x1),zb]) (F74 e0 e1 x0 x1<|F78 e0 e1 x0 x1<|F83 e0<|[]):=by kernel_rfl
theorem XH (x0 e0 x1 e1:Nat):FC zW 133 [zg false x0 e0,zg true x1 e1,.fn (.func 164) [] []] [.f,.f,.f,.c]=FR (.agg [ze (F23 e0 e1 x0 x1),zd (F46 e0 e1 x0 x1),zb,zd (F47 e0 e1 x0 x1),zb]) (F74 e0 e1 x0 x1<|F78 e0 e1 x0 x1<|F84 e0<|[]):=by kernel_rfl
theorem XI (x0 e0 x1 e1:Nat):FC zW 133 [zg false x0 e0,zg true x1 e1,.fn (.func 134) [] []] [.t,.t,.t,.t]=FR (.agg [ze (xc false x0 (mk (notB true) x1) x1),zd (yu false x0 (mk (notB true) x1) x1),zb,zd 0,zb]) (Fo (yN false x0 (mk (notB true) x1) x1,true)<|F86 e0 e1<|[]):=by kernel_rfl
theorem XJ (x0 e0 x1 e1:Nat):FC zW 133 [zg false x0 e0,zg true x1 e1,.fn (.func 134) [] []] [.t,.t,.t,.f]=FR (.agg [ze (F26 e0 e1 x0 x1),zd (yP (F13 e0 e1 x0 x1) (F0 e0 e1)),zb,zd (yQ (F13 e0 e1 x0 x1) (F0 e0 e1)),zb]) (F65 e0 e1 x0 x1<|F89 e0 e1 x0 x1<|[]):=by kernel_rfl
theorem zdj (x0 e0 x1 e1:Nat):FC zW 133 [zg false x0 e0,zg true x1 e1,.fn (.func 134) [] []] [.t,.t,.f,.c]=FR (.agg [ze (F26 e0 e1 x0 x1),zd (yP (F13 e0 e1 x0 x1) (F0 e0 e1)),zb,zd (yQ (F13 e0 e1 x0 x1) (F0 e0 e1)),zb]) (F65 e0 e1 x0 x1<|F90 e0 e1 x0 x1<|[]):=by kernel_rfl
theorem zdk (x0 e0 x1 e1:Nat):FC zW 133 [zg false x0 e0,zg true x1 e1,.fn (.func 134) [] []] [.t,.f,.f,.c]=FR (.agg [ze (F26 e0 e1 x0 x1),zd (yP (F13 e0 e1 x0 x1) (F0 e0 e1)),zb,zd (yQ (F13 e0 e1 x0 x1) (F0 e0 e1)),zb]) (F65 e0 e1 x0 x1<|F78 e0 e1 x0 x1<|F83 e0<|[]):=by kernel_rfl
theorem XK (x0 e0 x1 e1:Nat):FC zW 133 [zg false x0 e0,zg true x1 e1,.fn (.func 134) [] []] [.f,.f,.f,.c]=FR (.agg [ze (F26 e0 e1 x0 x1),zd (yP (F13 e0 e1 x0 x1) (F0 e0 e1)),zb,zd (yQ (F13 e0 e1 x0 x1) (F0 e0 e1)),zb]) (F65 e0 e1 x0 x1<|F78 e0 e1 x0 x1<|F84 e0<|[]):=by kernel_rfl
theorem XL (x0 e0 x1 e1:Nat):FC zW 133 [zg false x0 e0,zg false x1 e1,.fn (.func 164) [] []] [.t,.t,.t,.t]=FR (.agg [ze (xc false x0 false x1),zd (yu false x0 false x1),zb,zd 0,zb]) (Fo (yN false x0 false x1,true)<|F86 e0 e1<|[]):=by kernel_rfl
theorem XM (x0 e0 x1 e1:Nat):FC zW 133 [zg false x0 e0,zg false x1 e1,.fn (.func 164) [] []] [.t,.t,.t,.f]=FR (.agg [ze (F20 e0 e1 x0 x1),zd (F40 e0 e1 x0 x1),zb,zd (F41 e0 e1 x0 x1),zb]) (F72 e0 e1 x0 x1<|F89 e0 e1 x0 x1<|[]):=by kernel_rfl
theorem zdl (x0 e0 x1 e1:Nat):FC zW 133 [zg false x0 e0,zg false x1 e1,.fn (.func 164) [] []] [.t,.t,.f,.c]=FR (.agg [ze (F20 e0 e1 x0 x1),zd (F40 e0 e1 x0 x1),zb,zd (F41 e0 e1 x0 x1),zb]) (F72 e0 e1 x0 x1<|F90 e0 e1 x0 x1<|[]):=by kernel_rfl
theorem zdm (x0 e0 x1 e1:Nat):FC zW 133 [zg false x0 e0,zg false x1 e1,.fn (.func 164) [] []] [.t,.f,.f,.c]=FR (.agg [ze (F20 e0 e1 x0 x1),zd (F40 e0 e1 x0 x1),zb,zd (F41 e0 e1 x0 x1),zb]) (F72 e0 e1 x0 x1<|F78 e0 e1 x0 x1<|F83 e0<|[]):=by kernel_rfl
theorem XO (x0 e0 x1 e1:Nat):FC zW 133 [zg false x0 e0,zg false x1 e1,.fn (.func 164) [] []] [.f,.f,.f,.c]=FR (.agg [ze (F20 e0 e1 x0 x1),zd (F40 e0 e1 x0 x1),zb,zd (F41 e0 e1 x0 x1),zb]) (F72 e0 e1 x0 x1<|F78 e0 e1 x0 x1<|F84 e0<|[]):=by kernel_rfl
theorem XP (x0 e0 x1 e1:Nat):FC zW 133 [zg false x0 e0,zg false x1 e1,.fn (.func 134) [] []] [.t,.t,.t,.t]=FR (.agg [ze (xc false x0 (mk (notB false) x1) x1),zd (yu false x0 (mk (notB false) x1) x1),zb,zd 0,zb]) (Fo (yN false x0 (mk (notB false) x1) x1,true)<|F86 e0 e1<|[]):=by kernel_rfl
theorem XQ (x0 e0 x1 e1:Nat):FC zW 133 [zg false x0 e0,zg false x1 e1,.fn (.func 134) [] []] [.t,.t,.t,.f]=FR (.agg [ze (F27 e0 e1 x0 x1),zd (yP (F14 e0 e1 x0 x1) (F0 e0 e1)),zb,zd (yQ (F14 e0 e1 x0 x1) (F0 e0 e1)),zb]) (F63 e0 e1 x0 x1<|F89 e0 e1 x0 x1<|[]):=by kernel_rfl
theorem zdn (x0 e0 x1 e1:Nat):FC zW 133 [zg false x0 e0,zg false x1 e1,.fn (.func 134) [] []] [.t,.t,.f,.c]=FR (.agg [ze (F27 e0 e1 x0 x1),zd (yP (F14 e0 e1 x0 x1) (F0 e0 e1)),zb,zd (yQ (F14 e0 e1 x0 x1) (F0 e0 e1)),zb]) (F63 e0 e1 x0 x1<|F90 e0 e1 x0 x1<|[]):=by kernel_rfl
theorem zdo (x0 e0 x1 e1:Nat):FC zW 133 [zg false x0 e0,zg false x1 e1,.fn (.func 134) [] []] [.t,.f,.f,.c]=FR (.agg [ze (F27 e0 e1 x0 x1),zd (yP (F14 e0 e1 x0 x1) (F0 e0 e1)),zb,zd (yQ (F14 e0 e1 x0 x1) (F0 e0 e1)),zb]) (F63 e0 e1 x0 x1<|F78 e0 e1 x0 x1<|F83 e0<|[]):=by kernel_rfl
theorem XR (x0 e0 x1 e1:Nat):FC zW 133 [zg false x0 e0,zg false x1 e1,.fn (.func 134) [] []] [.f,.f,.f,.c]=FR (.agg [ze (F27 e0 e1 x0 x1),zd (yP (F14 e0 e1 x0 x1) (F0 e0 e1)),zb,zd (yQ (F14 e0 e1 x0 x1) (F0 e0 e1)),zb]) (F63 e0 e1 x0 x1<|F78 e0 e1 x0 x1<|F84 e0<|[]):=by kernel_rfl
theorem zdp:Ok Tryz.prog E0 133:=zM (S:=fun g=>memN g zby) mixed zbx rfl fun l v h=>by
  rw [zfC] at h
  replace h:=Yi h; obtain ⟨a,b,c,rfl,h⟩:=h
  replace h:=yb h; obtain ⟨s0,x0,e0,rfl,h⟩:=h
  replace h:=yb h; obtain ⟨s1,x1,e1,rfl,h⟩:=h
  replace h:=zaF h; obtain ⟨g,p,q,rfl,h⟩:=h
  replace h:=yx h; obtain ⟨rfl,h⟩:=h
  replace h:=yx h; obtain ⟨rfl,h⟩:=h
  have hg:(g=164∧Yj yu xc yN s0 x0 e0 s1 x1 e1=some (v,true))∨(g=134∧Yj zR zT zU s0 x0 e0 s1 x1 e1=some (v,true)):=by
    cases h1:Nat.beq g 164 with
    | true=>rw [h1,ifB_true] at h; exact .inl ⟨beq_true.1 h1,h⟩
    |
      false =>
      rw [h1,zk] at h
      cases h2:Nat.beq g 134 with
      | true=>rw [h2,ifB_true] at h; exact .inr ⟨beq_true.1 h2,h⟩
      | false=>rw [h2] at h; cases h
  clear h
  rcases hg with ⟨rfl,h⟩ | ⟨rfl,h⟩
  ·
    obtain ⟨rfl,hc⟩:=zB h
    cases s0 <;> cases s1 <;> refine ⟨rfl,rfl,?_⟩
    ·
      by_cases h0:e0=0
      ·
        by_cases h1:e1=0
        ·
          have he:andB (Nat.beq e0 0) (Nat.beq e1 0)=true:=zl.2 ⟨Abs.beq_true.2 h0,Abs.beq_true.2 h1⟩
          rw [he] at hc ⊢
          simp only [NQ,zA,zK,not_false_eq_true,and_true,true_and,and_self,reduceCtorEq,zR,zT,zU,ne_eq] at hc
          exact zq (XL x0 e0 x1 e1) rfl
        ·
          have he:andB (Nat.beq e0 0) (Nat.beq e1 0)=false:=by rw [zO.2 h1]; cases Nat.beq e0 0 <;> rfl
          rw [he] at hc ⊢
          simp only [NQ,zA,zK,not_false_eq_true,and_true,true_and,and_self,reduceCtorEq,zR,zT,zU,ne_eq] at hc
          exact zq (XM x0 e0 x1 e1) rfl
      ·
        have he:andB (Nat.beq e0 0) (Nat.beq e1 0)=false:=by rw [zO.2 h0]; rfl
        rw [he] at hc ⊢
        simp only [NQ,zA,zK,not_false_eq_true,and_true,true_and,and_self,reduceCtorEq,zR,zT,zU,ne_eq] at hc
        exact zq (XO x0 e0 x1 e1) rfl
    ·
      by_cases h0:e0=0
      ·
        by_cases h1:e1=0
        ·
          have he:andB (Nat.beq e0 0) (Nat.beq e1 0)=true:=zl.2 ⟨Abs.beq_true.2 h0,Abs.beq_true.2 h1⟩
          rw [he] at hc ⊢
          simp only [NQ,zA,zK,not_false_eq_true,and_true,true_and,and_self,reduceCtorEq,zR,zT,zU,ne_eq] at hc
          exact zq (XF x0 e0 x1 e1) rfl
        ·
          have he:andB (Nat.beq e0 0) (Nat.beq e1 0)=false:=by rw [zO.2 h1]; cases Nat.beq e0 0 <;> rfl
          rw [he] at hc ⊢
          simp only [NQ,zA,zK,not_false_eq_true,and_true,true_and,and_self,reduceCtorEq,zR,zT,zU,ne_eq] at hc
          exact zq (XG x0 e0 x1 e1) rfl
      ·
        have he:andB (Nat.beq e0 0) (Nat.beq e1 0)=false:=by rw [zO.2 h0]; rfl
        rw [he] at hc ⊢
        simp only [NQ,zA,zK,not_false_eq_true,and_true,true_and,and_self,reduceCtorEq,zR,zT,zU,ne_eq] at hc
        exact zq (XH x0 e0 x1 e1) rfl
    ·
      by_cases h0:e0=0
      ·
        by_cases h1:e1=0
        ·
          have he:andB (Nat.beq e0 0) (Nat.beq e1 0)=true:=zl.2 ⟨Abs.beq_true.2 h0,Abs.beq_true.2 h1⟩
          rw [he] at hc ⊢
          simp only [NQ,zA,zK,not_false_eq_true,and_true,true_and,and_self,reduceCtorEq,zR,zT,zU,ne_eq] at hc
          exact zq (Xz x0 e0 x1 e1) rfl
        ·
          have he:andB (Nat.beq e0 0) (Nat.beq e1 0)=false:=by rw [zO.2 h1]; cases Nat.beq e0 0 <;> rfl
          rw [he] at hc ⊢
          simp only [NQ,zA,zK,not_false_eq_true,and_true,true_and,and_self,reduceCtorEq,zR,zT,zU,ne_eq] at hc
          exact zq (XA x0 e0 x1 e1) rfl
      ·
        have he:andB (Nat.beq e0 0) (Nat.beq e1 0)=false:=by rw [zO.2 h0]; rfl
        rw [he] at hc ⊢
        simp only [NQ,zA,zK,not_false_eq_true,and_true,true_and,and_self,reduceCtorEq,zR,zT,zU,ne_eq] at hc
        exact zq (XB x0 e0 x1 e1) rfl
    ·
      by_cases h0:e0=0
      ·
        by_cases h1:e1=0
        ·
          have he:andB (Nat.beq e0 0) (Nat.beq e1 0)=true:=zl.2 ⟨Abs.beq_true.2 h0,Abs.beq_true.2 h1⟩
          rw [he] at hc ⊢
          simp only [NQ,zA,zK,not_false_eq_true,and_true,true_and,and_self,reduceCtorEq,zR,zT,zU,ne_eq] at hc
          exact zq (Xt x0 e0 x1 e1) rfl
        ·
          have he:andB (Nat.beq e0 0) (Nat.beq e1 0)=false:=by rw [zO.2 h1]; cases Nat.beq e0 0 <;> rfl
          rw [he] at hc ⊢
          simp only [NQ,zA,zK,not_false_eq_true,and_true,true_and,and_self,reduceCtorEq,zR,zT,zU,ne_eq] at hc
          exact zq (Xu x0 e0 x1 e1) rfl
      ·
        have he:andB (Nat.beq e0 0) (Nat.beq e1 0)=false:=by rw [zO.2 h0]; rfl
        rw [he] at hc ⊢
        simp only [NQ,zA,zK,not_false_eq_true,and_true,true_and,and_self,reduceCtorEq,zR,zT,zU,ne_eq] at hc
        exact zq (Xv x0 e0 x1 e1) rfl
  ·
    obtain ⟨rfl,hc⟩:=zB h
    cases s0 <;> cases s1 <;> refine ⟨rfl,rfl,?_⟩
    ·
      by_cases h0:e0=0
      ·
        by_cases h1:e1=0
        ·
          have he:andB (Nat.beq e0 0) (Nat.beq e1 0)=true:=zl.2 ⟨Abs.beq_true.2 h0,Abs.beq_true.2 h1⟩
          rw [he] at hc ⊢
          simp only [NQ,zA,zK,not_false_eq_true,and_true,true_and,and_self,reduceCtorEq,zR,zT,zU,ne_eq] at hc
          exact zq (XP x0 e0 x1 e1) rfl
        ·
          have he:andB (Nat.beq e0 0) (Nat.beq e1 0)=false:=by rw [zO.2 h1]; cases Nat.beq e0 0 <;> rfl
          rw [he] at hc ⊢
          simp only [NQ,zA,zK,not_false_eq_true,and_true,true_and,and_self,reduceCtorEq,zR,zT,zU,ne_eq] at hc
          exact zq (XQ x0 e0 x1 e1) rfl
      ·
        have he:andB (Nat.beq e0 0) (Nat.beq e1 0)=false:=by rw [zO.2 h0]; rfl
        rw [he] at hc ⊢
        simp only [NQ,zA,zK,not_false_eq_true,and_true,true_and,and_self,reduceCtorEq,zR,zT,zU,ne_eq] at hc
        exact zq (XR x0 e0 x1 e1) rfl
    ·
      by_cases h0:e0=0
      ·
        by_cases h1:e1=0
        ·
          have he:andB (Nat.beq e0 0) (Nat.beq e1 0)=true:=zl.2 ⟨Abs.beq_true.2 h0,Abs.beq_true.2 h1⟩
          rw [he] at hc ⊢
          simp only [NQ,zA,zK,not_false_eq_true,and_true,true_and,and_self,reduceCtorEq,zR,zT,zU,ne_eq] at hc
          exact zq (XI x0 e0 x1 e1) rfl
        ·
          have he:andB (Nat.beq e0 0) (Nat.beq e1 0)=false:=by rw [zO.2 h1]; cases Nat.beq e0 0 <;> rfl
          rw [he] at hc ⊢
          simp only [NQ,zA,zK,not_false_eq_true,and_true,true_and,and_self,reduceCtorEq,zR,zT,zU,ne_eq] at hc
          exact zq (XJ x0 e0 x1 e1) rfl
      ·
        have he:andB (Nat.beq e0 0) (Nat.beq e1 0)=false:=by rw [zO.2 h0]; rfl
        rw [he] at hc ⊢
        simp only [NQ,zA,zK,not_false_eq_true,and_true,true_and,and_self,reduceCtorEq,zR,zT,zU,ne_eq] at hc
        exact zq (XK x0 e0 x1 e1) rfl
    ·
      by_cases h0:e0=0
      ·
        by_cases h1:e1=0
        ·
          have he:andB (Nat.beq e0 0) (Nat.beq e1 0)=true:=zl.2 ⟨Abs.beq_true.2 h0,Abs.beq_true.2 h1⟩
          rw [he] at hc ⊢
          simp only [NQ,zA,zK,not_false_eq_true,and_true,true_and,and_self,reduceCtorEq,zR,zT,zU,ne_eq] at hc
          exact zq (XC x0 e0 x1 e1) rfl
        ·
          have he:andB (Nat.beq e0 0) (Nat.beq e1 0)=false:=by rw [zO.2 h1]; cases Nat.beq e0 0 <;> rfl
          rw [he] at hc ⊢
          simp only [NQ,zA,zK,not_false_eq_true,and_true,true_and,and_self,reduceCtorEq,zR,zT,zU,ne_eq] at hc
          exact zq (XD x0 e0 x1 e1) rfl
      ·
        have he:andB (Nat.beq e0 0) (Nat.beq e1 0)=false:=by rw [zO.2 h0]; rfl
        rw [he] at hc ⊢
        simp only [NQ,zA,zK,not_false_eq_true,and_true,true_and,and_self,reduceCtorEq,zR,zT,zU,ne_eq] at hc
        exact zq (XE x0 e0 x1 e1) rfl
    ·
      by_cases h0:e0=0
      ·
        by_cases h1:e1=0
        ·
          have he:andB (Nat.beq e0 0) (Nat.beq e1 0)=true:=zl.2 ⟨Abs.beq_true.2 h0,Abs.beq_true.2 h1⟩
          rw [he] at hc ⊢
          simp only [NQ,zA,zK,not_false_eq_true,and_true,true_and,and_self,reduceCtorEq,zR,zT,zU,ne_eq] at hc
          exact zq (Xw x0 e0 x1 e1) rfl
        ·
          have he:andB (Nat.beq e0 0) (Nat.beq e1 0)=false:=by rw [zO.2 h1]; cases Nat.beq e0 0 <;> rfl
          rw [he] at hc ⊢
          simp only [NQ,zA,zK,not_false_eq_true,and_true,true_and,and_self,reduceCtorEq,zR,zT,zU,ne_eq] at hc
          exact zq (Xx x0 e0 x1 e1) rfl
      ·
        have he:andB (Nat.beq e0 0) (Nat.beq e1 0)=false:=by rw [zO.2 h0]; rfl
        rw [he] at hc ⊢
        simp only [NQ,zA,zK,not_false_eq_true,and_true,true_and,and_self,reduceCtorEq,zR,zT,zU,ne_eq] at hc
        exact zq (Xy x0 e0 x1 e1) rfl
theorem Kk:∀ g,memN g Kj=true→Ok Tryz.prog E0 g:=zI zbx zdp
abbrev Kl:List Nat:=135::Kj
def XS:Es:=only (fun g=>memN g Kj) E0
theorem zfD (l:List AV):E0 135 l=QT l:=by kernel_rfl
theorem Vs (x0 e0 x1 e1:Nat):FC XS 135 [zg true x0 e0,zg true x1 e1] []=FR (.agg [ze (ifB (F19 e0 e1) (xc true x0 true x1) (F21 e0 e1 x0 x1)),zd (ifB (F19 e0 e1) (yu true x0 true x1) (F42 e0 e1 x0 x1)),zb,zd (ifB (F19 e0 e1) 0 (F43 e0 e1 x0 x1)),zb]) (Fo (andB (small e0) (andB (small e1) (ifB (andB (e0.beq 0) (e1.beq 0)) (yN true x0 true x1) (andB (small (e0.add 1)) (andB (small (e1.add 1)) (andB (zA x0 (e1.add 1)) (andB (zA x1 (e0.add 1)) (andB (yN (mk true (x0.mul (e1.add 1))) (x0.mul (e1.add 1)) (mk true (x1.mul (e0.add 1))) (x1.mul (e0.add 1))) (andB (zA (e0.add 1) (e1.add 1)) (zK (yu (mk true (x0.mul (e1.add 1))) (x0.mul (e1.add 1)) (mk true (x1.mul (e0.add 1))) (x1.mul (e0.add 1))) ((e0.add 1).mul (e1.add 1))))))))))),true)<|[]):=by kernel_rfl
theorem Vt (x0 e0 x1 e1:Nat):FC XS 135 [zg true x0 e0,zg false x1 e1] []=FR (.agg [ze (ifB (F19 e0 e1) (xc true x0 false x1) (F22 e0 e1 x0 x1)),zd (ifB (F19 e0 e1) (yu true x0 false x1) (F44 e0 e1 x0 x1)),zb,zd (ifB (F19 e0 e1) 0 (F45 e0 e1 x0 x1)),zb]) (Fo (andB (small e0) (andB (small e1) (ifB (andB (e0.beq 0) (e1.beq 0)) (yN true x0 false x1) (andB (small (e0.add 1)) (andB (small (e1.add 1)) (andB (zA x0 (e1.add 1)) (andB (zA x1 (e0.add 1)) (andB (yN (mk true (x0.mul (e1.add 1))) (x0.mul (e1.add 1)) (mk false (x1.mul (e0.add 1))) (x1.mul (e0.add 1))) (andB (zA (e0.add 1) (e1.add 1)) (zK (yu (mk true (x0.mul (e1.add 1))) (x0.mul (e1.add 1)) (mk false (x1.mul (e0.add 1))) (x1.mul (e0.add 1))) ((e0.add 1).mul (e1.add 1))))))))))),true)<|[]):=by kernel_rfl
theorem Vu (x0 e0 x1 e1:Nat):FC XS 135 [zg false x0 e0,zg true x1 e1] []=FR (.agg [ze (ifB (F19 e0 e1) (xc false x0 true x1) (F23 e0 e1 x0 x1)),zd (ifB (F19 e0 e1) (yu false x0 true x1) (F46 e0 e1 x0 x1)),zb,zd (ifB (F19 e0 e1) 0 (F47 e0 e1 x0 x1)),zb]) (Fo (andB (small e0) (andB (small e1) (ifB (andB (e0.beq 0) (e1.beq 0)) (yN false x0 true x1) (andB (small (e0.add 1)) (andB (small (e1.add 1)) (andB (zA x0 (e1.add 1)) (andB (zA x1 (e0.add 1)) (andB (yN (mk false (x0.mul (e1.add 1))) (x0.mul (e1.add 1)) (mk true (x1.mul (e0.add 1))) (x1.mul (e0.add 1))) (andB (zA (e0.add 1) (e1.add 1)) (zK (yu (mk false (x0.mul (e1.add 1))) (x0.mul (e1.add 1)) (mk true (x1.mul (e0.add 1))) (x1.mul (e0.add 1))) ((e0.add 1).mul (e1.add 1))))))))))),true)<|[]):=by kernel_rfl
theorem Vv (x0 e0 x1 e1:Nat):FC XS 135 [zg false x0 e0,zg false x1 e1] []=FR (.agg [ze (ifB (F19 e0 e1) (xc false x0 false x1) (F20 e0 e1 x0 x1)),zd (ifB (F19 e0 e1) (yu false x0 false x1) (F40 e0 e1 x0 x1)),zb,zd (ifB (F19 e0 e1) 0 (F41 e0 e1 x0 x1)),zb]) (Fo (andB (small e0) (andB (small e1) (ifB (andB (e0.beq 0) (e1.beq 0)) (yN false x0 false x1) (andB (small (e0.add 1)) (andB (small (e1.add 1)) (andB (zA x0 (e1.add 1)) (andB (zA x1 (e0.add 1)) (andB (yN (mk false (x0.mul (e1.add 1))) (x0.mul (e1.add 1)) (mk false (x1.mul (e0.add 1))) (x1.mul (e0.add 1))) (andB (zA (e0.add 1) (e1.add 1)) (zK (yu (mk false (x0.mul (e1.add 1))) (x0.mul (e1.add 1)) (mk false (x1.mul (e0.add 1))) (x1.mul (e0.add 1))) ((e0.add 1).mul (e1.add 1))))))))))),true)<|[]):=by kernel_rfl
theorem zdq:Ok Tryz.prog E0 135:=zM (S:=fun g=>memN g Kj) mixed Kk rfl fun l v h=>by
  rw [zfD] at h
  replace h:=zE h; obtain ⟨a,b,rfl,h⟩:=h
  replace h:=yb h; obtain ⟨s0,x0,e0,rfl,h⟩:=h
  replace h:=yb h; obtain ⟨s1,x1,e1,rfl,h⟩:=h
  obtain ⟨rfl,hc⟩:=zB h
  cases s0 <;> cases s1 <;> refine ⟨rfl,rfl,?_⟩
  · exact zq (Vv x0 e0 x1 e1) rfl
  · exact zq (Vu x0 e0 x1 e1) rfl
  · exact zq (Vt x0 e0 x1 e1) rfl
  · exact zq (Vs x0 e0 x1 e1) rfl
theorem Km:∀ g,memN g Kl=true→Ok Tryz.prog E0 g:=zI Kk zdq
abbrev Kn:List Nat:=100::Kl
def XT:Es:=only (fun g=>memN g Kl) E0
theorem zfE (l:List AV):E0 100 l=QU l:=by kernel_rfl
theorem Vw (x0 e0 x1 e1:Nat):FC XT 100 [zg true x0 e0,zg true x1 e1] []=FR (.agg [ze (ifB (F19 e0 e1) (zT true x0 true x1) (xy (zT (F4 e1 x0) (x0.mul (e1.add 1)) (F2 e0 x1) (x1.mul (e0.add 1))) (F34 e0 e1 x0 x1) (F0 e0 e1))),zd (ifB (F19 e0 e1) (zR true x0 true x1) (yP (F34 e0 e1 x0 x1) (F0 e0 e1))),zb,zd (ifB (F19 e0 e1) 0 (yQ (F34 e0 e1 x0 x1) (F0 e0 e1))),zb]) (Fo (andB (small e0) (andB (small e1) (ifB (andB (e0.beq 0) (e1.beq 0)) (zU true x0 true x1) (andB (small (e0.add 1)) (andB (small (e1.add 1)) (andB (zA x0 (e1.add 1)) (andB (zA x1 (e0.add 1)) (andB (zU (mk true (x0.mul (e1.add 1))) (x0.mul (e1.add 1)) (mk true (x1.mul (e0.add 1))) (x1.mul (e0.add 1))) (andB (zA (e0.add 1) (e1.add 1)) (zK (zR (mk true (x0.mul (e1.add 1))) (x0.mul (e1.add 1)) (mk true (x1.mul (e0.add 1))) (x1.mul (e0.add 1))) ((e0.add 1).mul (e1.add 1))))))))))),true)<|[]):=by kernel_rfl
theorem Vx (x0 e0 x1 e1:Nat):FC XT 100 [zg true x0 e0,zg false x1 e1] []=FR (.agg [ze (ifB (F19 e0 e1) (zT true x0 false x1) (xy (zT (F4 e1 x0) (x0.mul (e1.add 1)) (F1 e0 x1) (x1.mul (e0.add 1))) (F35 e0 e1 x0 x1) (F0 e0 e1))),zd (ifB (F19 e0 e1) (zR true x0 false x1) (yP (F35 e0 e1 x0 x1) (F0 e0 e1))),zb,zd (ifB (F19 e0 e1) 0 (yQ (F35 e0 e1 x0 x1) (F0 e0 e1))),zb]) (Fo (andB (small e0) (andB (small e1) (ifB (andB (e0.beq 0) (e1.beq 0)) (zU true x0 false x1) (andB (small (e0.add 1)) (andB (small (e1.add 1)) (andB (zA x0 (e1.add 1)) (andB (zA x1 (e0.add 1)) (andB (zU (mk true (x0.mul (e1.add 1))) (x0.mul (e1.add 1)) (mk false (x1.mul (e0.add 1))) (x1.mul (e0.add 1))) (andB (zA (e0.add 1) (e1.add 1)) (zK (zR (mk true (x0.mul (e1.add 1))) (x0.mul (e1.add 1)) (mk false (x1.mul (e0.add 1))) (x1.mul (e0.add 1))) ((e0.add 1).mul (e1.add 1))))))))))),true)<|[]):=by kernel_rfl
theorem Vy (x0 e0 x1 e1:Nat):FC XT 100 [zg false x0 e0,zg true x1 e1] []=FR (.agg [ze (ifB (F19 e0 e1) (zT false x0 true x1) (xy (zT (F3 e1 x0) (x0.mul (e1.add 1)) (F2 e0 x1) (x1.mul (e0.add 1))) (F36 e0 e1 x0 x1) (F0 e0 e1))),zd (ifB (F19 e0 e1) (zR false x0 true x1) (yP (F36 e0 e1 x0 x1) (F0 e0 e1))),zb,zd (ifB (F19 e0 e1) 0 (yQ (F36 e0 e1 x0 x1) (F0 e0 e1))),zb]) (Fo (andB (small e0) (andB (small e1) (ifB (andB (e0.beq 0) (e1.beq 0)) (zU false x0 true x1) (andB (small (e0.add 1)) (andB (small (e1.add 1)) (andB (zA x0 (e1.add 1)) (andB (zA x1 (e0.add 1)) (andB (zU (mk false (x0.mul (e1.add 1))) (x0.mul (e1.add 1)) (mk true (x1.mul (e0.add 1))) (x1.mul (e0.add 1))) (andB (zA (e0.add 1) (e1.add 1)) (zK (zR (mk false (x0.mul (e1.add 1))) (x0.mul (e1.add 1)) (mk true (x1.mul (e0.add 1))) (x1.mul (e0.add 1))) ((e0.add 1).mul (e1.add 1))))))))))),true)<|[]):=by kernel_rfl
theorem Vz (x0 e0 x1 e1:Nat):FC XT 100 [zg false x0 e0,zg false x1 e1] []=FR (.agg [ze (ifB (F19 e0 e1) (zT false x0 false x1) (xy (zT (F3 e1 x0) (x0.mul (e1.add 1)) (F1 e0 x1) (x1.mul (e0.add 1))) (F37 e0 e1 x0 x1) (F0 e0 e1))),zd (ifB (F19 e0 e1) (zR false x0 false x1) (yP (F37 e0 e1 x0 x1) (F0 e0 e1))),zb,zd (ifB (F19 e0 e1) 0 (yQ (F37 e0 e1 x0 x1) (F0 e0 e1))),zb]) (Fo (andB (small e0) (andB (small e1) (ifB (andB (e0.beq 0) (e1.beq 0)) (zU false x0 false x1) (andB (small (e0.add 1)) (andB (small (e1.add 1)) (andB (zA x0 (e1.add 1)) (andB (zA x1 (e0.add 1)) (andB (zU (mk false (x0.mul (e1.add 1))) (x0.mul (e1.add 1)) (mk false (x1.mul (e0.add 1))) (x1.mul (e0.add 1))) (andB (zA (e0.add 1) (e1.add 1)) (zK (zR (mk false (x0.mul (e1.add 1))) (x0.mul (e1.add 1)) (mk false (x1.mul (e0.add 1))) (x1.mul (e0.add 1))) ((e0.add 1).mul (e1.add 1))))))))))),true)<|[]):=by kernel_rfl
theorem zdr:Ok Tryz.prog E0 100:=zM (S:=fun g=>memN g Kl) mixed Km rfl fun l v h=>by
  rw [zfE] at h
  replace h:=zE h; obtain ⟨a,b,rfl,h⟩:=h
  replace h:=yb h; obtain ⟨s0,x0,e0,rfl,h⟩:=h
  replace h:=yb h; obtain ⟨s1,x1,e1,rfl,h⟩:=h
  obtain ⟨rfl,hc⟩:=zB h
  cases s0 <;> cases s1 <;> refine ⟨rfl,rfl,?_⟩
  · exact zq (Vz x0 e0 x1 e1) rfl
  · exact zq (Vy x0 e0 x1 e1) rfl
  · exact zq (Vx x0 e0 x1 e1) rfl
  · exact zq (Vw x0 e0 x1 e1) rfl
theorem Ko:∀ g,memN g Kn=true→Ok Tryz.prog E0 g:=zI Km zdr
abbrev Kp:List Nat:=136::Kn
def yU:Es:=only (fun g=>memN g Kn) E0
theorem zfF (l:List AV):E0 136 l=QW l:=by kernel_rfl
theorem VA (x0 e0 x1 e1:Nat):FC yU 136 [zg true x0 e0,zg true x1 e1] [.t,.t,.t,.t]=FR (.agg [ze (mk (xU true true) (x0.mul x1)),zd (x0.mul x1),zb,zd 0,zb]) (F77 e0 e1<|F81 e0 x0 x1<|[]):=by kernel_rfl
theorem VB (x0 e0 x1 e1:Nat):FC yU 136 [zg true x0 e0,zg true x1 e1] [.t,.t,.t,.f]=FR (.agg [ze (F33 e0 e1 x0 x1),zd (F28 e0 e1 x0 x1),zb,zd (F29 e0 e1 x0 x1),zb]) (F58 e0 e1 x0 x1<|F76 e0 e1<|F81 e0 x0 x1<|[]):=by kernel_rfl
theorem zey (x0 e0 x1 e1:Nat):FC yU 136 [zg true x0 e0,zg true x1 e1] [.t,.t,.f,.c]=FR (.agg [ze (F33 e0 e1 x0 x1),zd (F28 e0 e1 x0 x1),zb,zd (F29 e0 e1 x0 x1),zb]) (F58 e0 e1 x0 x1<|F71 e0 e1<|F81 e0 x0 x1<|[]):=by kernel_rfl
theorem zez (x0 e0 x1 e1:Nat):FC yU 136 [zg true x0 e0,zg true x1 e1] [.t,.f,.f,.c]=FR (.agg [ze (F33 e0 e1 x0 x1),zd (F28 e0 e1 x0 x1),zb,zd (F29 e0 e1 x0 x1),zb]) (F58 e0 e1 x0 x1<|F83 e0<|Fo (zA x0 x1,true)<|[]):=by kernel_rfl
theorem VC (x0 e0 x1 e1:Nat):FC yU 136 [zg true x0 e0,zg true x1 e1] [.f,.f,.f,.c]=FR (.agg [ze (F33 e0 e1 x0 x1),zd (F28 e0 e1 x0 x1),zb,zd (F29 e0 e1 x0 x1),zb]) (F58 e0 e1 x0 x1<|F84 e0<|Fo (zA x0 x1,true)<|[]):=by kernel_rfl
theorem VD (x0 e0 x1 e1:Nat):FC yU 136 [zg true x0 e0,zg false x1 e1] [.t,.t,.t,.t]=FR (.agg [ze (mk (xU true false) (x0.mul x1)),zd (x0.mul x1),zb,zd 0,zb]) (F77 e0 e1<|F81 e0 x0 x1<|[]):=by kernel_rfl
theorem VE (x0 e0 x1 e1:Nat):FC yU 136 [zg true x0 e0,zg false x1 e1] [.t,.t,.t,.f]=FR (.agg [ze (F31 e0 e1 x0 x1),zd (F28 e0 e1 x0 x1),zb,zd (F29 e0 e1 x0 x1),zb]) (F58 e0 e1 x0 x1<|F76 e0 e1<|F81 e0 x0 x1<|[]):=by kernel_rfl
theorem zeA (x0 e0 x1 e1:Nat):FC yU 136 [zg true x0 e0,zg false x1 e1] [.t,.t,.f,.c]=FR (.agg [ze (F31 e0 e1 x0 x1),zd (F28 e0 e1 x0 x1),zb,zd (F29 e0 e1 x0 x1),zb]) (F58 e0 e1 x0 x1<|F71 e0 e1<|F81 e0 x0 x1<|[]):=by kernel_rfl
theorem zeB (x0 e0 x1 e1:Nat):FC yU 136 [zg true x0 e0,zg false x1 e1] [.t,.f,.f,.c]=FR (.agg [ze (F31 e0 e1 x0 x1),zd (F28 e0 e1 x0 x1),zb,zd (F29 e0 e1 x0 x1),zb]) (F58 e0 e1 x0 x1<|F83 e0<|Fo (zA x0 x1,true)<|[]):=by kernel_rfl
theorem VF (x0 e0 x1 e1:Nat):FC yU 136 [zg true x0 e0,zg false x1 e1] [.f,.f,.f,.c]=FR (.agg [ze (F31 e0 e1 x0 x1),zd (F28 e0 e1 x0 x1),zb,zd (F29 e0 e1 x0 x1),zb]) (F58 e0 e1 x0 x1<|F84 e0<|Fo (zA x0 x1,true)<|[]):=by kernel_rfl
theorem VG (x0 e0 x1 e1:Nat):FC yU 136 [zg false x0 e0,zg true x1 e1] [.t,.t,.t,.t]=FR (.agg [ze (mk (xU false true) (x0.mul x1)),zd (x0.mul x1),zb,zd 0,zb]) (F77 e0 e1<|F81 e0 x0 x1<|[]):=by kernel_rfl
theorem VH (x0 e0 x1 e1:Nat):FC yU 136 [zg false x0 e0,zg true x1 e1] [.t,.t,.t,.f]=FR (.agg [ze (F32 e0 e1 x0 x1),zd (F28 e0 e1 x0 x1),zb,zd (F29 e0 e1 x0 x1),zb]) (F58 e0 e1 x0 x1<|F76 e0 e1<|F81 e0 x0 x1<|[]):=by kernel_rfl
theorem zeC (x0 e0 x1 e1:Nat):FC yU 136 [zg false x0 e0,zg true x1 e1] [.t,.t,.f,.c]=FR (.agg [ze (F32 e0 e1 x0 x1),zd (F28 e0 e1 x0 x1),zb,zd (F29 e0 e1 x0 x1),zb]) (F58 e0 e1 x0 x1<|F71 e0 e1<|F81 e0 x0 x1<|[]):=by kernel_rfl
theorem zeD (x0 e0 x1 e1:Nat):FC yU 136 [zg false x0 e0,zg true x1 e1] [.t,.f,.f,.c]=FR (.agg [ze (F32 e0 e1 x0 x1),zd (F28 e0 e1 x0 x1),zb,zd (F29 e0 e1 x0 x1),zb]) (F58 e0 e1 x0 x1<|F83 e0<|Fo (zA x0 x1,true)<|[]):=by kernel_rfl
theorem VI (x0 e0 x1 e1:Nat):FC yU 136 [zg false x0 e0,zg true x1 e1] [.f,.f,.f,.c]=FR (.agg [ze (F32 e0 e1 x0 x1),zd (F28 e0 e1 x0 x1),zb,zd (F29 e0 e1 x0 x1),zb]) (F58 e0 e1 x0 x1<|F84 e0<|Fo (zA x0 x1,true)<|[]):=by kernel_rfl
theorem VJ (x0 e0 x1 e1:Nat):FC yU 136 [zg false x0 e0,zg false x1 e1] [.t,.t,.t,.t]=FR (.agg [ze (mk (xU false false) (x0.mul x1)),zd (x0.mul x1),zb,zd 0,zb]) (F77 e0 e1<|F81 e0 x0 x1<|[]):=by kernel_rfl
theorem VK (x0 e0 x1 e1:Nat):FC yU 136 [zg false x0 e0,zg false x1 e1] [.t,.t,.t,.f]=FR (.agg [ze (F30 e0 e1 x0 x1),zd (F28 e0 e1 x0 x1),zb,zd (F29 e0 e1 x0 x1),zb]) (F58 e0 e1 x0 x1<|F76 e0 e1<|F81 e0 x0 x1<|[]):=by kernel_rfl
theorem zeE (x0 e0 x1 e1:Nat):FC yU 136 [zg false x0 e0,zg false x1 e1] [.t,.t,.f,.c]=FR (.agg [ze (F30 e0 e1 x0 x1),zd (F28 e0 e1 x0 x1),zb,zd (F29 e0 e1 x0 x1),zb]) (F58 e0 e1 x0 x1<|F71 e0 e1<|F81 e0 x0 x1<|[]):=by kernel_rfl
theorem zeF (x0 e0 x1 e1:Nat):FC yU 136 [zg false x0 e0,zg false x1 e1] [.t,.f,.f,.c]=FR (.agg [ze (F30 e0 e1 x0 x1),zd (F28 e0 e1 x0 x1),zb,zd (F29 e0 e1 x0 x1),zb]) (F58 e0 e1 x0 x1<|F83 e0<|Fo (zA x0 x1,true)<|[]):=by kernel_rfl
theorem VL (x0 e0 x1 e1:Nat):FC yU 136 [zg false x0 e0,zg false x1 e1] [.f,.f,.f,.c]=FR (.agg [ze (F30 e0 e1 x0 x1),zd (F28 e0 e1 x0 x1),zb,zd (F29 e0 e1 x0 x1),zb]) (F58 e0 e1 x0 x1<|F84 e0<|Fo (zA x0 x1,true)<|[]):=by kernel_rfl
theorem zds:Ok Tryz.prog E0 136:=zM (S:=fun g=>memN g Kn) mixed Ko rfl fun l v h=>by
  rw [zfF] at h
  replace h:=zE h; obtain ⟨a,b,rfl,h⟩:=h
  replace h:=yb h; obtain ⟨s0,x0,e0,rfl,h⟩:=h
  replace h:=yb h; obtain ⟨s1,x1,e1,rfl,h⟩:=h
  obtain ⟨rfl,hc⟩:=zB h
  cases s0 <;> cases s1 <;> refine ⟨rfl,rfl,?_⟩
  ·
    by_cases h0:e0=0
    ·
      by_cases h1:e1=0
      ·
        have he:andB (Nat.beq e0 0) (Nat.beq e1 0)=true:=zl.2 ⟨Abs.beq_true.2 h0,Abs.beq_true.2 h1⟩
        rw [he] at hc ⊢
        simp only [NQ,zA,zK,not_false_eq_true,and_true,true_and,and_self,reduceCtorEq,zR,zT,zU,ne_eq] at hc
        exact zq (VJ x0 e0 x1 e1) rfl
      ·
        have he:andB (Nat.beq e0 0) (Nat.beq e1 0)=false:=by rw [zO.2 h1]; cases Nat.beq e0 0 <;> rfl
        rw [he] at hc ⊢
        simp only [NQ,zA,zK,not_false_eq_true,and_true,true_and,and_self,reduceCtorEq,zR,zT,zU,ne_eq] at hc
        exact zq (VK x0 e0 x1 e1) rfl
    ·
      have he:andB (Nat.beq e0 0) (Nat.beq e1 0)=false:=by rw [zO.2 h0]; rfl
      rw [he] at hc ⊢
      simp only [NQ,zA,zK,not_false_eq_true,and_true,true_and,and_self,reduceCtorEq,zR,zT,zU,ne_eq] at hc
      exact zq (VL x0 e0 x1 e1) rfl
  ·
    by_cases h0:e0=0
    ·
      by_cases h1:e1=0
      ·
        have he:andB (Nat.beq e0 0) (Nat.beq e1 0)=true:=zl.2 ⟨Abs.beq_true.2 h0,Abs.beq_true.2 h1⟩
        rw [he] at hc ⊢
        simp only [NQ,zA,zK,not_false_eq_true,and_true,true_and,and_self,reduceCtorEq,zR,zT,zU,ne_eq] at hc
        exact zq (VG x0 e0 x1 e1) rfl
      ·
        have he:andB (Nat.beq e0 0) (Nat.beq e1 0)=false:=by rw [zO.2 h1]; cases Nat.beq e0 0 <;> rfl
        rw [he] at hc ⊢
        simp only [NQ,zA,zK,not_false_eq_true,and_true,true_and,and_self,reduceCtorEq,zR,zT,zU,ne_eq] at hc
        exact zq (VH x0 e0 x1 e1) rfl
    ·
      have he:andB (Nat.beq e0 0) (Nat.beq e1 0)=false:=by rw [zO.2 h0]; rfl
      rw [he] at hc ⊢
      simp only [NQ,zA,zK,not_false_eq_true,and_true,true_and,and_self,reduceCtorEq,zR,zT,zU,ne_eq] at hc
      exact zq (VI x0 e0 x1 e1) rfl
  ·
    by_cases h0:e0=0
    ·
      by_cases h1:e1=0
      ·
        have he:andB (Nat.beq e0 0) (Nat.beq e1 0)=true:=zl.2 ⟨Abs.beq_true.2 h0,Abs.beq_true.2 h1⟩
        rw [he] at hc ⊢
        simp only [NQ,zA,zK,not_false_eq_true,and_true,true_and,and_self,reduceCtorEq,zR,zT,zU,ne_eq] at hc
        exact zq (VD x0 e0 x1 e1) rfl
      ·
        have he:andB (Nat.beq e0 0) (Nat.beq e1 0)=false:=by rw [zO.2 h1]; cases Nat.beq e0 0 <;> rfl
        rw [he] at hc ⊢
        simp only [NQ,zA,zK,not_false_eq_true,and_true,true_and,and_self,reduceCtorEq,zR,zT,zU,ne_eq] at hc
        exact zq (VE x0 e0 x1 e1) rfl
    ·
      have he:andB (Nat.beq e0 0) (Nat.beq e1 0)=false:=by rw [zO.2 h0]; rfl
      rw [he] at hc ⊢
      simp only [NQ,zA,zK,not_false_eq_true,and_true,true_and,and_self,reduceCtorEq,zR,zT,zU,ne_eq] at hc
      exact zq (VF x0 e0 x1 e1) rfl
  ·
    by_cases h0:e0=0
    ·
      by_cases h1:e1=0
      ·
        have he:andB (Nat.beq e0 0) (Nat.beq e1 0)=true:=zl.2 ⟨Abs.beq_true.2 h0,Abs.beq_true.2 h1⟩
        rw [he] at hc ⊢
        simp only [NQ,zA,zK,not_false_eq_true,and_true,true_and,and_self,reduceCtorEq,zR,zT,zU,ne_eq] at hc
        exact zq (VA x0 e0 x1 e1) rfl
      ·
        have he:andB (Nat.beq e0 0) (Nat.beq e1 0)=false:=by rw [zO.2 h1]; cases Nat.beq e0 0 <;> rfl
        rw [he] at hc ⊢
        simp only [NQ,zA,zK,not_false_eq_true,and_true,true_and,and_self,reduceCtorEq,zR,zT,zU,ne_eq] at hc
        exact zq (VB x0 e0 x1 e1) rfl
    ·
      have he:andB (Nat.beq e0 0) (Nat.beq e1 0)=false:=by rw [zO.2 h0]; rfl
      rw [he] at hc ⊢
      simp only [NQ,zA,zK,not_false_eq_true,and_true,true_and,and_self,reduceCtorEq,zR,zT,zU,ne_eq] at hc
      exact zq (VC x0 e0 x1 e1) rfl
theorem Kq:∀ g,memN g Kp=true→Ok Tryz.prog E0 g:=zI Ko zds
abbrev Kr:List Nat:=154::Kp
def yV:Es:=only (fun g=>memN g Kp) E0
theorem zfG (l:List AV):E0 154 l=QX l:=by kernel_rfl
theorem VM (x0 e0 x1 e1:Nat):FC yV 154 [zg true x0 e0,zg true x1 e1] [.t,.t,.t,.t]=FR (zt (ifB true (ifB true (xT x1 x0) (Int.negSucc 0)) (ifB true (Int.ofNat 1) (xT x0 x1)))) (Fo (true,true)<|F86 e0 e1<|[]):=by kernel_rfl
theorem VN (x0 e0 x1 e1:Nat):FC yV 154 [zg true x0 e0,zg true x1 e1] [.t,.t,.t,.f]=FR (zt (F15 e0 e1 x0 x1)) (F79 e0 e1 x0 x1<|F87 e0 e1<|[]):=by kernel_rfl
theorem zeG (x0 e0 x1 e1:Nat):FC yV 154 [zg true x0 e0,zg true x1 e1] [.t,.t,.f,.c]=FR (zt (F15 e0 e1 x0 x1)) (F79 e0 e1 x0 x1<|F88 e0 e1<|[]):=by kernel_rfl
theorem zeH (x0 e0 x1 e1:Nat):FC yV 154 [zg true x0 e0,zg true x1 e1] [.t,.f,.f,.c]=FR (zt (F15 e0 e1 x0 x1)) (F79 e0 e1 x0 x1<|F83 e0<|[]):=by kernel_rfl
theorem VO (x0 e0 x1 e1:Nat):FC yV 154 [zg true x0 e0,zg true x1 e1] [.f,.f,.f,.c]=FR (zt (F15 e0 e1 x0 x1)) (F79 e0 e1 x0 x1<|F84 e0<|[]):=by kernel_rfl
theorem VP (x0 e0 x1 e1:Nat):FC yV 154 [zg true x0 e0,zg false x1 e1] [.t,.t,.t,.t]=FR (zt (ifB true (ifB false (xT x1 x0) (Int.negSucc 0)) (ifB false (Int.ofNat 1) (xT x0 x1)))) (Fo (true,true)<|F86 e0 e1<|[]):=by kernel_rfl
theorem VQ (x0 e0 x1 e1:Nat):FC yV 154 [zg true x0 e0,zg false x1 e1] [.t,.t,.t,.f]=FR (zt (F16 e0 e1 x0 x1)) (F79 e0 e1 x0 x1<|F87 e0 e1<|[]):=by kernel_rfl
theorem zeI (x0 e0 x1 e1:Nat):FC yV 154 [zg true x0 e0,zg false x1 e1] [.t,.t,.f,.c]=FR (zt (F16 e0 e1 x0 x1)) (F79 e0 e1 x0 x1<|F88 e0 e1<|[]):=by kernel_rfl
theorem zeJ (x0 e0 x1 e1:Nat):FC yV 154 [zg true x0 e0,zg false x1 e1] [.t,.f,.f,.c]=FR (zt (F16 e0 e1 x0 x1)) (F79 e0 e1 x0 x1<|F83 e0<|[]):=by kernel_rfl
theorem VR (x0 e0 x1 e1:Nat):FC yV 154 [zg true x0 e0,zg false x1 e1] [.f,.f,.f,.c]=FR (zt (F16 e0 e1 x0 x1)) (F79 e0 e1 x0 x1<|F84 e0<|[]):=by kernel_rfl
theorem VT (x0 e0 x1 e1:Nat):FC yV 154 [zg false x0 e0,zg true x1 e1] [.t,.t,.t,.t]=FR (zt (ifB false (ifB true (xT x1 x0) (Int.negSucc 0)) (ifB true (Int.ofNat 1) (xT x0 x1)))) (Fo (true,true)<|F86 e0 e1<|[]):=by kernel_rfl
theorem VU (x0 e0 x1 e1:Nat):FC yV 154 [zg false x0 e0,zg true x1 e1] [.t,.t,.t,.f]=FR (zt (F17 e0 e1 x0 x1)) (F79 e0 e1 x0 x1<|F87 e0 e1<|[]):=by kernel_rfl
theorem zeK (x0 e0 x1 e1:Nat):FC yV 154 [zg false x0 e0,zg true x1 e1] [.t,.t,.f,.c]=FR (zt (F17 e0 e1 x0 x1)) (F79 e0 e1 x0 x1<|F88 e0 e1<|[]):=by kernel_rfl
theorem zeL (x0 e0 x1 e1:Nat):FC yV 154 [zg false x0 e0,zg true x1 e1] [.t,.f,.f,.c]=FR (zt (F17 e0 e1 x0 x1)) (F79 e0 e1 x0 x1<|F83 e0<|[]):=by kernel_rfl
theorem VV (x0 e0 x1 e1:Nat):FC yV 154 [zg false x0 e0,zg true x1 e1] [.f,.f,.f,.c]=FR (zt (F17 e0 e1 x0 x1)) (F79 e0 e1 x0 x1<|F84 e0<|[]):=by kernel_rfl
theorem VW (x0 e0 x1 e1:Nat):FC yV 154 [zg false x0 e0,zg false x1 e1] [.t,.t,.t,.t]=FR (zt (ifB false (ifB false (xT x1 x0) (Int.negSucc 0)) (ifB false (Int.ofNat 1) (xT x0 x1)))) (Fo (true,true)<|F86 e0 e1<|[]):=by kernel_rfl
theorem VX (x0 e0 x1 e1:Nat):FC yV 154 [zg false x0 e0,zg false x1 e1] [.t,.t,.t,.f]=FR (zt (F18 e0 e1 x0 x1)) (F79 e0 e1 x0 x1<|F87 e0 e1<|[]):=by kernel_rfl
theorem zeM (x0 e0 x1 e1:Nat):FC yV 154 [zg false x0 e0,zg false x1 e1] [.t,.t,.f,.c]=FR (zt (F18 e0 e1 x0 x1)) (F79 e0 e1 x0 x1<|F88 e0 e1<|[]):=by kernel_rfl
theorem zeN (x0 e0 x1 e1:Nat):FC yV 154 [zg false x0 e0,zg false x1 e1] [.t,.f,.f,.c]=FR (zt (F18 e0 e1 x0 x1)) (F79 e0 e1 x0 x1<|F83 e0<|[]):=by kernel_rfl
theorem VY (x0 e0 x1 e1:Nat):FC yV 154 [zg false x0 e0,zg false x1 e1] [.f,.f,.f,.c]=FR (zt (F18 e0 e1 x0 x1)) (F79 e0 e1 x0 x1<|F84 e0<|[]):=by kernel_rfl
theorem zdt:Ok Tryz.prog E0 154:=zM (S:=fun g=>memN g Kp) mixed Kq rfl fun l v h=>by
  rw [zfG] at h
  replace h:=zE h; obtain ⟨a,b,rfl,h⟩:=h
  replace h:=yb h; obtain ⟨s0,x0,e0,rfl,h⟩:=h
  replace h:=yb h; obtain ⟨s1,x1,e1,rfl,h⟩:=h
  obtain ⟨rfl,hc⟩:=zB h
  cases s0 <;> cases s1 <;> refine ⟨rfl,rfl,?_⟩
  ·
    by_cases h0:e0=0
    ·
      by_cases h1:e1=0
      ·
        have he:andB (Nat.beq e0 0) (Nat.beq e1 0)=true:=zl.2 ⟨Abs.beq_true.2 h0,Abs.beq_true.2 h1⟩
        rw [he] at hc ⊢
        simp only [NQ,zA,zK,not_false_eq_true,and_true,true_and,and_self,reduceCtorEq,zR,zT,zU,ne_eq] at hc
        exact zq (VW x0 e0 x1 e1) rfl
      ·
        have he:andB (Nat.beq e0 0) (Nat.beq e1 0)=false:=by rw [zO.2 h1]; cases Nat.beq e0 0 <;> rfl
        rw [he] at hc ⊢
        simp only [NQ,zA,zK,not_false_eq_true,and_true,true_and,and_self,reduceCtorEq,zR,zT,zU,ne_eq] at hc
        exact zq (VX x0 e0 x1 e1) rfl
    ·
      have he:andB (Nat.beq e0 0) (Nat.beq e1 0)=false:=by rw [zO.2 h0]; rfl
      rw [he] at hc ⊢
      simp only [NQ,zA,zK,not_false_eq_true,and_true,true_and,and_self,reduceCtorEq,zR,zT,zU,ne_eq] at hc
      exact zq (VY x0 e0 x1 e1) rfl
  ·
    by_cases h0:e0=0
    ·
      by_cases h1:e1=0
      ·
        have he:andB (Nat.beq e0 0) (Nat.beq e1 0)=true:=zl.2 ⟨Abs.beq_true.2 h0,Abs.beq_true.2 h1⟩
        rw [he] at hc ⊢
        simp only [NQ,zA,zK,not_false_eq_true,and_true,true_and,and_self,reduceCtorEq,zR,zT,zU,ne_eq] at hc
        exact zq (VT x0 e0 x1 e1) rfl
      ·
        have he:andB (Nat.beq e0 0) (Nat.beq e1 0)=false:=by rw [zO.2 h1]; cases Nat.beq e0 0 <;> rfl
        rw [he] at hc ⊢
        simp only [NQ,zA,zK,not_false_eq_true,and_true,true_and,and_self,reduceCtorEq,zR,zT,zU,ne_eq] at hc
        exact zq (VU x0 e0 x1 e1) rfl
    ·
      have he:andB (Nat.beq e0 0) (Nat.beq e1 0)=false:=by rw [zO.2 h0]; rfl
      rw [he] at hc ⊢
      simp only [NQ,zA,zK,not_false_eq_true,and_true,true_and,and_self,reduceCtorEq,zR,zT,zU,ne_eq] at hc
      exact zq (VV x0 e0 x1 e1) rfl
  ·
    by_cases h0:e0=0
    ·
      by_cases h1:e1=0
      ·
        have he:andB (Nat.beq e0 0) (Nat.beq e1 0)=true:=zl.2 ⟨Abs.beq_true.2 h0,Abs.beq_true.2 h1⟩
        rw [he] at hc ⊢
        simp only [NQ,zA,zK,not_false_eq_true,and_true,true_and,and_self,reduceCtorEq,zR,zT,zU,ne_eq] at hc
        exact zq (VP x0 e0 x1 e1) rfl
      ·
        have he:andB (Nat.beq e0 0) (Nat.beq e1 0)=false:=by rw [zO.2 h1]; cases Nat.beq e0 0 <;> rfl
        rw [he] at hc ⊢
        simp only [NQ,zA,zK,not_false_eq_true,and_true,true_and,and_self,reduceCtorEq,zR,zT,zU,ne_eq] at hc
        exact zq (VQ x0 e0 x1 e1) rfl
    ·
      have he:andB (Nat.beq e0 0) (Nat.beq e1 0)=false:=by rw [zO.2 h0]; rfl
      rw [he] at hc ⊢
      simp only [NQ,zA,zK,not_false_eq_true,and_true,true_and,and_self,reduceCtorEq,zR,zT,zU,ne_eq] at hc
      exact zq (VR x0 e0 x1 e1) rfl
  ·
    by_cases h0:e0=0
    ·
      by_cases h1:e1=0
      ·
        have he:andB (Nat.beq e0 0) (Nat.beq e1 0)=true:=zl.2 ⟨Abs.beq_true.2 h0,Abs.beq_true.2 h1⟩
        rw [he] at hc ⊢
        simp only [NQ,zA,zK,not_false_eq_true,and_true,true_and,and_self,reduceCtorEq,zR,zT,zU,ne_eq] at hc
        exact zq (VM x0 e0 x1 e1) rfl
      ·
        have he:andB (Nat.beq e0 0) (Nat.beq e1 0)=false:=by rw [zO.2 h1]; cases Nat.beq e0 0 <;> rfl
        rw [he] at hc ⊢
        simp only [NQ,zA,zK,not_false_eq_true,and_true,true_and,and_self,reduceCtorEq,zR,zT,zU,ne_eq] at hc
        exact zq (VN x0 e0 x1 e1) rfl
    ·
      have he:andB (Nat.beq e0 0) (Nat.beq e1 0)=false:=by rw [zO.2 h0]; rfl
      rw [he] at hc ⊢
      simp only [NQ,zA,zK,not_false_eq_true,and_true,true_and,and_self,reduceCtorEq,zR,zT,zU,ne_eq] at hc
      exact zq (VO x0 e0 x1 e1) rfl
theorem Ks:∀ g,memN g Kr=true→Ok Tryz.prog E0 g:=zI Kq zdt
abbrev zfH:List Nat:=129::Kr
def xE:Es:=only (fun g=>memN g Kr) E0
theorem zdu (l:List AV):E0 129 l=(Xb ok) l:=by kernel_rfl
theorem zdv (x0 x1:Nat):FC xE 129 [zh true x0,zh true x1] [.t]=FR (AV.tuple [.agg [ze false,zd 0,zb,zd 0,zb],zt (Int.ofNat 11)]) (Fo (eqI (yG true x1) 0,true)<|Fo (small x1,true)<|[]):=by kernel_rfl
theorem XU (x0 x1:Nat):FC xE 129 [zh true x0,zh true x1] [.f,.t]=FR (AV.tuple [.agg [ze (xy (mk (notB true) x0) x0 x1),zd (yP x0 x1),zb,zd (yQ x0 x1),zb],zt (Int.ofNat 0)]) (F80 x0 x1<|Fo (small x0,true)<|Fo (ltI (yG true x1) 0,true)<|F85 x1<|Fo (small x1,true)<|[]):=by kernel_rfl
theorem zdw (x0 x1:Nat):FC xE 129 [zh true x0,zh true x1] [.f,.f]=FR (AV.tuple [.agg [ze (xy true x0 x1),zd (yP x0 x1),zb,zd (yQ x0 x1),zb],zt (Int.ofNat 0)]) (F80 x0 x1<|Fo (ltI (yG true x1) 0,false)<|F85 x1<|Fo (small x1,true)<|[]):=by kernel_rfl
theorem zdx (x0 x1:Nat):FC xE 129 [zh true x0,zh false x1] [.t]=FR (AV.tuple [.agg [ze false,zd 0,zb,zd 0,zb],zt (Int.ofNat 11)]) (Fo (eqI (yG false x1) 0,true)<|Fo (small x1,true)<|[]):=by kernel_rfl
theorem zdy (x0 x1:Nat):FC xE 129 [zh true x0,zh false x1] [.f,.t]=FR (AV.tuple [.agg [ze (xy (mk (notB true) x0) x0 x1),zd (yP x0 x1),zb,zd (yQ x0 x1),zb],zt (Int.ofNat 0)]) (F80 x0 x1<|Fo (small x0,true)<|Fo (ltI (yG false x1) 0,true)<|F82 x1<|Fo (small x1,true)<|[]):=by kernel_rfl
theorem XV (x0 x1:Nat):FC xE 129 [zh true x0,zh false x1] [.f,.f]=FR (AV.tuple [.agg [ze (xy true x0 x1),zd (yP x0 x1),zb,zd (yQ x0 x1),zb],zt (Int.ofNat 0)]) (F80 x0 x1<|Fo (ltI (yG false x1) 0,false)<|F82 x1<|Fo (small x1,true)<|[]):=by kernel_rfl
theorem zdz (x0 x1:Nat):FC xE 129 [zh false x0,zh true x1] [.t]=FR (AV.tuple [.agg [ze false,zd 0,zb,zd 0,zb],zt (Int.ofNat 11)]) (Fo (eqI (yG true x1) 0,true)<|Fo (small x1,true)<|[]):=by kernel_rfl
theorem XW (x0 x1:Nat):FC xE 129 [zh false x0,zh true x1] [.f,.t]=FR (AV.tuple [.agg [ze (xy (mk (notB false) x0) x0 x1),zd (yP x0 x1),zb,zd (yQ x0 x1),zb],zt (Int.ofNat 0)]) (F80 x0 x1<|Fo (small x0,true)<|Fo (ltI (yG true x1) 0,true)<|F85 x1<|Fo (small x1,true)<|[]):=by kernel_rfl
theorem zdA (x0 x1:Nat):FC xE 129 [zh false x0,zh true x1] [.f,.f]=FR (AV.tuple [.agg [ze (xy false x0 x1),zd (yP x0 x1),zb,zd (yQ x0 x1),zb],zt (Int.ofNat 0)]) (F80 x0 x1<|Fo (ltI (yG true x1) 0,false)<|F85 x1<|Fo (small x1,true)<|[]):=by kernel_rfl
theorem zdB (x0 x1:Nat):FC xE 129 [zh false x0,zh false x1] [.t]=FR (AV.tuple [.agg [ze false,zd 0,zb,zd 0,zb],zt (Int.ofNat 11)]) (Fo (eqI (yG false x1) 0,true)<|Fo (small x1,true)<|[]):=by kernel_rfl
theorem zdC (x0 x1:Nat):FC xE 129 [zh false x0,zh false x1] [.f,.t]=FR (AV.tuple [.agg [ze (xy (mk (notB false) x0) x0 x1),zd (yP x0 x1),zb,zd (yQ x0 x1),zb],zt (Int.ofNat 0)]) (F80 x0 x1<|Fo (small x0,true)<|Fo (ltI (yG false x1) 0,true)<|F82 x1<|Fo (small x1,true)<|[]):=by kernel_rfl
theorem XY (x0 x1:Nat):FC xE 129 [zh false x0,zh false x1] [.f,.f]=FR (AV.tuple [.agg [ze (xy false x0 x1),zd (yP x0 x1),zb,zd (yQ x0 x1),zb],zt (Int.ofNat 0)]) (F80 x0 x1<|Fo (ltI (yG false x1) 0,false)<|F82 x1<|Fo (small x1,true)<|[]):=by kernel_rfl
theorem zbz:Ok Tryz.prog E0 129:=zM (S:=fun g=>memN g Kr) mixed Ks rfl fun l v h=>by
  rw [zdu] at h
  replace h:=zE h; obtain ⟨a,b,rfl,h⟩:=h
  replace h:=zQ h; obtain ⟨s0,x0,rfl,h⟩:=h
  replace h:=zQ h; obtain ⟨s1,x1,rfl,h⟩:=h
  obtain ⟨rfl,hc⟩:=zB h
  try simp only [NQ,zA,zK,not_false_eq_true,and_true,true_and,and_self,reduceCtorEq,zR,zT,zU,ne_eq] at hc
  cases s0 <;> cases s1 <;> refine ⟨rfl,rfl,?_⟩
  ·
    have h1:=hc.1
    exact zq (XY x0 x1) rfl
  ·
    have h1:=hc.1
    exact zq (XW x0 x1) rfl
  ·
    have h1:=hc.1
    exact zq (XV x0 x1) rfl
  ·
    have h1:=hc.1
    exact zq (XU x0 x1) rfl
theorem zbA:∀ g,memN g zfH=true→Ok Tryz.prog E0 g:=zI Ks zbz
theorem zfI:∀ f,Ok Tryz.prog E0 f:=by
  intro f
  cases h:memN f [129,154,136,100,135,133,160,163,162,54,24,28,34,61,27,134,164,32,182,120,31,29,25,23,26,193,60,56,22,55,132,64,62,90] with
  | true=>exact zbA f h
  |
    false =>
    intro l v hv
    have e:tblT=W1 [(129,(Xb ok)),(154,QX),(136,QW),(100,QU),(135,QT),(133,(QV 164 134)),(160,zcG),(163,eBy),(162,jy),(54,Xa),(24,zcJ),(28,zcI),(34,eOf),(61,zcH),(27,zcF),(134,zcE),(164,zcD),(32,zcC),(182,zcB),(120,zcA),(31,QS),(29,QR),(25,zcz),(23,(jx ok)),(26,jw),(193,(jv ok)),(60,ju),(56,jt),(22,Y_),(55,QQ),(132,Y9),(64,Y8),(62,Zx),(90,Zw)]:=rfl
    have hn:E0 f l=none:=by
      unfold E0
      rw [e,qr (l:=[(129,(Xb ok)),(154,QX),(136,QW),(100,QU),(135,QT),(133,(QV 164 134)),(160,zcG),(163,eBy),(162,jy),(54,Xa),(24,zcJ),(28,zcI),(34,eOf),(61,zcH),(27,zcF),(134,zcE),(164,zcD),(32,zcC),(182,zcB),(120,zcA),(31,QS),(29,QR),(25,zcz),(23,(jx ok)),(26,jw),(193,(jv ok)),(60,ju),(56,jt),(22,Y_),(55,QQ),(132,Y9),(64,Y8),(62,Zx),(90,Zw)]) h]
      rfl
    rw [hn] at hv; cases hv
end
end Go.Proofs.YtagolmgljacneaaGreat.num
