/- THE FUNCTIONS ON SMALL FRACTIONS, in this program: what they answer; all together. Printed by a program (wip/num/gen_num.py). -/
import Derived.Test.YtcgnkejpcjcaoaaGreatNum
set_option linter.unusedSimpArgs false
set_option linter.unusedVariables false
set_option maxRecDepth 100000
namespace Go.Proofs.YtcgnkejpcjcaoaaGreat.num
open Go.Abs
noncomputable def S_Join : Es:=only (fun g => memN g [196,130,128,27,34,38,44,96,37,197,195,42,129,179,41,39,35,33,36,215,95,91,32,85,198,99,97,155]) E0
theorem e_Join (l:List AV) : E0 194 l = (eJoin 195 197) l:=by kernel_rfl
noncomputable abbrev Fo (a:Bool×Bool)(l:Ob):Ob:=a::l
noncomputable abbrev FC (S:Es)(f:Nat)(a:List AV)(d:List Dc):=symCall (cxOf Tryz.prog S) S 100 f a d
abbrev FR (v:AV)(o:Ob):Option (CR×List Dc×Ob):=some (CR.value v (some []),[],o)
noncomputable def F0 (e0 e1:Nat):=(e0.add 1).mul (e1.add 1)
noncomputable def F1 (e0 x1:Nat):=mk false (x1.mul (e0.add 1))
noncomputable def F2 (e0 x1:Nat):=mk true (x1.mul (e0.add 1))
noncomputable def F3 (e1 x0:Nat):=mk false (x0.mul (e1.add 1))
noncomputable def F4 (e1 x0:Nat):=mk true (x0.mul (e1.add 1))
noncomputable def F5 (e0 x1:Nat):=mk (notB (F2 e0 x1)) (x1.mul (e0.add 1))
noncomputable def F6 (e0 x1:Nat):=mk (notB (F1 e0 x1)) (x1.mul (e0.add 1))
noncomputable def F7 (e0 e1 x0 x1:Nat):=sumN (F4 e1 x0) (x0.mul (e1.add 1)) (F2 e0 x1) (x1.mul (e0.add 1))
noncomputable def F8 (e0 e1 x0 x1:Nat):=sumN (F4 e1 x0) (x0.mul (e1.add 1)) (F1 e0 x1) (x1.mul (e0.add 1))
noncomputable def F9 (e0 e1 x0 x1:Nat):=sumN (F3 e1 x0) (x0.mul (e1.add 1)) (F2 e0 x1) (x1.mul (e0.add 1))
noncomputable def F10 (e0 e1 x0 x1:Nat):=sumN (F3 e1 x0) (x0.mul (e1.add 1)) (F1 e0 x1) (x1.mul (e0.add 1))
noncomputable def F11 (e0 e1 x0 x1:Nat):=sumN (F4 e1 x0) (x0.mul (e1.add 1)) (F5 e0 x1) (x1.mul (e0.add 1))
noncomputable def F12 (e0 e1 x0 x1:Nat):=sumN (F4 e1 x0) (x0.mul (e1.add 1)) (F6 e0 x1) (x1.mul (e0.add 1))
noncomputable def F13 (e0 e1 x0 x1:Nat):=sumN (F3 e1 x0) (x0.mul (e1.add 1)) (F5 e0 x1) (x1.mul (e0.add 1))
noncomputable def F14 (e0 e1 x0 x1:Nat):=sumN (F3 e1 x0) (x0.mul (e1.add 1)) (F6 e0 x1) (x1.mul (e0.add 1))
noncomputable def F38 (e0 e1 x0 x1:Nat):=cmpN (x1.mul (e0.add 1)) (x0.mul (e1.add 1))
noncomputable def F39 (e0 e1 x0 x1:Nat):=cmpN (x0.mul (e1.add 1)) (x1.mul (e0.add 1))
noncomputable def F15 (e0 e1 x0 x1:Nat):=ifB (F4 e1 x0) (ifB (F2 e0 x1) (F38 e0 e1 x0 x1) (Int.negSucc 0)) (ifB (F2 e0 x1) (Int.ofNat 1) (F39 e0 e1 x0 x1))
noncomputable def F16 (e0 e1 x0 x1:Nat):=ifB (F4 e1 x0) (ifB (F1 e0 x1) (F38 e0 e1 x0 x1) (Int.negSucc 0)) (ifB (F1 e0 x1) (Int.ofNat 1) (F39 e0 e1 x0 x1))
noncomputable def F17 (e0 e1 x0 x1:Nat):=ifB (F3 e1 x0) (ifB (F2 e0 x1) (F38 e0 e1 x0 x1) (Int.negSucc 0)) (ifB (F2 e0 x1) (Int.ofNat 1) (F39 e0 e1 x0 x1))
noncomputable def F18 (e0 e1 x0 x1:Nat):=ifB (F3 e1 x0) (ifB (F1 e0 x1) (F38 e0 e1 x0 x1) (Int.negSucc 0)) (ifB (F1 e0 x1) (Int.ofNat 1) (F39 e0 e1 x0 x1))
noncomputable def F19 (e0 e1:Nat):=andB (e0.beq 0) (e1.beq 0)
noncomputable def F20 (e0 e1 x0 x1:Nat):=lowS (sumS (F3 e1 x0) (x0.mul (e1.add 1)) (F1 e0 x1) (x1.mul (e0.add 1))) (F10 e0 e1 x0 x1) (F0 e0 e1)
noncomputable def F21 (e0 e1 x0 x1:Nat):=lowS (sumS (F4 e1 x0) (x0.mul (e1.add 1)) (F2 e0 x1) (x1.mul (e0.add 1))) (F7 e0 e1 x0 x1) (F0 e0 e1)
noncomputable def F22 (e0 e1 x0 x1:Nat):=lowS (sumS (F4 e1 x0) (x0.mul (e1.add 1)) (F1 e0 x1) (x1.mul (e0.add 1))) (F8 e0 e1 x0 x1) (F0 e0 e1)
noncomputable def F23 (e0 e1 x0 x1:Nat):=lowS (sumS (F3 e1 x0) (x0.mul (e1.add 1)) (F2 e0 x1) (x1.mul (e0.add 1))) (F9 e0 e1 x0 x1) (F0 e0 e1)
noncomputable def F24 (e0 e1 x0 x1:Nat):=lowS (sumS (F4 e1 x0) (x0.mul (e1.add 1)) (F5 e0 x1) (x1.mul (e0.add 1))) (F11 e0 e1 x0 x1) (F0 e0 e1)
noncomputable def F25 (e0 e1 x0 x1:Nat):=lowS (sumS (F4 e1 x0) (x0.mul (e1.add 1)) (F6 e0 x1) (x1.mul (e0.add 1))) (F12 e0 e1 x0 x1) (F0 e0 e1)
noncomputable def F26 (e0 e1 x0 x1:Nat):=lowS (sumS (F3 e1 x0) (x0.mul (e1.add 1)) (F5 e0 x1) (x1.mul (e0.add 1))) (F13 e0 e1 x0 x1) (F0 e0 e1)
noncomputable def F27 (e0 e1 x0 x1:Nat):=lowS (sumS (F3 e1 x0) (x0.mul (e1.add 1)) (F6 e0 x1) (x1.mul (e0.add 1))) (F14 e0 e1 x0 x1) (F0 e0 e1)
noncomputable def F28 (e0 e1 x0 x1:Nat):=lowN (x0.mul x1) (F0 e0 e1)
noncomputable def F29 (e0 e1 x0 x1:Nat):=lowE (x0.mul x1) (F0 e0 e1)
noncomputable def F30 (e0 e1 x0 x1:Nat):=lowS (mk (xorB false false) (x0.mul x1)) (x0.mul x1) (F0 e0 e1)
noncomputable def F31 (e0 e1 x0 x1:Nat):=lowS (mk (xorB true false) (x0.mul x1)) (x0.mul x1) (F0 e0 e1)
noncomputable def F32 (e0 e1 x0 x1:Nat):=lowS (mk (xorB false true) (x0.mul x1)) (x0.mul x1) (F0 e0 e1)
noncomputable def F33 (e0 e1 x0 x1:Nat):=lowS (mk (xorB true true) (x0.mul x1)) (x0.mul x1) (F0 e0 e1)
noncomputable def F34 (e0 e1 x0 x1:Nat):=subN (F4 e1 x0) (x0.mul (e1.add 1)) (F2 e0 x1) (x1.mul (e0.add 1))
noncomputable def F35 (e0 e1 x0 x1:Nat):=subN (F4 e1 x0) (x0.mul (e1.add 1)) (F1 e0 x1) (x1.mul (e0.add 1))
noncomputable def F36 (e0 e1 x0 x1:Nat):=subN (F3 e1 x0) (x0.mul (e1.add 1)) (F2 e0 x1) (x1.mul (e0.add 1))
noncomputable def F37 (e0 e1 x0 x1:Nat):=subN (F3 e1 x0) (x0.mul (e1.add 1)) (F1 e0 x1) (x1.mul (e0.add 1))
noncomputable def F40 (e0 e1 x0 x1:Nat):=lowN (F10 e0 e1 x0 x1) (F0 e0 e1)
noncomputable def F41 (e0 e1 x0 x1:Nat):=lowE (F10 e0 e1 x0 x1) (F0 e0 e1)
noncomputable def F42 (e0 e1 x0 x1:Nat):=lowN (F7 e0 e1 x0 x1) (F0 e0 e1)
noncomputable def F43 (e0 e1 x0 x1:Nat):=lowE (F7 e0 e1 x0 x1) (F0 e0 e1)
noncomputable def F44 (e0 e1 x0 x1:Nat):=lowN (F8 e0 e1 x0 x1) (F0 e0 e1)
noncomputable def F45 (e0 e1 x0 x1:Nat):=lowE (F8 e0 e1 x0 x1) (F0 e0 e1)
noncomputable def F46 (e0 e1 x0 x1:Nat):=lowN (F9 e0 e1 x0 x1) (F0 e0 e1)
noncomputable def F47 (e0 e1 x0 x1:Nat):=lowE (F9 e0 e1 x0 x1) (F0 e0 e1)
noncomputable abbrev F48 (e0 e1:Nat)(l:Ob):Ob:=Fo (andB (small (e0.add 1)) (andB (small (e1.add 1)) (small ((e0.add 1).mul (e1.add 1)))),true)<|Fo (small (e1.add 1),true)<|l
noncomputable abbrev F49 (e0:Nat)(l:Ob):Ob:=Fo (ifB (2,true).snd (e0.beq 0) (notB (e0.beq 0)),true)<|Fo (ifB (2,true).snd (e0.beq 0) (notB (e0.beq 0)),true)<|l
noncomputable abbrev F50 (e0:Nat)(l:Ob):Ob:=Fo (e0.beq 0,false)<|Fo (ifB (2,true).snd (e0.beq 0) (notB (e0.beq 0)),false)<|l
noncomputable abbrev F51 (e0 x1:Nat)(l:Ob):Ob:=Fo (mulC x1 (e0.add 1),true)<|Fo (small (e0.add 1),true)<|l
noncomputable abbrev F52 (e1 x0:Nat)(l:Ob):Ob:=Fo (mulC x0 (e1.add 1),true)<|Fo (small (e1.add 1),true)<|l
noncomputable abbrev F53 (e0 e1:Nat)(l:Ob):Ob:=F48 e0 e1<|Fo (small (e0.add 1),true)<|l
noncomputable abbrev F54 (e0:Nat)(l:Ob):Ob:=Fo (ifB (2,true).snd (e0.beq 0) (notB (e0.beq 0)),false)<|Fo (small e0,true)<|l
noncomputable abbrev F55 (e0:Nat)(l:Ob):Ob:=Fo (ifB (2,true).snd (e0.beq 0) (notB (e0.beq 0)),true)<|Fo (small e0,true)<|l
noncomputable abbrev F56 (e0:Nat)(l:Ob):Ob:=F49 e0<|Fo (small e0,true)<|l
noncomputable abbrev F57 (e0 e1:Nat)(l:Ob):Ob:=Fo (e0.beq 0,true)<|Fo (small e1,true)<|l
noncomputable abbrev F58 (e0 e1 x0 x1:Nat)(l:Ob):Ob:=Fo (lowC (x0.mul x1) ((e0.add 1).mul (e1.add 1)),true)<|F53 e0 e1<|l
noncomputable abbrev F59 (e0 e1 x0 x1:Nat)(l:Ob):Ob:=Fo (lowC (sumN (mk false (x0.mul (e1.add 1))) (x0.mul (e1.add 1)) (mk (notB (mk false (x1.mul (e0.add 1)))) (x1.mul (e0.add 1))) (x1.mul (e0.add 1))) ((e0.add 1).mul (e1.add 1)),true)<|F53 e0 e1<|l
noncomputable abbrev F60 (e0 e1 x0 x1:Nat)(l:Ob):Ob:=Fo (lowC (sumN (mk true (x0.mul (e1.add 1))) (x0.mul (e1.add 1)) (mk (notB (mk false (x1.mul (e0.add 1)))) (x1.mul (e0.add 1))) (x1.mul (e0.add 1))) ((e0.add 1).mul (e1.add 1)),true)<|F53 e0 e1<|l
noncomputable abbrev F61 (e0 e1 x0 x1:Nat)(l:Ob):Ob:=Fo (lowC (sumN (mk false (x0.mul (e1.add 1))) (x0.mul (e1.add 1)) (mk (notB (mk true (x1.mul (e0.add 1)))) (x1.mul (e0.add 1))) (x1.mul (e0.add 1))) ((e0.add 1).mul (e1.add 1)),true)<|F53 e0 e1<|l
noncomputable abbrev F62 (e0 e1 x0 x1:Nat)(l:Ob):Ob:=Fo (lowC (sumN (mk true (x0.mul (e1.add 1))) (x0.mul (e1.add 1)) (mk (notB (mk true (x1.mul (e0.add 1)))) (x1.mul (e0.add 1))) (x1.mul (e0.add 1))) ((e0.add 1).mul (e1.add 1)),true)<|F53 e0 e1<|l
noncomputable abbrev F63 (e0 e1 x0 x1:Nat)(l:Ob):Ob:=F59 e0 e1 x0 x1<|Fo (sumC (mk false (x0.mul (e1.add 1))) (x0.mul (e1.add 1)) (mk (notB (mk false (x1.mul (e0.add 1)))) (x1.mul (e0.add 1))) (x1.mul (e0.add 1)),true)<|l
noncomputable abbrev F64 (e0 e1 x0 x1:Nat)(l:Ob):Ob:=F60 e0 e1 x0 x1<|Fo (sumC (mk true (x0.mul (e1.add 1))) (x0.mul (e1.add 1)) (mk (notB (mk false (x1.mul (e0.add 1)))) (x1.mul (e0.add 1))) (x1.mul (e0.add 1)),true)<|l
noncomputable abbrev F65 (e0 e1 x0 x1:Nat)(l:Ob):Ob:=F61 e0 e1 x0 x1<|Fo (sumC (mk false (x0.mul (e1.add 1))) (x0.mul (e1.add 1)) (mk (notB (mk true (x1.mul (e0.add 1)))) (x1.mul (e0.add 1))) (x1.mul (e0.add 1)),true)<|l
noncomputable abbrev F66 (e0 e1 x0 x1:Nat)(l:Ob):Ob:=F62 e0 e1 x0 x1<|Fo (sumC (mk true (x0.mul (e1.add 1))) (x0.mul (e1.add 1)) (mk (notB (mk true (x1.mul (e0.add 1)))) (x1.mul (e0.add 1))) (x1.mul (e0.add 1)),true)<|l
noncomputable abbrev F67 (e0 e1 x0 x1:Nat)(l:Ob):Ob:=Fo (lowC (sumN (mk false (x0.mul (e1.add 1))) (x0.mul (e1.add 1)) (mk false (x1.mul (e0.add 1))) (x1.mul (e0.add 1))) ((e0.add 1).mul (e1.add 1)),true)<|F53 e0 e1<|l
noncomputable abbrev F68 (e0 e1 x0 x1:Nat)(l:Ob):Ob:=Fo (lowC (sumN (mk true (x0.mul (e1.add 1))) (x0.mul (e1.add 1)) (mk false (x1.mul (e0.add 1))) (x1.mul (e0.add 1))) ((e0.add 1).mul (e1.add 1)),true)<|F53 e0 e1<|l
noncomputable abbrev F69 (e0 e1 x0 x1:Nat)(l:Ob):Ob:=Fo (lowC (sumN (mk false (x0.mul (e1.add 1))) (x0.mul (e1.add 1)) (mk true (x1.mul (e0.add 1))) (x1.mul (e0.add 1))) ((e0.add 1).mul (e1.add 1)),true)<|F53 e0 e1<|l
noncomputable abbrev F70 (e0 e1 x0 x1:Nat)(l:Ob):Ob:=Fo (lowC (sumN (mk true (x0.mul (e1.add 1))) (x0.mul (e1.add 1)) (mk true (x1.mul (e0.add 1))) (x1.mul (e0.add 1))) ((e0.add 1).mul (e1.add 1)),true)<|F53 e0 e1<|l
noncomputable abbrev F71 (e0 e1:Nat)(l:Ob):Ob:=Fo (e0.beq 0,false)<|Fo (small e1,true)<|l
noncomputable abbrev F72 (e0 e1 x0 x1:Nat)(l:Ob):Ob:=F67 e0 e1 x0 x1<|Fo (sumC (mk false (x0.mul (e1.add 1))) (x0.mul (e1.add 1)) (mk false (x1.mul (e0.add 1))) (x1.mul (e0.add 1)),true)<|l
noncomputable abbrev F73 (e0 e1 x0 x1:Nat)(l:Ob):Ob:=F68 e0 e1 x0 x1<|Fo (sumC (mk true (x0.mul (e1.add 1))) (x0.mul (e1.add 1)) (mk false (x1.mul (e0.add 1))) (x1.mul (e0.add 1)),true)<|l
noncomputable abbrev F74 (e0 e1 x0 x1:Nat)(l:Ob):Ob:=F69 e0 e1 x0 x1<|Fo (sumC (mk false (x0.mul (e1.add 1))) (x0.mul (e1.add 1)) (mk true (x1.mul (e0.add 1))) (x1.mul (e0.add 1)),true)<|l
noncomputable abbrev F75 (e0 e1 x0 x1:Nat)(l:Ob):Ob:=F70 e0 e1 x0 x1<|Fo (sumC (mk true (x0.mul (e1.add 1))) (x0.mul (e1.add 1)) (mk true (x1.mul (e0.add 1))) (x1.mul (e0.add 1)),true)<|l
noncomputable abbrev F76 (e0 e1:Nat)(l:Ob):Ob:=Fo (e1.beq 0,false)<|F57 e0 e1<|l
noncomputable abbrev F77 (e0 e1:Nat)(l:Ob):Ob:=Fo (e1.beq 0,true)<|F57 e0 e1<|l
noncomputable abbrev F78 (e0 e1 x0 x1:Nat)(l:Ob):Ob:=F51 e0 x1<|F52 e1 x0<|l
noncomputable abbrev F79 (e0 e1 x0 x1:Nat)(l:Ob):Ob:=Fo (true,true)<|F78 e0 e1 x0 x1<|l
noncomputable abbrev F80 (x0 x1:Nat)(l:Ob):Ob:=Fo (lowC x0 x1,true)<|Fo (true,true)<|l
noncomputable abbrev F81 (e0 x0 x1:Nat)(l:Ob):Ob:=F56 e0<|Fo (mulC x0 x1,true)<|l
noncomputable abbrev F82 (x1:Nat)(l:Ob):Ob:=Fo (small x1,true)<|Fo (eqI (signI false x1) 0,false)<|l
noncomputable abbrev F83 (e0:Nat)(l:Ob):Ob:=F50 e0<|F55 e0<|l
noncomputable abbrev F84 (e0:Nat)(l:Ob):Ob:=F50 e0<|F54 e0<|l
noncomputable abbrev F85 (x1:Nat)(l:Ob):Ob:=Fo (small x1,true)<|Fo (eqI (signI true x1) 0,false)<|l
noncomputable abbrev F86 (e0 e1:Nat)(l:Ob):Ob:=F77 e0 e1<|F56 e0<|l
noncomputable abbrev F87 (e0 e1:Nat)(l:Ob):Ob:=F76 e0 e1<|F56 e0<|l
noncomputable abbrev F88 (e0 e1:Nat)(l:Ob):Ob:=F71 e0 e1<|F56 e0<|l
noncomputable abbrev F89 (e0 e1 x0 x1:Nat)(l:Ob):Ob:=F78 e0 e1 x0 x1<|F87 e0 e1<|l
noncomputable abbrev F90 (e0 e1 x0 x1:Nat)(l:Ob):Ob:=F78 e0 e1 x0 x1<|F88 e0 e1<|l
theorem p_Join_tta_0 (x0 e0 x1 e1:Nat):FC S_Join 194 [fracA true x0 e0,fracA true x1 e1,.fn (.func 195) [] []] [.t,.t,.t,.t]=FR (.agg [boolA (sumS true x0 true x1),u64A (sumN true x0 true x1),nilS,u64A 0,nilS]) (Fo (sumC true x0 true x1,true)<|F86 e0 e1<|[]):=by kernel_rfl
theorem p_Join_tta_1 (x0 e0 x1 e1:Nat):FC S_Join 194 [fracA true x0 e0,fracA true x1 e1,.fn (.func 195) [] []] [.t,.t,.t,.f]=FR (.agg [boolA (F21 e0 e1 x0 x1),u64A (F42 e0 e1 x0 x1),nilS,u64A (F43 e0 e1 x0 x1),nilS]) (F75 e0 e1 x0 x1<|F89 e0 e1 x0 x1<|[]):=by kernel_rfl
theorem p_Join_tta_2 (x0 e0 x1 e1:Nat):FC S_Join 194 [fracA true x0 e0,fracA true x1 e1,.fn (.func 195) [] []] [.t,.t,.f,.c]=FR (.agg [boolA (F21 e0 e1 x0 x1),u64A (F42 e0 e1 x0 x1),nilS,u64A (F43 e0 e1 x0 x1),nilS]) (F75 e0 e1 x0 x1<|F90 e0 e1 x0 x1<|[]):=by kernel_rfl
theorem p_Join_tta_3 (x0 e0 x1 e1:Nat):FC S_Join 194 [fracA true x0 e0,fracA true x1 e1,.fn (.func 195) [] []] [.t,.f,.f,.c]=FR (.agg [boolA (F21 e0 e1 x0 x1),u64A (F42 e0 e1 x0 x1),nilS,u64A (F43 e0 e1 x0 x1),nilS]) (F75 e0 e1 x0 x1<|F78 e0 e1 x0 x1<|F83 e0<|[]):=by kernel_rfl
theorem p_Join_tta_4 (x0 e0 x1 e1:Nat):FC S_Join 194 [fracA true x0 e0,fracA true x1 e1,.fn (.func 195) [] []] [.f,.f,.f,.c]=FR (.agg [boolA (F21 e0 e1 x0 x1),u64A (F42 e0 e1 x0 x1),nilS,u64A (F43 e0 e1 x0 x1),nilS]) (F75 e0 e1 x0 x1<|F78 e0 e1 x0 x1<|F84 e0<|[]):=by kernel_rfl
theorem p_Join_ttb_0 (x0 e0 x1 e1:Nat):FC S_Join 194 [fracA true x0 e0,fracA true x1 e1,.fn (.func 197) [] []] [.t,.t,.t,.t]=FR (.agg [boolA (sumS true x0 (mk (notB true) x1) x1),u64A (sumN true x0 (mk (notB true) x1) x1),nilS,u64A 0,nilS]) (Fo (sumC true x0 (mk (notB true) x1) x1,true)<|F86 e0 e1<|[]):=by kernel_rfl
theorem p_Join_ttb_1 (x0 e0 x1 e1:Nat):FC S_Join 194 [fracA true x0 e0,fracA true x1 e1,.fn (.func 197) [] []] [.t,.t,.t,.f]=FR (.agg [boolA (F24 e0 e1 x0 x1),u64A (lowN (F11 e0 e1 x0 x1) (F0 e0 e1)),nilS,u64A (lowE (F11 e0 e1 x0 x1) (F0 e0 e1)),nilS]) (F66 e0 e1 x0 x1<|F89 e0 e1 x0 x1<|[]):=by kernel_rfl
theorem p_Join_ttb_2 (x0 e0 x1 e1:Nat):FC S_Join 194 [fracA true x0 e0,fracA true x1 e1,.fn (.func 197) [] []] [.t,.t,.f,.c]=FR (.agg [boolA (F24 e0 e1 x0 x1),u64A (lowN (F11 e0 e1 x0 x1) (F0 e0 e1)),nilS,u64A (lowE (F11 e0 e1 x0 x1) (F0 e0 e1)),nilS]) (F66 e0 e1 x0 x1<|F90 e0 e1 x0 x1<|[]):=by kernel_rfl
theorem p_Join_ttb_3 (x0 e0 x1 e1:Nat):FC S_Join 194 [fracA true x0 e0,fracA true x1 e1,.fn (.func 197) [] []] [.t,.f,.f,.c]=FR (.agg [boolA (F24 e0 e1 x0 x1),u64A (lowN (F11 e0 e1 x0 x1) (F0 e0 e1)),nilS,u64A (lowE (F11 e0 e1 x0 x1) (F0 e0 e1)),nilS]) (F66 e0 e1 x0 x1<|F78 e0 e1 x0 x1<|F83 e0<|[]):=by kernel_rfl
theorem p_Join_ttb_4 (x0 e0 x1 e1:Nat):FC S_Join 194 [fracA true x0 e0,fracA true x1 e1,.fn (.func 197) [] []] [.f,.f,.f,.c]=FR (.agg [boolA (F24 e0 e1 x0 x1),u64A (lowN (F11 e0 e1 x0 x1) (F0 e0 e1)),nilS,u64A (lowE (F11 e0 e1 x0 x1) (F0 e0 e1)),nilS]) (F66 e0 e1 x0 x1<|F78 e0 e1 x0 x1<|F84 e0<|[]):=by kernel_rfl
theorem p_Join_tfa_0 (x0 e0 x1 e1:Nat):FC S_Join 194 [fracA true x0 e0,fracA false x1 e1,.fn (.func 195) [] []] [.t,.t,.t,.t]=FR (.agg [boolA (sumS true x0 false x1),u64A (sumN true x0 false x1),nilS,u64A 0,nilS]) (Fo (sumC true x0 false x1,true)<|F86 e0 e1<|[]):=by kernel_rfl
theorem p_Join_tfa_1 (x0 e0 x1 e1:Nat):FC S_Join 194 [fracA true x0 e0,fracA false x1 e1,.fn (.func 195) [] []] [.t,.t,.t,.f]=FR (.agg [boolA (F22 e0 e1 x0 x1),u64A (F44 e0 e1 x0 x1),nilS,u64A (F45 e0 e1 x0 x1),nilS]) (F73 e0 e1 x0 x1<|F89 e0 e1 x0 x1<|[]):=by kernel_rfl
theorem p_Join_tfa_2 (x0 e0 x1 e1:Nat):FC S_Join 194 [fracA true x0 e0,fracA false x1 e1,.fn (.func 195) [] []] [.t,.t,.f,.c]=FR (.agg [boolA (F22 e0 e1 x0 x1),u64A (F44 e0 e1 x0 x1),nilS,u64A (F45 e0 e1 x0 x1),nilS]) (F73 e0 e1 x0 x1<|F90 e0 e1 x0 x1<|[]):=by kernel_rfl
theorem p_Join_tfa_3 (x0 e0 x1 e1:Nat):FC S_Join 194 [fracA true x0 e0,fracA false x1 e1,.fn (.func 195) [] []] [.t,.f,.f,.c]=FR (.agg [boolA (F22 e0 e1 x0 x1),u64A (F44 e0 e1 x0 x1),nilS,u64A (F45 e0 e1 x0 x1),nilS]) (F73 e0 e1 x0 x1<|F78 e0 e1 x0 x1<|F83 e0<|[]):=by kernel_rfl
theorem p_Join_tfa_4 (x0 e0 x1 e1:Nat):FC S_Join 194 [fracA true x0 e0,fracA false x1 e1,.fn (.func 195) [] []] [.f,.f,.f,.c]=FR (.agg [boolA (F22 e0 e1 x0 x1),u64A (F44 e0 e1 x0 x1),nilS,u64A (F45 e0 e1 x0 x1),nilS]) (F73 e0 e1 x0 x1<|F78 e0 e1 x0 x1<|F84 e0<|[]):=by kernel_rfl
theorem p_Join_tfb_0 (x0 e0 x1 e1:Nat):FC S_Join 194 [fracA true x0 e0,fracA false x1 e1,.fn (.func 197) [] []] [.t,.t,.t,.t]=FR (.agg [boolA (sumS true x0 (mk (notB false) x1) x1),u64A (sumN true x0 (mk (notB false) x1) x1),nilS,u64A 0,nilS]) (Fo (sumC true x0 (mk (notB false) x1) x1,true)<|F86 e0 e1<|[]):=by kernel_rfl
theorem p_Join_tfb_1 (x0 e0 x1 e1:Nat):FC S_Join 194 [fracA true x0 e0,fracA false x1 e1,.fn (.func 197) [] []] [.t,.t,.t,.f]=FR (.agg [boolA (F25 e0 e1 x0 x1),u64A (lowN (F12 e0 e1 x0 x1) (F0 e0 e1)),nilS,u64A (lowE (F12 e0 e1 x0 x1) (F0 e0 e1)),nilS]) (F64 e0 e1 x0 x1<|F89 e0 e1 x0 x1<|[]):=by kernel_rfl
theorem p_Join_tfb_2 (x0 e0 x1 e1:Nat):FC S_Join 194 [fracA true x0 e0,fracA false x1 e1,.fn (.func 197) [] []] [.t,.t,.f,.c]=FR (.agg [boolA (F25 e0 e1 x0 x1),u64A (lowN (F12 e0 e1 x0 x1) (F0 e0 e1)),nilS,u64A (lowE (F12 e0 e1 x0 x1) (F0 e0 e1)),nilS]) (F64 e0 e1 x0 x1<|F90 e0 e1 x0 x1<|[]):=by kernel_rfl
theorem p_Join_tfb_3 (x0 e0 x1 e1:Nat):FC S_Join 194 [fracA true x0 e0,fracA false x1 e1,.fn (.func 197) [] []] [.t,.f,.f,.c]=FR (.agg [boolA (F25 e0 e1 x0 x1),u64A (lowN (F12 e0 e1 x0 x1) (F0 e0 e1)),nilS,u64A (lowE (F12 e0 e1 x0 x1) (F0 e0 e1)),nilS]) (F64 e0 e1 x0 x1<|F78 e0 e1 x0 x1<|F83 e0<|[]):=by kernel_rfl
theorem p_Join_tfb_4 (x0 e0 x1 e1:Nat):FC S_Join 194 [fracA true x0 e0,fracA false x1 e1,.fn (.func 197) [] []] [.f,.f,.f,.c]=FR (.agg [boolA (F25 e0 e1 x0 x1),u64A (lowN (F12 e0 e1 x0 x1) (F0 e0 e1)),nilS,u64A (lowE (F12 e0 e1 x0 x1) (F0 e0 e1)),nilS]) (F64 e0 e1 x0 x1<|F78 e0 e1 x0 x1<|F84 e0<|[]):=by kernel_rfl
theorem p_Join_fta_0 (x0 e0 x1 e1:Nat):FC S_Join 194 [fracA false x0 e0,fracA true x1 e1,.fn (.func 195) [] []] [.t,.t,.t,.t]=FR (.agg [boolA (sumS false x0 true x1),u64A (sumN false x0 true x1),nilS,u64A 0,nilS]) (Fo (sumC false x0 true x1,true)<|F86 e0 e1<|[]):=by kernel_rfl
theorem p_Join_fta_1 (x0 e0 x1 e1:Nat):FC S_Join 194 [fracA false x0 e0,fracA true x1 e1,.fn (.func 195) [] []] [.t,.t,.t,.f]=FR (.agg [boolA (F23 e0 e1 x0 x1),u64A (F46 e0 e1 x0 x1),nilS,u64A (F47 e0 e1 x0 x1),nilS]) (F74 e0 e1 x0 x1<|F89 e0 e1 x0 x1<|[]):=by kernel_rfl
theorem p_Join_fta_2 (x0 e0 x1 e1:Nat):FC S_Join 194 [fracA false x0 e0,fracA true x1 e1,.fn (.func 195) [] []] [.t,.t,.f,.c]=FR (.agg [boolA (F23 e0 e1 x0 x1),u64A (F46 e0 e1 x0 x1),nilS,u64A (F47 e0 e1 x0 x1),nilS]) (F74 e0 e1 x0 x1<|F90 e0 e1 x0 x1<|[]):=by kernel_rfl
theorem p_Join_fta_3 (x0 e0 x1 e1:Nat):FC S_Join 194 [fracA false x0 e0,fracA true x1 e1,.fn (.func 195) [] []] [.t,.f,.f,.c]=FR (.agg [boolA (F23 e0 e1 x0 x1),u64A (F46 e0 e1 x0 x1),nilS,u64A (F47 e0 e1 x0 x1),nilS]) (F74 e0 e1 x0 x1<|F78 e0 e1 x0 x1<|F83 e0<|[]):=by kernel_rfl
theorem p_Join_fta_4 (x0 e0 x1 e1:Nat):FC S_Join 194 [fracA false x0 e0,fracA true x1 e1,.fn (.func 195) [] []] [.f,.f,.f,.c]=FR (.agg [boolA (F23 e0 e1 x0 x1),u64A (F46 e0 e1 x0 x1),nilS,u64A (F47 e0 e1 x0 x1),nilS]) (F74 e0 e1 x0 x1<|F78 e0 e1 x0 x1<|F84 e0<|[]):=by kernel_rfl
theorem p_Join_ftb_0 (x0 e0 x1 e1:Nat):FC S_Join 194 [fracA false x0 e0,fracA true x1 e1,.fn (.func 197) [] []] [.t,.t,.t,.t]=FR (.agg [boolA (sumS false x0 (mk (notB true) x1) x1),u64A (sumN false x0 (mk (notB true) x1) x1),nilS,u64A 0,nilS]) (Fo (sumC false x0 (mk (notB true) x1) x1,true)<|F86 e0 e1<|[]):=by kernel_rfl
theorem p_Join_ftb_1 (x0 e0 x1 e1:Nat):FC S_Join 194 [fracA false x0 e0,fracA true x1 e1,.fn (.func 197) [] []] [.t,.t,.t,.f]=FR (.agg [boolA (F26 e0 e1 x0 x1),u64A (lowN (F13 e0 e1 x0 x1) (F0 e0 e1)),nilS,u64A (lowE (F13 e0 e1 x0 x1) (F0 e0 e1)),nilS]) (F65 e0 e1 x0 x1<|F89 e0 e1 x0 x1<|[]):=by kernel_rfl
theorem p_Join_ftb_2 (x0 e0 x1 e1:Nat):FC S_Join 194 [fracA false x0 e0,fracA true x1 e1,.fn (.func 197) [] []] [.t,.t,.f,.c]=FR (.agg [boolA (F26 e0 e1 x0 x1),u64A (lowN (F13 e0 e1 x0 x1) (F0 e0 e1)),nilS,u64A (lowE (F13 e0 e1 x0 x1) (F0 e0 e1)),nilS]) (F65 e0 e1 x0 x1<|F90 e0 e1 x0 x1<|[]):=by kernel_rfl
theorem p_Join_ftb_3 (x0 e0 x1 e1:Nat):FC S_Join 194 [fracA false x0 e0,fracA true x1 e1,.fn (.func 197) [] []] [.t,.f,.f,.c]=FR (.agg [boolA (F26 e0 e1 x0 x1),u64A (lowN (F13 e0 e1 x0 x1) (F0 e0 e1)),nilS,u64A (lowE (F13 e0 e1 x0 x1) (F0 e0 e1)),nilS]) (F65 e0 e1 x0 x1<|F78 e0 e1 x0 x1<|F83 e0<|[]):=by kernel_rfl
theorem p_Join_ftb_4 (x0 e0 x1 e1:Nat):FC S_Join 194 [fracA false x0 e0,fracA true x1 e1,.fn (.func 197) [] []] [.f,.f,.f,.c]=FR (.agg [boolA (F26 e0 e1 x0 x1),u64A (lowN (F13 e0 e1 x0 x1) (F0 e0 e1)),nilS,u64A (lowE (F13 e0 e1 x0 x1) (F0 e0 e1)),nilS]) (F65 e0 e1 x0 x1<|F78 e0 e1 x0 x1<|F84 e0<|[]):=by kernel_rfl
theorem p_Join_ffa_0 (x0 e0 x1 e1:Nat):FC S_Join 194 [fracA false x0 e0,fracA false x1 e1,.fn (.func 195) [] []] [.t,.t,.t,.t]=FR (.agg [boolA (sumS false x0 false x1),u64A (sumN false x0 false x1),nilS,u64A 0,nilS]) (Fo (sumC false x0 false x1,true)<|F86 e0 e1<|[]):=by kernel_rfl
theorem p_Join_ffa_1 (x0 e0 x1 e1:Nat):FC S_Join 194 [fracA false x0 e0,fracA false x1 e1,.fn (.func 195) [] []] [.t,.t,.t,.f]=FR (.agg [boolA (F20 e0 e1 x0 x1),u64A (F40 e0 e1 x0 x1),nilS,u64A (F41 e0 e1 x0 x1),nilS]) (F72 e0 e1 x0 x1<|F89 e0 e1 x0 x1<|[]):=by kernel_rfl
theorem p_Join_ffa_2 (x0 e0 x1 e1:Nat):FC S_Join 194 [fracA false x0 e0,fracA false x1 e1,.fn (.func 195) [] []] [.t,.t,.f,.c]=FR (.agg [boolA (F20 e0 e1 x0 x1),u64A (F40 e0 e1 x0 x1),nilS,u64A (F41 e0 e1 x0 x1),nilS]) (F72 e0 e1 x0 x1<|F90 e0 e1 x0 x1<|[]):=by kernel_rfl
theorem p_Join_ffa_3 (x0 e0 x1 e1:Nat):FC S_Join 194 [fracA false x0 e0,fracA false x1 e1,.fn (.func 195) [] []] [.t,.f,.f,.c]=FR (.agg [boolA (F20 e0 e1 x0 x1),u64A (F40 e0 e1 x0 x1),nilS,u64A (F41 e0 e1 x0 x1),nilS]) (F72 e0 e1 x0 x1<|F78 e0 e1 x0 x1<|F83 e0<|[]):=by kernel_rfl
theorem p_Join_ffa_4 (x0 e0 x1 e1:Nat):FC S_Join 194 [fracA false x0 e0,fracA false x1 e1,.fn (.func 195) [] []] [.f,.f,.f,.c]=FR (.agg [boolA (F20 e0 e1 x0 x1),u64A (F40 e0 e1 x0 x1),nilS,u64A (F41 e0 e1 x0 x1),nilS]) (F72 e0 e1 x0 x1<|F78 e0 e1 x0 x1<|F84 e0<|[]):=by kernel_rfl
theorem p_Join_ffb_0 (x0 e0 x1 e1:Nat):FC S_Join 194 [fracA false x0 e0,fracA false x1 e1,.fn (.func 197) [] []] [.t,.t,.t,.t]=FR (.agg [boolA (sumS false x0 (mk (notB false) x1) x1),u64A (sumN false x0 (mk (notB false) x1) x1),nilS,u64A 0,nilS]) (Fo (sumC false x0 (mk (notB false) x1) x1,true)<|F86 e0 e1<|[]):=by kernel_rfl
theorem p_Join_ffb_1 (x0 e0 x1 e1:Nat):FC S_Join 194 [fracA false x0 e0,fracA false x1 e1,.fn (.func 197) [] []] [.t,.t,.t,.f]=FR (.agg [boolA (F27 e0 e1 x0 x1),u64A (lowN (F14 e0 e1 x0 x1) (F0 e0 e1)),nilS,u64A (lowE (F14 e0 e1 x0 x1) (F0 e0 e1)),nilS]) (F63 e0 e1 x0 x1<|F89 e0 e1 x0 x1<|[]):=by kernel_rfl
theorem p_Join_ffb_2 (x0 e0 x1 e1:Nat):FC S_Join 194 [fracA false x0 e0,fracA false x1 e1,.fn (.func 197) [] []] [.t,.t,.f,.c]=FR (.agg [boolA (F27 e0 e1 x0 x1),u64A (lowN (F14 e0 e1 x0 x1) (F0 e0 e1)),nilS,u64A (lowE (F14 e0 e1 x0 x1) (F0 e0 e1)),nilS]) (F63 e0 e1 x0 x1<|F90 e0 e1 x0 x1<|[]):=by kernel_rfl
theorem p_Join_ffb_3 (x0 e0 x1 e1:Nat):FC S_Join 194 [fracA false x0 e0,fracA false x1 e1,.fn (.func 197) [] []] [.t,.f,.f,.c]=FR (.agg [boolA (F27 e0 e1 x0 x1),u64A (lowN (F14 e0 e1 x0 x1) (F0 e0 e1)),nilS,u64A (lowE (F14 e0 e1 x0 x1) (F0 e0 e1)),nilS]) (F63 e0 e1 x0 x1<|F78 e0 e1 x0 x1<|F83 e0<|[]):=by kernel_rfl
theorem p_Join_ffb_4 (x0 e0 x1 e1:Nat):FC S_Join 194 [fracA false x0 e0,fracA false x1 e1,.fn (.func 197) [] []] [.f,.f,.f,.c]=FR (.agg [boolA (F27 e0 e1 x0 x1),u64A (lowN (F14 e0 e1 x0 x1) (F0 e0 e1)),nilS,u64A (lowE (F14 e0 e1 x0 x1) (F0 e0 e1)),nilS]) (F63 e0 e1 x0 x1<|F78 e0 e1 x0 x1<|F84 e0<|[]):=by kernel_rfl
theorem ok_Join : Ok Tryz.prog E0 194:=ok_sym (S:=fun g => memN g [196,130,128,27,34,38,44,96,37,197,195,42,129,179,41,39,35,33,36,215,95,91,32,85,198,99,97,155]) mixed al_Low rfl fun l v h => by
  rw [e_Join] at h
  replace h:=arg3_some h; obtain ⟨a,b,c,rfl,h⟩:=h
  replace h:=fracP_some h; obtain ⟨s0,x0,e0,rfl,h⟩:=h
  replace h:=fracP_some h; obtain ⟨s1,x1,e1,rfl,h⟩:=h
  replace h:=fnP_some h; obtain ⟨g,p,q,rfl,h⟩:=h
  replace h:=endL_some h; obtain ⟨rfl,h⟩:=h
  replace h:=endL_some h; obtain ⟨rfl,h⟩:=h
  have hg : (g = 195 ∧ joinQ sumN sumS sumC s0 x0 e0 s1 x1 e1 = some (v,true)) ∨ (g = 197 ∧ joinQ subN subS subC s0 x0 e0 s1 x1 e1 = some (v,true)):=by
    cases h1 : Nat.beq g 195 with
    | true => rw [h1,ifB_true] at h; exact .inl ⟨beq_true.1 h1,h⟩
    | false =>
      rw [h1,ifB_false] at h
      cases h2 : Nat.beq g 197 with
      | true => rw [h2,ifB_true] at h; exact .inr ⟨beq_true.1 h2,h⟩
      | false => rw [h2] at h; cases h
  clear h
  rcases hg with ⟨rfl,h⟩ | ⟨rfl,h⟩
  · obtain ⟨rfl,hc⟩:=q_some h
    cases s0 <;> cases s1 <;> refine ⟨rfl,rfl,?_⟩
    · by_cases h0 : e0 = 0
      · by_cases h1 : e1 = 0
        · have he : andB (Nat.beq e0 0) (Nat.beq e1 0) = true:=andB_true.2 ⟨Abs.beq_true.2 h0,Abs.beq_true.2 h1⟩
          rw [he] at hc ⊢
          simp only [NQ,mulC,lowC,not_false_eq_true,and_true,true_and,and_self,reduceCtorEq,subN,subS,subC,ne_eq] at hc
          exact leaf_ok (p_Join_ffa_0 x0 e0 x1 e1) rfl (by (repeat' apply met_cons) <;> first | exact met_nil | with_reducible rfl | assumption | ((try simp only [NQ,mulC,lowC,not_false_eq_true,and_true,true_and,and_self,reduceCtorEq,subN,subS,subC,ne_eq]) <;> first | omega | (simp only [hc]; done)))
        · have he : andB (Nat.beq e0 0) (Nat.beq e1 0) = false:=by rw [beq_f.2 h1]; cases Nat.beq e0 0 <;> rfl
          rw [he] at hc ⊢
          simp only [NQ,mulC,lowC,not_false_eq_true,and_true,true_and,and_self,reduceCtorEq,subN,subS,subC,ne_eq] at hc
          exact leaf_ok (p_Join_ffa_1 x0 e0 x1 e1) rfl (by (repeat' apply met_cons) <;> first | exact met_nil | with_reducible rfl | assumption | ((try simp only [NQ,mulC,lowC,not_false_eq_true,and_true,true_and,and_self,reduceCtorEq,subN,subS,subC,ne_eq]) <;> first | omega | (simp only [hc]; done)))
      · have he : andB (Nat.beq e0 0) (Nat.beq e1 0) = false:=by rw [beq_f.2 h0]; rfl
        rw [he] at hc ⊢
        simp only [NQ,mulC,lowC,not_false_eq_true,and_true,true_and,and_self,reduceCtorEq,subN,subS,subC,ne_eq] at hc
        exact leaf_ok (p_Join_ffa_4 x0 e0 x1 e1) rfl (by (repeat' apply met_cons) <;> first | exact met_nil | with_reducible rfl | assumption | ((try simp only [NQ,mulC,lowC,not_false_eq_true,and_true,true_and,and_self,reduceCtorEq,subN,subS,subC,ne_eq]) <;> first | omega | (simp only [hc]; done)))
    · by_cases h0 : e0 = 0
      · by_cases h1 : e1 = 0
        · have he : andB (Nat.beq e0 0) (Nat.beq e1 0) = true:=andB_true.2 ⟨Abs.beq_true.2 h0,Abs.beq_true.2 h1⟩
          rw [he] at hc ⊢
          simp only [NQ,mulC,lowC,not_false_eq_true,and_true,true_and,and_self,reduceCtorEq,subN,subS,subC,ne_eq] at hc
          exact leaf_ok (p_Join_fta_0 x0 e0 x1 e1) rfl (by (repeat' apply met_cons) <;> first | exact met_nil | with_reducible rfl | assumption | ((try simp only [NQ,mulC,lowC,not_false_eq_true,and_true,true_and,and_self,reduceCtorEq,subN,subS,subC,ne_eq]) <;> first | omega | (simp only [hc]; done)))
        · have he : andB (Nat.beq e0 0) (Nat.beq e1 0) = false:=by rw [beq_f.2 h1]; cases Nat.beq e0 0 <;> rfl
          rw [he] at hc ⊢
          simp only [NQ,mulC,lowC,not_false_eq_true,and_true,true_and,and_self,reduceCtorEq,subN,subS,subC,ne_eq] at hc
          exact leaf_ok (p_Join_fta_1 x0 e0 x1 e1) rfl (by (repeat' apply met_cons) <;> first | exact met_nil | with_reducible rfl | assumption | ((try simp only [NQ,mulC,lowC,not_false_eq_true,and_true,true_and,and_self,reduceCtorEq,subN,subS,subC,ne_eq]) <;> first | omega | (simp only [hc]; done)))
      · have he : andB (Nat.beq e0 0) (Nat.beq e1 0) = false:=by rw [beq_f.2 h0]; rfl
        rw [he] at hc ⊢
        simp only [NQ,mulC,lowC,not_false_eq_true,and_true,true_and,and_self,reduceCtorEq,subN,subS,subC,ne_eq] at hc
        exact leaf_ok (p_Join_fta_4 x0 e0 x1 e1) rfl (by (repeat' apply met_cons) <;> first | exact met_nil | with_reducible rfl | assumption | ((try simp only [NQ,mulC,lowC,not_false_eq_true,and_true,true_and,and_self,reduceCtorEq,subN,subS,subC,ne_eq]) <;> first | omega | (simp only [hc]; done)))
    · by_cases h0 : e0 = 0
      · by_cases h1 : e1 = 0
        · have he : andB (Nat.beq e0 0) (Nat.beq e1 0) = true:=andB_true.2 ⟨Abs.beq_true.2 h0,Abs.beq_true.2 h1⟩
          rw [he] at hc ⊢
          simp only [NQ,mulC,lowC,not_false_eq_true,and_true,true_and,and_self,reduceCtorEq,subN,subS,subC,ne_eq] at hc
          exact leaf_ok (p_Join_tfa_0 x0 e0 x1 e1) rfl (by (repeat' apply met_cons) <;> first | exact met_nil | with_reducible rfl | assumption | ((try simp only [NQ,mulC,lowC,not_false_eq_true,and_true,true_and,and_self,reduceCtorEq,subN,subS,subC,ne_eq]) <;> first | omega | (simp only [hc]; done)))
        · have he : andB (Nat.beq e0 0) (Nat.beq e1 0) = false:=by rw [beq_f.2 h1]; cases Nat.beq e0 0 <;> rfl
          rw [he] at hc ⊢
          simp only [NQ,mulC,lowC,not_false_eq_true,and_true,true_and,and_self,reduceCtorEq,subN,subS,subC,ne_eq] at hc
          exact leaf_ok (p_Join_tfa_1 x0 e0 x1 e1) rfl (by (repeat' apply met_cons) <;> first | exact met_nil | with_reducible rfl | assumption | ((try simp only [NQ,mulC,lowC,not_false_eq_true,and_true,true_and,and_self,reduceCtorEq,subN,subS,subC,ne_eq]) <;> first | omega | (simp only [hc]; done)))
      · have he : andB (Nat.beq e0 0) (Nat.beq e1 0) = false:=by rw [beq_f.2 h0]; rfl
        rw [he] at hc ⊢
        simp only [NQ,mulC,lowC,not_false_eq_true,and_true,true_and,and_self,reduceCtorEq,subN,subS,subC,ne_eq] at hc
        exact leaf_ok (p_Join_tfa_4 x0 e0 x1 e1) rfl (by (repeat' apply met_cons) <;> first | exact met_nil | with_reducible rfl | assumption | ((try simp only [NQ,mulC,lowC,not_false_eq_true,and_true,true_and,and_self,reduceCtorEq,subN,subS,subC,ne_eq]) <;> first | omega | (simp only [hc]; done)))
    · by_cases h0 : e0 = 0
      · by_cases h1 : e1 = 0
        · have he : andB (Nat.beq e0 0) (Nat.beq e1 0) = true:=andB_true.2 ⟨Abs.beq_true.2 h0,Abs.beq_true.2 h1⟩
          rw [he] at hc ⊢
          simp only [NQ,mulC,lowC,not_false_eq_true,and_true,true_and,and_self,reduceCtorEq,subN,subS,subC,ne_eq] at hc
          exact leaf_ok (p_Join_tta_0 x0 e0 x1 e1) rfl (by (repeat' apply met_cons) <;> first | exact met_nil | with_reducible rfl | assumption | ((try simp only [NQ,mulC,lowC,not_false_eq_true,and_true,true_and,and_self,reduceCtorEq,subN,subS,subC,ne_eq]) <;> first | omega | (simp only [hc]; done)))
        · have he : andB (Nat.beq e0 0) (Nat.beq e1 0) = false:=by rw [beq_f.2 h1]; cases Nat.beq e0 0 <;> rfl
          rw [he] at hc ⊢
          simp only [NQ,mulC,lowC,not_false_eq_true,and_true,true_and,and_self,reduceCtorEq,subN,subS,subC,ne_eq] at hc
          exact leaf_ok (p_Join_tta_1 x0 e0 x1 e1) rfl (by (repeat' apply met_cons) <;> first | exact met_nil | with_reducible rfl | assumption | ((try simp only [NQ,mulC,lowC,not_false_eq_true,and_true,true_and,and_self,reduceCtorEq,subN,subS,subC,ne_eq]) <;> first | omega | (simp only [hc]; done)))
      · have he : andB (Nat.beq e0 0) (Nat.beq e1 0) = false:=by rw [beq_f.2 h0]; rfl
        rw [he] at hc ⊢
        simp only [NQ,mulC,lowC,not_false_eq_true,and_true,true_and,and_self,reduceCtorEq,subN,subS,subC,ne_eq] at hc
        exact leaf_ok (p_Join_tta_4 x0 e0 x1 e1) rfl (by (repeat' apply met_cons) <;> first | exact met_nil | with_reducible rfl | assumption | ((try simp only [NQ,mulC,lowC,not_false_eq_true,and_true,true_and,and_self,reduceCtorEq,subN,subS,subC,ne_eq]) <;> first | omega | (simp only [hc]; done)))
  · obtain ⟨rfl,hc⟩:=q_some h
    cases s0 <;> cases s1 <;> refine ⟨rfl,rfl,?_⟩
    · by_cases h0 : e0 = 0
      · by_cases h1 : e1 = 0
        · have he : andB (Nat.beq e0 0) (Nat.beq e1 0) = true:=andB_true.2 ⟨Abs.beq_true.2 h0,Abs.beq_true.2 h1⟩
          rw [he] at hc ⊢
          simp only [NQ,mulC,lowC,not_false_eq_true,and_true,true_and,and_self,reduceCtorEq,subN,subS,subC,ne_eq] at hc
          exact leaf_ok (p_Join_ffb_0 x0 e0 x1 e1) rfl (by (repeat' apply met_cons) <;> first | exact met_nil | with_reducible rfl | assumption | ((try simp only [NQ,mulC,lowC,not_false_eq_true,and_true,true_and,and_self,reduceCtorEq,subN,subS,subC,ne_eq]) <;> first | omega | (simp only [hc]; done)))
        · have he : andB (Nat.beq e0 0) (Nat.beq e1 0) = false:=by rw [beq_f.2 h1]; cases Nat.beq e0 0 <;> rfl
          rw [he] at hc ⊢
          simp only [NQ,mulC,lowC,not_false_eq_true,and_true,true_and,and_self,reduceCtorEq,subN,subS,subC,ne_eq] at hc
          exact leaf_ok (p_Join_ffb_1 x0 e0 x1 e1) rfl (by (repeat' apply met_cons) <;> first | exact met_nil | with_reducible rfl | assumption | ((try simp only [NQ,mulC,lowC,not_false_eq_true,and_true,true_and,and_self,reduceCtorEq,subN,subS,subC,ne_eq]) <;> first | omega | (simp only [hc]; done)))
      · have he : andB (Nat.beq e0 0) (Nat.beq e1 0) = false:=by rw [beq_f.2 h0]; rfl
        rw [he] at hc ⊢
        simp only [NQ,mulC,lowC,not_false_eq_true,and_true,true_and,and_self,reduceCtorEq,subN,subS,subC,ne_eq] at hc
        exact leaf_ok (p_Join_ffb_4 x0 e0 x1 e1) rfl (by (repeat' apply met_cons) <;> first | exact met_nil | with_reducible rfl | assumption | ((try simp only [NQ,mulC,lowC,not_false_eq_true,and_true,true_and,and_self,reduceCtorEq,subN,subS,subC,ne_eq]) <;> first | omega | (simp only [hc]; done)))
    · by_cases h0 : e0 = 0
      · by_cases h1 : e1 = 0
        · have he : andB (Nat.beq e0 0) (Nat.beq e1 0) = true:=andB_true.2 ⟨Abs.beq_true.2 h0,Abs.beq_true.2 h1⟩
          rw [he] at hc ⊢
          simp only [NQ,mulC,lowC,not_false_eq_true,and_true,true_and,and_self,reduceCtorEq,subN,subS,subC,ne_eq] at hc
          exact leaf_ok (p_Join_ftb_0 x0 e0 x1 e1) rfl (by (repeat' apply met_cons) <;> first | exact met_nil | with_reducible rfl | assumption | ((try simp only [NQ,mulC,lowC,not_false_eq_true,and_true,true_and,and_self,reduceCtorEq,subN,subS,subC,ne_eq]) <;> first | omega | (simp only [hc]; done)))
        · have he : andB (Nat.beq e0 0) (Nat.beq e1 0) = false:=by rw [beq_f.2 h1]; cases Nat.beq e0 0 <;> rfl
          rw [he] at hc ⊢
          simp only [NQ,mulC,lowC,not_false_eq_true,and_true,true_and,and_self,reduceCtorEq,subN,subS,subC,ne_eq] at hc
          exact leaf_ok (p_Join_ftb_1 x0 e0 x1 e1) rfl (by (repeat' apply met_cons) <;> first | exact met_nil | with_reducible rfl | assumption | ((try simp only [NQ,mulC,lowC,not_false_eq_true,and_true,true_and,and_self,reduceCtorEq,subN,subS,subC,ne_eq]) <;> first | omega | (simp only [hc]; done)))
      · have he : andB (Nat.beq e0 0) (Nat.beq e1 0) = false:=by rw [beq_f.2 h0]; rfl
        rw [he] at hc ⊢
        simp only [NQ,mulC,lowC,not_false_eq_true,and_true,true_and,and_self,reduceCtorEq,subN,subS,subC,ne_eq] at hc
        exact leaf_ok (p_Join_ftb_4 x0 e0 x1 e1) rfl (by (repeat' apply met_cons) <;> first | exact met_nil | with_reducible rfl | assumption | ((try simp only [NQ,mulC,lowC,not_false_eq_true,and_true,true_and,and_self,reduceCtorEq,subN,subS,subC,ne_eq]) <;> first | omega | (simp only [hc]; done)))
    · by_cases h0 : e0 = 0
      · by_cases h1 : e1 = 0
        · have he : andB (Nat.beq e0 0) (Nat.beq e1 0) = true:=andB_true.2 ⟨Abs.beq_true.2 h0,Abs.beq_true.2 h1⟩
          rw [he] at hc ⊢
          simp only [NQ,mulC,lowC,not_false_eq_true,and_true,true_and,and_self,reduceCtorEq,subN,subS,subC,ne_eq] at hc
          exact leaf_ok (p_Join_tfb_0 x0 e0 x1 e1) rfl (by (repeat' apply met_cons) <;> first | exact met_nil | with_reducible rfl | assumption | ((try simp only [NQ,mulC,lowC,not_false_eq_true,and_true,true_and,and_self,reduceCtorEq,subN,subS,subC,ne_eq]) <;> first | omega | (simp only [hc]; done)))
        · have he : andB (Nat.beq e0 0) (Nat.beq e1 0) = false:=by rw [beq_f.2 h1]; cases Nat.beq e0 0 <;> rfl
          rw [he] at hc ⊢
          simp only [NQ,mulC,lowC,not_false_eq_true,and_true,true_and,and_self,reduceCtorEq,subN,subS,subC,ne_eq] at hc
          exact leaf_ok (p_Join_tfb_1 x0 e0 x1 e1) rfl (by (repeat' apply met_cons) <;> first | exact met_nil | with_reducible rfl | assumption | ((try simp only [NQ,mulC,lowC,not_false_eq_true,and_true,true_and,and_self,reduceCtorEq,subN,subS,subC,ne_eq]) <;> first | omega | (simp only [hc]; done)))
      · have he : andB (Nat.beq e0 0) (Nat.beq e1 0) = false:=by rw [beq_f.2 h0]; rfl
        rw [he] at hc ⊢
        simp only [NQ,mulC,lowC,not_false_eq_true,and_true,true_and,and_self,reduceCtorEq,subN,subS,subC,ne_eq] at hc
        exact leaf_ok (p_Join_tfb_4 x0 e0 x1 e1) rfl (by (repeat' apply met_cons) <;> first | exact met_nil | with_reducible rfl | assumption | ((try simp only [NQ,mulC,lowC,not_false_eq_true,and_true,true_and,and_self,reduceCtorEq,subN,subS,subC,ne_eq]) <;> first | omega | (simp only [hc]; done)))
    · by_cases h0 : e0 = 0
      · by_cases h1 : e1 = 0
        · have he : andB (Nat.beq e0 0) (Nat.beq e1 0) = true:=andB_true.2 ⟨Abs.beq_true.2 h0,Abs.beq_true.2 h1⟩
          rw [he] at hc ⊢
          simp only [NQ,mulC,lowC,not_false_eq_true,and_true,true_and,and_self,reduceCtorEq,subN,subS,subC,ne_eq] at hc
          exact leaf_ok (p_Join_ttb_0 x0 e0 x1 e1) rfl (by (repeat' apply met_cons) <;> first | exact met_nil | with_reducible rfl | assumption | ((try simp only [NQ,mulC,lowC,not_false_eq_true,and_true,true_and,and_self,reduceCtorEq,subN,subS,subC,ne_eq]) <;> first | omega | (simp only [hc]; done)))
        · have he : andB (Nat.beq e0 0) (Nat.beq e1 0) = false:=by rw [beq_f.2 h1]; cases Nat.beq e0 0 <;> rfl
          rw [he] at hc ⊢
          simp only [NQ,mulC,lowC,not_false_eq_true,and_true,true_and,and_self,reduceCtorEq,subN,subS,subC,ne_eq] at hc
          exact leaf_ok (p_Join_ttb_1 x0 e0 x1 e1) rfl (by (repeat' apply met_cons) <;> first | exact met_nil | with_reducible rfl | assumption | ((try simp only [NQ,mulC,lowC,not_false_eq_true,and_true,true_and,and_self,reduceCtorEq,subN,subS,subC,ne_eq]) <;> first | omega | (simp only [hc]; done)))
      · have he : andB (Nat.beq e0 0) (Nat.beq e1 0) = false:=by rw [beq_f.2 h0]; rfl
        rw [he] at hc ⊢
        simp only [NQ,mulC,lowC,not_false_eq_true,and_true,true_and,and_self,reduceCtorEq,subN,subS,subC,ne_eq] at hc
        exact leaf_ok (p_Join_ttb_4 x0 e0 x1 e1) rfl (by (repeat' apply met_cons) <;> first | exact met_nil | with_reducible rfl | assumption | ((try simp only [NQ,mulC,lowC,not_false_eq_true,and_true,true_and,and_self,reduceCtorEq,subN,subS,subC,ne_eq]) <;> first | omega | (simp only [hc]; done)))
theorem al_Join : ∀ g,memN g [194,196,130,128,27,34,38,44,96,37,197,195,42,129,179,41,39,35,33,36,215,95,91,32,85,198,99,97,155] = true → Ok Tryz.prog E0 g:=mem_step al_Low ok_Join
noncomputable def S_FAdd : Es:=only (fun g => memN g [194,196,130,128,27,34,38,44,96,37,197,195,42,129,179,41,39,35,33,36,215,95,91,32,85,198,99,97,155]) E0
theorem e_FAdd (l:List AV) : E0 149 l = eFAdd l:=by kernel_rfl
theorem p_FAdd_tt_0 (x0 e0 x1 e1:Nat):FC S_FAdd 149 [fracA true x0 e0,fracA true x1 e1] []=FR (.agg [boolA (ifB (F19 e0 e1) (sumS true x0 true x1) (F21 e0 e1 x0 x1)),u64A (ifB (F19 e0 e1) (sumN true x0 true x1) (F42 e0 e1 x0 x1)),nilS,u64A (ifB (F19 e0 e1) 0 (F43 e0 e1 x0 x1)),nilS]) (Fo (andB (small e0) (andB (small e1) (ifB (andB (e0.beq 0) (e1.beq 0)) (sumC true x0 true x1) (andB (small (e0.add 1)) (andB (small (e1.add 1)) (andB (mulC x0 (e1.add 1)) (andB (mulC x1 (e0.add 1)) (andB (sumC (mk true (x0.mul (e1.add 1))) (x0.mul (e1.add 1)) (mk true (x1.mul (e0.add 1))) (x1.mul (e0.add 1))) (andB (mulC (e0.add 1) (e1.add 1)) (lowC (sumN (mk true (x0.mul (e1.add 1))) (x0.mul (e1.add 1)) (mk true (x1.mul (e0.add 1))) (x1.mul (e0.add 1))) ((e0.add 1).mul (e1.add 1))))))))))),true)<|[]):=by kernel_rfl
theorem p_FAdd_tf_0 (x0 e0 x1 e1:Nat):FC S_FAdd 149 [fracA true x0 e0,fracA false x1 e1] []=FR (.agg [boolA (ifB (F19 e0 e1) (sumS true x0 false x1) (F22 e0 e1 x0 x1)),u64A (ifB (F19 e0 e1) (sumN true x0 false x1) (F44 e0 e1 x0 x1)),nilS,u64A (ifB (F19 e0 e1) 0 (F45 e0 e1 x0 x1)),nilS]) (Fo (andB (small e0) (andB (small e1) (ifB (andB (e0.beq 0) (e1.beq 0)) (sumC true x0 false x1) (andB (small (e0.add 1)) (andB (small (e1.add 1)) (andB (mulC x0 (e1.add 1)) (andB (mulC x1 (e0.add 1)) (andB (sumC (mk true (x0.mul (e1.add 1))) (x0.mul (e1.add 1)) (mk false (x1.mul (e0.add 1))) (x1.mul (e0.add 1))) (andB (mulC (e0.add 1) (e1.add 1)) (lowC (sumN (mk true (x0.mul (e1.add 1))) (x0.mul (e1.add 1)) (mk false (x1.mul (e0.add 1))) (x1.mul (e0.add 1))) ((e0.add 1).mul (e1.add 1))))))))))),true)<|[]):=by kernel_rfl
theorem p_FAdd_ft_0 (x0 e0 x1 e1:Nat):FC S_FAdd 149 [fracA false x0 e0,fracA true x1 e1] []=FR (.agg [boolA (ifB (F19 e0 e1) (sumS false x0 true x1) (F23 e0 e1 x0 x1)),u64A (ifB (F19 e0 e1) (sumN false x0 true x1) (F46 e0 e1 x0 x1)),nilS,u64A (ifB (F19 e0 e1) 0 (F47 e0 e1 x0 x1)),nilS]) (Fo (andB (small e0) (andB (small e1) (ifB (andB (e0.beq 0) (e1.beq 0)) (sumC false x0 true x1) (andB (small (e0.add 1)) (andB (small (e1.add 1)) (andB (mulC x0 (e1.add 1)) (andB (mulC x1 (e0.add 1)) (andB (sumC (mk false (x0.mul (e1.add 1))) (x0.mul (e1.add 1)) (mk true (x1.mul (e0.add 1))) (x1.mul (e0.add 1))) (andB (mulC (e0.add 1) (e1.add 1)) (lowC (sumN (mk false (x0.mul (e1.add 1))) (x0.mul (e1.add 1)) (mk true (x1.mul (e0.add 1))) (x1.mul (e0.add 1))) ((e0.add 1).mul (e1.add 1))))))))))),true)<|[]):=by kernel_rfl
theorem p_FAdd_ff_0 (x0 e0 x1 e1:Nat):FC S_FAdd 149 [fracA false x0 e0,fracA false x1 e1] []=FR (.agg [boolA (ifB (F19 e0 e1) (sumS false x0 false x1) (F20 e0 e1 x0 x1)),u64A (ifB (F19 e0 e1) (sumN false x0 false x1) (F40 e0 e1 x0 x1)),nilS,u64A (ifB (F19 e0 e1) 0 (F41 e0 e1 x0 x1)),nilS]) (Fo (andB (small e0) (andB (small e1) (ifB (andB (e0.beq 0) (e1.beq 0)) (sumC false x0 false x1) (andB (small (e0.add 1)) (andB (small (e1.add 1)) (andB (mulC x0 (e1.add 1)) (andB (mulC x1 (e0.add 1)) (andB (sumC (mk false (x0.mul (e1.add 1))) (x0.mul (e1.add 1)) (mk false (x1.mul (e0.add 1))) (x1.mul (e0.add 1))) (andB (mulC (e0.add 1) (e1.add 1)) (lowC (sumN (mk false (x0.mul (e1.add 1))) (x0.mul (e1.add 1)) (mk false (x1.mul (e0.add 1))) (x1.mul (e0.add 1))) ((e0.add 1).mul (e1.add 1))))))))))),true)<|[]):=by kernel_rfl
theorem ok_FAdd : Ok Tryz.prog E0 149:=ok_sym (S:=fun g => memN g [194,196,130,128,27,34,38,44,96,37,197,195,42,129,179,41,39,35,33,36,215,95,91,32,85,198,99,97,155]) mixed al_Join rfl fun l v h => by
  rw [e_FAdd] at h
  replace h:=arg2_some h; obtain ⟨a,b,rfl,h⟩:=h
  replace h:=fracP_some h; obtain ⟨s0,x0,e0,rfl,h⟩:=h
  replace h:=fracP_some h; obtain ⟨s1,x1,e1,rfl,h⟩:=h
  obtain ⟨rfl,hc⟩:=q_some h
  cases s0 <;> cases s1 <;> refine ⟨rfl,rfl,?_⟩
  · exact leaf_ok (p_FAdd_ff_0 x0 e0 x1 e1) rfl (by (repeat' apply met_cons) <;> first | exact met_nil | with_reducible rfl | assumption | ((try simp only [NQ,mulC,lowC,not_false_eq_true,and_true,true_and,and_self,reduceCtorEq,subN,subS,subC,ne_eq]) <;> first | omega | (simp only [hc]; done)))
  · exact leaf_ok (p_FAdd_ft_0 x0 e0 x1 e1) rfl (by (repeat' apply met_cons) <;> first | exact met_nil | with_reducible rfl | assumption | ((try simp only [NQ,mulC,lowC,not_false_eq_true,and_true,true_and,and_self,reduceCtorEq,subN,subS,subC,ne_eq]) <;> first | omega | (simp only [hc]; done)))
  · exact leaf_ok (p_FAdd_tf_0 x0 e0 x1 e1) rfl (by (repeat' apply met_cons) <;> first | exact met_nil | with_reducible rfl | assumption | ((try simp only [NQ,mulC,lowC,not_false_eq_true,and_true,true_and,and_self,reduceCtorEq,subN,subS,subC,ne_eq]) <;> first | omega | (simp only [hc]; done)))
  · exact leaf_ok (p_FAdd_tt_0 x0 e0 x1 e1) rfl (by (repeat' apply met_cons) <;> first | exact met_nil | with_reducible rfl | assumption | ((try simp only [NQ,mulC,lowC,not_false_eq_true,and_true,true_and,and_self,reduceCtorEq,subN,subS,subC,ne_eq]) <;> first | omega | (simp only [hc]; done)))
theorem al_FAdd : ∀ g,memN g [149,194,196,130,128,27,34,38,44,96,37,197,195,42,129,179,41,39,35,33,36,215,95,91,32,85,198,99,97,155] = true → Ok Tryz.prog E0 g:=mem_step al_Join ok_FAdd
noncomputable def S_FSub : Es:=only (fun g => memN g [149,194,196,130,128,27,34,38,44,96,37,197,195,42,129,179,41,39,35,33,36,215,95,91,32,85,198,99,97,155]) E0
theorem e_FSub (l:List AV) : E0 153 l = eFSub l:=by kernel_rfl
theorem p_FSub_tt_0 (x0 e0 x1 e1:Nat):FC S_FSub 153 [fracA true x0 e0,fracA true x1 e1] []=FR (.agg [boolA (ifB (F19 e0 e1) (subS true x0 true x1) (lowS (subS (F4 e1 x0) (x0.mul (e1.add 1)) (F2 e0 x1) (x1.mul (e0.add 1))) (F34 e0 e1 x0 x1) (F0 e0 e1))),u64A (ifB (F19 e0 e1) (subN true x0 true x1) (lowN (F34 e0 e1 x0 x1) (F0 e0 e1))),nilS,u64A (ifB (F19 e0 e1) 0 (lowE (F34 e0 e1 x0 x1) (F0 e0 e1))),nilS]) (Fo (andB (small e0) (andB (small e1) (ifB (andB (e0.beq 0) (e1.beq 0)) (subC true x0 true x1) (andB (small (e0.add 1)) (andB (small (e1.add 1)) (andB (mulC x0 (e1.add 1)) (andB (mulC x1 (e0.add 1)) (andB (subC (mk true (x0.mul (e1.add 1))) (x0.mul (e1.add 1)) (mk true (x1.mul (e0.add 1))) (x1.mul (e0.add 1))) (andB (mulC (e0.add 1) (e1.add 1)) (lowC (subN (mk true (x0.mul (e1.add 1))) (x0.mul (e1.add 1)) (mk true (x1.mul (e0.add 1))) (x1.mul (e0.add 1))) ((e0.add 1).mul (e1.add 1))))))))))),true)<|[]):=by kernel_rfl
theorem p_FSub_tf_0 (x0 e0 x1 e1:Nat):FC S_FSub 153 [fracA true x0 e0,fracA false x1 e1] []=FR (.agg [boolA (ifB (F19 e0 e1) (subS true x0 false x1) (lowS (subS (F4 e1 x0) (x0.mul (e1.add 1)) (F1 e0 x1) (x1.mul (e0.add 1))) (F35 e0 e1 x0 x1) (F0 e0 e1))),u64A (ifB (F19 e0 e1) (subN true x0 false x1) (lowN (F35 e0 e1 x0 x1) (F0 e0 e1))),nilS,u64A (ifB (F19 e0 e1) 0 (lowE (F35 e0 e1 x0 x1) (F0 e0 e1))),nilS]) (Fo (andB (small e0) (andB (small e1) (ifB (andB (e0.beq 0) (e1.beq 0)) (subC true x0 false x1) (andB (small (e0.add 1)) (andB (small (e1.add 1)) (andB (mulC x0 (e1.add 1)) (andB (mulC x1 (e0.add 1)) (andB (subC (mk true (x0.mul (e1.add 1))) (x0.mul (e1.add 1)) (mk false (x1.mul (e0.add 1))) (x1.mul (e0.add 1))) (andB (mulC (e0.add 1) (e1.add 1)) (lowC (subN (mk true (x0.mul (e1.add 1))) (x0.mul (e1.add 1)) (mk false (x1.mul (e0.add 1))) (x1.mul (e0.add 1))) ((e0.add 1).mul (e1.add 1))))))))))),true)<|[]):=by kernel_rfl
theorem p_FSub_ft_0 (x0 e0 x1 e1:Nat):FC S_FSub 153 [fracA false x0 e0,fracA true x1 e1] []=FR (.agg [boolA (ifB (F19 e0 e1) (subS false x0 true x1) (lowS (subS (F3 e1 x0) (x0.mul (e1.add 1)) (F2 e0 x1) (x1.mul (e0.add 1))) (F36 e0 e1 x0 x1) (F0 e0 e1))),u64A (ifB (F19 e0 e1) (subN false x0 true x1) (lowN (F36 e0 e1 x0 x1) (F0 e0 e1))),nilS,u64A (ifB (F19 e0 e1) 0 (lowE (F36 e0 e1 x0 x1) (F0 e0 e1))),nilS]) (Fo (andB (small e0) (andB (small e1) (ifB (andB (e0.beq 0) (e1.beq 0)) (subC false x0 true x1) (andB (small (e0.add 1)) (andB (small (e1.add 1)) (andB (mulC x0 (e1.add 1)) (andB (mulC x1 (e0.add 1)) (andB (subC (mk false (x0.mul (e1.add 1))) (x0.mul (e1.add 1)) (mk true (x1.mul (e0.add 1))) (x1.mul (e0.add 1))) (andB (mulC (e0.add 1) (e1.add 1)) (lowC (subN (mk false (x0.mul (e1.add 1))) (x0.mul (e1.add 1)) (mk true (x1.mul (e0.add 1))) (x1.mul (e0.add 1))) ((e0.add 1).mul (e1.add 1))))))))))),true)<|[]):=by kernel_rfl
theorem p_FSub_ff_0 (x0 e0 x1 e1:Nat):FC S_FSub 153 [fracA false x0 e0,fracA false x1 e1] []=FR (.agg [boolA (ifB (F19 e0 e1) (subS false x0 false x1) (lowS (subS (F3 e1 x0) (x0.mul (e1.add 1)) (F1 e0 x1) (x1.mul (e0.add 1))) (F37 e0 e1 x0 x1) (F0 e0 e1))),u64A (ifB (F19 e0 e1) (subN false x0 false x1) (lowN (F37 e0 e1 x0 x1) (F0 e0 e1))),nilS,u64A (ifB (F19 e0 e1) 0 (lowE (F37 e0 e1 x0 x1) (F0 e0 e1))),nilS]) (Fo (andB (small e0) (andB (small e1) (ifB (andB (e0.beq 0) (e1.beq 0)) (subC false x0 false x1) (andB (small (e0.add 1)) (andB (small (e1.add 1)) (andB (mulC x0 (e1.add 1)) (andB (mulC x1 (e0.add 1)) (andB (subC (mk false (x0.mul (e1.add 1))) (x0.mul (e1.add 1)) (mk false (x1.mul (e0.add 1))) (x1.mul (e0.add 1))) (andB (mulC (e0.add 1) (e1.add 1)) (lowC (subN (mk false (x0.mul (e1.add 1))) (x0.mul (e1.add 1)) (mk false (x1.mul (e0.add 1))) (x1.mul (e0.add 1))) ((e0.add 1).mul (e1.add 1))))))))))),true)<|[]):=by kernel_rfl
theorem ok_FSub : Ok Tryz.prog E0 153:=ok_sym (S:=fun g => memN g [149,194,196,130,128,27,34,38,44,96,37,197,195,42,129,179,41,39,35,33,36,215,95,91,32,85,198,99,97,155]) mixed al_FAdd rfl fun l v h => by
  rw [e_FSub] at h
  replace h:=arg2_some h; obtain ⟨a,b,rfl,h⟩:=h
  replace h:=fracP_some h; obtain ⟨s0,x0,e0,rfl,h⟩:=h
  replace h:=fracP_some h; obtain ⟨s1,x1,e1,rfl,h⟩:=h
  obtain ⟨rfl,hc⟩:=q_some h
  cases s0 <;> cases s1 <;> refine ⟨rfl,rfl,?_⟩
  · exact leaf_ok (p_FSub_ff_0 x0 e0 x1 e1) rfl (by (repeat' apply met_cons) <;> first | exact met_nil | with_reducible rfl | assumption | ((try simp only [NQ,mulC,lowC,not_false_eq_true,and_true,true_and,and_self,reduceCtorEq,subN,subS,subC,ne_eq]) <;> first | omega | (simp only [hc]; done)))
  · exact leaf_ok (p_FSub_ft_0 x0 e0 x1 e1) rfl (by (repeat' apply met_cons) <;> first | exact met_nil | with_reducible rfl | assumption | ((try simp only [NQ,mulC,lowC,not_false_eq_true,and_true,true_and,and_self,reduceCtorEq,subN,subS,subC,ne_eq]) <;> first | omega | (simp only [hc]; done)))
  · exact leaf_ok (p_FSub_tf_0 x0 e0 x1 e1) rfl (by (repeat' apply met_cons) <;> first | exact met_nil | with_reducible rfl | assumption | ((try simp only [NQ,mulC,lowC,not_false_eq_true,and_true,true_and,and_self,reduceCtorEq,subN,subS,subC,ne_eq]) <;> first | omega | (simp only [hc]; done)))
  · exact leaf_ok (p_FSub_tt_0 x0 e0 x1 e1) rfl (by (repeat' apply met_cons) <;> first | exact met_nil | with_reducible rfl | assumption | ((try simp only [NQ,mulC,lowC,not_false_eq_true,and_true,true_and,and_self,reduceCtorEq,subN,subS,subC,ne_eq]) <;> first | omega | (simp only [hc]; done)))
theorem al_FSub : ∀ g,memN g [153,149,194,196,130,128,27,34,38,44,96,37,197,195,42,129,179,41,39,35,33,36,215,95,91,32,85,198,99,97,155] = true → Ok Tryz.prog E0 g:=mem_step al_FAdd ok_FSub
noncomputable def S_FMul : Es:=only (fun g => memN g [153,149,194,196,130,128,27,34,38,44,96,37,197,195,42,129,179,41,39,35,33,36,215,95,91,32,85,198,99,97,155]) E0
theorem e_FMul (l:List AV) : E0 150 l = eFMul l:=by kernel_rfl
theorem p_FMul_tt_0 (x0 e0 x1 e1:Nat):FC S_FMul 150 [fracA true x0 e0,fracA true x1 e1] [.t,.t,.t,.t]=FR (.agg [boolA (mk (xorB true true) (x0.mul x1)),u64A (x0.mul x1),nilS,u64A 0,nilS]) (F77 e0 e1<|F81 e0 x0 x1<|[]):=by kernel_rfl
theorem p_FMul_tt_1 (x0 e0 x1 e1:Nat):FC S_FMul 150 [fracA true x0 e0,fracA true x1 e1] [.t,.t,.t,.f]=FR (.agg [boolA (F33 e0 e1 x0 x1),u64A (F28 e0 e1 x0 x1),nilS,u64A (F29 e0 e1 x0 x1),nilS]) (F58 e0 e1 x0 x1<|F76 e0 e1<|F81 e0 x0 x1<|[]):=by kernel_rfl
theorem p_FMul_tt_2 (x0 e0 x1 e1:Nat):FC S_FMul 150 [fracA true x0 e0,fracA true x1 e1] [.t,.t,.f,.c]=FR (.agg [boolA (F33 e0 e1 x0 x1),u64A (F28 e0 e1 x0 x1),nilS,u64A (F29 e0 e1 x0 x1),nilS]) (F58 e0 e1 x0 x1<|F71 e0 e1<|F81 e0 x0 x1<|[]):=by kernel_rfl
theorem p_FMul_tt_3 (x0 e0 x1 e1:Nat):FC S_FMul 150 [fracA true x0 e0,fracA true x1 e1] [.t,.f,.f,.c]=FR (.agg [boolA (F33 e0 e1 x0 x1),u64A (F28 e0 e1 x0 x1),nilS,u64A (F29 e0 e1 x0 x1),nilS]) (F58 e0 e1 x0 x1<|F83 e0<|Fo (mulC x0 x1,true)<|[]):=by kernel_rfl
theorem p_FMul_tt_4 (x0 e0 x1 e1:Nat):FC S_FMul 150 [fracA true x0 e0,fracA true x1 e1] [.f,.f,.f,.c]=FR (.agg [boolA (F33 e0 e1 x0 x1),u64A (F28 e0 e1 x0 x1),nilS,u64A (F29 e0 e1 x0 x1),nilS]) (F58 e0 e1 x0 x1<|F84 e0<|Fo (mulC x0 x1,true)<|[]):=by kernel_rfl
theorem p_FMul_tf_0 (x0 e0 x1 e1:Nat):FC S_FMul 150 [fracA true x0 e0,fracA false x1 e1] [.t,.t,.t,.t]=FR (.agg [boolA (mk (xorB true false) (x0.mul x1)),u64A (x0.mul x1),nilS,u64A 0,nilS]) (F77 e0 e1<|F81 e0 x0 x1<|[]):=by kernel_rfl
theorem p_FMul_tf_1 (x0 e0 x1 e1:Nat):FC S_FMul 150 [fracA true x0 e0,fracA false x1 e1] [.t,.t,.t,.f]=FR (.agg [boolA (F31 e0 e1 x0 x1),u64A (F28 e0 e1 x0 x1),nilS,u64A (F29 e0 e1 x0 x1),nilS]) (F58 e0 e1 x0 x1<|F76 e0 e1<|F81 e0 x0 x1<|[]):=by kernel_rfl
theorem p_FMul_tf_2 (x0 e0 x1 e1:Nat):FC S_FMul 150 [fracA true x0 e0,fracA false x1 e1] [.t,.t,.f,.c]=FR (.agg [boolA (F31 e0 e1 x0 x1),u64A (F28 e0 e1 x0 x1),nilS,u64A (F29 e0 e1 x0 x1),nilS]) (F58 e0 e1 x0 x1<|F71 e0 e1<|F81 e0 x0 x1<|[]):=by kernel_rfl
theorem p_FMul_tf_3 (x0 e0 x1 e1:Nat):FC S_FMul 150 [fracA true x0 e0,fracA false x1 e1] [.t,.f,.f,.c]=FR (.agg [boolA (F31 e0 e1 x0 x1),u64A (F28 e0 e1 x0 x1),nilS,u64A (F29 e0 e1 x0 x1),nilS]) (F58 e0 e1 x0 x1<|F83 e0<|Fo (mulC x0 x1,true)<|[]):=by kernel_rfl
theorem p_FMul_tf_4 (x0 e0 x1 e1:Nat):FC S_FMul 150 [fracA true x0 e0,fracA false x1 e1] [.f,.f,.f,.c]=FR (.agg [boolA (F31 e0 e1 x0 x1),u64A (F28 e0 e1 x0 x1),nilS,u64A (F29 e0 e1 x0 x1),nilS]) (F58 e0 e1 x0 x1<|F84 e0<|Fo (mulC x0 x1,true)<|[]):=by kernel_rfl
theorem p_FMul_ft_0 (x0 e0 x1 e1:Nat):FC S_FMul 150 [fracA false x0 e0,fracA true x1 e1] [.t,.t,.t,.t]=FR (.agg [boolA (mk (xorB false true) (x0.mul x1)),u64A (x0.mul x1),nilS,u64A 0,nilS]) (F77 e0 e1<|F81 e0 x0 x1<|[]):=by kernel_rfl
theorem p_FMul_ft_1 (x0 e0 x1 e1:Nat):FC S_FMul 150 [fracA false x0 e0,fracA true x1 e1] [.t,.t,.t,.f]=FR (.agg [boolA (F32 e0 e1 x0 x1),u64A (F28 e0 e1 x0 x1),nilS,u64A (F29 e0 e1 x0 x1),nilS]) (F58 e0 e1 x0 x1<|F76 e0 e1<|F81 e0 x0 x1<|[]):=by kernel_rfl
theorem p_FMul_ft_2 (x0 e0 x1 e1:Nat):FC S_FMul 150 [fracA false x0 e0,fracA true x1 e1] [.t,.t,.f,.c]=FR (.agg [boolA (F32 e0 e1 x0 x1),u64A (F28 e0 e1 x0 x1),nilS,u64A (F29 e0 e1 x0 x1),nilS]) (F58 e0 e1 x0 x1<|F71 e0 e1<|F81 e0 x0 x1<|[]):=by kernel_rfl
theorem p_FMul_ft_3 (x0 e0 x1 e1:Nat):FC S_FMul 150 [fracA false x0 e0,fracA true x1 e1] [.t,.f,.f,.c]=FR (.agg [boolA (F32 e0 e1 x0 x1),u64A (F28 e0 e1 x0 x1),nilS,u64A (F29 e0 e1 x0 x1),nilS]) (F58 e0 e1 x0 x1<|F83 e0<|Fo (mulC x0 x1,true)<|[]):=by kernel_rfl
theorem p_FMul_ft_4 (x0 e0 x1 e1:Nat):FC S_FMul 150 [fracA false x0 e0,fracA true x1 e1] [.f,.f,.f,.c]=FR (.agg [boolA (F32 e0 e1 x0 x1),u64A (F28 e0 e1 x0 x1),nilS,u64A (F29 e0 e1 x0 x1),nilS]) (F58 e0 e1 x0 x1<|F84 e0<|Fo (mulC x0 x1,true)<|[]):=by kernel_rfl
theorem p_FMul_ff_0 (x0 e0 x1 e1:Nat):FC S_FMul 150 [fracA false x0 e0,fracA false x1 e1] [.t,.t,.t,.t]=FR (.agg [boolA (mk (xorB false false) (x0.mul x1)),u64A (x0.mul x1),nilS,u64A 0,nilS]) (F77 e0 e1<|F81 e0 x0 x1<|[]):=by kernel_rfl
theorem p_FMul_ff_1 (x0 e0 x1 e1:Nat):FC S_FMul 150 [fracA false x0 e0,fracA false x1 e1] [.t,.t,.t,.f]=FR (.agg [boolA (F30 e0 e1 x0 x1),u64A (F28 e0 e1 x0 x1),nilS,u64A (F29 e0 e1 x0 x1),nilS]) (F58 e0 e1 x0 x1<|F76 e0 e1<|F81 e0 x0 x1<|[]):=by kernel_rfl
theorem p_FMul_ff_2 (x0 e0 x1 e1:Nat):FC S_FMul 150 [fracA false x0 e0,fracA false x1 e1] [.t,.t,.f,.c]=FR (.agg [boolA (F30 e0 e1 x0 x1),u64A (F28 e0 e1 x0 x1),nilS,u64A (F29 e0 e1 x0 x1),nilS]) (F58 e0 e1 x0 x1<|F71 e0 e1<|F81 e0 x0 x1<|[]):=by kernel_rfl
theorem p_FMul_ff_3 (x0 e0 x1 e1:Nat):FC S_FMul 150 [fracA false x0 e0,fracA false x1 e1] [.t,.f,.f,.c]=FR (.agg [boolA (F30 e0 e1 x0 x1),u64A (F28 e0 e1 x0 x1),nilS,u64A (F29 e0 e1 x0 x1),nilS]) (F58 e0 e1 x0 x1<|F83 e0<|Fo (mulC x0 x1,true)<|[]):=by kernel_rfl
theorem p_FMul_ff_4 (x0 e0 x1 e1:Nat):FC S_FMul 150 [fracA false x0 e0,fracA false x1 e1] [.f,.f,.f,.c]=FR (.agg [boolA (F30 e0 e1 x0 x1),u64A (F28 e0 e1 x0 x1),nilS,u64A (F29 e0 e1 x0 x1),nilS]) (F58 e0 e1 x0 x1<|F84 e0<|Fo (mulC x0 x1,true)<|[]):=by kernel_rfl
theorem ok_FMul : Ok Tryz.prog E0 150:=ok_sym (S:=fun g => memN g [153,149,194,196,130,128,27,34,38,44,96,37,197,195,42,129,179,41,39,35,33,36,215,95,91,32,85,198,99,97,155]) mixed al_FSub rfl fun l v h => by
  rw [e_FMul] at h
  replace h:=arg2_some h; obtain ⟨a,b,rfl,h⟩:=h
  replace h:=fracP_some h; obtain ⟨s0,x0,e0,rfl,h⟩:=h
  replace h:=fracP_some h; obtain ⟨s1,x1,e1,rfl,h⟩:=h
  obtain ⟨rfl,hc⟩:=q_some h
  cases s0 <;> cases s1 <;> refine ⟨rfl,rfl,?_⟩
  · by_cases h0 : e0 = 0
    · by_cases h1 : e1 = 0
      · have he : andB (Nat.beq e0 0) (Nat.beq e1 0) = true:=andB_true.2 ⟨Abs.beq_true.2 h0,Abs.beq_true.2 h1⟩
        rw [he] at hc ⊢
        simp only [NQ,mulC,lowC,not_false_eq_true,and_true,true_and,and_self,reduceCtorEq,subN,subS,subC,ne_eq] at hc
        exact leaf_ok (p_FMul_ff_0 x0 e0 x1 e1) rfl (by (repeat' apply met_cons) <;> first | exact met_nil | with_reducible rfl | assumption | ((try simp only [NQ,mulC,lowC,not_false_eq_true,and_true,true_and,and_self,reduceCtorEq,subN,subS,subC,ne_eq]) <;> first | omega | (simp only [hc]; done)))
      · have he : andB (Nat.beq e0 0) (Nat.beq e1 0) = false:=by rw [beq_f.2 h1]; cases Nat.beq e0 0 <;> rfl
        rw [he] at hc ⊢
        simp only [NQ,mulC,lowC,not_false_eq_true,and_true,true_and,and_self,reduceCtorEq,subN,subS,subC,ne_eq] at hc
        exact leaf_ok (p_FMul_ff_1 x0 e0 x1 e1) rfl (by (repeat' apply met_cons) <;> first | exact met_nil | with_reducible rfl | assumption | ((try simp only [NQ,mulC,lowC,not_false_eq_true,and_true,true_and,and_self,reduceCtorEq,subN,subS,subC,ne_eq]) <;> first | omega | (simp only [hc]; done)))
    · have he : andB (Nat.beq e0 0) (Nat.beq e1 0) = false:=by rw [beq_f.2 h0]; rfl
      rw [he] at hc ⊢
      simp only [NQ,mulC,lowC,not_false_eq_true,and_true,true_and,and_self,reduceCtorEq,subN,subS,subC,ne_eq] at hc
      exact leaf_ok (p_FMul_ff_4 x0 e0 x1 e1) rfl (by (repeat' apply met_cons) <;> first | exact met_nil | with_reducible rfl | assumption | ((try simp only [NQ,mulC,lowC,not_false_eq_true,and_true,true_and,and_self,reduceCtorEq,subN,subS,subC,ne_eq]) <;> first | omega | (simp only [hc]; done)))
  · by_cases h0 : e0 = 0
    · by_cases h1 : e1 = 0
      · have he : andB (Nat.beq e0 0) (Nat.beq e1 0) = true:=andB_true.2 ⟨Abs.beq_true.2 h0,Abs.beq_true.2 h1⟩
        rw [he] at hc ⊢
        simp only [NQ,mulC,lowC,not_false_eq_true,and_true,true_and,and_self,reduceCtorEq,subN,subS,subC,ne_eq] at hc
        exact leaf_ok (p_FMul_ft_0 x0 e0 x1 e1) rfl (by (repeat' apply met_cons) <;> first | exact met_nil | with_reducible rfl | assumption | ((try simp only [NQ,mulC,lowC,not_false_eq_true,and_true,true_and,and_self,reduceCtorEq,subN,subS,subC,ne_eq]) <;> first | omega | (simp only [hc]; done)))
      · have he : andB (Nat.beq e0 0) (Nat.beq e1 0) = false:=by rw [beq_f.2 h1]; cases Nat.beq e0 0 <;> rfl
        rw [he] at hc ⊢
        simp only [NQ,mulC,lowC,not_false_eq_true,and_true,true_and,and_self,reduceCtorEq,subN,subS,subC,ne_eq] at hc
        exact leaf_ok (p_FMul_ft_1 x0 e0 x1 e1) rfl (by (repeat' apply met_cons) <;> first | exact met_nil | with_reducible rfl | assumption | ((try simp only [NQ,mulC,lowC,not_false_eq_true,and_true,true_and,and_self,reduceCtorEq,subN,subS,subC,ne_eq]) <;> first | omega | (simp only [hc]; done)))
    · have he : andB (Nat.beq e0 0) (Nat.beq e1 0) = false:=by rw [beq_f.2 h0]; rfl
      rw [he] at hc ⊢
      simp only [NQ,mulC,lowC,not_false_eq_true,and_true,true_and,and_self,reduceCtorEq,subN,subS,subC,ne_eq] at hc
      exact leaf_ok (p_FMul_ft_4 x0 e0 x1 e1) rfl (by (repeat' apply met_cons) <;> first | exact met_nil | with_reducible rfl | assumption | ((try simp only [NQ,mulC,lowC,not_false_eq_true,and_true,true_and,and_self,reduceCtorEq,subN,subS,subC,ne_eq]) <;> first | omega | (simp only [hc]; done)))
  · by_cases h0 : e0 = 0
    · by_cases h1 : e1 = 0
      · have he : andB (Nat.beq e0 0) (Nat.beq e1 0) = true:=andB_true.2 ⟨Abs.beq_true.2 h0,Abs.beq_true.2 h1⟩
        rw [he] at hc ⊢
        simp only [NQ,mulC,lowC,not_false_eq_true,and_true,true_and,and_self,reduceCtorEq,subN,subS,subC,ne_eq] at hc
        exact leaf_ok (p_FMul_tf_0 x0 e0 x1 e1) rfl (by (repeat' apply met_cons) <;> first | exact met_nil | with_reducible rfl | assumption | ((try simp only [NQ,mulC,lowC,not_false_eq_true,and_true,true_and,and_self,reduceCtorEq,subN,subS,subC,ne_eq]) <;> first | omega | (simp only [hc]; done)))
      · have he : andB (Nat.beq e0 0) (Nat.beq e1 0) = false:=by rw [beq_f.2 h1]; cases Nat.beq e0 0 <;> rfl
        rw [he] at hc ⊢
        simp only [NQ,mulC,lowC,not_false_eq_true,and_true,true_and,and_self,reduceCtorEq,subN,subS,subC,ne_eq] at hc
        exact leaf_ok (p_FMul_tf_1 x0 e0 x1 e1) rfl (by (repeat' apply met_cons) <;> first | exact met_nil | with_reducible rfl | assumption | ((try simp only [NQ,mulC,lowC,not_false_eq_true,and_true,true_and,and_self,reduceCtorEq,subN,subS,subC,ne_eq]) <;> first | omega | (simp only [hc]; done)))
    · have he : andB (Nat.beq e0 0) (Nat.beq e1 0) = false:=by rw [beq_f.2 h0]; rfl
      rw [he] at hc ⊢
      simp only [NQ,mulC,lowC,not_false_eq_true,and_true,true_and,and_self,reduceCtorEq,subN,subS,subC,ne_eq] at hc
      exact leaf_ok (p_FMul_tf_4 x0 e0 x1 e1) rfl (by (repeat' apply met_cons) <;> first | exact met_nil | with_reducible rfl | assumption | ((try simp only [NQ,mulC,lowC,not_false_eq_true,and_true,true_and,and_self,reduceCtorEq,subN,subS,subC,ne_eq]) <;> first | omega | (simp only [hc]; done)))
  · by_cases h0 : e0 = 0
    · by_cases h1 : e1 = 0
      · have he : andB (Nat.beq e0 0) (Nat.beq e1 0) = true:=andB_true.2 ⟨Abs.beq_true.2 h0,Abs.beq_true.2 h1⟩
        rw [he] at hc ⊢
        simp only [NQ,mulC,lowC,not_false_eq_true,and_true,true_and,and_self,reduceCtorEq,subN,subS,subC,ne_eq] at hc
        exact leaf_ok (p_FMul_tt_0 x0 e0 x1 e1) rfl (by (repeat' apply met_cons) <;> first | exact met_nil | with_reducible rfl | assumption | ((try simp only [NQ,mulC,lowC,not_false_eq_true,and_true,true_and,and_self,reduceCtorEq,subN,subS,subC,ne_eq]) <;> first | omega | (simp only [hc]; done)))
      · have he : andB (Nat.beq e0 0) (Nat.beq e1 0) = false:=by rw [beq_f.2 h1]; cases Nat.beq e0 0 <;> rfl
        rw [he] at hc ⊢
        simp only [NQ,mulC,lowC,not_false_eq_true,and_true,true_and,and_self,reduceCtorEq,subN,subS,subC,ne_eq] at hc
        exact leaf_ok (p_FMul_tt_1 x0 e0 x1 e1) rfl (by (repeat' apply met_cons) <;> first | exact met_nil | with_reducible rfl | assumption | ((try simp only [NQ,mulC,lowC,not_false_eq_true,and_true,true_and,and_self,reduceCtorEq,subN,subS,subC,ne_eq]) <;> first | omega | (simp only [hc]; done)))
    · have he : andB (Nat.beq e0 0) (Nat.beq e1 0) = false:=by rw [beq_f.2 h0]; rfl
      rw [he] at hc ⊢
      simp only [NQ,mulC,lowC,not_false_eq_true,and_true,true_and,and_self,reduceCtorEq,subN,subS,subC,ne_eq] at hc
      exact leaf_ok (p_FMul_tt_4 x0 e0 x1 e1) rfl (by (repeat' apply met_cons) <;> first | exact met_nil | with_reducible rfl | assumption | ((try simp only [NQ,mulC,lowC,not_false_eq_true,and_true,true_and,and_self,reduceCtorEq,subN,subS,subC,ne_eq]) <;> first | omega | (simp only [hc]; done)))
theorem al_FMul : ∀ g,memN g [150,153,149,194,196,130,128,27,34,38,44,96,37,197,195,42,129,179,41,39,35,33,36,215,95,91,32,85,198,99,97,155] = true → Ok Tryz.prog E0 g:=mem_step al_FSub ok_FMul
noncomputable def S_FCmp : Es:=only (fun g => memN g [150,153,149,194,196,130,128,27,34,38,44,96,37,197,195,42,129,179,41,39,35,33,36,215,95,91,32,85,198,99,97,155]) E0
theorem e_FCmp (l:List AV) : E0 67 l = eFCmp l:=by kernel_rfl
theorem p_FCmp_tt_0 (x0 e0 x1 e1:Nat):FC S_FCmp 67 [fracA true x0 e0,fracA true x1 e1] [.t,.t,.t,.t]=FR (i64A (ifB true (ifB true (cmpN x1 x0) (Int.negSucc 0)) (ifB true (Int.ofNat 1) (cmpN x0 x1)))) (Fo (true,true)<|F86 e0 e1<|[]):=by kernel_rfl
theorem p_FCmp_tt_1 (x0 e0 x1 e1:Nat):FC S_FCmp 67 [fracA true x0 e0,fracA true x1 e1] [.t,.t,.t,.f]=FR (i64A (F15 e0 e1 x0 x1)) (F79 e0 e1 x0 x1<|F87 e0 e1<|[]):=by kernel_rfl
theorem p_FCmp_tt_2 (x0 e0 x1 e1:Nat):FC S_FCmp 67 [fracA true x0 e0,fracA true x1 e1] [.t,.t,.f,.c]=FR (i64A (F15 e0 e1 x0 x1)) (F79 e0 e1 x0 x1<|F88 e0 e1<|[]):=by kernel_rfl
theorem p_FCmp_tt_3 (x0 e0 x1 e1:Nat):FC S_FCmp 67 [fracA true x0 e0,fracA true x1 e1] [.t,.f,.f,.c]=FR (i64A (F15 e0 e1 x0 x1)) (F79 e0 e1 x0 x1<|F83 e0<|[]):=by kernel_rfl
theorem p_FCmp_tt_4 (x0 e0 x1 e1:Nat):FC S_FCmp 67 [fracA true x0 e0,fracA true x1 e1] [.f,.f,.f,.c]=FR (i64A (F15 e0 e1 x0 x1)) (F79 e0 e1 x0 x1<|F84 e0<|[]):=by kernel_rfl
theorem p_FCmp_tf_0 (x0 e0 x1 e1:Nat):FC S_FCmp 67 [fracA true x0 e0,fracA false x1 e1] [.t,.t,.t,.t]=FR (i64A (ifB true (ifB false (cmpN x1 x0) (Int.negSucc 0)) (ifB false (Int.ofNat 1) (cmpN x0 x1)))) (Fo (true,true)<|F86 e0 e1<|[]):=by kernel_rfl
theorem p_FCmp_tf_1 (x0 e0 x1 e1:Nat):FC S_FCmp 67 [fracA true x0 e0,fracA false x1 e1] [.t,.t,.t,.f]=FR (i64A (F16 e0 e1 x0 x1)) (F79 e0 e1 x0 x1<|F87 e0 e1<|[]):=by kernel_rfl
theorem p_FCmp_tf_2 (x0 e0 x1 e1:Nat):FC S_FCmp 67 [fracA true x0 e0,fracA false x1 e1] [.t,.t,.f,.c]=FR (i64A (F16 e0 e1 x0 x1)) (F79 e0 e1 x0 x1<|F88 e0 e1<|[]):=by kernel_rfl
theorem p_FCmp_tf_3 (x0 e0 x1 e1:Nat):FC S_FCmp 67 [fracA true x0 e0,fracA false x1 e1] [.t,.f,.f,.c]=FR (i64A (F16 e0 e1 x0 x1)) (F79 e0 e1 x0 x1<|F83 e0<|[]):=by kernel_rfl
theorem p_FCmp_tf_4 (x0 e0 x1 e1:Nat):FC S_FCmp 67 [fracA true x0 e0,fracA false x1 e1] [.f,.f,.f,.c]=FR (i64A (F16 e0 e1 x0 x1)) (F79 e0 e1 x0 x1<|F84 e0<|[]):=by kernel_rfl
theorem p_FCmp_ft_0 (x0 e0 x1 e1:Nat):FC S_FCmp 67 [fracA false x0 e0,fracA true x1 e1] [.t,.t,.t,.t]=FR (i64A (ifB false (ifB true (cmpN x1 x0) (Int.negSucc 0)) (ifB true (Int.ofNat 1) (cmpN x0 x1)))) (Fo (true,true)<|F86 e0 e1<|[]):=by kernel_rfl
theorem p_FCmp_ft_1 (x0 e0 x1 e1:Nat):FC S_FCmp 67 [fracA false x0 e0,fracA true x1 e1] [.t,.t,.t,.f]=FR (i64A (F17 e0 e1 x0 x1)) (F79 e0 e1 x0 x1<|F87 e0 e1<|[]):=by kernel_rfl
theorem p_FCmp_ft_2 (x0 e0 x1 e1:Nat):FC S_FCmp 67 [fracA false x0 e0,fracA true x1 e1] [.t,.t,.f,.c]=FR (i64A (F17 e0 e1 x0 x1)) (F79 e0 e1 x0 x1<|F88 e0 e1<|[]):=by kernel_rfl
theorem p_FCmp_ft_3 (x0 e0 x1 e1:Nat):FC S_FCmp 67 [fracA false x0 e0,fracA true x1 e1] [.t,.f,.f,.c]=FR (i64A (F17 e0 e1 x0 x1)) (F79 e0 e1 x0 x1<|F83 e0<|[]):=by kernel_rfl
theorem p_FCmp_ft_4 (x0 e0 x1 e1:Nat):FC S_FCmp 67 [fracA false x0 e0,fracA true x1 e1] [.f,.f,.f,.c]=FR (i64A (F17 e0 e1 x0 x1)) (F79 e0 e1 x0 x1<|F84 e0<|[]):=by kernel_rfl
theorem p_FCmp_ff_0 (x0 e0 x1 e1:Nat):FC S_FCmp 67 [fracA false x0 e0,fracA false x1 e1] [.t,.t,.t,.t]=FR (i64A (ifB false (ifB false (cmpN x1 x0) (Int.negSucc 0)) (ifB false (Int.ofNat 1) (cmpN x0 x1)))) (Fo (true,true)<|F86 e0 e1<|[]):=by kernel_rfl
theorem p_FCmp_ff_1 (x0 e0 x1 e1:Nat):FC S_FCmp 67 [fracA false x0 e0,fracA false x1 e1] [.t,.t,.t,.f]=FR (i64A (F18 e0 e1 x0 x1)) (F79 e0 e1 x0 x1<|F87 e0 e1<|[]):=by kernel_rfl
theorem p_FCmp_ff_2 (x0 e0 x1 e1:Nat):FC S_FCmp 67 [fracA false x0 e0,fracA false x1 e1] [.t,.t,.f,.c]=FR (i64A (F18 e0 e1 x0 x1)) (F79 e0 e1 x0 x1<|F88 e0 e1<|[]):=by kernel_rfl
theorem p_FCmp_ff_3 (x0 e0 x1 e1:Nat):FC S_FCmp 67 [fracA false x0 e0,fracA false x1 e1] [.t,.f,.f,.c]=FR (i64A (F18 e0 e1 x0 x1)) (F79 e0 e1 x0 x1<|F83 e0<|[]):=by kernel_rfl
theorem p_FCmp_ff_4 (x0 e0 x1 e1:Nat):FC S_FCmp 67 [fracA false x0 e0,fracA false x1 e1] [.f,.f,.f,.c]=FR (i64A (F18 e0 e1 x0 x1)) (F79 e0 e1 x0 x1<|F84 e0<|[]):=by kernel_rfl
theorem ok_FCmp : Ok Tryz.prog E0 67:=ok_sym (S:=fun g => memN g [150,153,149,194,196,130,128,27,34,38,44,96,37,197,195,42,129,179,41,39,35,33,36,215,95,91,32,85,198,99,97,155]) mixed al_FMul rfl fun l v h => by
  rw [e_FCmp] at h
  replace h:=arg2_some h; obtain ⟨a,b,rfl,h⟩:=h
  replace h:=fracP_some h; obtain ⟨s0,x0,e0,rfl,h⟩:=h
  replace h:=fracP_some h; obtain ⟨s1,x1,e1,rfl,h⟩:=h
  obtain ⟨rfl,hc⟩:=q_some h
  cases s0 <;> cases s1 <;> refine ⟨rfl,rfl,?_⟩
  · by_cases h0 : e0 = 0
    · by_cases h1 : e1 = 0
      · have he : andB (Nat.beq e0 0) (Nat.beq e1 0) = true:=andB_true.2 ⟨Abs.beq_true.2 h0,Abs.beq_true.2 h1⟩
        rw [he] at hc ⊢
        simp only [NQ,mulC,lowC,not_false_eq_true,and_true,true_and,and_self,reduceCtorEq,subN,subS,subC,ne_eq] at hc
        exact leaf_ok (p_FCmp_ff_0 x0 e0 x1 e1) rfl (by (repeat' apply met_cons) <;> first | exact met_nil | with_reducible rfl | assumption | ((try simp only [NQ,mulC,lowC,not_false_eq_true,and_true,true_and,and_self,reduceCtorEq,subN,subS,subC,ne_eq]) <;> first | omega | (simp only [hc]; done)))
      · have he : andB (Nat.beq e0 0) (Nat.beq e1 0) = false:=by rw [beq_f.2 h1]; cases Nat.beq e0 0 <;> rfl
        rw [he] at hc ⊢
        simp only [NQ,mulC,lowC,not_false_eq_true,and_true,true_and,and_self,reduceCtorEq,subN,subS,subC,ne_eq] at hc
        exact leaf_ok (p_FCmp_ff_1 x0 e0 x1 e1) rfl (by (repeat' apply met_cons) <;> first | exact met_nil | with_reducible rfl | assumption | ((try simp only [NQ,mulC,lowC,not_false_eq_true,and_true,true_and,and_self,reduceCtorEq,subN,subS,subC,ne_eq]) <;> first | omega | (simp only [hc]; done)))
    · have he : andB (Nat.beq e0 0) (Nat.beq e1 0) = false:=by rw [beq_f.2 h0]; rfl
      rw [he] at hc ⊢
      simp only [NQ,mulC,lowC,not_false_eq_true,and_true,true_and,and_self,reduceCtorEq,subN,subS,subC,ne_eq] at hc
      exact leaf_ok (p_FCmp_ff_4 x0 e0 x1 e1) rfl (by (repeat' apply met_cons) <;> first | exact met_nil | with_reducible rfl | assumption | ((try simp only [NQ,mulC,lowC,not_false_eq_true,and_true,true_and,and_self,reduceCtorEq,subN,subS,subC,ne_eq]) <;> first | omega | (simp only [hc]; done)))
  · by_cases h0 : e0 = 0
    · by_cases h1 : e1 = 0
      · have he : andB (Nat.beq e0 0) (Nat.beq e1 0) = true:=andB_true.2 ⟨Abs.beq_true.2 h0,Abs.beq_true.2 h1⟩
        rw [he] at hc ⊢
        simp only [NQ,mulC,lowC,not_false_eq_true,and_true,true_and,and_self,reduceCtorEq,subN,subS,subC,ne_eq] at hc
        exact leaf_ok (p_FCmp_ft_0 x0 e0 x1 e1) rfl (by (repeat' apply met_cons) <;> first | exact met_nil | with_reducible rfl | assumption | ((try simp only [NQ,mulC,lowC,not_false_eq_true,and_true,true_and,and_self,reduceCtorEq,subN,subS,subC,ne_eq]) <;> first | omega | (simp only [hc]; done)))
      · have he : andB (Nat.beq e0 0) (Nat.beq e1 0) = false:=by rw [beq_f.2 h1]; cases Nat.beq e0 0 <;> rfl
        rw [he] at hc ⊢
        simp only [NQ,mulC,lowC,not_false_eq_true,and_true,true_and,and_self,reduceCtorEq,subN,subS,subC,ne_eq] at hc
        exact leaf_ok (p_FCmp_ft_1 x0 e0 x1 e1) rfl (by (repeat' apply met_cons) <;> first | exact met_nil | with_reducible rfl | assumption | ((try simp only [NQ,mulC,lowC,not_false_eq_true,and_true,true_and,and_self,reduceCtorEq,subN,subS,subC,ne_eq]) <;> first | omega | (simp only [hc]; done)))
    · have he : andB (Nat.beq e0 0) (Nat.beq e1 0) = false:=by rw [beq_f.2 h0]; rfl
      rw [he] at hc ⊢
      simp only [NQ,mulC,lowC,not_false_eq_true,and_true,true_and,and_self,reduceCtorEq,subN,subS,subC,ne_eq] at hc
      exact leaf_ok (p_FCmp_ft_4 x0 e0 x1 e1) rfl (by (repeat' apply met_cons) <;> first | exact met_nil | with_reducible rfl | assumption | ((try simp only [NQ,mulC,lowC,not_false_eq_true,and_true,true_and,and_self,reduceCtorEq,subN,subS,subC,ne_eq]) <;> first | omega | (simp only [hc]; done)))
  · by_cases h0 : e0 = 0
    · by_cases h1 : e1 = 0
      · have he : andB (Nat.beq e0 0) (Nat.beq e1 0) = true:=andB_true.2 ⟨Abs.beq_true.2 h0,Abs.beq_true.2 h1⟩
        rw [he] at hc ⊢
        simp only [NQ,mulC,lowC,not_false_eq_true,and_true,true_and,and_self,reduceCtorEq,subN,subS,subC,ne_eq] at hc
        exact leaf_ok (p_FCmp_tf_0 x0 e0 x1 e1) rfl (by (repeat' apply met_cons) <;> first | exact met_nil | with_reducible rfl | assumption | ((try simp only [NQ,mulC,lowC,not_false_eq_true,and_true,true_and,and_self,reduceCtorEq,subN,subS,subC,ne_eq]) <;> first | omega | (simp only [hc]; done)))
      · have he : andB (Nat.beq e0 0) (Nat.beq e1 0) = false:=by rw [beq_f.2 h1]; cases Nat.beq e0 0 <;> rfl
        rw [he] at hc ⊢
        simp only [NQ,mulC,lowC,not_false_eq_true,and_true,true_and,and_self,reduceCtorEq,subN,subS,subC,ne_eq] at hc
        exact leaf_ok (p_FCmp_tf_1 x0 e0 x1 e1) rfl (by (repeat' apply met_cons) <;> first | exact met_nil | with_reducible rfl | assumption | ((try simp only [NQ,mulC,lowC,not_false_eq_true,and_true,true_and,and_self,reduceCtorEq,subN,subS,subC,ne_eq]) <;> first | omega | (simp only [hc]; done)))
    · have he : andB (Nat.beq e0 0) (Nat.beq e1 0) = false:=by rw [beq_f.2 h0]; rfl
      rw [he] at hc ⊢
      simp only [NQ,mulC,lowC,not_false_eq_true,and_true,true_and,and_self,reduceCtorEq,subN,subS,subC,ne_eq] at hc
      exact leaf_ok (p_FCmp_tf_4 x0 e0 x1 e1) rfl (by (repeat' apply met_cons) <;> first | exact met_nil | with_reducible rfl | assumption | ((try simp only [NQ,mulC,lowC,not_false_eq_true,and_true,true_and,and_self,reduceCtorEq,subN,subS,subC,ne_eq]) <;> first | omega | (simp only [hc]; done)))
  · by_cases h0 : e0 = 0
    · by_cases h1 : e1 = 0
      · have he : andB (Nat.beq e0 0) (Nat.beq e1 0) = true:=andB_true.2 ⟨Abs.beq_true.2 h0,Abs.beq_true.2 h1⟩
        rw [he] at hc ⊢
        simp only [NQ,mulC,lowC,not_false_eq_true,and_true,true_and,and_self,reduceCtorEq,subN,subS,subC,ne_eq] at hc
        exact leaf_ok (p_FCmp_tt_0 x0 e0 x1 e1) rfl (by (repeat' apply met_cons) <;> first | exact met_nil | with_reducible rfl | assumption | ((try simp only [NQ,mulC,lowC,not_false_eq_true,and_true,true_and,and_self,reduceCtorEq,subN,subS,subC,ne_eq]) <;> first | omega | (simp only [hc]; done)))
      · have he : andB (Nat.beq e0 0) (Nat.beq e1 0) = false:=by rw [beq_f.2 h1]; cases Nat.beq e0 0 <;> rfl
        rw [he] at hc ⊢
        simp only [NQ,mulC,lowC,not_false_eq_true,and_true,true_and,and_self,reduceCtorEq,subN,subS,subC,ne_eq] at hc
        exact leaf_ok (p_FCmp_tt_1 x0 e0 x1 e1) rfl (by (repeat' apply met_cons) <;> first | exact met_nil | with_reducible rfl | assumption | ((try simp only [NQ,mulC,lowC,not_false_eq_true,and_true,true_and,and_self,reduceCtorEq,subN,subS,subC,ne_eq]) <;> first | omega | (simp only [hc]; done)))
    · have he : andB (Nat.beq e0 0) (Nat.beq e1 0) = false:=by rw [beq_f.2 h0]; rfl
      rw [he] at hc ⊢
      simp only [NQ,mulC,lowC,not_false_eq_true,and_true,true_and,and_self,reduceCtorEq,subN,subS,subC,ne_eq] at hc
      exact leaf_ok (p_FCmp_tt_4 x0 e0 x1 e1) rfl (by (repeat' apply met_cons) <;> first | exact met_nil | with_reducible rfl | assumption | ((try simp only [NQ,mulC,lowC,not_false_eq_true,and_true,true_and,and_self,reduceCtorEq,subN,subS,subC,ne_eq]) <;> first | omega | (simp only [hc]; done)))
theorem al_FCmp : ∀ g,memN g [67,150,153,149,194,196,130,128,27,34,38,44,96,37,197,195,42,129,179,41,39,35,33,36,215,95,91,32,85,198,99,97,155] = true → Ok Tryz.prog E0 g:=mem_step al_FMul ok_FCmp
noncomputable def S_FMake : Es:=only (fun g => memN g [67,150,153,149,194,196,130,128,27,34,38,44,96,37,197,195,42,129,179,41,39,35,33,36,215,95,91,32,85,198,99,97,155]) E0
theorem e_FMake (l:List AV) : E0 183 l = (eFMake ok) l:=by kernel_rfl
theorem p_FMake_tt_0 (x0 x1:Nat):FC S_FMake 183 [wholeA true x0,wholeA true x1] [.t]=FR (AV.tuple [.agg [boolA false,u64A 0,nilS,u64A 0,nilS],i64A (Int.ofNat 11)]) (Fo (eqI (signI true x1) 0,true)<|Fo (small x1,true)<|[]):=by kernel_rfl
theorem p_FMake_tt_1 (x0 x1:Nat):FC S_FMake 183 [wholeA true x0,wholeA true x1] [.f,.t]=FR (AV.tuple [.agg [boolA (lowS (mk (notB true) x0) x0 x1),u64A (lowN x0 x1),nilS,u64A (lowE x0 x1),nilS],i64A (Int.ofNat 0)]) (F80 x0 x1<|Fo (small x0,true)<|Fo (ltI (signI true x1) 0,true)<|F85 x1<|Fo (small x1,true)<|[]):=by kernel_rfl
theorem p_FMake_tt_2 (x0 x1:Nat):FC S_FMake 183 [wholeA true x0,wholeA true x1] [.f,.f]=FR (AV.tuple [.agg [boolA (lowS true x0 x1),u64A (lowN x0 x1),nilS,u64A (lowE x0 x1),nilS],i64A (Int.ofNat 0)]) (F80 x0 x1<|Fo (ltI (signI true x1) 0,false)<|F85 x1<|Fo (small x1,true)<|[]):=by kernel_rfl
theorem p_FMake_tf_0 (x0 x1:Nat):FC S_FMake 183 [wholeA true x0,wholeA false x1] [.t]=FR (AV.tuple [.agg [boolA false,u64A 0,nilS,u64A 0,nilS],i64A (Int.ofNat 11)]) (Fo (eqI (signI false x1) 0,true)<|Fo (small x1,true)<|[]):=by kernel_rfl
theorem p_FMake_tf_1 (x0 x1:Nat):FC S_FMake 183 [wholeA true x0,wholeA false x1] [.f,.t]=FR (AV.tuple [.agg [boolA (lowS (mk (notB true) x0) x0 x1),u64A (lowN x0 x1),nilS,u64A (lowE x0 x1),nilS],i64A (Int.ofNat 0)]) (F80 x0 x1<|Fo (small x0,true)<|Fo (ltI (signI false x1) 0,true)<|F82 x1<|Fo (small x1,true)<|[]):=by kernel_rfl
theorem p_FMake_tf_2 (x0 x1:Nat):FC S_FMake 183 [wholeA true x0,wholeA false x1] [.f,.f]=FR (AV.tuple [.agg [boolA (lowS true x0 x1),u64A (lowN x0 x1),nilS,u64A (lowE x0 x1),nilS],i64A (Int.ofNat 0)]) (F80 x0 x1<|Fo (ltI (signI false x1) 0,false)<|F82 x1<|Fo (small x1,true)<|[]):=by kernel_rfl
theorem p_FMake_ft_0 (x0 x1:Nat):FC S_FMake 183 [wholeA false x0,wholeA true x1] [.t]=FR (AV.tuple [.agg [boolA false,u64A 0,nilS,u64A 0,nilS],i64A (Int.ofNat 11)]) (Fo (eqI (signI true x1) 0,true)<|Fo (small x1,true)<|[]):=by kernel_rfl
theorem p_FMake_ft_1 (x0 x1:Nat):FC S_FMake 183 [wholeA false x0,wholeA true x1] [.f,.t]=FR (AV.tuple [.agg [boolA (lowS (mk (notB false) x0) x0 x1),u64A (lowN x0 x1),nilS,u64A (lowE x0 x1),nilS],i64A (Int.ofNat 0)]) (F80 x0 x1<|Fo (small x0,true)<|Fo (ltI (signI true x1) 0,true)<|F85 x1<|Fo (small x1,true)<|[]):=by kernel_rfl
theorem p_FMake_ft_2 (x0 x1:Nat):FC S_FMake 183 [wholeA false x0,wholeA true x1] [.f,.f]=FR (AV.tuple [.agg [boolA (lowS false x0 x1),u64A (lowN x0 x1),nilS,u64A (lowE x0 x1),nilS],i64A (Int.ofNat 0)]) (F80 x0 x1<|Fo (ltI (signI true x1) 0,false)<|F85 x1<|Fo (small x1,true)<|[]):=by kernel_rfl
theorem p_FMake_ff_0 (x0 x1:Nat):FC S_FMake 183 [wholeA false x0,wholeA false x1] [.t]=FR (AV.tuple [.agg [boolA false,u64A 0,nilS,u64A 0,nilS],i64A (Int.ofNat 11)]) (Fo (eqI (signI false x1) 0,true)<|Fo (small x1,true)<|[]):=by kernel_rfl
theorem p_FMake_ff_1 (x0 x1:Nat):FC S_FMake 183 [wholeA false x0,wholeA false x1] [.f,.t]=FR (AV.tuple [.agg [boolA (lowS (mk (notB false) x0) x0 x1),u64A (lowN x0 x1),nilS,u64A (lowE x0 x1),nilS],i64A (Int.ofNat 0)]) (F80 x0 x1<|Fo (small x0,true)<|Fo (ltI (signI false x1) 0,true)<|F82 x1<|Fo (small x1,true)<|[]):=by kernel_rfl
theorem p_FMake_ff_2 (x0 x1:Nat):FC S_FMake 183 [wholeA false x0,wholeA false x1] [.f,.f]=FR (AV.tuple [.agg [boolA (lowS false x0 x1),u64A (lowN x0 x1),nilS,u64A (lowE x0 x1),nilS],i64A (Int.ofNat 0)]) (F80 x0 x1<|Fo (ltI (signI false x1) 0,false)<|F82 x1<|Fo (small x1,true)<|[]):=by kernel_rfl
theorem ok_FMake : Ok Tryz.prog E0 183:=ok_sym (S:=fun g => memN g [67,150,153,149,194,196,130,128,27,34,38,44,96,37,197,195,42,129,179,41,39,35,33,36,215,95,91,32,85,198,99,97,155]) mixed al_FCmp rfl fun l v h => by
  rw [e_FMake] at h
  replace h:=arg2_some h; obtain ⟨a,b,rfl,h⟩:=h
  replace h:=wholeP_some h; obtain ⟨s0,x0,rfl,h⟩:=h
  replace h:=wholeP_some h; obtain ⟨s1,x1,rfl,h⟩:=h
  obtain ⟨rfl,hc⟩:=q_some h
  try simp only [NQ,mulC,lowC,not_false_eq_true,and_true,true_and,and_self,reduceCtorEq,subN,subS,subC,ne_eq] at hc
  cases s0 <;> cases s1 <;> refine ⟨rfl,rfl,?_⟩
  · have h1:=hc.1
    exact leaf_ok (p_FMake_ff_2 x0 x1) rfl (by (repeat' apply met_cons) <;> first | exact met_nil | with_reducible rfl | assumption | ((try simp only [NQ,mulC,lowC,not_false_eq_true,and_true,true_and,and_self,reduceCtorEq,subN,subS,subC,ne_eq]) <;> first | omega | (simp only [hc]; done)))
  · have h1:=hc.1
    exact leaf_ok (p_FMake_ft_1 x0 x1) rfl (by (repeat' apply met_cons) <;> first | exact met_nil | with_reducible rfl | assumption | ((try simp only [NQ,mulC,lowC,not_false_eq_true,and_true,true_and,and_self,reduceCtorEq,subN,subS,subC,ne_eq]) <;> first | omega | (simp only [hc]; done)))
  · have h1:=hc.1
    exact leaf_ok (p_FMake_tf_2 x0 x1) rfl (by (repeat' apply met_cons) <;> first | exact met_nil | with_reducible rfl | assumption | ((try simp only [NQ,mulC,lowC,not_false_eq_true,and_true,true_and,and_self,reduceCtorEq,subN,subS,subC,ne_eq]) <;> first | omega | (simp only [hc]; done)))
  · have h1:=hc.1
    exact leaf_ok (p_FMake_tt_1 x0 x1) rfl (by (repeat' apply met_cons) <;> first | exact met_nil | with_reducible rfl | assumption | ((try simp only [NQ,mulC,lowC,not_false_eq_true,and_true,true_and,and_self,reduceCtorEq,subN,subS,subC,ne_eq]) <;> first | omega | (simp only [hc]; done)))
theorem al_FMake : ∀ g,memN g [183,67,150,153,149,194,196,130,128,27,34,38,44,96,37,197,195,42,129,179,41,39,35,33,36,215,95,91,32,85,198,99,97,155] = true → Ok Tryz.prog E0 g:=mem_step al_FCmp ok_FMake
theorem all_ok : ∀ f,Ok Tryz.prog E0 f:=by
  intro f
  cases h : memN f [183,67,150,153,149,194,196,130,128,27,34,38,44,96,37,197,195,42,129,179,41,39,35,33,36,215,95,91,32,85,198,99,97,155] with
  | true => exact al_FMake f h
  | false =>
    intro l v hv
    have e : tblT = tblOf [(183,(eFMake ok)),(67,eFCmp),(150,eFMul),(153,eFSub),(149,eFAdd),(194,(eJoin 195 197)),(196,eLow),(130,eBy),(128,eEntire),(27,eFSign),(34,eDen),(38,eNum),(44,eOf),(96,eOne),(37,eMul),(197,eSub),(195,eAdd),(42,eNeg),(129,eCmp),(179,eAbs),(41,eSign),(39,eMake),(35,eGcd),(33,(eNatDiv ok)),(36,eNatMul),(215,(eNatSub ok)),(95,eNatAdd),(91,eNatCmp),(32,eNatOf),(85,eBits),(198,eSub64),(99,eAdd64),(97,eMul64),(155,eLen64)]:=rfl
    have hn : E0 f l = none:=by
      unfold E0
      rw [e,tblOf_none (l:=[(183,(eFMake ok)),(67,eFCmp),(150,eFMul),(153,eFSub),(149,eFAdd),(194,(eJoin 195 197)),(196,eLow),(130,eBy),(128,eEntire),(27,eFSign),(34,eDen),(38,eNum),(44,eOf),(96,eOne),(37,eMul),(197,eSub),(195,eAdd),(42,eNeg),(129,eCmp),(179,eAbs),(41,eSign),(39,eMake),(35,eGcd),(33,(eNatDiv ok)),(36,eNatMul),(215,(eNatSub ok)),(95,eNatAdd),(91,eNatCmp),(32,eNatOf),(85,eBits),(198,eSub64),(99,eAdd64),(97,eMul64),(155,eLen64)]) h]
      rfl
    rw [hn] at hv; cases hv
end Go.Proofs.YtcgnkejpcjcaoaaGreat.num
