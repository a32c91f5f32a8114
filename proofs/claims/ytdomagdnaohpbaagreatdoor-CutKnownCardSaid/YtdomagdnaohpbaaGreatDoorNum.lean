/- THE FUNCTIONS ON SMALL NUMBERS, in this program: what they answer. Printed by a program (wip/num/gen_num.py). -/
import Derived.Test.YtdomagdnaohpbaaGreatDoorEvNum
import Derived.Test.YtdomagdnaohpbaaGreatDoorProg
import Derived.Test.YtdomagdnaohpbaaGreatDoorLen64
import Derived.Test.YtdomagdnaohpbaaGreatDoorMul64
set_option linter.unusedSimpArgs false
set_option linter.unusedVariables false
set_option maxRecDepth 100000
namespace Go.Proofs.YtdomagdnaohpbaaGreatDoor.num
noncomputable section
open Go.Abs
theorem mixed:Tryz.prog.follows .mixedOrders=true:=by kernel_rfl
def tblT:T (List AV→Q):=
  T.set 103 (KB ok) <|
  T.set 171 (Xu ok) <|
  T.set 16 Kz <|
  T.set 108 Ky <|
  T.set 110 Kw <|
  T.set 109 Kv <|
  T.set 163 (Kx 164 165) <|
  T.set 104 Ku <|
  T.set 25 zdh <|
  T.set 66 eBy <|
  T.set 64 jJ <|
  T.set 60 Xt <|
  T.set 33 zdk <|
  T.set 36 zdj <|
  T.set 40 eOf <|
  T.set 22 zdi <|
  T.set 35 zdg <|
  T.set 165 zdf <|
  T.set 164 zde <|
  T.set 39 zdd <|
  T.set 65 zdc <|
  T.set 83 zdb <|
  T.set 38 Kt <|
  T.set 26 Ks <|
  T.set 34 zda <|
  T.set 32 (jI ok) <|
  T.set 23 jH <|
  T.set 85 (jG ok) <|
  T.set 89 jF <|
  T.set 86 jE <|
  T.set 24 Xs <|
  T.set 82 Kr <|
  T.set 135 Xr <|
  T.set 79 Xq <|
  T.set 78 ZH <|
  T.set 134 ZG <|
  T.nil
def E0:Es:=fun f l=>elimO (T.get tblT f) none fun g=>g l
theorem nadd (a b:Nat):Nat.add a b=a + b:=rfl
theorem nsub (a b:Nat):Nat.sub a b=a - b:=rfl
theorem nmul (a b:Nat):Nat.mul a b=a * b:=rfl
theorem ndiv (a b:Nat):Nat.div a b=a / b:=rfl
theorem nmod (a b:Nat):Nat.mod a b=a % b:=rfl
theorem KK:notB true=false:=rfl
theorem KM:notB false=true:=rfl
theorem KO (x:Bool):andB true x=x:=by cases x <;> rfl
theorem KP (x:Bool):andB false x=false:=by cases x <;> rfl
theorem ze4 (a:Nat):Nat.succ a=a + 1:=rfl
theorem zdt {x:Nat} (h:x≠0):yK true x=.negSucc 0:=by unfold yK; rw [zQ.2 h]; rfl
theorem zdu {x:Nat} (h:x≠0):yK false x=.ofNat 1:=by unfold yK; rw [zQ.2 h]; rfl
theorem ZP (e:Nat):eqI (Int.ofNat (yu e)) 0=Nat.beq e 0:=by
  cases h:Nat.beq e 0 with
  | true=>rw [Qf,xN]; exact Abs.beq_true.1 h
  | false=>rw [Qg]; intro e0; exact zQ.1 h (xN.1 e0)
theorem XF (s t:Bool) {x y:Nat} (hs:xC s t=true) (h:x < y):yw s x t y=y - x:=by unfold yw; rw [hs,qz.2 h]; rfl
theorem XG (s t:Bool) {x y:Nat} (hs:xC s t=true) (h : ¬ x < y):yw s x t y=x - y:=by unfold yw; rw [hs,v3.2 (by omega)]; rfl
theorem zbF (s t:Bool) {x y:Nat} (hs:xC s t=true) (h:x < y):xe s x t y=mk t (y - x):=by unfold xe; rw [XF s t hs h,hs,qz.2 h]; rfl
theorem zbG (s t:Bool) {x y:Nat} (hs:xC s t=true) (h : ¬ x < y):xe s x t y=mk s (x - y):=by unfold xe; rw [XG s t hs h,hs,v3.2 (by omega)]; rfl
theorem zbH (s t:Bool) {x y:Nat} (hs:xC s t=true) (h:x < y):yP s x t y=andB (small x) (andB (small y) (small (y - x))):=by unfold yP; rw [XF s t hs h]
theorem zbI (s t:Bool) {x y:Nat} (hs:xC s t=true) (h : ¬ x < y):yP s x t y=andB (small x) (andB (small y) (small (x - y))):=by unfold yP; rw [XG s t hs h]
theorem q0:type_of% @wv:=@wv
theorem q1:type_of% @zq:=@zq
theorem q2:type_of% @zbk:=@zbk
theorem q3:type_of% @Abs.beq_true:=@Abs.beq_true
theorem q4:type_of% @zQ:=@zQ
theorem q5:type_of% @zl:=@zl
theorem q6:type_of% @ZI:=@ZI
theorem q7:type_of% @Qe:=@Qe
theorem q8:type_of% @zbl:=@zbl
theorem q9:type_of% @zbm:=@zbm
theorem q10:type_of% @qz:=@qz
theorem q11:type_of% @v3:=@v3
theorem q12:type_of% @ze0:=@ze0
theorem q13:type_of% @ze1:=@ze1
theorem q14:type_of% @Qf:=@Qf
theorem q15:type_of% @Qg:=@Qg
theorem q16:type_of% @zbn:=@zbn
theorem q17:type_of% @zbo:=@zbo
theorem q18:type_of% @YC:=@YC
theorem q19:type_of% @ze2:=@ze2
theorem q20:type_of% @kX:=@kX
theorem q21:type_of% @Xv:=@Xv
theorem q22:type_of% @zbp:=@zbp
theorem q23:type_of% @zbq:=@zbq
theorem q24:type_of% @Qh:=@Qh
theorem q25:type_of% @zbr:=@zbr
theorem q26:type_of% @xN:=@xN
theorem q27:type_of% @YD:=@YD
theorem q28:type_of% @uT:=@uT
theorem q29:type_of% @ki:=@ki
theorem q30:type_of% @vz:=@vz
theorem q31:type_of% @wR:=@wR
theorem q34:type_of% @nadd:=@nadd
theorem q35:type_of% @nsub:=@nsub
theorem q36:type_of% @nmul:=@nmul
theorem q37:type_of% @ndiv:=@ndiv
theorem q38:type_of% @nmod:=@nmod
theorem q39:type_of% @ze4:=@ze4
theorem q40:type_of% @uU:=@uU
theorem q41:type_of% @qA:=@qA
theorem q42:type_of% @KK:=@KK
theorem q43:type_of% @KM:=@KM
theorem q44:type_of% @KO:=@KO
theorem q45:type_of% @KP:=@KP
theorem q46:type_of% @Nat.mul_one:=@Nat.mul_one
theorem q55:type_of% @ifB_true:=@ifB_true
theorem q56:type_of% @zj:=@zj
theorem NQ:(type_of% @q0)∧(type_of% @q1)∧(type_of% @q2)∧(type_of% @q3)∧(type_of% @q4)∧(type_of% @q5)∧(type_of% @q6)∧(type_of% @q7)∧(type_of% @q8)∧(type_of% @q9)∧(type_of% @q10)∧(type_of% @q11)∧(type_of% @q12)∧(type_of% @q13)∧(type_of% @q14)∧(type_of% @q15)∧(type_of% @q16)∧(type_of% @q17)∧(type_of% @q18)∧(type_of% @q19)∧(type_of% @q20)∧(type_of% @q21)∧(type_of% @q22)∧(type_of% @q23)∧(type_of% @q24)∧(type_of% @q25)∧(type_of% @q26)∧(type_of% @q27)∧(type_of% @q28)∧(type_of% @q29)∧(type_of% @q30)∧(type_of% @q31)∧(type_of% @q34)∧(type_of% @q35)∧(type_of% @q36)∧(type_of% @q37)∧(type_of% @q38)∧(type_of% @q39)∧(type_of% @q40)∧(type_of% @q41)∧(type_of% @q42)∧(type_of% @q43)∧(type_of% @q44)∧(type_of% @q45)∧(type_of% @q46)∧(type_of% @q55)∧(type_of% @q56):=⟨@q0,@q1,@q2,@q3,@q4,@q5,@q6,@q7,@q8,@q9,@q10,@q11,@q12,@q13,@q14,@q15,@q16,@q17,@q18,@q19,@q20,@q21,@q22,@q23,@q24,@q25,@q26,@q27,@q28,@q29,@q30,@q31,@q34,@q35,@q36,@q37,@q38,@q39,@q40,@q41,@q42,@q43,@q44,@q45,@q46,@q55,@q56⟩
theorem v4 {s t:Bool} {x y:Nat} (h:yP s x t y=true):x < 18446744073709551616∧y < 18446744073709551616:=by
  obtain ⟨h1,h⟩:=zl.1 h
  exact ⟨wv.1 h1,wv.1 (zl.1 h).1⟩
theorem JT (args:Array Value) (w:World):(callFunc 79 args).run Tryz.prog w=((add64Entry args).run Tryz.prog w).andThen fun v w'=>.ok (.value v) w':=
  run_callFunc_extern Tryz.func79 (by kernel_rfl) (by kernel_rfl) (by kernel_rfl) (by kernel_rfl) args w
theorem JU (args:Array Value) (w:World):(callFunc 135 args).run Tryz.prog w=((qw args).run Tryz.prog w).andThen fun v w'=>.ok (.value v) w':=
  run_callFunc_extern Tryz.func135 (by kernel_rfl) (by kernel_rfl) (by kernel_rfl) (by kernel_rfl) args w
theorem Qq (f:Nat):∀ x,x < 2 ^ f→Lib.bitLenAux f x=yu x:=by
  induction f with
  |
    zero =>
    intro x hx
    have:x=0:=by simpa using hx
    subst this; rfl
  |
    succ f ih =>
    intro x hx
    show (if x=0 then 0 else 1 + Lib.bitLenAux f (x / 2))=_
    by_cases h:x=0
    · subst h; rfl
    ·
      rw [if_neg h,ih _ (by rw [Nat.pow_succ] at hx; omega)]
      unfold yu
      rw [zQ.2 h,zj]
      by_cases h1:x=1
      · subst h1; rfl
      · rw [zQ.2 (by omega),zj,Nat.log2_def x,if_pos (by omega)]; omega
theorem zbJ:Ok Tryz.prog E0 134:=by
  obtain ⟨p,hp⟩:=Option.isSome_iff_exists.1 (show (funcOf (cxOf Tryz.prog E0) 134).isSome=true by kernel_rfl)
  refine zbu (C:=cxOf Tryz.prog E0) rfl hp (fun l=>show E0 134 l=ZG l by kernel_rfl) fun x w hx => ?_
  have h:=Tryz.bits_Len64 (x:Int) w (by omega) (by omega)
  rw [Int.toNat_natCast,show Lib.bitLen x=yu x from Qq 64 x hx] at h
  exact h
theorem zbK:Ok Tryz.prog E0 78:=by
  obtain ⟨p,hp⟩:=Option.isSome_iff_exists.1 (show (funcOf (cxOf Tryz.prog E0) 78).isSome=true by kernel_rfl)
  exact zbv (C:=cxOf Tryz.prog E0) rfl hp (fun l=>show E0 78 l=ZH l by kernel_rfl) fun x y hx hy w=>Qp x y hx hy w
theorem zbL:Ok Tryz.prog E0 79:=
  Vp (g:=add64) (fun l=>show E0 79 l=Xq l by kernel_rfl) fun X j w l v args h hr=>za6 (C:=cxOf Tryz.prog E0) JT h hr
theorem zbM:Ok Tryz.prog E0 135:=
  Vp (g:=sub64) (fun l=>show E0 135 l=Xr l by kernel_rfl) fun X j w l v args h hr=>za7 (C:=cxOf Tryz.prog E0) JU h hr
theorem zdv:∀ g,memN g []=true→Ok Tryz.prog E0 g:=fun g h=>by cases h
theorem KQ:∀ g,memN g [135,79,78,134]=true→Ok Tryz.prog E0 g:=zE (zE (zE (zE zdv zbJ) zbK) zbL) zbM
theorem zp {C:Cx} {E:Es} {f:FuncId} {l:List AV} {v v':AV} {n:Nat} {ds ds':List Dc} {ob:Ob} (h:symCall C E n f l ds=some (.value v' (some []),ds',ob)) (hv:v=v')
    (hm:Met ob:=by (repeat' apply met_cons) <;> first | exact met_nil | with_reducible rfl | assumption | (simp only [NQ,zA,zL,not_false_eq_true,and_true,true_and,and_self,reduceCtorEq,zP,zS,zT,ne_eq]; omega) | (simp only [NQ,zA,zL,not_false_eq_true,and_true,true_and,and_self,reduceCtorEq,zP,zS,zT,ne_eq,hc]; done)) :
    ∃ n ds ds' ob,symCall C E n f l ds=some (.value v (some []),ds',ob)∧Met ob:=yz h hv hm
abbrev zbN:List Nat:=[135,79,78,134]
abbrev KR:List Nat:=82::zbN
def zf7:Es:=only (fun g=>memN g zbN) E0
theorem zf8 (l:List AV):E0 82 l=Kr l:=by kernel_rfl
abbrev No (a:Bool×Bool)(l:Ob):Ob:=a::l
abbrev NC (S:Es)(f:Nat)(a:List AV)(d:List Dc):=symCall (cxOf Tryz.prog S) S 100 f a d
abbrev NR (v:AV)(o:Ob):Option (CR×List Dc×Ob):=some (CR.value v (some []),[],o)
abbrev N0 (x0 x1:Nat)(l:Ob):Ob:=No (small (x0.mul x1),true)<|No (andB (small x0) (andB (small x1) (small (x0.mul x1))),true)<|l
abbrev N1 (x0 x1:Nat)(l:Ob):Ob:=No (small (x0.gcd x1),true)<|No (andB (small x0) (small x1),true)<|l
abbrev N2 (x1:Nat)(l:Ob):Ob:=No (eqI (Int.ofNat (yu x1)) 1,false)<|No (small x1,true)<|l
abbrev N3 (x0 x1:Nat)(l:Ob):Ob:=No (eqI (Int.ofNat x1) 0,false)<|No (eqI (Int.ofNat x0) 0,false)<|l
abbrev N4 (x0 x1:Nat)(l:Ob):Ob:=No (andB (pos (x0.gcd x1)) (andB (small x1) (small (x0.gcd x1))),true)<|No (small (x0.div (x0.gcd x1)),true)<|l
abbrev N5 (x0 x1:Nat)(l:Ob):Ob:=No (ltI (xY x0 x1) 0,false)<|No (true,true)<|l
abbrev N6 (x0 x1:Nat)(l:Ob):Ob:=No (ltI (xY x0 x1) 0,true)<|No (true,true)<|l
abbrev N7 (x0 x1:Nat)(l:Ob):Ob:=No (andB (Nat.ble 1 (x1.div (x0.gcd x1))) (small (x1.div (x0.gcd x1))),true)<|No (true,true)<|l
abbrev N8 (x0 x1:Nat)(l:Ob):Ob:=No (andB (pos (x0.gcd x1)) (andB (small x0) (small (x0.gcd x1))),true)<|No (true,true)<|l
theorem JV (x0:Nat):NC zf7 82 [zn x0] [.c]=NR (zw (Int.ofNat (yu x0))) (No (small x0,true)<|[]):=by kernel_rfl
theorem zdw:Ok Tryz.prog E0 82:=zM (S:=fun g=>memN g zbN) mixed KQ rfl fun l v h=>by
  rw [zf8] at h
  replace h:=zX h; obtain ⟨a,rfl,h⟩:=h
  replace h:=yc h; obtain ⟨x0,rfl,h⟩:=h
  obtain ⟨rfl,hc⟩:=zC h
  try simp only [NQ,zA,zL,not_false_eq_true,and_true,true_and,and_self,reduceCtorEq,zP,zS,zT,ne_eq] at hc
  refine ⟨rfl,rfl,?_⟩
  exact zp (JV x0) rfl
theorem KS:∀ g,memN g KR=true→Ok Tryz.prog E0 g:=zE KQ zdw
abbrev XH:List Nat:=24::KR
def zdx:Es:=only (fun g=>memN g KR) E0
theorem zdy (l:List AV):E0 24 l=Xs l:=by kernel_rfl
theorem Qr (x0:Nat):NC zdx 24 [zd x0] []=NR (.agg [zd x0,zb]) ([]):=by kernel_rfl
theorem zbO:Ok Tryz.prog E0 24:=zM (S:=fun g=>memN g KR) mixed KS rfl fun l v h=>by
  rw [zdy] at h
  replace h:=zX h; obtain ⟨a,rfl,h⟩:=h
  replace h:=uS h; obtain ⟨x0,rfl,h⟩:=h
  obtain ⟨rfl,hc⟩:=zC h
  refine ⟨rfl,rfl,?_⟩
  exact zp (Qr x0) rfl
theorem VC:∀ g,memN g XH=true→Ok Tryz.prog E0 g:=zE KS zbO
abbrev jK:List Nat:=86::XH
def vO:Es:=only (fun g=>memN g XH) E0
theorem zbP (l:List AV):E0 86 l=jE l:=by kernel_rfl
theorem VD (x0 x1:Nat):NC vO 86 [zn x0,zn x1] [.c,.t,.c,.t,.c,.c]=NR (zw (Int.ofNat 0)) (No (eqI (Int.ofNat x1) 0,true)<|No (eqI (Int.ofNat x0) 0,true)<|[]):=by kernel_rfl
theorem VE (x0 x1:Nat):NC vO 86 [zn x0,zn x1] [.c,.t,.c,.f,.c,.c]=NR (zw (-1)) (No (eqI (Int.ofNat x1) 0,false)<|No (eqI (Int.ofNat x0) 0,true)<|[]):=by kernel_rfl
theorem VF (x0 x1:Nat):NC vO 86 [zn x0,zn x1] [.c,.f,.c,.t,.c,.c]=NR (zw (Int.ofNat 1)) (No (eqI (Int.ofNat x1) 0,true)<|No (eqI (Int.ofNat x0) 0,false)<|[]):=by kernel_rfl
theorem VG (x0 x1:Nat):NC vO 86 [zn x0,zn x1] [.c,.f,.c,.f,.c,.c,.t]=NR (zw (-1)) (No (ltI (Int.ofNat x0) (Int.ofNat x1),true)<|N3 x0 x1<|[]):=by kernel_rfl
theorem VH (x0 x1:Nat):NC vO 86 [zn x0,zn x1] [.c,.f,.c,.f,.c,.c,.f,.t]=NR (zw (Int.ofNat 1)) (No (ltI (Int.ofNat x1) (Int.ofNat x0),true)<|No (ltI (Int.ofNat x0) (Int.ofNat x1),false)<|N3 x0 x1<|[]):=by kernel_rfl
theorem VI (x0 x1:Nat):NC vO 86 [zn x0,zn x1] [.c,.f,.c,.f,.c,.c,.f,.f,.c]=NR (zw (Int.ofNat 0)) (No (ltI (Int.ofNat x1) (Int.ofNat x0),false)<|No (ltI (Int.ofNat x0) (Int.ofNat x1),false)<|N3 x0 x1<|[]):=by kernel_rfl
theorem JW:Ok Tryz.prog E0 86:=zM (S:=fun g=>memN g XH) mixed VC rfl fun l v h=>by
  rw [zbP] at h
  replace h:=zF h; obtain ⟨a,b,rfl,h⟩:=h
  replace h:=yc h; obtain ⟨x0,rfl,h⟩:=h
  replace h:=yc h; obtain ⟨x1,rfl,h⟩:=h
  obtain ⟨rfl,hc⟩:=zC h
  refine ⟨rfl,rfl,?_⟩
  by_cases h0:x0=0
  ·
    by_cases h1:x1=0
    · exact zp (VD x0 x1) (uE (Xy (by omega)))
    · exact zp (VE x0 x1) (uE (Xw (by omega)))
  ·
    by_cases h1:x1=0
    · exact zp (VF x0 x1) (uE (Xx (by omega)))
    ·
      by_cases h2:x0 < x1
      · exact zp (VG x0 x1) (uE (Xw (by omega)))
      ·
        by_cases h3:x1 < x0
        · exact zp (VH x0 x1) (uE (Xx (by omega)))
        · exact zp (VI x0 x1) (uE (Xy (by omega)))
theorem YK:∀ g,memN g jK=true→Ok Tryz.prog E0 g:=zE VC JW
abbrev jL:List Nat:=89::jK
def VJ:Es:=only (fun g=>memN g jK) E0
theorem zbQ (l:List AV):E0 89 l=jF l:=by kernel_rfl
theorem VK (x0 x1:Nat):NC VJ 89 [zn x0,zn x1] [.c,.c,.c,.c,.c,.t]=NR (.agg [zd (((x0.add x1).add 0).mod 18446744073709551616),zb]) (No (eqI (Int.ofNat (((x0.add x1).add 0).div 18446744073709551616)) 0,true)<|No (true,true)<|[]):=by kernel_rfl
theorem ze5 (x0 x1:Nat):NC VJ 89 [zn x0,zn x1] [.c,.c,.c,.c,.c,.f]=NR (.agg [zd 0,AV.vs { o:=O9.mk (some (zd (((x0.add x1).add 0).mod 18446744073709551616))) { o:=O9.mk (some (zd (((x0.add x1).add 0).div 18446744073709551616))) T.nil T.nil T.nil T.nil T.nil T.nil T.nil T.nil } T.nil T.nil T.nil T.nil T.nil T.nil T.nil } 0 2 1 2 true]) (No (eqI (Int.ofNat (((x0.add x1).add 0).div 18446744073709551616)) 0,false)<|No (true,true)<|[]):=by kernel_rfl
theorem JX:Ok Tryz.prog E0 89:=zM (S:=fun g=>memN g jK) mixed YK rfl fun l v h=>by
  rw [zbQ] at h
  replace h:=zF h; obtain ⟨a,b,rfl,h⟩:=h
  replace h:=yc h; obtain ⟨x0,rfl,h⟩:=h
  replace h:=yc h; obtain ⟨x1,rfl,h⟩:=h
  obtain ⟨rfl,hc⟩:=zC h
  try simp only [NQ,zA,zL,not_false_eq_true,and_true,true_and,and_self,reduceCtorEq,zP,zS,zT,ne_eq] at hc
  refine ⟨rfl,rfl,?_⟩
  exact zp (VK x0 x1) (Xz (by simp only [NQ,zA,zL,not_false_eq_true,and_true,true_and,and_self,reduceCtorEq,zP,zS,zT,ne_eq]; omega))
theorem YL:∀ g,memN g jL=true→Ok Tryz.prog E0 g:=zE YK JX
abbrev jM:List Nat:=85::jL
def VL:Es:=only (fun g=>memN g jL) E0
theorem zbR (l:List AV):E0 85 l=(jG ok) l:=by kernel_rfl
theorem ze6 (x0 x1:Nat):NC VL 85 [zn x0,zn x1] [.t]=NR (AV.tuple [.agg [zd 0,zb],zw (Int.ofNat 10)]) (N6 x0 x1<|[]):=by kernel_rfl
theorem VM (x0 x1:Nat):NC VL 85 [zn x0,zn x1] [.f,.c]=NR (AV.tuple [.agg [zd (x0.sub x1),zb],zw (Int.ofNat 0)]) (No (x1.ble x0,true)<|No (small x0,true)<|N5 x0 x1<|[]):=by kernel_rfl
theorem JY:Ok Tryz.prog E0 85:=zM (S:=fun g=>memN g jL) mixed YL rfl fun l v h=>by
  rw [zbR] at h
  replace h:=zF h; obtain ⟨a,b,rfl,h⟩:=h
  replace h:=yc h; obtain ⟨x0,rfl,h⟩:=h
  replace h:=yc h; obtain ⟨x1,rfl,h⟩:=h
  obtain ⟨rfl,hc⟩:=zC h
  try simp only [NQ,zA,zL,not_false_eq_true,and_true,true_and,and_self,reduceCtorEq,zP,zS,zT,ne_eq] at hc
  refine ⟨rfl,rfl,?_⟩
  exact zp (VM x0 x1) rfl
theorem YM:∀ g,memN g jM=true→Ok Tryz.prog E0 g:=zE YL JY
abbrev jO:List Nat:=23::jM
def VN:Es:=only (fun g=>memN g jM) E0
theorem zbS (l:List AV):E0 23 l=jH l:=by kernel_rfl
theorem VO (x0 x1:Nat):NC VN 23 [zn x0,zn x1] [.c,.c,.c,.c,.c,.t]=NR (.agg [zd ((x0.mul x1).mod 18446744073709551616),zb]) (No (eqI (Int.ofNat ((x0.mul x1).div 18446744073709551616)) 0,true)<|No (andB (small x0) (small x1),true)<|[]):=by kernel_rfl
theorem ze7 (x0 x1:Nat):NC VN 23 [zn x0,zn x1] [.c,.c,.c,.c,.c,.f]=NR (.agg [zd 0,AV.vs { o:=O9.mk (some (zd ((x0.mul x1).mod 18446744073709551616))) { o:=O9.mk (some (zd ((x0.mul x1).div 18446744073709551616))) T.nil T.nil T.nil T.nil T.nil T.nil T.nil T.nil } T.nil T.nil T.nil T.nil T.nil T.nil T.nil } 0 2 1 2 true]) (No (eqI (Int.ofNat ((x0.mul x1).div 18446744073709551616)) 0,false)<|No (andB (small x0) (small x1),true)<|[]):=by kernel_rfl
theorem JZ:Ok Tryz.prog E0 23:=zM (S:=fun g=>memN g jM) mixed YM rfl fun l v h=>by
  rw [zbS] at h
  replace h:=zF h; obtain ⟨a,b,rfl,h⟩:=h
  replace h:=yc h; obtain ⟨x0,rfl,h⟩:=h
  replace h:=yc h; obtain ⟨x1,rfl,h⟩:=h
  obtain ⟨rfl,hc⟩:=zC h
  try simp only [NQ,zA,zL,not_false_eq_true,and_true,true_and,and_self,reduceCtorEq,zP,zS,zT,ne_eq] at hc
  refine ⟨rfl,rfl,?_⟩
  exact zp (VO x0 x1) (Xz (by simp only [NQ,zA,zL,not_false_eq_true,and_true,true_and,and_self,reduceCtorEq,zP,zS,zT,ne_eq]; omega))
theorem YN:∀ g,memN g jO=true→Ok Tryz.prog E0 g:=zE YM JZ
abbrev XI:List Nat:=32::jO
def ZQ:Es:=only (fun g=>memN g jO) E0
theorem zbT (l:List AV):E0 32 l=(jI ok) l:=by kernel_rfl
theorem ze8 (x0 x1:Nat):NC ZQ 32 [zn x0,zn x1] [.t]=NR (AV.tuple [.agg [zd 0,zb],.agg [zd 0,zb],zw (Int.ofNat 11)]) (No (eqI (Int.ofNat (yu x1)) 0,true)<|No (small x1,true)<|[]):=by kernel_rfl
theorem VP (x0 x1:Nat):NC ZQ 32 [zn x0,zn x1] [.f,.t]=NR (AV.tuple [.agg [zd 0,zb],.agg [zd x0,zb],zw (Int.ofNat 0)]) (N6 x0 x1<|No (eqI (Int.ofNat (yu x1)) 0,false)<|No (small x1,true)<|[]):=by kernel_rfl
theorem VQ (x0 x1:Nat):NC ZQ 32 [zn x0,zn x1] [.f,.f,.c]=NR (AV.tuple [.agg [zd (x0.div x1),zb],.agg [zd (x0.mod x1),zb],zw (Int.ofNat 0)]) (No (x1.beq 0,false)<|No (x1.beq 0,false)<|No (small x0,true)<|N5 x0 x1<|No (eqI (Int.ofNat (yu x1)) 0,false)<|No (small x1,true)<|[]):=by kernel_rfl
theorem J3:Ok Tryz.prog E0 32:=zM (S:=fun g=>memN g jO) mixed YN rfl fun l v h=>by
  rw [zbT] at h
  replace h:=zF h; obtain ⟨a,b,rfl,h⟩:=h
  replace h:=yc h; obtain ⟨x0,rfl,h⟩:=h
  replace h:=yc h; obtain ⟨x1,rfl,h⟩:=h
  obtain ⟨rfl,hc⟩:=zC h
  try simp only [NQ,zA,zL,not_false_eq_true,and_true,true_and,and_self,reduceCtorEq,zP,zS,zT,ne_eq] at hc
  refine ⟨rfl,rfl,?_⟩
  by_cases h:x0 < x1
  · exact zp (VP x0 x1) (zbt (Xz (Nat.div_eq_of_lt h)) (Xz (Nat.mod_eq_of_lt h)) rfl)
  · exact zp (VQ x0 x1) rfl
theorem YO:∀ g,memN g XI=true→Ok Tryz.prog E0 g:=zE YN J3
abbrev zdz:List Nat:=34::XI
def xd:Es:=only (fun g=>memN g XI) E0
theorem e_Gcd (l:List AV):E0 34 l=zda l:=by kernel_rfl
def cxG:Cx:=cxOf Tryz.prog xd
def sub:Code→List Nat→Code
  | .seq a _,0::l=>sub a l
  | .seq _ b,1::l=>sub b l
  | .cond _ a _,0::l=>sub a l
  | .cond _ _ b,1::l=>sub b l
  | .block _ a,0::l=>sub a l
  | .loop a,0::l=>sub a l
  | .scope a,0::l=>sub a l
  | c,[]=>c
  | _,_=>.skip
def vu:Code:=elimO (funcOf cxG 34) Code.skip (fun p=>p.2)
def G0:Code:=sub vu [0]
def G1:Code:=sub vu [1,0,0,0,0]
def G2:Code:=sub vu [1,0,0,0,1,0,0,0]
def G3:Code:=sub vu [1,0,0,0,1,0,0,1,0,0]
def G4:Code:=sub vu [1,0,0,0,1,0,0,1,0,1,0,0,0]
def G6:Code:=sub vu [1,0,0,0,1,0,0,1,0,1,1]
def G7:Code:=sub vu [1,0,0,0,1,0,0,1,1]
def G8:Code:=sub vu [1,0,0,0,1,0,1]
def G9:Code:=sub vu [1,1]
theorem zbU:vu=.seq G0 (.seq (.block 0 (.loop (.seq G1 (.block 1 (.seq (.seq G2 (.cond (.tmp 20) (.seq G3 (.seq (.block 2 (.loop G4)) G6)) G7)) G8))))) G9):=by kernel_rfl
def zdA (r:Option DO):S:=Option.rec ⟨T.nil,T.nil,0,0⟩ (fun r=>Out.rec (motive:=fun _=>S) (fun s=>s) (fun _ s=>s) (fun s=>s) (fun _=>⟨T.nil,T.nil,0,0⟩) r.1) r
def sG (x y:Nat):S:=⟨zu 0 T.nil [zn x,zn y],T.nil,0,far⟩
def sA (x y:Nat):S:=zdA (yj cxG xd 20 G0 (sG x y) [] [])
def sB (x y:Nat):S:=zdA (yj cxG xd 20 G1 (sA x y) [.t] [])
def sC (x y:Nat):S:=zdA (yj cxG xd 20 G2 (sB x y) [.c,.c,.c,.c,.c,.c] [])
def sD (x y:Nat):S:=zdA (yj cxG xd 20 G3 (sC x y) [] [])
def sL (X Y x y:Nat) (a b c d e f:AV) (n:Nat):S:=
  ⟨T.set 5 (zd x) (T.set 6 (zd y) (T.set 25 a (T.set 26 b (T.set 27 c (T.set 28 d (T.set 29 e (T.set 30 f (S.env (sD X Y))))))))),S.H (sD X Y),n,S.low (sD X Y)⟩
theorem g0 (x y m:Nat):yj cxG xd (m + 5) G0 (sG x y) [] []=some (.nrm (sA x y),[],[]):=by kernel_rfl
theorem g1 (x y m:Nat):yj cxG xd (m + 5) G1 (sA x y) [.t] []=some (.nrm (sB x y),[],[(ltI 0 (Int.ofNat (yu y)),true),(small y,true)]):=by kernel_rfl
theorem g2 (x y m:Nat):yj cxG xd (m + 5) G2 (sB x y) [.c,.c,.c,.c] []=some (.nrm (sC x y),[],[]):=by kernel_rfl
theorem g2c (x y:Nat):zf (opd (S.env (sC x y)) (.tmp 20)) z9=some true:=by kernel_rfl
theorem g3 (x y m:Nat):yj cxG xd (m + 5) G3 (sC x y) [] []=some (.nrm (sD x y),[],[]):=by kernel_rfl
theorem g4s (x y m:Nat):yj cxG xd (m + 5) G4 (sD x y) [.t] []=some (.nrm (sL x y y (Nat.mod x y) (zd y) (ze (ltI 0 (Int.ofNat y))) (zd y) (zd x) (zd y) (zd (Nat.mod x y)) (Nat.add (Nat.add (S.nx (sD x y)) 2) 6)),[],[(Nat.beq y 0,false),(ltI 0 (Int.ofNat y),true)]):=by kernel_rfl
theorem g4 (X Y x y:Nat) (a b c d e f:AV) (n m:Nat):yj cxG xd (m + 5) G4 (sL X Y x y a b c d e f n) [.t] []=some (.nrm (sL X Y y (Nat.mod x y) (zd y) (ze (ltI 0 (Int.ofNat y))) (zd y) (zd x) (zd y) (zd (Nat.mod x y)) (Nat.add (Nat.add n 2) 6)),[],[(Nat.beq y 0,false),(ltI 0 (Int.ofNat y),true)]):=by kernel_rfl
theorem g4e (X Y x y:Nat) (a b c d e f:AV) (n m:Nat):yj cxG xd (m + 5) G4 (sL X Y x y a b c d e f n) [.f] []=some (.ext 2 (sL X Y x y (zd y) (ze (ltI 0 (Int.ofNat y))) c d e f (Nat.add n 2)),[],[(ltI 0 (Int.ofNat y),false)]):=by kernel_rfl
def zdB (r:Out):CR:=elimO (funcOf cxG 34) (.bad 1) fun p=>zD (finPure cxG p.1) r
theorem g6 (X Y x y:Nat) (a b c d e f:AV) (n m:Nat):elimO (yj cxG xd (m + 5) G6 (sL X Y x y a b c d e f n) [] []) none (fun r=>Out.rec (motive:=fun _=>Option (CR×Ob)) (fun _=>none) (fun _ _=>none) (fun s=>some (zdB (.ret s),r.2.2)) (fun _=>none) r.1)=some (.value (zn x) (some []),[]):=by kernel_rfl
theorem zf9 (x:Nat):symCall cxG xd 100 34 [zn x,zn 0] [.c]=some (.value (zn x) (some []),[],[(true,true)]):=by kernel_rfl
section
variable {C:Cx} {n:Nat} {a b:Code} {s s':S} {id:Nat}
theorem wF (h:Go.Abs.run C n a s=.nrm s'):Go.Abs.run C (n + 1) (.seq a b) s=Go.Abs.run C n b s':=by
  have e:Go.Abs.run C (n + 1) (.seq a b) s=Out.rec (motive:=fun _=>Out) (fun s'=>Go.Abs.run C n b s') (fun i s'=>.ext i s') (fun s'=>.ret s') (fun w=>.bad w) (Go.Abs.run C n a s):=rfl
  rw [e,h]
theorem jr (h:Go.Abs.run C n a s=.ret s'):Go.Abs.run C (n + 1) (.seq a b) s=.ret s':=by
  have e:Go.Abs.run C (n + 1) (.seq a b) s=Out.rec (motive:=fun _=>Out) (fun s'=>Go.Abs.run C n b s') (fun i s'=>.ext i s') (fun s'=>.ret s') (fun w=>.bad w) (Go.Abs.run C n a s):=rfl
  rw [e,h]
theorem qf (h:Go.Abs.run C n a s=.ret s'):Go.Abs.run C (n + 1) (.block id a) s=.ret s':=by
  have e:Go.Abs.run C (n + 1) (.block id a) s=Out.rec (motive:=fun _=>Out) (fun s'=>.nrm s') (fun id' s'=>ifB (Nat.beq id' id) (.nrm s') (.ext id' s')) (fun s'=>.ret s') (fun w=>.bad w) (Go.Abs.run C n a s):=rfl
  rw [e,h]
theorem Yc (h:Go.Abs.run C n a s=.ext id s'):Go.Abs.run C (n + 1) (.block id a) s=.nrm s':=by
  have e:Go.Abs.run C (n + 1) (.block id a) s=Out.rec (motive:=fun _=>Out) (fun s'=>.nrm s') (fun id' s'=>ifB (Nat.beq id' id) (.nrm s') (.ext id' s')) (fun s'=>.ret s') (fun w=>.bad w) (Go.Abs.run C n a s):=rfl
  rw [e,h]
  show ifB (Nat.beq id id) _ _=_
  rw [Abs.beq_true.2 rfl]; rfl
theorem kp (h:Go.Abs.run C n a s=.nrm s'):Go.Abs.run C (n + 1) (.loop a) s=Go.Abs.run C n (.loop a) s':=by
  have e:Go.Abs.run C (n + 1) (.loop a) s=Out.rec (motive:=fun _=>Out) (fun s'=>Go.Abs.run C n (.loop a) s') (fun i s'=>.ext i s') (fun s'=>.ret s') (fun w=>.bad w) (Go.Abs.run C n a s):=rfl
  rw [e,h]
theorem XJ (h:Go.Abs.run C n a s=.ext id s'):Go.Abs.run C (n + 1) (.loop a) s=.ext id s':=by
  have e:Go.Abs.run C (n + 1) (.loop a) s=Out.rec (motive:=fun _=>Out) (fun s'=>Go.Abs.run C n (.loop a) s') (fun i s'=>.ext i s') (fun s'=>.ret s') (fun w=>.bad w) (Go.Abs.run C n a s):=rfl
  rw [e,h]
theorem XK (h:Go.Abs.run C n a s=.ret s'):Go.Abs.run C (n + 1) (.loop a) s=.ret s':=by
  have e:Go.Abs.run C (n + 1) (.loop a) s=Out.rec (motive:=fun _=>Out) (fun s'=>Go.Abs.run C n (.loop a) s') (fun i s'=>.ext i s') (fun s'=>.ret s') (fun w=>.bad w) (Go.Abs.run C n a s):=rfl
  rw [e,h]
theorem Qs {c:Operand} (h:zf (opd (S.env s) c) z9=some true):Go.Abs.run C (n + 1) (.cond c a b) s=Go.Abs.run C n a s:=by
  obtain ⟨env,H,nx,low⟩:=s
  have e:Go.Abs.run C (n + 1) (.cond c a b) ⟨env,H,nx,low⟩=elimO (zf (opd env c) z9) (.bad 101) (fun x=>Go.Abs.run C n (ifB x a b) ⟨env,H,nx,low⟩):=rfl
  rw [e,show zf (opd env c) z9=some true from h]; rfl
end
theorem zbV (X Y:Nat):∀ (y x:Nat) (a b c d e f:AV) (n m:Nat),y≤m→∃ a' b' c' d' e' f' n',Go.Abs.run cxG (m + 6) (.loop G4) (sL X Y x y a b c d e f n)=.ext 2 (sL X Y (Nat.gcd x y) 0 a' b' c' d' e' f' n'):=by
  intro y
  induction y using Nat.strongRecOn with
  |
    _ y ih =>
    intro x a b c d e f n m hm
    by_cases hy:y=0
    ·
      subst hy
      have h:=(we (C:=cxG) (E:=xd) rfl _ (g4e X Y x 0 a b c d e f n m) (met_cons (Xv.2 (Nat.le_refl 0)) met_nil)).2
      rw [Nat.gcd_zero_right]
      exact ⟨_,_,_,_,_,_,_,XJ h⟩
    ·
      have h:=(we (C:=cxG) (E:=xd) rfl _ (g4 X Y x y a b c d e f n m) (met_cons (zQ.2 hy) (met_cons (kX.2 (by omega)) met_nil))).2
      have hlt:=Nat.mod_lt x (show y > 0 by omega)
      obtain ⟨k,rfl⟩:∃ k,m=k + 1:=⟨m - 1,by omega⟩
      obtain ⟨a',b',c',d',e',f',n',h'⟩:=ih (Nat.mod x y) hlt y (zd y) (ze (ltI 0 (Int.ofNat y))) (zd y) (zd x) (zd y) (zd (Nat.mod x y)) (Nat.add (Nat.add n 2) 6) k (by show x % y≤k; omega)
      refine ⟨a',b',c',d',e',f',n',?_⟩
      rw [kp h,show k + 1 + 5=k + 6 by omega,h']
      have:Nat.gcd y (Nat.mod x y)=Nat.gcd x y:=by show Nat.gcd y (x % y)=_; rw [Nat.gcd_comm y,← Nat.gcd_rec y x,Nat.gcd_comm]
      rw [this]
theorem zbW (x y:Nat) (hx:x < 18446744073709551616) (hy:y < 18446744073709551616):∃ n rd,Go.Abs.call cxG n 34 [zn x,zn y]=.value (zn (Nat.gcd x y)) rd:=by
  by_cases h0:y=0
  ·
    subst h0
    rw [Nat.gcd_zero_right]
    exact ⟨100,_,qy (C:=cxG) (E:=xd) rfl (by kernel_rfl) (zf9 x) (met_cons rfl met_nil)⟩
  ·
    have r0:=fun m=>(we (C:=cxG) (E:=xd) rfl _ (g0 x y m) met_nil).2
    have r1:=fun m=>(we (C:=cxG) (E:=xd) rfl _ (g1 x y m) (met_cons (kX.2 (uT.2 h0)) (met_cons (wv.2 hy) met_nil))).2
    have r2:=fun m=>(we (C:=cxG) (E:=xd) rfl _ (g2 x y m) met_nil).2
    have r3:=fun m=>(we (C:=cxG) (E:=xd) rfl _ (g3 x y m) met_nil).2
    have r4:=fun m=>(we (C:=cxG) (E:=xd) rfl _ (g4s x y m) (met_cons (zQ.2 h0) (met_cons (kX.2 (by omega)) met_nil))).2
    obtain ⟨a,b,c,d,e,f,n,r5⟩:=zbV x y (Nat.mod x y) y (zd y) (ze (ltI 0 (Int.ofNat y))) (zd y) (zd x) (zd y) (zd (Nat.mod x y)) (Nat.add (Nat.add (S.nx (sD x y)) 2) 6) y (by have:=Nat.mod_lt x (show y > 0 by omega); show x % y≤y; omega)
    have hg:Nat.gcd y (Nat.mod x y)=Nat.gcd x y:=by show Nat.gcd y (x % y)=_; rw [Nat.gcd_comm y,← Nat.gcd_rec y x,Nat.gcd_comm]
    rw [hg] at r5
    have rl:Go.Abs.run cxG (y + 7) (.loop G4) (sD x y)=.ext 2 (sL x y (Nat.gcd x y) 0 a b c d e f n):=by
      rw [show y + 7=(y + 6) + 1 by omega,kp (r4 (y + 1)),r5]
    have r6:=g6 x y (Nat.gcd x y) 0 a b c d e f n (y + 3)
    cases hr:yj cxG xd (y + 3 + 5) G6 (sL x y (Nat.gcd x y) 0 a b c d e f n) [] [] with
    | none=>rw [hr] at r6; cases r6
    |
      some q =>
      obtain ⟨o,ds,ob⟩:=q
      rw [hr,elimO_some] at r6
      cases o with
      |
        ret s6 =>
        replace r6:some (zdB (.ret s6),ob)=some (CR.value (zn (Nat.gcd x y)) (some []),[]):=r6
        injection r6 with r6; injection r6 with r6 r7
        subst r7
        have r8:=(we (C:=cxG) (E:=xd) rfl _ hr met_nil).2
        have q1:Go.Abs.run cxG (y + 9) (.seq (.block 2 (.loop G4)) G6) (sD x y)=.ret s6:=by
          rw [show y + 9=(y + 8) + 1 by omega,wF (Yc rl)]; exact r8
        have q2:Go.Abs.run cxG (y + 10) (.seq G3 (.seq (.block 2 (.loop G4)) G6)) (sC x y)=.ret s6:=by
          rw [show y + 10=(y + 9) + 1 by omega,wF (r3 (y + 4))]; exact q1
        have q3:Go.Abs.run cxG (y + 11) (.cond (.tmp 20) (.seq G3 (.seq (.block 2 (.loop G4)) G6)) G7) (sC x y)=.ret s6:=by
          rw [show y + 11=(y + 10) + 1 by omega,Qs (g2c x y)]; exact q2
        have q4:=jr (b:=G8) (show Go.Abs.run cxG (y + 12) (.seq G2 (.cond (.tmp 20) (.seq G3 (.seq (.block 2 (.loop G4)) G6)) G7)) (sB x y)=.ret s6 by
          rw [show y + 12=(y + 11) + 1 by omega,wF (r2 (y + 6))]; exact q3)
        have q5:=qf (id:=1) q4
        have q6:Go.Abs.run cxG (y + 15) (.seq G1 (.block 1 (.seq (.seq G2 (.cond (.tmp 20) (.seq G3 (.seq (.block 2 (.loop G4)) G6)) G7)) G8))) (sA x y)=.ret s6:=by
          rw [show y + 15=(y + 14) + 1 by omega,wF (r1 (y + 9))]; exact q5
        have q7:=jr (b:=G9) (qf (id:=0) (XK q6))
        have q8:Go.Abs.run cxG (y + 19) vu (sG x y)=.ret s6:=by
          rw [zbU,show y + 19=(y + 18) + 1 by omega,wF (r0 (y + 13))]; exact q7
        refine ⟨y + 19,some [],?_⟩
        obtain ⟨p,hp⟩:=Option.isSome_iff_exists.1 (show (funcOf cxG 34).isSome=true by kernel_rfl)
        have hc:vu=p.2:=by unfold vu; rw [hp]; rfl
        have ho:zdB (.ret s6)=zD (finPure cxG p.1) (.ret s6):=by unfold zdB; rw [hp]; rfl
        have hn:Nat.ble (lenL [zn x,zn y]) p.1.ntmps=true:=by
          have h:elimO (funcOf cxG 34) false (fun p=>Nat.ble 2 p.1.ntmps)=true:=by kernel_rfl
          rw [hp] at h; exact h
        unfold Go.Abs.call zx
        rw [show cxG.ext 34 [zn x,zn y]=none by kernel_rfl,elimO_none,hp,elimO_some,hn,ifB_true]
        unfold y9
        rw [zZ,show andB (allB (flat 4) [zn x,zn y]) (notB (cxG.nf 34))=true from rfl,ifB_true,← hc]
        rw [show Go.Abs.run cxG (y + 19) vu ⟨zu 0 T.nil [zn x,zn y],T.nil,0,far⟩=.ret s6 from q8,← ho]
        exact r6
      | _=>cases r6
theorem zga:Ok Tryz.prog E0 34:=zeZ (C:=cxG) rfl mixed (vN YO) fun l v h=>by
  rw [e_Gcd] at h
  replace h:=zF h; obtain ⟨a,b,rfl,h⟩:=h
  replace h:=yc h; obtain ⟨x0,rfl,h⟩:=h
  replace h:=yc h; obtain ⟨x1,rfl,h⟩:=h
  obtain ⟨rfl,hc⟩:=zC h
  obtain ⟨h1,h2⟩:=zl.1 hc
  exact ⟨rfl,rfl,zbW x0 x1 (wv.1 h1) (wv.1 h2)⟩
theorem zbX:∀ g,memN g zdz=true→Ok Tryz.prog E0 g:=zE YO zga
abbrev KT:List Nat:=26::zdz
def zbY:Es:=only (fun g=>memN g zdz) E0
theorem zgb (l:List AV):E0 26 l=Ks l:=by kernel_rfl
theorem Qt (x1:Nat):NC zbY 26 [ze true,zn x1] [.c,.c,.c,.c]=NR (.agg [ze (ltI 0 (Int.ofNat (yu x1))),zd x1,zb]) (No (small x1,true)<|[]):=by kernel_rfl
theorem Qu (x1:Nat):NC zbY 26 [ze false,zn x1] [.c,.c,.c,.c]=NR (.agg [ze false,zd x1,zb]) ([]):=by kernel_rfl
theorem zdC:Ok Tryz.prog E0 26:=zM (S:=fun g=>memN g zdz) mixed zbX rfl fun l v h=>by
  rw [zgb] at h
  replace h:=zF h; obtain ⟨a,b,rfl,h⟩:=h
  replace h:=ZF h; obtain ⟨s0,rfl,h⟩:=h
  replace h:=yc h; obtain ⟨x1,rfl,h⟩:=h
  obtain ⟨rfl,hc⟩:=zC h
  try simp only [NQ,zA,zL,not_false_eq_true,and_true,true_and,and_self,reduceCtorEq,zP,zS,zT,ne_eq] at hc
  cases s0 <;> refine ⟨rfl,rfl,?_⟩
  · exact zp (Qu x1) rfl
  · exact zp (Qt x1) (zbs (zdl x1).symm rfl)
theorem KU:∀ g,memN g KT=true→Ok Tryz.prog E0 g:=zE zbX zdC
abbrev KV:List Nat:=38::KT
def XL:Es:=only (fun g=>memN g KT) E0
theorem zgc (l:List AV):E0 38 l=Kt l:=by kernel_rfl
theorem Qv (x0:Nat):NC XL 38 [zh true x0] [.t]=NR (zw (Int.ofNat 0)) (No (eqI (Int.ofNat (yu x0)) 0,true)<|No (small x0,true)<|[]):=by kernel_rfl
theorem Qw (x0:Nat):NC XL 38 [zh true x0] [.f,.c]=NR (zw (-1)) (No (eqI (Int.ofNat (yu x0)) 0,false)<|No (small x0,true)<|[]):=by kernel_rfl
theorem Qx (x0:Nat):NC XL 38 [zh false x0] [.t]=NR (zw (Int.ofNat 0)) (No (eqI (Int.ofNat (yu x0)) 0,true)<|No (small x0,true)<|[]):=by kernel_rfl
theorem Qy (x0:Nat):NC XL 38 [zh false x0] [.f,.c]=NR (zw (Int.ofNat 1)) (No (eqI (Int.ofNat (yu x0)) 0,false)<|No (small x0,true)<|[]):=by kernel_rfl
theorem zdD:Ok Tryz.prog E0 38:=zM (S:=fun g=>memN g KT) mixed KU rfl fun l v h=>by
  rw [zgc] at h
  replace h:=zX h; obtain ⟨a,rfl,h⟩:=h
  replace h:=zR h; obtain ⟨s0,x0,rfl,h⟩:=h
  obtain ⟨rfl,hc⟩:=zC h
  try simp only [NQ,zA,zL,not_false_eq_true,and_true,true_and,and_self,reduceCtorEq,zP,zS,zT,ne_eq] at hc
  cases s0 <;> refine ⟨rfl,rfl,?_⟩
  ·
    by_cases h:x0=0
    · subst h; exact zp (Qx 0) rfl
    · exact zp (Qy x0) (uE (zdu h))
  ·
    by_cases h:x0=0
    · subst h; exact zp (Qv 0) rfl
    · exact zp (Qw x0) (uE (zdt h))
theorem KW:∀ g,memN g KV=true→Ok Tryz.prog E0 g:=zE KU zdD
abbrev zdE:List Nat:=83::KV
def ze9:Es:=only (fun g=>memN g KV) E0
theorem e_Abs (l:List AV):E0 83 l=zdb l:=by kernel_rfl
theorem J4 (x0:Nat):NC ze9 83 [zh true x0] []=NR (.agg [zd x0,zb]) ([]):=by kernel_rfl
theorem J5 (x0:Nat):NC ze9 83 [zh false x0] []=NR (.agg [zd x0,zb]) ([]):=by kernel_rfl
theorem zgd:Ok Tryz.prog E0 83:=zM (S:=fun g=>memN g KV) mixed KW rfl fun l v h=>by
  rw [e_Abs] at h
  replace h:=zX h; obtain ⟨a,rfl,h⟩:=h
  replace h:=zR h; obtain ⟨s0,x0,rfl,h⟩:=h
  obtain ⟨rfl,hc⟩:=zC h
  cases s0 <;> refine ⟨rfl,rfl,?_⟩
  · exact zp (J5 x0) rfl
  · exact zp (J4 x0) rfl
theorem zbZ:∀ g,memN g zdE=true→Ok Tryz.prog E0 g:=zE KW zgd
abbrev zdF:List Nat:=65::zdE
def KX:Es:=only (fun g=>memN g zdE) E0
theorem e_Cmp (l:List AV):E0 65 l=zdc l:=by kernel_rfl
theorem Qz (x0 x1:Nat):NC KX 65 [zh true x0,zh true x1] [.c,.c,.c,.c]=NR (zw (xY x1 x0)) (No (true,true)<|[]):=by kernel_rfl
theorem QA (x0 x1:Nat):NC KX 65 [zh true x0,zh false x1] [.c,.c,.c,.c,.c]=NR (zw (-1)) ([]):=by kernel_rfl
theorem QB (x0 x1:Nat):NC KX 65 [zh false x0,zh true x1] [.c,.c,.c,.c,.c,.c]=NR (zw (Int.ofNat 1)) ([]):=by kernel_rfl
theorem QC (x0 x1:Nat):NC KX 65 [zh false x0,zh false x1] [.c,.c,.c,.c,.c,.c]=NR (zw (xY x0 x1)) (No (true,true)<|[]):=by kernel_rfl
theorem zge:Ok Tryz.prog E0 65:=zM (S:=fun g=>memN g zdE) mixed zbZ rfl fun l v h=>by
  rw [e_Cmp] at h
  replace h:=zF h; obtain ⟨a,b,rfl,h⟩:=h
  replace h:=zR h; obtain ⟨s0,x0,rfl,h⟩:=h
  replace h:=zR h; obtain ⟨s1,x1,rfl,h⟩:=h
  obtain ⟨rfl,hc⟩:=zC h
  cases s0 <;> cases s1 <;> refine ⟨rfl,rfl,?_⟩
  · exact zp (QC x0 x1) rfl
  · exact zp (QB x0 x1) rfl
  · exact zp (QA x0 x1) rfl
  · exact zp (Qz x0 x1) rfl
theorem zb0:∀ g,memN g zdF=true→Ok Tryz.prog E0 g:=zE zbZ zge
abbrev zdG:List Nat:=39::zdF
def zfa:Es:=only (fun g=>memN g zdF) E0
theorem e_Neg (l:List AV):E0 39 l=zdd l:=by kernel_rfl
theorem J6 (x0:Nat):NC zfa 39 [zh true x0] []=NR (.agg [ze (mk false x0),zd x0,zb]) (No (small x0,true)<|[]):=by kernel_rfl
theorem J7 (x0:Nat):NC zfa 39 [zh false x0] []=NR (.agg [ze (mk true x0),zd x0,zb]) (No (small x0,true)<|[]):=by kernel_rfl
theorem zgf:Ok Tryz.prog E0 39:=zM (S:=fun g=>memN g zdF) mixed zb0 rfl fun l v h=>by
  rw [e_Neg] at h
  replace h:=zX h; obtain ⟨a,rfl,h⟩:=h
  replace h:=zR h; obtain ⟨s0,x0,rfl,h⟩:=h
  obtain ⟨rfl,hc⟩:=zC h
  try simp only [NQ,zA,zL,not_false_eq_true,and_true,true_and,and_self,reduceCtorEq,zP,zS,zT,ne_eq] at hc
  cases s0 <;> refine ⟨rfl,rfl,?_⟩
  · exact zp (J7 x0) rfl
  · exact zp (J6 x0) rfl
theorem zb1:∀ g,memN g zdG=true→Ok Tryz.prog E0 g:=zE zb0 zgf
abbrev zdH:List Nat:=164::zdG
def YP:Es:=only (fun g=>memN g zdG) E0
theorem e_Add (l:List AV):E0 164 l=zde l:=by kernel_rfl
theorem QD (x0 x1:Nat):NC YP 164 [zh true x0,zh true x1] [.c]=NR (.agg [ze (mk true (x0.add x1)),zd (x0.add x1),zb]) (No (small (x0.add x1),true)<|No (small (x0.add x1),true)<|[]):=by kernel_rfl
theorem QE (x0 x1:Nat):NC YP 164 [zh true x0,zh false x1] [.c,.t]=NR (.agg [ze (mk false (x1.sub x0)),zd (x1.sub x0),zb]) (No (small (x1.sub x0),true)<|No (andB (x0.ble x1) (small x1),true)<|N6 x0 x1<|[]):=by kernel_rfl
theorem QF (x0 x1:Nat):NC YP 164 [zh true x0,zh false x1] [.c,.f]=NR (.agg [ze (mk true (x0.sub x1)),zd (x0.sub x1),zb]) (No (small (x0.sub x1),true)<|No (andB (x1.ble x0) (small x0),true)<|N5 x0 x1<|[]):=by kernel_rfl
theorem QG (x0 x1:Nat):NC YP 164 [zh false x0,zh true x1] [.c,.t]=NR (.agg [ze (mk true (x1.sub x0)),zd (x1.sub x0),zb]) (No (small (x1.sub x0),true)<|No (andB (x0.ble x1) (small x1),true)<|N6 x0 x1<|[]):=by kernel_rfl
theorem QH (x0 x1:Nat):NC YP 164 [zh false x0,zh true x1] [.c,.f]=NR (.agg [ze (mk false (x0.sub x1)),zd (x0.sub x1),zb]) (No (small (x0.sub x1),true)<|No (andB (x1.ble x0) (small x0),true)<|N5 x0 x1<|[]):=by kernel_rfl
theorem QI (x0 x1:Nat):NC YP 164 [zh false x0,zh false x1] [.c]=NR (.agg [ze (mk false (x0.add x1)),zd (x0.add x1),zb]) (No (small (x0.add x1),true)<|No (small (x0.add x1),true)<|[]):=by kernel_rfl
theorem zgg:Ok Tryz.prog E0 164:=zM (S:=fun g=>memN g zdG) mixed zb1 rfl fun l v h=>by
  rw [e_Add] at h
  replace h:=zF h; obtain ⟨a,b,rfl,h⟩:=h
  replace h:=zR h; obtain ⟨s0,x0,rfl,h⟩:=h
  replace h:=zR h; obtain ⟨s1,x1,rfl,h⟩:=h
  obtain ⟨rfl,hc⟩:=zC h
  cases s0 <;> cases s1 <;> refine ⟨rfl,rfl,?_⟩
  ·
    simp only [NQ,zA,zL,not_false_eq_true,and_true,true_and,and_self,reduceCtorEq,zP,zS,zT,ne_eq,yP,yw,xC,ifB_true,zj] at hc
    exact zp (QI x0 x1) rfl
  ·
    by_cases h:x0 < x1
    ·
      rw [zbH false true rfl h] at hc; simp only [NQ,zA,zL,not_false_eq_true,and_true,true_and,and_self,reduceCtorEq,zP,zS,zT,ne_eq] at hc; rw [XF false true rfl h,zbF false true rfl h]
      exact zp (QG x0 x1) rfl
    ·
      rw [zbI false true rfl h] at hc; simp only [NQ,zA,zL,not_false_eq_true,and_true,true_and,and_self,reduceCtorEq,zP,zS,zT,ne_eq] at hc; rw [XG false true rfl h,zbG false true rfl h]
      exact zp (QH x0 x1) rfl
  ·
    by_cases h:x0 < x1
    ·
      rw [zbH true false rfl h] at hc; simp only [NQ,zA,zL,not_false_eq_true,and_true,true_and,and_self,reduceCtorEq,zP,zS,zT,ne_eq] at hc; rw [XF true false rfl h,zbF true false rfl h]
      exact zp (QE x0 x1) rfl
    ·
      rw [zbI true false rfl h] at hc; simp only [NQ,zA,zL,not_false_eq_true,and_true,true_and,and_self,reduceCtorEq,zP,zS,zT,ne_eq] at hc; rw [XG true false rfl h,zbG true false rfl h]
      exact zp (QF x0 x1) rfl
  ·
    simp only [NQ,zA,zL,not_false_eq_true,and_true,true_and,and_self,reduceCtorEq,zP,zS,zT,ne_eq,yP,yw,xC,ifB_true,zj] at hc
    exact zp (QD x0 x1) rfl
theorem zb2:∀ g,memN g zdH=true→Ok Tryz.prog E0 g:=zE zb1 zgg
abbrev zdI:List Nat:=165::zdH
def KY:Es:=only (fun g=>memN g zdH) E0
theorem e_Sub (l:List AV):E0 165 l=zdf l:=by kernel_rfl
theorem QJ (x0 x1:Nat):NC KY 165 [zh true x0,zh true x1] []=NR (.agg [ze (xe true x0 (mk (notB true) x1) x1),zd (yw true x0 (mk (notB true) x1) x1),zb]) (No (yP true x0 (mk (notB true) x1) x1,true)<|No (small x1,true)<|[]):=by kernel_rfl
theorem QL (x0 x1:Nat):NC KY 165 [zh true x0,zh false x1] []=NR (.agg [ze (xe true x0 (mk (notB false) x1) x1),zd (yw true x0 (mk (notB false) x1) x1),zb]) (No (yP true x0 (mk (notB false) x1) x1,true)<|No (small x1,true)<|[]):=by kernel_rfl
theorem QM (x0 x1:Nat):NC KY 165 [zh false x0,zh true x1] []=NR (.agg [ze (xe false x0 (mk (notB true) x1) x1),zd (yw false x0 (mk (notB true) x1) x1),zb]) (No (yP false x0 (mk (notB true) x1) x1,true)<|No (small x1,true)<|[]):=by kernel_rfl
theorem QN (x0 x1:Nat):NC KY 165 [zh false x0,zh false x1] []=NR (.agg [ze (xe false x0 (mk (notB false) x1) x1),zd (yw false x0 (mk (notB false) x1) x1),zb]) (No (yP false x0 (mk (notB false) x1) x1,true)<|No (small x1,true)<|[]):=by kernel_rfl
theorem zgh:Ok Tryz.prog E0 165:=zM (S:=fun g=>memN g zdH) mixed zb2 rfl fun l v h=>by
  rw [e_Sub] at h
  replace h:=zF h; obtain ⟨a,b,rfl,h⟩:=h
  replace h:=zR h; obtain ⟨s0,x0,rfl,h⟩:=h
  replace h:=zR h; obtain ⟨s1,x1,rfl,h⟩:=h
  obtain ⟨rfl,hc⟩:=zC h
  try simp only [NQ,zA,zL,not_false_eq_true,and_true,true_and,and_self,reduceCtorEq,zP,zS,zT,ne_eq] at hc
  cases s0 <;> cases s1 <;> refine ⟨rfl,rfl,?_⟩
  ·
    have h1:=v4 hc
    exact zp (QN x0 x1) rfl
  ·
    have h1:=v4 hc
    exact zp (QM x0 x1) rfl
  ·
    have h1:=v4 hc
    exact zp (QL x0 x1) rfl
  ·
    have h1:=v4 hc
    exact zp (QJ x0 x1) rfl
theorem zb3:∀ g,memN g zdI=true→Ok Tryz.prog E0 g:=zE zb2 zgh
abbrev zdJ:List Nat:=35::zdI
def KZ:Es:=only (fun g=>memN g zdI) E0
theorem e_Mul (l:List AV):E0 35 l=zdg l:=by kernel_rfl
theorem QO (x0 x1:Nat):NC KZ 35 [zh true x0,zh true x1] []=NR (.agg [ze (mk false (x0.mul x1)),zd (x0.mul x1),zb]) (N0 x0 x1<|[]):=by kernel_rfl
theorem QP (x0 x1:Nat):NC KZ 35 [zh true x0,zh false x1] []=NR (.agg [ze (mk true (x0.mul x1)),zd (x0.mul x1),zb]) (N0 x0 x1<|[]):=by kernel_rfl
theorem QQ (x0 x1:Nat):NC KZ 35 [zh false x0,zh true x1] []=NR (.agg [ze (mk true (x0.mul x1)),zd (x0.mul x1),zb]) (N0 x0 x1<|[]):=by kernel_rfl
theorem QR (x0 x1:Nat):NC KZ 35 [zh false x0,zh false x1] []=NR (.agg [ze (mk false (x0.mul x1)),zd (x0.mul x1),zb]) (N0 x0 x1<|[]):=by kernel_rfl
theorem zgi:Ok Tryz.prog E0 35:=zM (S:=fun g=>memN g zdI) mixed zb3 rfl fun l v h=>by
  rw [e_Mul] at h
  replace h:=zF h; obtain ⟨a,b,rfl,h⟩:=h
  replace h:=zR h; obtain ⟨s0,x0,rfl,h⟩:=h
  replace h:=zR h; obtain ⟨s1,x1,rfl,h⟩:=h
  obtain ⟨rfl,hc⟩:=zC h
  try simp only [NQ,zA,zL,not_false_eq_true,and_true,true_and,and_self,reduceCtorEq,zP,zS,zT,ne_eq] at hc
  cases s0 <;> cases s1 <;> refine ⟨rfl,rfl,?_⟩
  · exact zp (QR x0 x1) rfl
  · exact zp (QQ x0 x1) rfl
  · exact zp (QP x0 x1) rfl
  · exact zp (QO x0 x1) rfl
theorem zb4:∀ g,memN g zdJ=true→Ok Tryz.prog E0 g:=zE zb3 zgi
abbrev zdK:List Nat:=22::zdJ
def zfb:Es:=only (fun g=>memN g zdJ) E0
theorem e_One (l:List AV):E0 22 l=zdi l:=by kernel_rfl
theorem zb5:symCall (cxOf Tryz.prog zfb) zfb 100 22 [] []=some (CR.value (AV.agg [AV.v (Go.Value.int Go.IntKind.u64 (Int.ofNat 1)),AV.v (Go.Value.slice none 0 0)]) (some []),[],[(true,true)]):=by kernel_rfl
theorem zgj:Ok Tryz.prog E0 22:=zM (S:=fun g=>memN g zdJ) mixed zb4 rfl fun l v h=>by
  rw [e_One] at h
  replace h:=yy h; obtain ⟨rfl,h⟩:=h
  obtain ⟨rfl,hc⟩:=zC h
  refine ⟨rfl,rfl,?_⟩
  exact zp (zb5 ) rfl
theorem zb6:∀ g,memN g zdK=true→Ok Tryz.prog E0 g:=zE zb4 zgj
abbrev BOf:List Nat:=40::zdK
def S_Of:Es:=only (fun g=>memN g zdK) E0
theorem e_Of (l:List AV):E0 40 l=eOf l:=by kernel_rfl
theorem zb7 (x0:Nat):NC S_Of 40 [zh true x0] []=NR (.agg [ze true,zd x0,zb,zd 0,zb]) ([]):=by kernel_rfl
theorem zb8 (x0:Nat):NC S_Of 40 [zh false x0] []=NR (.agg [ze false,zd x0,zb,zd 0,zb]) ([]):=by kernel_rfl
theorem ok_Of:Ok Tryz.prog E0 40:=zM (S:=fun g=>memN g zdK) mixed zb6 rfl fun l v h=>by
  rw [e_Of] at h
  replace h:=zX h; obtain ⟨a,rfl,h⟩:=h
  replace h:=zR h; obtain ⟨s0,x0,rfl,h⟩:=h
  obtain ⟨rfl,hc⟩:=zC h
  cases s0 <;> refine ⟨rfl,rfl,?_⟩
  · exact zp (zb8 x0) rfl
  · exact zp (zb7 x0) rfl
theorem zfc:∀ g,memN g BOf=true→Ok Tryz.prog E0 g:=zE zb6 ok_Of
abbrev zdL:List Nat:=36::BOf
def zfd:Es:=only (fun g=>memN g BOf) E0
theorem e_Num (l:List AV):E0 36 l=zdj l:=by kernel_rfl
theorem J8 (x0 e0:Nat):NC zfd 36 [zg true x0 e0] []=NR (.agg [ze true,zd x0,zb]) ([]):=by kernel_rfl
theorem J9 (x0 e0:Nat):NC zfd 36 [zg false x0 e0] []=NR (.agg [ze false,zd x0,zb]) ([]):=by kernel_rfl
theorem zgk:Ok Tryz.prog E0 36:=zM (S:=fun g=>memN g BOf) mixed zfc rfl fun l v h=>by
  rw [e_Num] at h
  replace h:=zX h; obtain ⟨a,rfl,h⟩:=h
  replace h:=z0 h; obtain ⟨s0,x0,e0,rfl,h⟩:=h
  obtain ⟨rfl,hc⟩:=zC h
  cases s0 <;> refine ⟨rfl,rfl,?_⟩
  · exact zp (J9 x0 e0) rfl
  · exact zp (J8 x0 e0) rfl
theorem zb9:∀ g,memN g zdL=true→Ok Tryz.prog E0 g:=zE zfc zgk
abbrev zdM:List Nat:=33::zdL
def zfe:Es:=only (fun g=>memN g zdL) E0
theorem e_Den (l:List AV):E0 33 l=zdk l:=by kernel_rfl
theorem J_ (x0 e0:Nat):NC zfe 33 [zg true x0 e0] []=NR (.agg [zd (e0.add 1),zb]) (No (small (e0.add 1),true)<|No (true,true)<|[]):=by kernel_rfl
theorem zaa (x0 e0:Nat):NC zfe 33 [zg false x0 e0] []=NR (.agg [zd (e0.add 1),zb]) (No (small (e0.add 1),true)<|No (true,true)<|[]):=by kernel_rfl
theorem zgl:Ok Tryz.prog E0 33:=zM (S:=fun g=>memN g zdL) mixed zb9 rfl fun l v h=>by
  rw [e_Den] at h
  replace h:=zX h; obtain ⟨a,rfl,h⟩:=h
  replace h:=z0 h; obtain ⟨s0,x0,e0,rfl,h⟩:=h
  obtain ⟨rfl,hc⟩:=zC h
  try simp only [NQ,zA,zL,not_false_eq_true,and_true,true_and,and_self,reduceCtorEq,zP,zS,zT,ne_eq] at hc
  cases s0 <;> refine ⟨rfl,rfl,?_⟩
  · exact zp (zaa x0 e0) rfl
  · exact zp (J_ x0 e0) rfl
theorem zca:∀ g,memN g zdM=true→Ok Tryz.prog E0 g:=zE zb9 zgl
abbrev XM:List Nat:=60::zdM
def K0:Es:=only (fun g=>memN g zdM) E0
theorem zdN (l:List AV):E0 60 l=Xt l:=by kernel_rfl
theorem VR (x0 e0:Nat):NC K0 60 [zg true x0 e0] []=NR (zw (yK true x0)) (No (small x0,true)<|[]):=by kernel_rfl
theorem VT (x0 e0:Nat):NC K0 60 [zg false x0 e0] []=NR (zw (yK false x0)) (No (small x0,true)<|[]):=by kernel_rfl
theorem zcb:Ok Tryz.prog E0 60:=zM (S:=fun g=>memN g zdM) mixed zca rfl fun l v h=>by
  rw [zdN] at h
  replace h:=zX h; obtain ⟨a,rfl,h⟩:=h
  replace h:=z0 h; obtain ⟨s0,x0,e0,rfl,h⟩:=h
  obtain ⟨rfl,hc⟩:=zC h
  try simp only [NQ,zA,zL,not_false_eq_true,and_true,true_and,and_self,reduceCtorEq,zP,zS,zT,ne_eq] at hc
  cases s0 <;> refine ⟨rfl,rfl,?_⟩
  · exact zp (VT x0 e0) rfl
  · exact zp (VR x0 e0) rfl
theorem VU:∀ g,memN g XM=true→Ok Tryz.prog E0 g:=zE zca zcb
abbrev jP:List Nat:=64::XM
def VV:Es:=only (fun g=>memN g XM) E0
theorem zcc (l:List AV):E0 64 l=jJ l:=by kernel_rfl
theorem XO (x0 e0:Nat):NC VV 64 [zg true x0 e0] []=NR (ze (eqI (Int.ofNat (yu e0)) 0)) (No (small e0,true)<|[]):=by kernel_rfl
theorem XP (x0 e0:Nat):NC VV 64 [zg false x0 e0] []=NR (ze (eqI (Int.ofNat (yu e0)) 0)) (No (small e0,true)<|[]):=by kernel_rfl
theorem zab:Ok Tryz.prog E0 64:=zM (S:=fun g=>memN g XM) mixed VU rfl fun l v h=>by
  rw [zcc] at h
  replace h:=zX h; obtain ⟨a,rfl,h⟩:=h
  replace h:=z0 h; obtain ⟨s0,x0,e0,rfl,h⟩:=h
  obtain ⟨rfl,hc⟩:=zC h
  try simp only [NQ,zA,zL,not_false_eq_true,and_true,true_and,and_self,reduceCtorEq,zP,zS,zT,ne_eq] at hc
  cases s0 <;> refine ⟨rfl,rfl,?_⟩
  · exact zp (XP x0 e0) (KC (ZP e0).symm)
  · exact zp (XO x0 e0) (KC (ZP e0).symm)
theorem YQ:∀ g,memN g jP=true→Ok Tryz.prog E0 g:=zE VU zab
abbrev BBy:List Nat:=66::jP
def S_By:Es:=only (fun g=>memN g jP) E0
theorem e_By (l:List AV):E0 66 l=eBy l:=by kernel_rfl
theorem zcd (x0 x1:Nat):NC S_By 66 [zh true x0,zn x1] []=NR (.agg [ze (mk (xC true (mk false x1)) (x0.mul x1)),zd (x0.mul x1),zb]) (No (zA x0 x1,true)<|No (small x1,true)<|[]):=by kernel_rfl
theorem zce (x0 x1:Nat):NC S_By 66 [zh false x0,zn x1] []=NR (.agg [ze (mk (xC false (mk false x1)) (x0.mul x1)),zd (x0.mul x1),zb]) (No (zA x0 x1,true)<|No (small x1,true)<|[]):=by kernel_rfl
theorem ok_By:Ok Tryz.prog E0 66:=zM (S:=fun g=>memN g jP) mixed YQ rfl fun l v h=>by
  rw [e_By] at h
  replace h:=zF h; obtain ⟨a,b,rfl,h⟩:=h
  replace h:=zR h; obtain ⟨s0,x0,rfl,h⟩:=h
  replace h:=yc h; obtain ⟨x1,rfl,h⟩:=h
  obtain ⟨rfl,hc⟩:=zC h
  try simp only [NQ,zA,zL,not_false_eq_true,and_true,true_and,and_self,reduceCtorEq,zP,zS,zT,ne_eq] at hc
  cases s0 <;> refine ⟨rfl,rfl,?_⟩
  · exact zp (zce x0 x1) rfl
  · exact zp (zcd x0 x1) rfl
theorem zff:∀ g,memN g BBy=true→Ok Tryz.prog E0 g:=zE YQ ok_By
abbrev zdO:List Nat:=25::BBy
def YR:Es:=only (fun g=>memN g BBy) E0
theorem e_Low (l:List AV):E0 25 l=zdh l:=by kernel_rfl
theorem zac (x0 x1:Nat):NC YR 25 [zh true x0,zn x1] [.t]=NR (.agg [ze true,zd x0,zb,zd 0,zb]) (No (eqI (Int.ofNat (yu x1)) 1,true)<|No (small x1,true)<|[]):=by kernel_rfl
theorem zad (x0 x1:Nat):NC YR 25 [zh true x0,zn x1] [.f,.t]=NR (.agg [ze (mk (ltI (yK true x0) 0) (x0.div (x0.gcd x1))),zd (x0.div (x0.gcd x1)),zb,zd ((x1.div (x0.gcd x1)).sub 1),zb]) (N7 x0 x1<|N4 x0 x1<|N8 x0 x1<|No (small x0,true)<|No (ltI 1 (Int.ofNat (yu (x0.gcd x1))),true)<|N1 x0 x1<|No (true,true)<|N2 x1<|[]):=by kernel_rfl
theorem zae (x0 x1:Nat):NC YR 25 [zh true x0,zn x1] [.f,.f]=NR (.agg [ze true,zd x0,zb,zd (x1.sub 1),zb]) (No (andB (Nat.ble 1 x1) (small x1),true)<|No (true,true)<|No (ltI 1 (Int.ofNat (yu (x0.gcd x1))),false)<|N1 x0 x1<|No (true,true)<|N2 x1<|[]):=by kernel_rfl
theorem zaf (x0 x1:Nat):NC YR 25 [zh false x0,zn x1] [.t]=NR (.agg [ze false,zd x0,zb,zd 0,zb]) (No (eqI (Int.ofNat (yu x1)) 1,true)<|No (small x1,true)<|[]):=by kernel_rfl
theorem zag (x0 x1:Nat):NC YR 25 [zh false x0,zn x1] [.f,.t]=NR (.agg [ze (mk (ltI (yK false x0) 0) (x0.div (x0.gcd x1))),zd (x0.div (x0.gcd x1)),zb,zd ((x1.div (x0.gcd x1)).sub 1),zb]) (N7 x0 x1<|N4 x0 x1<|N8 x0 x1<|No (small x0,true)<|No (ltI 1 (Int.ofNat (yu (x0.gcd x1))),true)<|N1 x0 x1<|No (true,true)<|N2 x1<|[]):=by kernel_rfl
theorem zah (x0 x1:Nat):NC YR 25 [zh false x0,zn x1] [.f,.f]=NR (.agg [ze false,zd x0,zb,zd (x1.sub 1),zb]) (No (andB (Nat.ble 1 x1) (small x1),true)<|No (true,true)<|No (ltI 1 (Int.ofNat (yu (x0.gcd x1))),false)<|N1 x0 x1<|No (true,true)<|N2 x1<|[]):=by kernel_rfl
theorem zgm:Ok Tryz.prog E0 25:=zM (S:=fun g=>memN g BBy) mixed zff rfl fun l v h=>by
  rw [e_Low] at h
  replace h:=zF h; obtain ⟨a,b,rfl,h⟩:=h
  replace h:=zR h; obtain ⟨s0,x0,rfl,h⟩:=h
  replace h:=yc h; obtain ⟨x1,rfl,h⟩:=h
  obtain ⟨rfl,hc⟩:=zC h
  try simp only [NQ,zA,zL,not_false_eq_true,and_true,true_and,and_self,reduceCtorEq,zP,zS,zT,ne_eq] at hc
  cases s0 <;> refine ⟨rfl,rfl,?_⟩
  ·
    have g1:=Nat.gcd_le_left x1 (m:=x0)
    have g2:Nat.gcd x0 x1≤x1:=Nat.gcd_le_right x0 (by omega)
    have g3:0 < Nat.gcd x0 x1:=Nat.gcd_pos_of_pos_right x0 (by omega)
    have g4:=Nat.div_le_self x0 (Nat.gcd x0 x1)
    have g5:=Nat.div_le_self x1 (Nat.gcd x0 x1)
    have g6:0 < x1 / Nat.gcd x0 x1:=Nat.div_pos g2 g3
    by_cases h1:x1=1
    · exact zp (zaf x0 x1) (uV (by unfold xb; rw [Abs.beq_true.2 h1]; rfl) (by unfold yH; rw [Abs.beq_true.2 h1]; rfl) (by unfold yI; rw [Abs.beq_true.2 h1]; rfl))
    ·
      by_cases h2:1 < Nat.gcd x0 x1
      · exact zp (zag x0 x1) (uV (by unfold xb; rw [zQ.2 h1,qz.2 h2,uU]; rfl) (by unfold yH; rw [zQ.2 h1,qz.2 h2]; rfl) (by unfold yI; rw [zQ.2 h1,qz.2 h2]; rfl))
      · exact zp (zah x0 x1) (uV (by unfold xb; rw [zQ.2 h1,v3.2 (by omega)]; rfl) (by unfold yH; rw [zQ.2 h1,v3.2 (by omega)]; rfl) (by unfold yI; rw [zQ.2 h1,v3.2 (by omega)]; rfl))
  ·
    have g1:=Nat.gcd_le_left x1 (m:=x0)
    have g2:Nat.gcd x0 x1≤x1:=Nat.gcd_le_right x0 (by omega)
    have g3:0 < Nat.gcd x0 x1:=Nat.gcd_pos_of_pos_right x0 (by omega)
    have g4:=Nat.div_le_self x0 (Nat.gcd x0 x1)
    have g5:=Nat.div_le_self x1 (Nat.gcd x0 x1)
    have g6:0 < x1 / Nat.gcd x0 x1:=Nat.div_pos g2 g3
    by_cases h1:x1=1
    · exact zp (zac x0 x1) (uV (by unfold xb; rw [Abs.beq_true.2 h1]; rfl) (by unfold yH; rw [Abs.beq_true.2 h1]; rfl) (by unfold yI; rw [Abs.beq_true.2 h1]; rfl))
    ·
      by_cases h2:1 < Nat.gcd x0 x1
      · exact zp (zad x0 x1) (uV (by unfold xb; rw [zQ.2 h1,qz.2 h2,uU]; rfl) (by unfold yH; rw [zQ.2 h1,qz.2 h2]; rfl) (by unfold yI; rw [zQ.2 h1,qz.2 h2]; rfl))
      · exact zp (zae x0 x1) (uV (by unfold xb; rw [zQ.2 h1,v3.2 (by omega)]; rfl) (by unfold yH; rw [zQ.2 h1,v3.2 (by omega)]; rfl) (by unfold yI; rw [zQ.2 h1,v3.2 (by omega)]; rfl))
theorem zcf:∀ g,memN g zdO=true→Ok Tryz.prog E0 g:=zE zff zgm
abbrev BFNeg:List Nat:=104::zdO
def zcg:Es:=only (fun g=>memN g zdO) E0
theorem zgn (l:List AV):E0 104 l=Ku l:=by kernel_rfl
theorem QS (x0 e0:Nat):NC zcg 104 [zg true x0 e0] []=NR (.agg [ze (mk (notB true) x0),zd x0,zb,zd e0,zb]) (No (small x0,true)<|[]):=by kernel_rfl
theorem QT (x0 e0:Nat):NC zcg 104 [zg false x0 e0] []=NR (.agg [ze (mk (notB false) x0),zd x0,zb,zd e0,zb]) (No (small x0,true)<|[]):=by kernel_rfl
theorem zdP:Ok Tryz.prog E0 104:=zM (S:=fun g=>memN g zdO) mixed zcf rfl fun l v h=>by
  rw [zgn] at h
  replace h:=zX h; obtain ⟨a,rfl,h⟩:=h
  replace h:=z0 h; obtain ⟨s0,x0,e0,rfl,h⟩:=h
  obtain ⟨rfl,hc⟩:=zC h
  try simp only [NQ,zA,zL,not_false_eq_true,and_true,true_and,and_self,reduceCtorEq,zP,zS,zT,ne_eq] at hc
  cases s0 <;> refine ⟨rfl,rfl,?_⟩
  · exact zp (QT x0 e0) rfl
  · exact zp (QS x0 e0) rfl
theorem K1:∀ g,memN g BFNeg=true→Ok Tryz.prog E0 g:=zE zcf zdP
end
end Go.Proofs.YtdomagdnaohpbaaGreatDoor.num
