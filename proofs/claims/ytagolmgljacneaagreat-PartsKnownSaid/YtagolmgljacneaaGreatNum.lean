/- THE FUNCTIONS ON SMALL NUMBERS, in this program: what they answer. Printed by a program (wip/num/gen_num.py). -/
import Derived.Test.YtagolmgljacneaaGreatEvNum
import Derived.Test.YtagolmgljacneaaGreatProg
import Derived.Test.YtagolmgljacneaaGreatLen64
import Derived.Test.YtagolmgljacneaaGreatMul64
set_option linter.unusedSimpArgs false
set_option linter.unusedVariables false
set_option maxRecDepth 100000
namespace Go.Proofs.YtagolmgljacneaaGreat.num
noncomputable section
open Go.Abs
theorem mixed:Tryz.prog.follows .mixedOrders=true:=by kernel_rfl
def tblT:T (List AV→Q):=
  T.set 129 (Xb ok) <|
  T.set 154 QX <|
  T.set 136 QW <|
  T.set 100 QU <|
  T.set 135 QT <|
  T.set 133 (QV 164 134) <|
  T.set 160 zcG <|
  T.set 163 eBy <|
  T.set 162 jy <|
  T.set 54 Xa <|
  T.set 24 zcJ <|
  T.set 28 zcI <|
  T.set 34 eOf <|
  T.set 61 zcH <|
  T.set 27 zcF <|
  T.set 134 zcE <|
  T.set 164 zcD <|
  T.set 32 zcC <|
  T.set 182 zcB <|
  T.set 120 zcA <|
  T.set 31 QS <|
  T.set 29 QR <|
  T.set 25 zcz <|
  T.set 23 (jx ok) <|
  T.set 26 jw <|
  T.set 193 (jv ok) <|
  T.set 60 ju <|
  T.set 56 jt <|
  T.set 22 Y_ <|
  T.set 55 QQ <|
  T.set 132 Y9 <|
  T.set 64 Y8 <|
  T.set 62 Zx <|
  T.set 90 Zw <|
  T.nil
def E0:Es:=fun f l=>elimO (T.get tblT f) none fun g=>g l
theorem nadd (a b:Nat):Nat.add a b=a + b:=rfl
theorem nsub (a b:Nat):Nat.sub a b=a - b:=rfl
theorem nmul (a b:Nat):Nat.mul a b=a * b:=rfl
theorem ndiv (a b:Nat):Nat.div a b=a / b:=rfl
theorem nmod (a b:Nat):Nat.mod a b=a % b:=rfl
theorem Q5:notB true=false:=rfl
theorem Q6:notB false=true:=rfl
theorem Q7 (x:Bool):andB true x=x:=by cases x <;> rfl
theorem Q8 (x:Bool):andB false x=false:=by cases x <;> rfl
theorem zem (a:Nat):Nat.succ a=a + 1:=rfl
theorem zcO {x:Nat} (h:x≠0):yG true x=.negSucc 0:=by unfold yG; rw [zO.2 h]; rfl
theorem zcP {x:Nat} (h:x≠0):yG false x=.ofNat 1:=by unfold yG; rw [zO.2 h]; rfl
theorem ZC (e:Nat):eqI (Int.ofNat (yt e)) 0=Nat.beq e 0:=by
  cases h:Nat.beq e 0 with
  | true=>rw [UJ,xH]; exact Abs.beq_true.1 h
  | false=>rw [UK]; intro e0; exact zO.1 h (xH.1 e0)
theorem Xj (s t:Bool) {x y:Nat} (hs:xU s t=true) (h:x < y):yu s x t y=y - x:=by unfold yu; rw [hs,qo.2 h]; rfl
theorem Xk (s t:Bool) {x y:Nat} (hs:xU s t=true) (h : ¬ x < y):yu s x t y=x - y:=by unfold yu; rw [hs,vT.2 (by omega)]; rfl
theorem zaX (s t:Bool) {x y:Nat} (hs:xU s t=true) (h:x < y):xc s x t y=mk t (y - x):=by unfold xc; rw [Xj s t hs h,hs,qo.2 h]; rfl
theorem zaY (s t:Bool) {x y:Nat} (hs:xU s t=true) (h : ¬ x < y):xc s x t y=mk s (x - y):=by unfold xc; rw [Xk s t hs h,hs,vT.2 (by omega)]; rfl
theorem zaZ (s t:Bool) {x y:Nat} (hs:xU s t=true) (h:x < y):yN s x t y=andB (small x) (andB (small y) (small (y - x))):=by unfold yN; rw [Xj s t hs h]
theorem za0 (s t:Bool) {x y:Nat} (hs:xU s t=true) (h : ¬ x < y):yN s x t y=andB (small x) (andB (small y) (small (x - y))):=by unfold yN; rw [Xk s t hs h]
theorem q0:type_of% @wn:=@wn
theorem q1:type_of% @zp:=@zp
theorem q2:type_of% @zaG:=@zaG
theorem q3:type_of% @Abs.beq_true:=@Abs.beq_true
theorem q4:type_of% @zO:=@zO
theorem q5:type_of% @zl:=@zl
theorem q6:type_of% @Zy:=@Zy
theorem q7:type_of% @UI:=@UI
theorem q8:type_of% @zaH:=@zaH
theorem q9:type_of% @zaI:=@zaI
theorem q10:type_of% @qo:=@qo
theorem q11:type_of% @vT:=@vT
theorem q12:type_of% @zei:=@zei
theorem q13:type_of% @zej:=@zej
theorem q14:type_of% @UJ:=@UJ
theorem q15:type_of% @UK:=@UK
theorem q16:type_of% @zaJ:=@zaJ
theorem q17:type_of% @zaK:=@zaK
theorem q18:type_of% @Yk:=@Yk
theorem q19:type_of% @zek:=@zek
theorem q20:type_of% @kK:=@kK
theorem q21:type_of% @Xc:=@Xc
theorem q22:type_of% @zaL:=@zaL
theorem q23:type_of% @zaM:=@zaM
theorem q24:type_of% @UL:=@UL
theorem q25:type_of% @zaN:=@zaN
theorem q26:type_of% @xH:=@xH
theorem q27:type_of% @Yl:=@Yl
theorem q28:type_of% @uJ:=@uJ
theorem q29:type_of% @qU:=@qU
theorem q30:type_of% @vr:=@vr
theorem q31:type_of% @wL:=@wL
theorem q34:type_of% @nadd:=@nadd
theorem q35:type_of% @nsub:=@nsub
theorem q36:type_of% @nmul:=@nmul
theorem q37:type_of% @ndiv:=@ndiv
theorem q38:type_of% @nmod:=@nmod
theorem q39:type_of% @zem:=@zem
theorem q40:type_of% @uK:=@uK
theorem q41:type_of% @qp:=@qp
theorem q42:type_of% @Q5:=@Q5
theorem q43:type_of% @Q6:=@Q6
theorem q44:type_of% @Q7:=@Q7
theorem q45:type_of% @Q8:=@Q8
theorem q46:type_of% @Nat.mul_one:=@Nat.mul_one
theorem q55:type_of% @ifB_true:=@ifB_true
theorem q56:type_of% @zk:=@zk
theorem NQ:(type_of% @q0)∧(type_of% @q1)∧(type_of% @q2)∧(type_of% @q3)∧(type_of% @q4)∧(type_of% @q5)∧(type_of% @q6)∧(type_of% @q7)∧(type_of% @q8)∧(type_of% @q9)∧(type_of% @q10)∧(type_of% @q11)∧(type_of% @q12)∧(type_of% @q13)∧(type_of% @q14)∧(type_of% @q15)∧(type_of% @q16)∧(type_of% @q17)∧(type_of% @q18)∧(type_of% @q19)∧(type_of% @q20)∧(type_of% @q21)∧(type_of% @q22)∧(type_of% @q23)∧(type_of% @q24)∧(type_of% @q25)∧(type_of% @q26)∧(type_of% @q27)∧(type_of% @q28)∧(type_of% @q29)∧(type_of% @q30)∧(type_of% @q31)∧(type_of% @q34)∧(type_of% @q35)∧(type_of% @q36)∧(type_of% @q37)∧(type_of% @q38)∧(type_of% @q39)∧(type_of% @q40)∧(type_of% @q41)∧(type_of% @q42)∧(type_of% @q43)∧(type_of% @q44)∧(type_of% @q45)∧(type_of% @q46)∧(type_of% @q55)∧(type_of% @q56):=⟨@q0,@q1,@q2,@q3,@q4,@q5,@q6,@q7,@q8,@q9,@q10,@q11,@q12,@q13,@q14,@q15,@q16,@q17,@q18,@q19,@q20,@q21,@q22,@q23,@q24,@q25,@q26,@q27,@q28,@q29,@q30,@q31,@q34,@q35,@q36,@q37,@q38,@q39,@q40,@q41,@q42,@q43,@q44,@q45,@q46,@q55,@q56⟩
theorem vU {s t:Bool} {x y:Nat} (h:yN s x t y=true):x < 18446744073709551616∧y < 18446744073709551616:=by
  obtain ⟨h1,h⟩:=zl.1 h
  exact ⟨wn.1 h1,wn.1 (zl.1 h).1⟩
theorem Jd (args:Array Value) (w:World):(callFunc 64 args).run Tryz.prog w=((add64Entry args).run Tryz.prog w).andThen fun v w'=>.ok (.value v) w':=
  run_callFunc_extern Tryz.func64 (by kernel_rfl) (by kernel_rfl) (by kernel_rfl) (by kernel_rfl) args w
theorem Je (args:Array Value) (w:World):(callFunc 132 args).run Tryz.prog w=((ql args).run Tryz.prog w).andThen fun v w'=>.ok (.value v) w':=
  run_callFunc_extern Tryz.func132 (by kernel_rfl) (by kernel_rfl) (by kernel_rfl) (by kernel_rfl) args w
theorem UT (f:Nat):∀ x,x < 2 ^ f→Lib.bitLenAux f x=yt x:=by
  induction f with
  |
    zero =>
    intro x hx
    have:x=0:=by simpa using hx
    subst this; rfl
  |
    succ f ih =>
    intro x hx
    show (if x=0 then 0 else 1 + Lib.bitLenAux f (x / 2))=_
    by_cases h:x=0
    · subst h; rfl
    ·
      rw [if_neg h,ih _ (by rw [Nat.pow_succ] at hx; omega)]
      unfold yt
      rw [zO.2 h,zk]
      by_cases h1:x=1
      · subst h1; rfl
      · rw [zO.2 (by omega),zk,Nat.log2_def x,if_pos (by omega)]; omega
theorem za1:Ok Tryz.prog E0 90:=by
  obtain ⟨p,hp⟩:=Option.isSome_iff_exists.1 (show (funcOf (cxOf Tryz.prog E0) 90).isSome=true by kernel_rfl)
  refine zaR (C:=cxOf Tryz.prog E0) rfl hp (fun l=>show E0 90 l=Zw l by kernel_rfl) fun x w hx => ?_
  have h:=Tryz.bits_Len64 (x:Int) w (by omega) (by omega)
  rw [Int.toNat_natCast,show Lib.bitLen x=yt x from UT 64 x hx] at h
  exact h
theorem za2:Ok Tryz.prog E0 62:=by
  obtain ⟨p,hp⟩:=Option.isSome_iff_exists.1 (show (funcOf (cxOf Tryz.prog E0) 62).isSome=true by kernel_rfl)
  exact zaS (C:=cxOf Tryz.prog E0) rfl hp (fun l=>show E0 62 l=Zx l by kernel_rfl) fun x y hx hy w=>US x y hx hy w
theorem za3:Ok Tryz.prog E0 64:=
  WZ (g:=add64) (fun l=>show E0 64 l=Y8 l by kernel_rfl) fun X j w l v args h hr=>zas (C:=cxOf Tryz.prog E0) Jd h hr
theorem za4:Ok Tryz.prog E0 132:=
  WZ (g:=sub64) (fun l=>show E0 132 l=Y9 l by kernel_rfl) fun X j w l v args h hr=>zat (C:=cxOf Tryz.prog E0) Je h hr
theorem zcQ:∀ g,memN g []=true→Ok Tryz.prog E0 g:=fun g h=>by cases h
theorem Q9:∀ g,memN g [132,64,62,90]=true→Ok Tryz.prog E0 g:=zI (zI (zI (zI zcQ za1) za2) za3) za4
theorem zq {C:Cx} {E:Es} {f:FuncId} {l:List AV} {v v':AV} {n:Nat} {ds ds':List Dc} {ob:Ob} (h:symCall C E n f l ds=some (.value v' (some []),ds',ob)) (hv:v=v')
    (hm:Met ob:=by (repeat' apply met_cons) <;> first | exact met_nil | with_reducible rfl | assumption | (simp only [NQ,zA,zK,not_false_eq_true,and_true,true_and,and_self,reduceCtorEq,zR,zT,zU,ne_eq]; omega) | (simp only [NQ,zA,zK,not_false_eq_true,and_true,true_and,and_self,reduceCtorEq,zR,zT,zU,ne_eq,hc]; done)) :
    ∃ n ds ds' ob,symCall C E n f l ds=some (.value v (some []),ds',ob)∧Met ob:=yi h hv hm
abbrev za5:List Nat:=[132,64,62,90]
abbrev Q_:List Nat:=55::za5
def zfm:Es:=only (fun g=>memN g za5) E0
theorem zfn (l:List AV):E0 55 l=QQ l:=by kernel_rfl
abbrev No (a:Bool×Bool)(l:Ob):Ob:=a::l
abbrev NC (S:Es)(f:Nat)(a:List AV)(d:List Dc):=symCall (cxOf Tryz.prog S) S 100 f a d
abbrev NR (v:AV)(o:Ob):Option (CR×List Dc×Ob):=some (CR.value v (some []),[],o)
abbrev N0 (x0 x1:Nat)(l:Ob):Ob:=No (small (x0.mul x1),true)<|No (andB (small x0) (andB (small x1) (small (x0.mul x1))),true)<|l
abbrev N1 (x0 x1:Nat)(l:Ob):Ob:=No (small (x0.gcd x1),true)<|No (andB (small x0) (small x1),true)<|l
abbrev N2 (x1:Nat)(l:Ob):Ob:=No (eqI (Int.ofNat (yt x1)) 1,false)<|No (small x1,true)<|l
abbrev N3 (x0 x1:Nat)(l:Ob):Ob:=No (eqI (Int.ofNat x1) 0,false)<|No (eqI (Int.ofNat x0) 0,false)<|l
abbrev N4 (x0 x1:Nat)(l:Ob):Ob:=No (andB (pos (x0.gcd x1)) (andB (small x1) (small (x0.gcd x1))),true)<|No (small (x0.div (x0.gcd x1)),true)<|l
abbrev N5 (x0 x1:Nat)(l:Ob):Ob:=No (ltI (xT x0 x1) 0,false)<|No (true,true)<|l
abbrev N6 (x0 x1:Nat)(l:Ob):Ob:=No (ltI (xT x0 x1) 0,true)<|No (true,true)<|l
abbrev N7 (x0 x1:Nat)(l:Ob):Ob:=No (andB (Nat.ble 1 (x1.div (x0.gcd x1))) (small (x1.div (x0.gcd x1))),true)<|No (true,true)<|l
abbrev N8 (x0 x1:Nat)(l:Ob):Ob:=No (andB (pos (x0.gcd x1)) (andB (small x0) (small (x0.gcd x1))),true)<|No (true,true)<|l
theorem Jf (x0:Nat):NC zfm 55 [zn x0] [.c]=NR (zt (Int.ofNat (yt x0))) (No (small x0,true)<|[]):=by kernel_rfl
theorem zcR:Ok Tryz.prog E0 55:=zM (S:=fun g=>memN g za5) mixed Q9 rfl fun l v h=>by
  rw [zfn] at h
  replace h:=z0 h; obtain ⟨a,rfl,h⟩:=h
  replace h:=z_ h; obtain ⟨x0,rfl,h⟩:=h
  obtain ⟨rfl,hc⟩:=zB h
  try simp only [NQ,zA,zK,not_false_eq_true,and_true,true_and,and_self,reduceCtorEq,zR,zT,zU,ne_eq] at hc
  refine ⟨rfl,rfl,?_⟩
  exact zq (Jf x0) rfl
theorem Ka:∀ g,memN g Q_=true→Ok Tryz.prog E0 g:=zI Q9 zcR
abbrev Xl:List Nat:=22::Q_
def zcS:Es:=only (fun g=>memN g Q_) E0
theorem zcT (l:List AV):E0 22 l=Y_ l:=by kernel_rfl
theorem UU (x0:Nat):NC zcS 22 [zd x0] []=NR (.agg [zd x0,zb]) ([]):=by kernel_rfl
theorem za6:Ok Tryz.prog E0 22:=zM (S:=fun g=>memN g Q_) mixed Ka rfl fun l v h=>by
  rw [zcT] at h
  replace h:=z0 h; obtain ⟨a,rfl,h⟩:=h
  replace h:=uI h; obtain ⟨x0,rfl,h⟩:=h
  obtain ⟨rfl,hc⟩:=zB h
  refine ⟨rfl,rfl,?_⟩
  exact zq (UU x0) rfl
theorem W_:∀ g,memN g Xl=true→Ok Tryz.prog E0 g:=zI Ka za6
abbrev jz:List Nat:=56::Xl
def vI:Es:=only (fun g=>memN g Xl) E0
theorem za7 (l:List AV):E0 56 l=jt l:=by kernel_rfl
theorem Va (x0 x1:Nat):NC vI 56 [zn x0,zn x1] [.c,.t,.c,.t,.c,.c]=NR (zt (Int.ofNat 0)) (No (eqI (Int.ofNat x1) 0,true)<|No (eqI (Int.ofNat x0) 0,true)<|[]):=by kernel_rfl
theorem Vb (x0 x1:Nat):NC vI 56 [zn x0,zn x1] [.c,.t,.c,.f,.c,.c]=NR (zt (-1)) (No (eqI (Int.ofNat x1) 0,false)<|No (eqI (Int.ofNat x0) 0,true)<|[]):=by kernel_rfl
theorem Vc (x0 x1:Nat):NC vI 56 [zn x0,zn x1] [.c,.f,.c,.t,.c,.c]=NR (zt (Int.ofNat 1)) (No (eqI (Int.ofNat x1) 0,true)<|No (eqI (Int.ofNat x0) 0,false)<|[]):=by kernel_rfl
theorem Vd (x0 x1:Nat):NC vI 56 [zn x0,zn x1] [.c,.f,.c,.f,.c,.c,.t]=NR (zt (-1)) (No (ltI (Int.ofNat x0) (Int.ofNat x1),true)<|N3 x0 x1<|[]):=by kernel_rfl
theorem Ve (x0 x1:Nat):NC vI 56 [zn x0,zn x1] [.c,.f,.c,.f,.c,.c,.f,.t]=NR (zt (Int.ofNat 1)) (No (ltI (Int.ofNat x1) (Int.ofNat x0),true)<|No (ltI (Int.ofNat x0) (Int.ofNat x1),false)<|N3 x0 x1<|[]):=by kernel_rfl
theorem Vf (x0 x1:Nat):NC vI 56 [zn x0,zn x1] [.c,.f,.c,.f,.c,.c,.f,.f,.c]=NR (zt (Int.ofNat 0)) (No (ltI (Int.ofNat x1) (Int.ofNat x0),false)<|No (ltI (Int.ofNat x0) (Int.ofNat x1),false)<|N3 x0 x1<|[]):=by kernel_rfl
theorem Jg:Ok Tryz.prog E0 56:=zM (S:=fun g=>memN g Xl) mixed W_ rfl fun l v h=>by
  rw [za7] at h
  replace h:=zE h; obtain ⟨a,b,rfl,h⟩:=h
  replace h:=z_ h; obtain ⟨x0,rfl,h⟩:=h
  replace h:=z_ h; obtain ⟨x1,rfl,h⟩:=h
  obtain ⟨rfl,hc⟩:=zB h
  refine ⟨rfl,rfl,?_⟩
  by_cases h0:x0=0
  ·
    by_cases h1:x1=0
    · exact zq (Va x0 x1) (uu (Xf (by omega)))
    · exact zq (Vb x0 x1) (uu (Xd (by omega)))
  ·
    by_cases h1:x1=0
    · exact zq (Vc x0 x1) (uu (Xe (by omega)))
    ·
      by_cases h2:x0 < x1
      · exact zq (Vd x0 x1) (uu (Xd (by omega)))
      ·
        by_cases h3:x1 < x0
        · exact zq (Ve x0 x1) (uu (Xe (by omega)))
        · exact zq (Vf x0 x1) (uu (Xf (by omega)))
theorem Yr:∀ g,memN g jz=true→Ok Tryz.prog E0 g:=zI W_ Jg
abbrev jA:List Nat:=60::jz
def Vg:Es:=only (fun g=>memN g jz) E0
theorem za8 (l:List AV):E0 60 l=ju l:=by kernel_rfl
theorem Vh (x0 x1:Nat):NC Vg 60 [zn x0,zn x1] [.c,.c,.c,.c,.c,.t]=NR (.agg [zd (((x0.add x1).add 0).mod 18446744073709551616),zb]) (No (eqI (Int.ofNat (((x0.add x1).add 0).div 18446744073709551616)) 0,true)<|No (true,true)<|[]):=by kernel_rfl
theorem zen (x0 x1:Nat):NC Vg 60 [zn x0,zn x1] [.c,.c,.c,.c,.c,.f]=NR (.agg [zd 0,AV.vs { o:=O9.mk (some (zd (((x0.add x1).add 0).mod 18446744073709551616))) { o:=O9.mk (some (zd (((x0.add x1).add 0).div 18446744073709551616))) T.nil T.nil T.nil T.nil T.nil T.nil T.nil T.nil } T.nil T.nil T.nil T.nil T.nil T.nil T.nil } 0 2 1 2 true]) (No (eqI (Int.ofNat (((x0.add x1).add 0).div 18446744073709551616)) 0,false)<|No (true,true)<|[]):=by kernel_rfl
theorem Jh:Ok Tryz.prog E0 60:=zM (S:=fun g=>memN g jz) mixed Yr rfl fun l v h=>by
  rw [za8] at h
  replace h:=zE h; obtain ⟨a,b,rfl,h⟩:=h
  replace h:=z_ h; obtain ⟨x0,rfl,h⟩:=h
  replace h:=z_ h; obtain ⟨x1,rfl,h⟩:=h
  obtain ⟨rfl,hc⟩:=zB h
  try simp only [NQ,zA,zK,not_false_eq_true,and_true,true_and,and_self,reduceCtorEq,zR,zT,zU,ne_eq] at hc
  refine ⟨rfl,rfl,?_⟩
  exact zq (Vh x0 x1) (Xg (by simp only [NQ,zA,zK,not_false_eq_true,and_true,true_and,and_self,reduceCtorEq,zR,zT,zU,ne_eq]; omega))
theorem Ys:∀ g,memN g jA=true→Ok Tryz.prog E0 g:=zI Yr Jh
abbrev jB:List Nat:=193::jA
def Vi:Es:=only (fun g=>memN g jA) E0
theorem za9 (l:List AV):E0 193 l=(jv ok) l:=by kernel_rfl
theorem zeo (x0 x1:Nat):NC Vi 193 [zn x0,zn x1] [.t]=NR (AV.tuple [.agg [zd 0,zb],zt (Int.ofNat 10)]) (N6 x0 x1<|[]):=by kernel_rfl
theorem Vj (x0 x1:Nat):NC Vi 193 [zn x0,zn x1] [.f,.c]=NR (AV.tuple [.agg [zd (x0.sub x1),zb],zt (Int.ofNat 0)]) (No (x1.ble x0,true)<|No (small x0,true)<|N5 x0 x1<|[]):=by kernel_rfl
theorem Ji:Ok Tryz.prog E0 193:=zM (S:=fun g=>memN g jA) mixed Ys rfl fun l v h=>by
  rw [za9] at h
  replace h:=zE h; obtain ⟨a,b,rfl,h⟩:=h
  replace h:=z_ h; obtain ⟨x0,rfl,h⟩:=h
  replace h:=z_ h; obtain ⟨x1,rfl,h⟩:=h
  obtain ⟨rfl,hc⟩:=zB h
  try simp only [NQ,zA,zK,not_false_eq_true,and_true,true_and,and_self,reduceCtorEq,zR,zT,zU,ne_eq] at hc
  refine ⟨rfl,rfl,?_⟩
  exact zq (Vj x0 x1) rfl
theorem Yt:∀ g,memN g jB=true→Ok Tryz.prog E0 g:=zI Ys Ji
abbrev jC:List Nat:=26::jB
def Vk:Es:=only (fun g=>memN g jB) E0
theorem zba (l:List AV):E0 26 l=jw l:=by kernel_rfl
theorem Vl (x0 x1:Nat):NC Vk 26 [zn x0,zn x1] [.c,.c,.c,.c,.c,.t]=NR (.agg [zd ((x0.mul x1).mod 18446744073709551616),zb]) (No (eqI (Int.ofNat ((x0.mul x1).div 18446744073709551616)) 0,true)<|No (andB (small x0) (small x1),true)<|[]):=by kernel_rfl
theorem zep (x0 x1:Nat):NC Vk 26 [zn x0,zn x1] [.c,.c,.c,.c,.c,.f]=NR (.agg [zd 0,AV.vs { o:=O9.mk (some (zd ((x0.mul x1).mod 18446744073709551616))) { o:=O9.mk (some (zd ((x0.mul x1).div 18446744073709551616))) T.nil T.nil T.nil T.nil T.nil T.nil T.nil T.nil } T.nil T.nil T.nil T.nil T.nil T.nil T.nil } 0 2 1 2 true]) (No (eqI (Int.ofNat ((x0.mul x1).div 18446744073709551616)) 0,false)<|No (andB (small x0) (small x1),true)<|[]):=by kernel_rfl
theorem Jj:Ok Tryz.prog E0 26:=zM (S:=fun g=>memN g jB) mixed Yt rfl fun l v h=>by
  rw [zba] at h
  replace h:=zE h; obtain ⟨a,b,rfl,h⟩:=h
  replace h:=z_ h; obtain ⟨x0,rfl,h⟩:=h
  replace h:=z_ h; obtain ⟨x1,rfl,h⟩:=h
  obtain ⟨rfl,hc⟩:=zB h
  try simp only [NQ,zA,zK,not_false_eq_true,and_true,true_and,and_self,reduceCtorEq,zR,zT,zU,ne_eq] at hc
  refine ⟨rfl,rfl,?_⟩
  exact zq (Vl x0 x1) (Xg (by simp only [NQ,zA,zK,not_false_eq_true,and_true,true_and,and_self,reduceCtorEq,zR,zT,zU,ne_eq]; omega))
theorem Yu:∀ g,memN g jC=true→Ok Tryz.prog E0 g:=zI Yt Jj
abbrev Xm:List Nat:=23::jC
def ZD:Es:=only (fun g=>memN g jC) E0
theorem zbb (l:List AV):E0 23 l=(jx ok) l:=by kernel_rfl
theorem zeq (x0 x1:Nat):NC ZD 23 [zn x0,zn x1] [.t]=NR (AV.tuple [.agg [zd 0,zb],.agg [zd 0,zb],zt (Int.ofNat 11)]) (No (eqI (Int.ofNat (yt x1)) 0,true)<|No (small x1,true)<|[]):=by kernel_rfl
theorem Vm (x0 x1:Nat):NC ZD 23 [zn x0,zn x1] [.f,.t]=NR (AV.tuple [.agg [zd 0,zb],.agg [zd x0,zb],zt (Int.ofNat 0)]) (N6 x0 x1<|No (eqI (Int.ofNat (yt x1)) 0,false)<|No (small x1,true)<|[]):=by kernel_rfl
theorem Vn (x0 x1:Nat):NC ZD 23 [zn x0,zn x1] [.f,.f,.c]=NR (AV.tuple [.agg [zd (x0.div x1),zb],.agg [zd (x0.mod x1),zb],zt (Int.ofNat 0)]) (No (x1.beq 0,false)<|No (x1.beq 0,false)<|No (small x0,true)<|N5 x0 x1<|No (eqI (Int.ofNat (yt x1)) 0,false)<|No (small x1,true)<|[]):=by kernel_rfl
theorem Jk:Ok Tryz.prog E0 23:=zM (S:=fun g=>memN g jC) mixed Yu rfl fun l v h=>by
  rw [zbb] at h
  replace h:=zE h; obtain ⟨a,b,rfl,h⟩:=h
  replace h:=z_ h; obtain ⟨x0,rfl,h⟩:=h
  replace h:=z_ h; obtain ⟨x1,rfl,h⟩:=h
  obtain ⟨rfl,hc⟩:=zB h
  try simp only [NQ,zA,zK,not_false_eq_true,and_true,true_and,and_self,reduceCtorEq,zR,zT,zU,ne_eq] at hc
  refine ⟨rfl,rfl,?_⟩
  by_cases h:x0 < x1
  · exact zq (Vm x0 x1) (zaP (Xg (Nat.div_eq_of_lt h)) (Xg (Nat.mod_eq_of_lt h)) rfl)
  · exact zq (Vn x0 x1) rfl
theorem Yv:∀ g,memN g Xm=true→Ok Tryz.prog E0 g:=zI Yu Jk
abbrev zcU:List Nat:=25::Xm
def xb:Es:=only (fun g=>memN g Xm) E0
theorem e_Gcd (l:List AV):E0 25 l=zcz l:=by kernel_rfl
def cxG:Cx:=cxOf Tryz.prog xb
def sub:Code→List Nat→Code
  | .seq a _,0::l=>sub a l
  | .seq _ b,1::l=>sub b l
  | .cond _ a _,0::l=>sub a l
  | .cond _ _ b,1::l=>sub b l
  | .block _ a,0::l=>sub a l
  | .loop a,0::l=>sub a l
  | .scope a,0::l=>sub a l
  | c,[]=>c
  | _,_=>.skip
def vg:Code:=elimO (funcOf cxG 25) Code.skip (fun p=>p.2)
def G0:Code:=sub vg [0]
def G1:Code:=sub vg [1,0,0,0,0]
def G2:Code:=sub vg [1,0,0,0,1,0,0,0]
def G3:Code:=sub vg [1,0,0,0,1,0,0,1,0,0]
def G4:Code:=sub vg [1,0,0,0,1,0,0,1,0,1,0,0,0]
def G6:Code:=sub vg [1,0,0,0,1,0,0,1,0,1,1]
def G7:Code:=sub vg [1,0,0,0,1,0,0,1,1]
def G8:Code:=sub vg [1,0,0,0,1,0,1]
def G9:Code:=sub vg [1,1]
theorem zbc:vg=.seq G0 (.seq (.block 0 (.loop (.seq G1 (.block 1 (.seq (.seq G2 (.cond (.tmp 20) (.seq G3 (.seq (.block 2 (.loop G4)) G6)) G7)) G8))))) G9):=by kernel_rfl
def zcV (r:Option DO):S:=Option.rec ⟨T.nil,T.nil,0,0⟩ (fun r=>Out.rec (motive:=fun _=>S) (fun s=>s) (fun _ s=>s) (fun s=>s) (fun _=>⟨T.nil,T.nil,0,0⟩) r.1) r
def sG (x y:Nat):S:=⟨zw 0 T.nil [zn x,zn y],T.nil,0,far⟩
def sA (x y:Nat):S:=zcV (yk cxG xb 20 G0 (sG x y) [] [])
def sB (x y:Nat):S:=zcV (yk cxG xb 20 G1 (sA x y) [.t] [])
def sC (x y:Nat):S:=zcV (yk cxG xb 20 G2 (sB x y) [.c,.c,.c,.c,.c,.c] [])
def sD (x y:Nat):S:=zcV (yk cxG xb 20 G3 (sC x y) [] [])
def sL (X Y x y:Nat) (a b c d e f:AV) (n:Nat):S:=
  ⟨T.set 5 (zd x) (T.set 6 (zd y) (T.set 25 a (T.set 26 b (T.set 27 c (T.set 28 d (T.set 29 e (T.set 30 f (S.env (sD X Y))))))))),S.H (sD X Y),n,S.low (sD X Y)⟩
theorem g0 (x y m:Nat):yk cxG xb (m + 5) G0 (sG x y) [] []=some (.nrm (sA x y),[],[]):=by kernel_rfl
theorem g1 (x y m:Nat):yk cxG xb (m + 5) G1 (sA x y) [.t] []=some (.nrm (sB x y),[],[(ltI 0 (Int.ofNat (yt y)),true),(small y,true)]):=by kernel_rfl
theorem g2 (x y m:Nat):yk cxG xb (m + 5) G2 (sB x y) [.c,.c,.c,.c] []=some (.nrm (sC x y),[],[]):=by kernel_rfl
theorem g2c (x y:Nat):zf (opd (S.env (sC x y)) (.tmp 20)) z9=some true:=by kernel_rfl
theorem g3 (x y m:Nat):yk cxG xb (m + 5) G3 (sC x y) [] []=some (.nrm (sD x y),[],[]):=by kernel_rfl
theorem g4s (x y m:Nat):yk cxG xb (m + 5) G4 (sD x y) [.t] []=some (.nrm (sL x y y (Nat.mod x y) (zd y) (ze (ltI 0 (Int.ofNat y))) (zd y) (zd x) (zd y) (zd (Nat.mod x y)) (Nat.add (Nat.add (S.nx (sD x y)) 2) 6)),[],[(Nat.beq y 0,false),(ltI 0 (Int.ofNat y),true)]):=by kernel_rfl
theorem g4 (X Y x y:Nat) (a b c d e f:AV) (n m:Nat):yk cxG xb (m + 5) G4 (sL X Y x y a b c d e f n) [.t] []=some (.nrm (sL X Y y (Nat.mod x y) (zd y) (ze (ltI 0 (Int.ofNat y))) (zd y) (zd x) (zd y) (zd (Nat.mod x y)) (Nat.add (Nat.add n 2) 6)),[],[(Nat.beq y 0,false),(ltI 0 (Int.ofNat y),true)]):=by kernel_rfl
theorem g4e (X Y x y:Nat) (a b c d e f:AV) (n m:Nat):yk cxG xb (m + 5) G4 (sL X Y x y a b c d e f n) [.f] []=some (.ext 2 (sL X Y x y (zd y) (ze (ltI 0 (Int.ofNat y))) c d e f (Nat.add n 2)),[],[(ltI 0 (Int.ofNat y),false)]):=by kernel_rfl
def zcW (r:Out):CR:=elimO (funcOf cxG 25) (.bad 1) fun p=>zL (finPure cxG p.1) r
theorem g6 (X Y x y:Nat) (a b c d e f:AV) (n m:Nat):elimO (yk cxG xb (m + 5) G6 (sL X Y x y a b c d e f n) [] []) none (fun r=>Out.rec (motive:=fun _=>Option (CR×Ob)) (fun _=>none) (fun _ _=>none) (fun s=>some (zcW (.ret s),r.2.2)) (fun _=>none) r.1)=some (.value (zn x) (some []),[]):=by kernel_rfl
theorem zfo (x:Nat):symCall cxG xb 100 25 [zn x,zn 0] [.c]=some (.value (zn x) (some []),[],[(true,true)]):=by kernel_rfl
section
variable {C:Cx} {n:Nat} {a b:Code} {s s':S} {id:Nat}
theorem wA (h:Go.Abs.run C n a s=.nrm s'):Go.Abs.run C (n + 1) (.seq a b) s=Go.Abs.run C n b s':=by
  have e:Go.Abs.run C (n + 1) (.seq a b) s=Out.rec (motive:=fun _=>Out) (fun s'=>Go.Abs.run C n b s') (fun i s'=>.ext i s') (fun s'=>.ret s') (fun w=>.bad w) (Go.Abs.run C n a s):=rfl
  rw [e,h]
theorem jf (h:Go.Abs.run C n a s=.ret s'):Go.Abs.run C (n + 1) (.seq a b) s=.ret s':=by
  have e:Go.Abs.run C (n + 1) (.seq a b) s=Out.rec (motive:=fun _=>Out) (fun s'=>Go.Abs.run C n b s') (fun i s'=>.ext i s') (fun s'=>.ret s') (fun w=>.bad w) (Go.Abs.run C n a s):=rfl
  rw [e,h]
theorem u5 (h:Go.Abs.run C n a s=.ret s'):Go.Abs.run C (n + 1) (.block id a) s=.ret s':=by
  have e:Go.Abs.run C (n + 1) (.block id a) s=Out.rec (motive:=fun _=>Out) (fun s'=>.nrm s') (fun id' s'=>ifB (Nat.beq id' id) (.nrm s') (.ext id' s')) (fun s'=>.ret s') (fun w=>.bad w) (Go.Abs.run C n a s):=rfl
  rw [e,h]
theorem Z0 (h:Go.Abs.run C n a s=.ext id s'):Go.Abs.run C (n + 1) (.block id a) s=.nrm s':=by
  have e:Go.Abs.run C (n + 1) (.block id a) s=Out.rec (motive:=fun _=>Out) (fun s'=>.nrm s') (fun id' s'=>ifB (Nat.beq id' id) (.nrm s') (.ext id' s')) (fun s'=>.ret s') (fun w=>.bad w) (Go.Abs.run C n a s):=rfl
  rw [e,h]
  show ifB (Nat.beq id id) _ _=_
  rw [Abs.beq_true.2 rfl]; rfl
theorem qW (h:Go.Abs.run C n a s=.nrm s'):Go.Abs.run C (n + 1) (.loop a) s=Go.Abs.run C n (.loop a) s':=by
  have e:Go.Abs.run C (n + 1) (.loop a) s=Out.rec (motive:=fun _=>Out) (fun s'=>Go.Abs.run C n (.loop a) s') (fun i s'=>.ext i s') (fun s'=>.ret s') (fun w=>.bad w) (Go.Abs.run C n a s):=rfl
  rw [e,h]
theorem Xn (h:Go.Abs.run C n a s=.ext id s'):Go.Abs.run C (n + 1) (.loop a) s=.ext id s':=by
  have e:Go.Abs.run C (n + 1) (.loop a) s=Out.rec (motive:=fun _=>Out) (fun s'=>Go.Abs.run C n (.loop a) s') (fun i s'=>.ext i s') (fun s'=>.ret s') (fun w=>.bad w) (Go.Abs.run C n a s):=rfl
  rw [e,h]
theorem Xo (h:Go.Abs.run C n a s=.ret s'):Go.Abs.run C (n + 1) (.loop a) s=.ret s':=by
  have e:Go.Abs.run C (n + 1) (.loop a) s=Out.rec (motive:=fun _=>Out) (fun s'=>Go.Abs.run C n (.loop a) s') (fun i s'=>.ext i s') (fun s'=>.ret s') (fun w=>.bad w) (Go.Abs.run C n a s):=rfl
  rw [e,h]
theorem UV {c:Operand} (h:zf (opd (S.env s) c) z9=some true):Go.Abs.run C (n + 1) (.cond c a b) s=Go.Abs.run C n a s:=by
  obtain ⟨env,H,nx,low⟩:=s
  have e:Go.Abs.run C (n + 1) (.cond c a b) ⟨env,H,nx,low⟩=elimO (zf (opd env c) z9) (.bad 101) (fun x=>Go.Abs.run C n (ifB x a b) ⟨env,H,nx,low⟩):=rfl
  rw [e,show zf (opd env c) z9=some true from h]; rfl
end
theorem zbd (X Y:Nat):∀ (y x:Nat) (a b c d e f:AV) (n m:Nat),y≤m→∃ a' b' c' d' e' f' n',Go.Abs.run cxG (m + 6) (.loop G4) (sL X Y x y a b c d e f n)=.ext 2 (sL X Y (Nat.gcd x y) 0 a' b' c' d' e' f' n'):=by
  intro y
  induction y using Nat.strongRecOn with
  |
    _ y ih =>
    intro x a b c d e f n m hm
    by_cases hy:y=0
    ·
      subst hy
      have h:=(wa (C:=cxG) (E:=xb) rfl _ (g4e X Y x 0 a b c d e f n m) (met_cons (Xc.2 (Nat.le_refl 0)) met_nil)).2
      rw [Nat.gcd_zero_right]
      exact ⟨_,_,_,_,_,_,_,Xn h⟩
    ·
      have h:=(wa (C:=cxG) (E:=xb) rfl _ (g4 X Y x y a b c d e f n m) (met_cons (zO.2 hy) (met_cons (kK.2 (by omega)) met_nil))).2
      have hlt:=Nat.mod_lt x (show y > 0 by omega)
      obtain ⟨k,rfl⟩:∃ k,m=k + 1:=⟨m - 1,by omega⟩
      obtain ⟨a',b',c',d',e',f',n',h'⟩:=ih (Nat.mod x y) hlt y (zd y) (ze (ltI 0 (Int.ofNat y))) (zd y) (zd x) (zd y) (zd (Nat.mod x y)) (Nat.add (Nat.add n 2) 6) k (by show x % y≤k; omega)
      refine ⟨a',b',c',d',e',f',n',?_⟩
      rw [qW h,show k + 1 + 5=k + 6 by omega,h']
      have:Nat.gcd y (Nat.mod x y)=Nat.gcd x y:=by show Nat.gcd y (x % y)=_; rw [Nat.gcd_comm y,← Nat.gcd_rec y x,Nat.gcd_comm]
      rw [this]
theorem zbe (x y:Nat) (hx:x < 18446744073709551616) (hy:y < 18446744073709551616):∃ n rd,Go.Abs.call cxG n 25 [zn x,zn y]=.value (zn (Nat.gcd x y)) rd:=by
  by_cases h0:y=0
  ·
    subst h0
    rw [Nat.gcd_zero_right]
    exact ⟨100,_,qn (C:=cxG) (E:=xb) rfl (by kernel_rfl) (zfo x) (met_cons rfl met_nil)⟩
  ·
    have r0:=fun m=>(wa (C:=cxG) (E:=xb) rfl _ (g0 x y m) met_nil).2
    have r1:=fun m=>(wa (C:=cxG) (E:=xb) rfl _ (g1 x y m) (met_cons (kK.2 (uJ.2 h0)) (met_cons (wn.2 hy) met_nil))).2
    have r2:=fun m=>(wa (C:=cxG) (E:=xb) rfl _ (g2 x y m) met_nil).2
    have r3:=fun m=>(wa (C:=cxG) (E:=xb) rfl _ (g3 x y m) met_nil).2
    have r4:=fun m=>(wa (C:=cxG) (E:=xb) rfl _ (g4s x y m) (met_cons (zO.2 h0) (met_cons (kK.2 (by omega)) met_nil))).2
    obtain ⟨a,b,c,d,e,f,n,r5⟩:=zbd x y (Nat.mod x y) y (zd y) (ze (ltI 0 (Int.ofNat y))) (zd y) (zd x) (zd y) (zd (Nat.mod x y)) (Nat.add (Nat.add (S.nx (sD x y)) 2) 6) y (by have:=Nat.mod_lt x (show y > 0 by omega); show x % y≤y; omega)
    have hg:Nat.gcd y (Nat.mod x y)=Nat.gcd x y:=by show Nat.gcd y (x % y)=_; rw [Nat.gcd_comm y,← Nat.gcd_rec y x,Nat.gcd_comm]
    rw [hg] at r5
    have rl:Go.Abs.run cxG (y + 7) (.loop G4) (sD x y)=.ext 2 (sL x y (Nat.gcd x y) 0 a b c d e f n):=by
      rw [show y + 7=(y + 6) + 1 by omega,qW (r4 (y + 1)),r5]
    have r6:=g6 x y (Nat.gcd x y) 0 a b c d e f n (y + 3)
    cases hr:yk cxG xb (y + 3 + 5) G6 (sL x y (Nat.gcd x y) 0 a b c d e f n) [] [] with
    | none=>rw [hr] at r6; cases r6
    |
      some q =>
      obtain ⟨o,ds,ob⟩:=q
      rw [hr,elimO_some] at r6
      cases o with
      |
        ret s6 =>
        replace r6:some (zcW (.ret s6),ob)=some (CR.value (zn (Nat.gcd x y)) (some []),[]):=r6
        injection r6 with r6; injection r6 with r6 r7
        subst r7
        have r8:=(wa (C:=cxG) (E:=xb) rfl _ hr met_nil).2
        have q1:Go.Abs.run cxG (y + 9) (.seq (.block 2 (.loop G4)) G6) (sD x y)=.ret s6:=by
          rw [show y + 9=(y + 8) + 1 by omega,wA (Z0 rl)]; exact r8
        have q2:Go.Abs.run cxG (y + 10) (.seq G3 (.seq (.block 2 (.loop G4)) G6)) (sC x y)=.ret s6:=by
          rw [show y + 10=(y + 9) + 1 by omega,wA (r3 (y + 4))]; exact q1
        have q3:Go.Abs.run cxG (y + 11) (.cond (.tmp 20) (.seq G3 (.seq (.block 2 (.loop G4)) G6)) G7) (sC x y)=.ret s6:=by
          rw [show y + 11=(y + 10) + 1 by omega,UV (g2c x y)]; exact q2
        have q4:=jf (b:=G8) (show Go.Abs.run cxG (y + 12) (.seq G2 (.cond (.tmp 20) (.seq G3 (.seq (.block 2 (.loop G4)) G6)) G7)) (sB x y)=.ret s6 by
          rw [show y + 12=(y + 11) + 1 by omega,wA (r2 (y + 6))]; exact q3)
        have q5:=u5 (id:=1) q4
        have q6:Go.Abs.run cxG (y + 15) (.seq G1 (.block 1 (.seq (.seq G2 (.cond (.tmp 20) (.seq G3 (.seq (.block 2 (.loop G4)) G6)) G7)) G8))) (sA x y)=.ret s6:=by
          rw [show y + 15=(y + 14) + 1 by omega,wA (r1 (y + 9))]; exact q5
        have q7:=jf (b:=G9) (u5 (id:=0) (Xo q6))
        have q8:Go.Abs.run cxG (y + 19) vg (sG x y)=.ret s6:=by
          rw [zbc,show y + 19=(y + 18) + 1 by omega,wA (r0 (y + 13))]; exact q7
        refine ⟨y + 19,some [],?_⟩
        obtain ⟨p,hp⟩:=Option.isSome_iff_exists.1 (show (funcOf cxG 25).isSome=true by kernel_rfl)
        have hc:vg=p.2:=by unfold vg; rw [hp]; rfl
        have ho:zcW (.ret s6)=zL (finPure cxG p.1) (.ret s6):=by unfold zcW; rw [hp]; rfl
        have hn:Nat.ble (lenL [zn x,zn y]) p.1.ntmps=true:=by
          have h:elimO (funcOf cxG 25) false (fun p=>Nat.ble 2 p.1.ntmps)=true:=by kernel_rfl
          rw [hp] at h; exact h
        unfold Go.Abs.call zx
        rw [show cxG.ext 25 [zn x,zn y]=none by kernel_rfl,elimO_none,hp,elimO_some,hn,ifB_true]
        unfold y8
        rw [zY,show andB (allB (flat 4) [zn x,zn y]) (notB (cxG.nf 25))=true from rfl,ifB_true,← hc]
        rw [show Go.Abs.run cxG (y + 19) vg ⟨zw 0 T.nil [zn x,zn y],T.nil,0,far⟩=.ret s6 from q8,← ho]
        exact r6
      | _=>cases r6
theorem zfp:Ok Tryz.prog E0 25:=zeh (C:=cxG) rfl mixed (vH Yv) fun l v h=>by
  rw [e_Gcd] at h
  replace h:=zE h; obtain ⟨a,b,rfl,h⟩:=h
  replace h:=z_ h; obtain ⟨x0,rfl,h⟩:=h
  replace h:=z_ h; obtain ⟨x1,rfl,h⟩:=h
  obtain ⟨rfl,hc⟩:=zB h
  obtain ⟨h1,h2⟩:=zl.1 hc
  exact ⟨rfl,rfl,zbe x0 x1 (wn.1 h1) (wn.1 h2)⟩
theorem zbf:∀ g,memN g zcU=true→Ok Tryz.prog E0 g:=zI Yv zfp
abbrev Kb:List Nat:=29::zcU
def zbg:Es:=only (fun g=>memN g zcU) E0
theorem zfq (l:List AV):E0 29 l=QR l:=by kernel_rfl
theorem UW (x1:Nat):NC zbg 29 [ze true,zn x1] [.c,.c,.c,.c]=NR (.agg [ze (ltI 0 (Int.ofNat (yt x1))),zd x1,zb]) (No (small x1,true)<|[]):=by kernel_rfl
theorem UX (x1:Nat):NC zbg 29 [ze false,zn x1] [.c,.c,.c,.c]=NR (.agg [ze false,zd x1,zb]) ([]):=by kernel_rfl
theorem zcX:Ok Tryz.prog E0 29:=zM (S:=fun g=>memN g zcU) mixed zbf rfl fun l v h=>by
  rw [zfq] at h
  replace h:=zE h; obtain ⟨a,b,rfl,h⟩:=h
  replace h:=Zv h; obtain ⟨s0,rfl,h⟩:=h
  replace h:=z_ h; obtain ⟨x1,rfl,h⟩:=h
  obtain ⟨rfl,hc⟩:=zB h
  try simp only [NQ,zA,zK,not_false_eq_true,and_true,true_and,and_self,reduceCtorEq,zR,zT,zU,ne_eq] at hc
  cases s0 <;> refine ⟨rfl,rfl,?_⟩
  · exact zq (UX x1) rfl
  · exact zq (UW x1) (zaO (zcK x1).symm rfl)
theorem Kc:∀ g,memN g Kb=true→Ok Tryz.prog E0 g:=zI zbf zcX
abbrev Kd:List Nat:=31::Kb
def Xp:Es:=only (fun g=>memN g Kb) E0
theorem zfr (l:List AV):E0 31 l=QS l:=by kernel_rfl
theorem UY (x0:Nat):NC Xp 31 [zh true x0] [.t]=NR (zt (Int.ofNat 0)) (No (eqI (Int.ofNat (yt x0)) 0,true)<|No (small x0,true)<|[]):=by kernel_rfl
theorem UZ (x0:Nat):NC Xp 31 [zh true x0] [.f,.c]=NR (zt (-1)) (No (eqI (Int.ofNat (yt x0)) 0,false)<|No (small x0,true)<|[]):=by kernel_rfl
theorem U0 (x0:Nat):NC Xp 31 [zh false x0] [.t]=NR (zt (Int.ofNat 0)) (No (eqI (Int.ofNat (yt x0)) 0,true)<|No (small x0,true)<|[]):=by kernel_rfl
theorem U2 (x0:Nat):NC Xp 31 [zh false x0] [.f,.c]=NR (zt (Int.ofNat 1)) (No (eqI (Int.ofNat (yt x0)) 0,false)<|No (small x0,true)<|[]):=by kernel_rfl
theorem zcY:Ok Tryz.prog E0 31:=zM (S:=fun g=>memN g Kb) mixed Kc rfl fun l v h=>by
  rw [zfr] at h
  replace h:=z0 h; obtain ⟨a,rfl,h⟩:=h
  replace h:=zQ h; obtain ⟨s0,x0,rfl,h⟩:=h
  obtain ⟨rfl,hc⟩:=zB h
  try simp only [NQ,zA,zK,not_false_eq_true,and_true,true_and,and_self,reduceCtorEq,zR,zT,zU,ne_eq] at hc
  cases s0 <;> refine ⟨rfl,rfl,?_⟩
  ·
    by_cases h:x0=0
    · subst h; exact zq (U0 0) rfl
    · exact zq (U2 x0) (uu (zcP h))
  ·
    by_cases h:x0=0
    · subst h; exact zq (UY 0) rfl
    · exact zq (UZ x0) (uu (zcO h))
theorem Ke:∀ g,memN g Kd=true→Ok Tryz.prog E0 g:=zI Kc zcY
abbrev zcZ:List Nat:=120::Kd
def zer:Es:=only (fun g=>memN g Kd) E0
theorem e_Abs (l:List AV):E0 120 l=zcA l:=by kernel_rfl
theorem Jl (x0:Nat):NC zer 120 [zh true x0] []=NR (.agg [zd x0,zb]) ([]):=by kernel_rfl
theorem Jm (x0:Nat):NC zer 120 [zh false x0] []=NR (.agg [zd x0,zb]) ([]):=by kernel_rfl
theorem zfs:Ok Tryz.prog E0 120:=zM (S:=fun g=>memN g Kd) mixed Ke rfl fun l v h=>by
  rw [e_Abs] at h
  replace h:=z0 h; obtain ⟨a,rfl,h⟩:=h
  replace h:=zQ h; obtain ⟨s0,x0,rfl,h⟩:=h
  obtain ⟨rfl,hc⟩:=zB h
  cases s0 <;> refine ⟨rfl,rfl,?_⟩
  · exact zq (Jm x0) rfl
  · exact zq (Jl x0) rfl
theorem zbh:∀ g,memN g zcZ=true→Ok Tryz.prog E0 g:=zI Ke zfs
abbrev zc0:List Nat:=182::zcZ
def Kf:Es:=only (fun g=>memN g zcZ) E0
theorem e_Cmp (l:List AV):E0 182 l=zcB l:=by kernel_rfl
theorem U3 (x0 x1:Nat):NC Kf 182 [zh true x0,zh true x1] [.c,.c,.c,.c]=NR (zt (xT x1 x0)) (No (true,true)<|[]):=by kernel_rfl
theorem U4 (x0 x1:Nat):NC Kf 182 [zh true x0,zh false x1] [.c,.c,.c,.c,.c]=NR (zt (-1)) ([]):=by kernel_rfl
theorem U5 (x0 x1:Nat):NC Kf 182 [zh false x0,zh true x1] [.c,.c,.c,.c,.c,.c]=NR (zt (Int.ofNat 1)) ([]):=by kernel_rfl
theorem U6 (x0 x1:Nat):NC Kf 182 [zh false x0,zh false x1] [.c,.c,.c,.c,.c,.c]=NR (zt (xT x0 x1)) (No (true,true)<|[]):=by kernel_rfl
theorem zft:Ok Tryz.prog E0 182:=zM (S:=fun g=>memN g zcZ) mixed zbh rfl fun l v h=>by
  rw [e_Cmp] at h
  replace h:=zE h; obtain ⟨a,b,rfl,h⟩:=h
  replace h:=zQ h; obtain ⟨s0,x0,rfl,h⟩:=h
  replace h:=zQ h; obtain ⟨s1,x1,rfl,h⟩:=h
  obtain ⟨rfl,hc⟩:=zB h
  cases s0 <;> cases s1 <;> refine ⟨rfl,rfl,?_⟩
  · exact zq (U6 x0 x1) rfl
  · exact zq (U5 x0 x1) rfl
  · exact zq (U4 x0 x1) rfl
  · exact zq (U3 x0 x1) rfl
theorem zbi:∀ g,memN g zc0=true→Ok Tryz.prog E0 g:=zI zbh zft
abbrev zc1:List Nat:=32::zc0
def zes:Es:=only (fun g=>memN g zc0) E0
theorem e_Neg (l:List AV):E0 32 l=zcC l:=by kernel_rfl
theorem Jn (x0:Nat):NC zes 32 [zh true x0] []=NR (.agg [ze (mk false x0),zd x0,zb]) (No (small x0,true)<|[]):=by kernel_rfl
theorem Jo (x0:Nat):NC zes 32 [zh false x0] []=NR (.agg [ze (mk true x0),zd x0,zb]) (No (small x0,true)<|[]):=by kernel_rfl
theorem zfu:Ok Tryz.prog E0 32:=zM (S:=fun g=>memN g zc0) mixed zbi rfl fun l v h=>by
  rw [e_Neg] at h
  replace h:=z0 h; obtain ⟨a,rfl,h⟩:=h
  replace h:=zQ h; obtain ⟨s0,x0,rfl,h⟩:=h
  obtain ⟨rfl,hc⟩:=zB h
  try simp only [NQ,zA,zK,not_false_eq_true,and_true,true_and,and_self,reduceCtorEq,zR,zT,zU,ne_eq] at hc
  cases s0 <;> refine ⟨rfl,rfl,?_⟩
  · exact zq (Jo x0) rfl
  · exact zq (Jn x0) rfl
theorem zbj:∀ g,memN g zc1=true→Ok Tryz.prog E0 g:=zI zbi zfu
abbrev zc2:List Nat:=164::zc1
def Yw:Es:=only (fun g=>memN g zc1) E0
theorem e_Add (l:List AV):E0 164 l=zcD l:=by kernel_rfl
theorem U7 (x0 x1:Nat):NC Yw 164 [zh true x0,zh true x1] [.c]=NR (.agg [ze (mk true (x0.add x1)),zd (x0.add x1),zb]) (No (small (x0.add x1),true)<|No (small (x0.add x1),true)<|[]):=by kernel_rfl
theorem U8 (x0 x1:Nat):NC Yw 164 [zh true x0,zh false x1] [.c,.t]=NR (.agg [ze (mk false (x1.sub x0)),zd (x1.sub x0),zb]) (No (small (x1.sub x0),true)<|No (andB (x0.ble x1) (small x1),true)<|N6 x0 x1<|[]):=by kernel_rfl
theorem U9 (x0 x1:Nat):NC Yw 164 [zh true x0,zh false x1] [.c,.f]=NR (.agg [ze (mk true (x0.sub x1)),zd (x0.sub x1),zb]) (No (small (x0.sub x1),true)<|No (andB (x1.ble x0) (small x0),true)<|N5 x0 x1<|[]):=by kernel_rfl
theorem U_ (x0 x1:Nat):NC Yw 164 [zh false x0,zh true x1] [.c,.t]=NR (.agg [ze (mk true (x1.sub x0)),zd (x1.sub x0),zb]) (No (small (x1.sub x0),true)<|No (andB (x0.ble x1) (small x1),true)<|N6 x0 x1<|[]):=by kernel_rfl
theorem Qa (x0 x1:Nat):NC Yw 164 [zh false x0,zh true x1] [.c,.f]=NR (.agg [ze (mk false (x0.sub x1)),zd (x0.sub x1),zb]) (No (small (x0.sub x1),true)<|No (andB (x1.ble x0) (small x0),true)<|N5 x0 x1<|[]):=by kernel_rfl
theorem Qb (x0 x1:Nat):NC Yw 164 [zh false x0,zh false x1] [.c]=NR (.agg [ze (mk false (x0.add x1)),zd (x0.add x1),zb]) (No (small (x0.add x1),true)<|No (small (x0.add x1),true)<|[]):=by kernel_rfl
theorem zfv:Ok Tryz.prog E0 164:=zM (S:=fun g=>memN g zc1) mixed zbj rfl fun l v h=>by
  rw [e_Add] at h
  replace h:=zE h; obtain ⟨a,b,rfl,h⟩:=h
  replace h:=zQ h; obtain ⟨s0,x0,rfl,h⟩:=h
  replace h:=zQ h; obtain ⟨s1,x1,rfl,h⟩:=h
  obtain ⟨rfl,hc⟩:=zB h
  cases s0 <;> cases s1 <;> refine ⟨rfl,rfl,?_⟩
  ·
    simp only [NQ,zA,zK,not_false_eq_true,and_true,true_and,and_self,reduceCtorEq,zR,zT,zU,ne_eq,yN,yu,xU,ifB_true,zk] at hc
    exact zq (Qb x0 x1) rfl
  ·
    by_cases h:x0 < x1
    ·
      rw [zaZ false true rfl h] at hc; simp only [NQ,zA,zK,not_false_eq_true,and_true,true_and,and_self,reduceCtorEq,zR,zT,zU,ne_eq] at hc; rw [Xj false true rfl h,zaX false true rfl h]
      exact zq (U_ x0 x1) rfl
    ·
      rw [za0 false true rfl h] at hc; simp only [NQ,zA,zK,not_false_eq_true,and_true,true_and,and_self,reduceCtorEq,zR,zT,zU,ne_eq] at hc; rw [Xk false true rfl h,zaY false true rfl h]
      exact zq (Qa x0 x1) rfl
  ·
    by_cases h:x0 < x1
    ·
      rw [zaZ true false rfl h] at hc; simp only [NQ,zA,zK,not_false_eq_true,and_true,true_and,and_self,reduceCtorEq,zR,zT,zU,ne_eq] at hc; rw [Xj true false rfl h,zaX true false rfl h]
      exact zq (U8 x0 x1) rfl
    ·
      rw [za0 true false rfl h] at hc; simp only [NQ,zA,zK,not_false_eq_true,and_true,true_and,and_self,reduceCtorEq,zR,zT,zU,ne_eq] at hc; rw [Xk true false rfl h,zaY true false rfl h]
      exact zq (U9 x0 x1) rfl
  ·
    simp only [NQ,zA,zK,not_false_eq_true,and_true,true_and,and_self,reduceCtorEq,zR,zT,zU,ne_eq,yN,yu,xU,ifB_true,zk] at hc
    exact zq (U7 x0 x1) rfl
theorem zbk:∀ g,memN g zc2=true→Ok Tryz.prog E0 g:=zI zbj zfv
abbrev zc3:List Nat:=134::zc2
def Kg:Es:=only (fun g=>memN g zc2) E0
theorem e_Sub (l:List AV):E0 134 l=zcE l:=by kernel_rfl
theorem Qc (x0 x1:Nat):NC Kg 134 [zh true x0,zh true x1] []=NR (.agg [ze (xc true x0 (mk (notB true) x1) x1),zd (yu true x0 (mk (notB true) x1) x1),zb]) (No (yN true x0 (mk (notB true) x1) x1,true)<|No (small x1,true)<|[]):=by kernel_rfl
theorem Qd (x0 x1:Nat):NC Kg 134 [zh true x0,zh false x1] []=NR (.agg [ze (xc true x0 (mk (notB false) x1) x1),zd (yu true x0 (mk (notB false) x1) x1),zb]) (No (yN true x0 (mk (notB false) x1) x1,true)<|No (small x1,true)<|[]):=by kernel_rfl
theorem Qe (x0 x1:Nat):NC Kg 134 [zh false x0,zh true x1] []=NR (.agg [ze (xc false x0 (mk (notB true) x1) x1),zd (yu false x0 (mk (notB true) x1) x1),zb]) (No (yN false x0 (mk (notB true) x1) x1,true)<|No (small x1,true)<|[]):=by kernel_rfl
theorem Qf (x0 x1:Nat):NC Kg 134 [zh false x0,zh false x1] []=NR (.agg [ze (xc false x0 (mk (notB false) x1) x1),zd (yu false x0 (mk (notB false) x1) x1),zb]) (No (yN false x0 (mk (notB false) x1) x1,true)<|No (small x1,true)<|[]):=by kernel_rfl
theorem zfw:Ok Tryz.prog E0 134:=zM (S:=fun g=>memN g zc2) mixed zbk rfl fun l v h=>by
  rw [e_Sub] at h
  replace h:=zE h; obtain ⟨a,b,rfl,h⟩:=h
  replace h:=zQ h; obtain ⟨s0,x0,rfl,h⟩:=h
  replace h:=zQ h; obtain ⟨s1,x1,rfl,h⟩:=h
  obtain ⟨rfl,hc⟩:=zB h
  try simp only [NQ,zA,zK,not_false_eq_true,and_true,true_and,and_self,reduceCtorEq,zR,zT,zU,ne_eq] at hc
  cases s0 <;> cases s1 <;> refine ⟨rfl,rfl,?_⟩
  ·
    have h1:=vU hc
    exact zq (Qf x0 x1) rfl
  ·
    have h1:=vU hc
    exact zq (Qe x0 x1) rfl
  ·
    have h1:=vU hc
    exact zq (Qd x0 x1) rfl
  ·
    have h1:=vU hc
    exact zq (Qc x0 x1) rfl
theorem zbl:∀ g,memN g zc3=true→Ok Tryz.prog E0 g:=zI zbk zfw
abbrev zc4:List Nat:=27::zc3
def Kh:Es:=only (fun g=>memN g zc3) E0
theorem e_Mul (l:List AV):E0 27 l=zcF l:=by kernel_rfl
theorem Qg (x0 x1:Nat):NC Kh 27 [zh true x0,zh true x1] []=NR (.agg [ze (mk false (x0.mul x1)),zd (x0.mul x1),zb]) (N0 x0 x1<|[]):=by kernel_rfl
theorem Qh (x0 x1:Nat):NC Kh 27 [zh true x0,zh false x1] []=NR (.agg [ze (mk true (x0.mul x1)),zd (x0.mul x1),zb]) (N0 x0 x1<|[]):=by kernel_rfl
theorem Qi (x0 x1:Nat):NC Kh 27 [zh false x0,zh true x1] []=NR (.agg [ze (mk true (x0.mul x1)),zd (x0.mul x1),zb]) (N0 x0 x1<|[]):=by kernel_rfl
theorem Qj (x0 x1:Nat):NC Kh 27 [zh false x0,zh false x1] []=NR (.agg [ze (mk false (x0.mul x1)),zd (x0.mul x1),zb]) (N0 x0 x1<|[]):=by kernel_rfl
theorem zfx:Ok Tryz.prog E0 27:=zM (S:=fun g=>memN g zc3) mixed zbl rfl fun l v h=>by
  rw [e_Mul] at h
  replace h:=zE h; obtain ⟨a,b,rfl,h⟩:=h
  replace h:=zQ h; obtain ⟨s0,x0,rfl,h⟩:=h
  replace h:=zQ h; obtain ⟨s1,x1,rfl,h⟩:=h
  obtain ⟨rfl,hc⟩:=zB h
  try simp only [NQ,zA,zK,not_false_eq_true,and_true,true_and,and_self,reduceCtorEq,zR,zT,zU,ne_eq] at hc
  cases s0 <;> cases s1 <;> refine ⟨rfl,rfl,?_⟩
  · exact zq (Qj x0 x1) rfl
  · exact zq (Qi x0 x1) rfl
  · exact zq (Qh x0 x1) rfl
  · exact zq (Qg x0 x1) rfl
theorem zbm:∀ g,memN g zc4=true→Ok Tryz.prog E0 g:=zI zbl zfx
abbrev zc5:List Nat:=61::zc4
def zet:Es:=only (fun g=>memN g zc4) E0
theorem e_One (l:List AV):E0 61 l=zcH l:=by kernel_rfl
theorem zbn:symCall (cxOf Tryz.prog zet) zet 100 61 [] []=some (CR.value (AV.agg [AV.v (Go.Value.int Go.IntKind.u64 (Int.ofNat 1)),AV.v (Go.Value.slice none 0 0)]) (some []),[],[(true,true)]):=by kernel_rfl
theorem zfy:Ok Tryz.prog E0 61:=zM (S:=fun g=>memN g zc4) mixed zbm rfl fun l v h=>by
  rw [e_One] at h
  replace h:=yx h; obtain ⟨rfl,h⟩:=h
  obtain ⟨rfl,hc⟩:=zB h
  refine ⟨rfl,rfl,?_⟩
  exact zq (zbn ) rfl
theorem zbo:∀ g,memN g zc5=true→Ok Tryz.prog E0 g:=zI zbm zfy
abbrev BOf:List Nat:=34::zc5
def S_Of:Es:=only (fun g=>memN g zc5) E0
theorem e_Of (l:List AV):E0 34 l=eOf l:=by kernel_rfl
theorem zbp (x0:Nat):NC S_Of 34 [zh true x0] []=NR (.agg [ze true,zd x0,zb,zd 0,zb]) ([]):=by kernel_rfl
theorem zbq (x0:Nat):NC S_Of 34 [zh false x0] []=NR (.agg [ze false,zd x0,zb,zd 0,zb]) ([]):=by kernel_rfl
theorem ok_Of:Ok Tryz.prog E0 34:=zM (S:=fun g=>memN g zc5) mixed zbo rfl fun l v h=>by
  rw [e_Of] at h
  replace h:=z0 h; obtain ⟨a,rfl,h⟩:=h
  replace h:=zQ h; obtain ⟨s0,x0,rfl,h⟩:=h
  obtain ⟨rfl,hc⟩:=zB h
  cases s0 <;> refine ⟨rfl,rfl,?_⟩
  · exact zq (zbq x0) rfl
  · exact zq (zbp x0) rfl
theorem zeu:∀ g,memN g BOf=true→Ok Tryz.prog E0 g:=zI zbo ok_Of
abbrev zc6:List Nat:=28::BOf
def zev:Es:=only (fun g=>memN g BOf) E0
theorem e_Num (l:List AV):E0 28 l=zcI l:=by kernel_rfl
theorem Jp (x0 e0:Nat):NC zev 28 [zg true x0 e0] []=NR (.agg [ze true,zd x0,zb]) ([]):=by kernel_rfl
theorem Jq (x0 e0:Nat):NC zev 28 [zg false x0 e0] []=NR (.agg [ze false,zd x0,zb]) ([]):=by kernel_rfl
theorem zfz:Ok Tryz.prog E0 28:=zM (S:=fun g=>memN g BOf) mixed zeu rfl fun l v h=>by
  rw [e_Num] at h
  replace h:=z0 h; obtain ⟨a,rfl,h⟩:=h
  replace h:=yb h; obtain ⟨s0,x0,e0,rfl,h⟩:=h
  obtain ⟨rfl,hc⟩:=zB h
  cases s0 <;> refine ⟨rfl,rfl,?_⟩
  · exact zq (Jq x0 e0) rfl
  · exact zq (Jp x0 e0) rfl
theorem zbr:∀ g,memN g zc6=true→Ok Tryz.prog E0 g:=zI zeu zfz
abbrev zc7:List Nat:=24::zc6
def zew:Es:=only (fun g=>memN g zc6) E0
theorem e_Den (l:List AV):E0 24 l=zcJ l:=by kernel_rfl
theorem Jr (x0 e0:Nat):NC zew 24 [zg true x0 e0] []=NR (.agg [zd (e0.add 1),zb]) (No (small (e0.add 1),true)<|No (true,true)<|[]):=by kernel_rfl
theorem Js (x0 e0:Nat):NC zew 24 [zg false x0 e0] []=NR (.agg [zd (e0.add 1),zb]) (No (small (e0.add 1),true)<|No (true,true)<|[]):=by kernel_rfl
theorem zfA:Ok Tryz.prog E0 24:=zM (S:=fun g=>memN g zc6) mixed zbr rfl fun l v h=>by
  rw [e_Den] at h
  replace h:=z0 h; obtain ⟨a,rfl,h⟩:=h
  replace h:=yb h; obtain ⟨s0,x0,e0,rfl,h⟩:=h
  obtain ⟨rfl,hc⟩:=zB h
  try simp only [NQ,zA,zK,not_false_eq_true,and_true,true_and,and_self,reduceCtorEq,zR,zT,zU,ne_eq] at hc
  cases s0 <;> refine ⟨rfl,rfl,?_⟩
  · exact zq (Js x0 e0) rfl
  · exact zq (Jr x0 e0) rfl
theorem zbs:∀ g,memN g zc7=true→Ok Tryz.prog E0 g:=zI zbr zfA
abbrev Xq:List Nat:=54::zc7
def Ki:Es:=only (fun g=>memN g zc7) E0
theorem zc8 (l:List AV):E0 54 l=Xa l:=by kernel_rfl
theorem Vo (x0 e0:Nat):NC Ki 54 [zg true x0 e0] []=NR (zt (yG true x0)) (No (small x0,true)<|[]):=by kernel_rfl
theorem Vp (x0 e0:Nat):NC Ki 54 [zg false x0 e0] []=NR (zt (yG false x0)) (No (small x0,true)<|[]):=by kernel_rfl
theorem zbt:Ok Tryz.prog E0 54:=zM (S:=fun g=>memN g zc7) mixed zbs rfl fun l v h=>by
  rw [zc8] at h
  replace h:=z0 h; obtain ⟨a,rfl,h⟩:=h
  replace h:=yb h; obtain ⟨s0,x0,e0,rfl,h⟩:=h
  obtain ⟨rfl,hc⟩:=zB h
  try simp only [NQ,zA,zK,not_false_eq_true,and_true,true_and,and_self,reduceCtorEq,zR,zT,zU,ne_eq] at hc
  cases s0 <;> refine ⟨rfl,rfl,?_⟩
  · exact zq (Vp x0 e0) rfl
  · exact zq (Vo x0 e0) rfl
theorem Vq:∀ g,memN g Xq=true→Ok Tryz.prog E0 g:=zI zbs zbt
abbrev jD:List Nat:=162::Xq
def Vr:Es:=only (fun g=>memN g Xq) E0
theorem zbu (l:List AV):E0 162 l=jy l:=by kernel_rfl
theorem Xr (x0 e0:Nat):NC Vr 162 [zg true x0 e0] []=NR (ze (eqI (Int.ofNat (yt e0)) 0)) (No (small e0,true)<|[]):=by kernel_rfl
theorem Xs (x0 e0:Nat):NC Vr 162 [zg false x0 e0] []=NR (ze (eqI (Int.ofNat (yt e0)) 0)) (No (small e0,true)<|[]):=by kernel_rfl
theorem Jt:Ok Tryz.prog E0 162:=zM (S:=fun g=>memN g Xq) mixed Vq rfl fun l v h=>by
  rw [zbu] at h
  replace h:=z0 h; obtain ⟨a,rfl,h⟩:=h
  replace h:=yb h; obtain ⟨s0,x0,e0,rfl,h⟩:=h
  obtain ⟨rfl,hc⟩:=zB h
  try simp only [NQ,zA,zK,not_false_eq_true,and_true,true_and,and_self,reduceCtorEq,zR,zT,zU,ne_eq] at hc
  cases s0 <;> refine ⟨rfl,rfl,?_⟩
  · exact zq (Xs x0 e0) (QY (ZC e0).symm)
  · exact zq (Xr x0 e0) (QY (ZC e0).symm)
theorem Yx:∀ g,memN g jD=true→Ok Tryz.prog E0 g:=zI Vq Jt
abbrev BBy:List Nat:=163::jD
def S_By:Es:=only (fun g=>memN g jD) E0
theorem e_By (l:List AV):E0 163 l=eBy l:=by kernel_rfl
theorem zbv (x0 x1:Nat):NC S_By 163 [zh true x0,zn x1] []=NR (.agg [ze (mk (xU true (mk false x1)) (x0.mul x1)),zd (x0.mul x1),zb]) (No (zA x0 x1,true)<|No (small x1,true)<|[]):=by kernel_rfl
theorem zbw (x0 x1:Nat):NC S_By 163 [zh false x0,zn x1] []=NR (.agg [ze (mk (xU false (mk false x1)) (x0.mul x1)),zd (x0.mul x1),zb]) (No (zA x0 x1,true)<|No (small x1,true)<|[]):=by kernel_rfl
theorem ok_By:Ok Tryz.prog E0 163:=zM (S:=fun g=>memN g jD) mixed Yx rfl fun l v h=>by
  rw [e_By] at h
  replace h:=zE h; obtain ⟨a,b,rfl,h⟩:=h
  replace h:=zQ h; obtain ⟨s0,x0,rfl,h⟩:=h
  replace h:=z_ h; obtain ⟨x1,rfl,h⟩:=h
  obtain ⟨rfl,hc⟩:=zB h
  try simp only [NQ,zA,zK,not_false_eq_true,and_true,true_and,and_self,reduceCtorEq,zR,zT,zU,ne_eq] at hc
  cases s0 <;> refine ⟨rfl,rfl,?_⟩
  · exact zq (zbw x0 x1) rfl
  · exact zq (zbv x0 x1) rfl
theorem zex:∀ g,memN g BBy=true→Ok Tryz.prog E0 g:=zI Yx ok_By
abbrev BLow:List Nat:=160::BBy
def Yy:Es:=only (fun g=>memN g BBy) E0
theorem e_Low (l:List AV):E0 160 l=zcG l:=by kernel_rfl
theorem Ju (x0 x1:Nat):NC Yy 160 [zh true x0,zn x1] [.t]=NR (.agg [ze true,zd x0,zb,zd 0,zb]) (No (eqI (Int.ofNat (yt x1)) 1,true)<|No (small x1,true)<|[]):=by kernel_rfl
theorem Jv (x0 x1:Nat):NC Yy 160 [zh true x0,zn x1] [.f,.t]=NR (.agg [ze (mk (ltI (yG true x0) 0) (x0.div (x0.gcd x1))),zd (x0.div (x0.gcd x1)),zb,zd ((x1.div (x0.gcd x1)).sub 1),zb]) (N7 x0 x1<|N4 x0 x1<|N8 x0 x1<|No (small x0,true)<|No (ltI 1 (Int.ofNat (yt (x0.gcd x1))),true)<|N1 x0 x1<|No (true,true)<|N2 x1<|[]):=by kernel_rfl
theorem Jw (x0 x1:Nat):NC Yy 160 [zh true x0,zn x1] [.f,.f]=NR (.agg [ze true,zd x0,zb,zd (x1.sub 1),zb]) (No (andB (Nat.ble 1 x1) (small x1),true)<|No (true,true)<|No (ltI 1 (Int.ofNat (yt (x0.gcd x1))),false)<|N1 x0 x1<|No (true,true)<|N2 x1<|[]):=by kernel_rfl
theorem Jx (x0 x1:Nat):NC Yy 160 [zh false x0,zn x1] [.t]=NR (.agg [ze false,zd x0,zb,zd 0,zb]) (No (eqI (Int.ofNat (yt x1)) 1,true)<|No (small x1,true)<|[]):=by kernel_rfl
theorem Jy (x0 x1:Nat):NC Yy 160 [zh false x0,zn x1] [.f,.t]=NR (.agg [ze (mk (ltI (yG false x0) 0) (x0.div (x0.gcd x1))),zd (x0.div (x0.gcd x1)),zb,zd ((x1.div (x0.gcd x1)).sub 1),zb]) (N7 x0 x1<|N4 x0 x1<|N8 x0 x1<|No (small x0,true)<|No (ltI 1 (Int.ofNat (yt (x0.gcd x1))),true)<|N1 x0 x1<|No (true,true)<|N2 x1<|[]):=by kernel_rfl
theorem Jz (x0 x1:Nat):NC Yy 160 [zh false x0,zn x1] [.f,.f]=NR (.agg [ze false,zd x0,zb,zd (x1.sub 1),zb]) (No (andB (Nat.ble 1 x1) (small x1),true)<|No (true,true)<|No (ltI 1 (Int.ofNat (yt (x0.gcd x1))),false)<|N1 x0 x1<|No (true,true)<|N2 x1<|[]):=by kernel_rfl
theorem zfB:Ok Tryz.prog E0 160:=zM (S:=fun g=>memN g BBy) mixed zex rfl fun l v h=>by
  rw [e_Low] at h
  replace h:=zE h; obtain ⟨a,b,rfl,h⟩:=h
  replace h:=zQ h; obtain ⟨s0,x0,rfl,h⟩:=h
  replace h:=z_ h; obtain ⟨x1,rfl,h⟩:=h
  obtain ⟨rfl,hc⟩:=zB h
  try simp only [NQ,zA,zK,not_false_eq_true,and_true,true_and,and_self,reduceCtorEq,zR,zT,zU,ne_eq] at hc
  cases s0 <;> refine ⟨rfl,rfl,?_⟩
  ·
    have g1:=Nat.gcd_le_left x1 (m:=x0)
    have g2:Nat.gcd x0 x1≤x1:=Nat.gcd_le_right x0 (by omega)
    have g3:0 < Nat.gcd x0 x1:=Nat.gcd_pos_of_pos_right x0 (by omega)
    have g4:=Nat.div_le_self x0 (Nat.gcd x0 x1)
    have g5:=Nat.div_le_self x1 (Nat.gcd x0 x1)
    have g6:0 < x1 / Nat.gcd x0 x1:=Nat.div_pos g2 g3
    by_cases h1:x1=1
    · exact zq (Jx x0 x1) (uL (by unfold xy; rw [Abs.beq_true.2 h1]; rfl) (by unfold yP; rw [Abs.beq_true.2 h1]; rfl) (by unfold yQ; rw [Abs.beq_true.2 h1]; rfl))
    ·
      by_cases h2:1 < Nat.gcd x0 x1
      · exact zq (Jy x0 x1) (uL (by unfold xy; rw [zO.2 h1,qo.2 h2,uK]; rfl) (by unfold yP; rw [zO.2 h1,qo.2 h2]; rfl) (by unfold yQ; rw [zO.2 h1,qo.2 h2]; rfl))
      · exact zq (Jz x0 x1) (uL (by unfold xy; rw [zO.2 h1,vT.2 (by omega)]; rfl) (by unfold yP; rw [zO.2 h1,vT.2 (by omega)]; rfl) (by unfold yQ; rw [zO.2 h1,vT.2 (by omega)]; rfl))
  ·
    have g1:=Nat.gcd_le_left x1 (m:=x0)
    have g2:Nat.gcd x0 x1≤x1:=Nat.gcd_le_right x0 (by omega)
    have g3:0 < Nat.gcd x0 x1:=Nat.gcd_pos_of_pos_right x0 (by omega)
    have g4:=Nat.div_le_self x0 (Nat.gcd x0 x1)
    have g5:=Nat.div_le_self x1 (Nat.gcd x0 x1)
    have g6:0 < x1 / Nat.gcd x0 x1:=Nat.div_pos g2 g3
    by_cases h1:x1=1
    · exact zq (Ju x0 x1) (uL (by unfold xy; rw [Abs.beq_true.2 h1]; rfl) (by unfold yP; rw [Abs.beq_true.2 h1]; rfl) (by unfold yQ; rw [Abs.beq_true.2 h1]; rfl))
    ·
      by_cases h2:1 < Nat.gcd x0 x1
      · exact zq (Jv x0 x1) (uL (by unfold xy; rw [zO.2 h1,qo.2 h2,uK]; rfl) (by unfold yP; rw [zO.2 h1,qo.2 h2]; rfl) (by unfold yQ; rw [zO.2 h1,qo.2 h2]; rfl))
      · exact zq (Jw x0 x1) (uL (by unfold xy; rw [zO.2 h1,vT.2 (by omega)]; rfl) (by unfold yP; rw [zO.2 h1,vT.2 (by omega)]; rfl) (by unfold yQ; rw [zO.2 h1,vT.2 (by omega)]; rfl))
theorem zbx:∀ g,memN g BLow=true→Ok Tryz.prog E0 g:=zI zex zfB
end
end Go.Proofs.YtagolmgljacneaaGreat.num
