/- THE FUNCTIONS ON SMALL NUMBERS, in this program: what they answer. Printed by a program (wip/num/gen_num.py). -/
import Derived.Test.YtcgnkejpcjcaoaaGreatEvNum
import Derived.Test.YtcgnkejpcjcaoaaGreatProg
import Derived.Test.YtcgnkejpcjcaoaaGreatLen64
import Derived.Test.YtcgnkejpcjcaoaaGreatMul64
set_option linter.unusedSimpArgs false
set_option linter.unusedVariables false
set_option maxRecDepth 100000
namespace Go.Proofs.YtcgnkejpcjcaoaaGreat.num
open Go.Abs
theorem mixed : Tryz.prog.follows .mixedOrders = true:=by kernel_rfl
noncomputable def tblT : T (List AV → Q):=
  T.set 183 (eFMake ok) <|
  T.set 67 eFCmp <|
  T.set 150 eFMul <|
  T.set 153 eFSub <|
  T.set 149 eFAdd <|
  T.set 194 (eJoin 195 197) <|
  T.set 196 eLow <|
  T.set 130 eBy <|
  T.set 128 eEntire <|
  T.set 27 eFSign <|
  T.set 34 eDen <|
  T.set 38 eNum <|
  T.set 44 eOf <|
  T.set 96 eOne <|
  T.set 37 eMul <|
  T.set 197 eSub <|
  T.set 195 eAdd <|
  T.set 42 eNeg <|
  T.set 129 eCmp <|
  T.set 179 eAbs <|
  T.set 41 eSign <|
  T.set 39 eMake <|
  T.set 35 eGcd <|
  T.set 33 (eNatDiv ok) <|
  T.set 36 eNatMul <|
  T.set 215 (eNatSub ok) <|
  T.set 95 eNatAdd <|
  T.set 91 eNatCmp <|
  T.set 32 eNatOf <|
  T.set 85 eBits <|
  T.set 198 eSub64 <|
  T.set 99 eAdd64 <|
  T.set 97 eMul64 <|
  T.set 155 eLen64 <|
  T.nil
noncomputable def E0 : Es:=fun f l => elimO (T.get tblT f) none fun g => g l
theorem nadd (a b:Nat) : Nat.add a b = a + b:=rfl
theorem nsub (a b:Nat) : Nat.sub a b = a - b:=rfl
theorem nmul (a b:Nat) : Nat.mul a b = a * b:=rfl
theorem ndiv (a b:Nat) : Nat.div a b = a / b:=rfl
theorem nmod (a b:Nat) : Nat.mod a b = a % b:=rfl
theorem notB_tt : notB true = false:=rfl
theorem notB_ff : notB false = true:=rfl
theorem andB_tt (x:Bool) : andB true x = x:=by cases x <;> rfl
theorem andB_ft (x:Bool) : andB false x = false:=by cases x <;> rfl
theorem nsucc (a:Nat) : Nat.succ a = a + 1:=rfl
theorem signI_t {x:Nat} (h:x ≠ 0) : signI true x = .negSucc 0:=by unfold signI; rw [beq_f.2 h]; rfl
theorem signI_f {x:Nat} (h:x ≠ 0) : signI false x = .ofNat 1:=by unfold signI; rw [beq_f.2 h]; rfl
theorem entire_len (e:Nat) : eqI (Int.ofNat (len64 e)) 0 = Nat.beq e 0:=by
  cases h : Nat.beq e 0 with
  | true => rw [eqI0_t,len64_zero]; exact Abs.beq_true.1 h
  | false => rw [eqI0_f]; intro e0; exact beq_f.1 h (len64_zero.1 e0)
theorem sumN_l (s t:Bool) {x y:Nat} (hs:xorB s t = true) (h:x < y) : sumN s x t y = y - x:=by unfold sumN; rw [hs,lt_t.2 h]; rfl
theorem sumN_g (s t:Bool) {x y:Nat} (hs:xorB s t = true) (h : ¬ x < y) : sumN s x t y = x - y:=by unfold sumN; rw [hs,lt_f.2 (by omega)]; rfl
theorem sumS_l (s t:Bool) {x y:Nat} (hs:xorB s t = true) (h:x < y) : sumS s x t y = mk t (y - x):=by unfold sumS; rw [sumN_l s t hs h,hs,lt_t.2 h]; rfl
theorem sumS_g (s t:Bool) {x y:Nat} (hs:xorB s t = true) (h : ¬ x < y) : sumS s x t y = mk s (x - y):=by unfold sumS; rw [sumN_g s t hs h,hs,lt_f.2 (by omega)]; rfl
theorem sumC_l (s t:Bool) {x y:Nat} (hs:xorB s t = true) (h:x < y) : sumC s x t y = andB (small x) (andB (small y) (small (y - x))):=by unfold sumC; rw [sumN_l s t hs h]
theorem sumC_g (s t:Bool) {x y:Nat} (hs:xorB s t = true) (h : ¬ x < y) : sumC s x t y = andB (small x) (andB (small y) (small (x - y))):=by unfold sumC; rw [sumN_g s t hs h]
theorem q0 : type_of% @small_t:=@small_t
theorem q1 : type_of% @ble_true:=@ble_true
theorem q2 : type_of% @ble_f:=@ble_f
theorem q3 : type_of% @Abs.beq_true:=@Abs.beq_true
theorem q4 : type_of% @beq_f:=@beq_f
theorem q5 : type_of% @andB_true:=@andB_true
theorem q6 : type_of% @notB_t:=@notB_t
theorem q7 : type_of% @notB_f:=@notB_f
theorem q8 : type_of% @pos_t:=@pos_t
theorem q9 : type_of% @pos_f:=@pos_f
theorem q10 : type_of% @lt_t:=@lt_t
theorem q11 : type_of% @lt_f:=@lt_f
theorem q12 : type_of% @eqI_t:=@eqI_t
theorem q13 : type_of% @eqI_f:=@eqI_f
theorem q14 : type_of% @eqI0_t:=@eqI0_t
theorem q15 : type_of% @eqI0_f:=@eqI0_f
theorem q16 : type_of% @eqI1_t:=@eqI1_t
theorem q17 : type_of% @eqI1_f:=@eqI1_f
theorem q18 : type_of% @ltI_t:=@ltI_t
theorem q19 : type_of% @ltI_f:=@ltI_f
theorem q20 : type_of% @ltI0_t:=@ltI0_t
theorem q21 : type_of% @ltI0_f:=@ltI0_f
theorem q22 : type_of% @ltI1_t:=@ltI1_t
theorem q23 : type_of% @ltI1_f:=@ltI1_f
theorem q24 : type_of% @cmpN_t:=@cmpN_t
theorem q25 : type_of% @cmpN_f:=@cmpN_f
theorem q26 : type_of% @len64_zero:=@len64_zero
theorem q27 : type_of% @len64_one:=@len64_one
theorem q28 : type_of% @len64_pos:=@len64_pos
theorem q29 : type_of% @len64_one_lt:=@len64_one_lt
theorem q30 : type_of% @len64_le_zero:=@len64_le_zero
theorem q31 : type_of% @len64_le_one:=@len64_le_one
theorem q34 : type_of% @nadd:=@nadd
theorem q35 : type_of% @nsub:=@nsub
theorem q36 : type_of% @nmul:=@nmul
theorem q37 : type_of% @ndiv:=@ndiv
theorem q38 : type_of% @nmod:=@nmod
theorem q39 : type_of% @nsucc:=@nsucc
theorem q40 : type_of% @signI_neg:=@signI_neg
theorem q41 : type_of% @signI_zero:=@signI_zero
theorem q42 : type_of% @notB_tt:=@notB_tt
theorem q43 : type_of% @notB_ff:=@notB_ff
theorem q44 : type_of% @andB_tt:=@andB_tt
theorem q45 : type_of% @andB_ft:=@andB_ft
theorem q46 : type_of% @Nat.mul_one:=@Nat.mul_one
theorem q55 : type_of% @ifB_true:=@ifB_true
theorem q56 : type_of% @ifB_false:=@ifB_false
theorem NQ : (type_of% @q0) ∧ (type_of% @q1) ∧ (type_of% @q2) ∧ (type_of% @q3) ∧ (type_of% @q4) ∧ (type_of% @q5) ∧ (type_of% @q6) ∧ (type_of% @q7) ∧ (type_of% @q8) ∧ (type_of% @q9) ∧ (type_of% @q10) ∧ (type_of% @q11) ∧ (type_of% @q12) ∧ (type_of% @q13) ∧ (type_of% @q14) ∧ (type_of% @q15) ∧ (type_of% @q16) ∧ (type_of% @q17) ∧ (type_of% @q18) ∧ (type_of% @q19) ∧ (type_of% @q20) ∧ (type_of% @q21) ∧ (type_of% @q22) ∧ (type_of% @q23) ∧ (type_of% @q24) ∧ (type_of% @q25) ∧ (type_of% @q26) ∧ (type_of% @q27) ∧ (type_of% @q28) ∧ (type_of% @q29) ∧ (type_of% @q30) ∧ (type_of% @q31) ∧ (type_of% @q34) ∧ (type_of% @q35) ∧ (type_of% @q36) ∧ (type_of% @q37) ∧ (type_of% @q38) ∧ (type_of% @q39) ∧ (type_of% @q40) ∧ (type_of% @q41) ∧ (type_of% @q42) ∧ (type_of% @q43) ∧ (type_of% @q44) ∧ (type_of% @q45) ∧ (type_of% @q46) ∧ (type_of% @q55) ∧ (type_of% @q56):=⟨@q0,@q1,@q2,@q3,@q4,@q5,@q6,@q7,@q8,@q9,@q10,@q11,@q12,@q13,@q14,@q15,@q16,@q17,@q18,@q19,@q20,@q21,@q22,@q23,@q24,@q25,@q26,@q27,@q28,@q29,@q30,@q31,@q34,@q35,@q36,@q37,@q38,@q39,@q40,@q41,@q42,@q43,@q44,@q45,@q46,@q55,@q56⟩
theorem sumC_small {s t:Bool} {x y:Nat} (h:sumC s x t y = true) : x < 18446744073709551616 ∧ y < 18446744073709551616:=by
  obtain ⟨h1,h⟩:=andB_true.1 h
  exact ⟨small_t.1 h1,small_t.1 (andB_true.1 h).1⟩
theorem run_add64 (args:Array Value) (w:World) : (callFunc 99 args).run Tryz.prog w = ((add64Entry args).run Tryz.prog w).andThen fun v w' => .ok (.value v) w':=
  run_callFunc_extern Tryz.func99 (by kernel_rfl) (by kernel_rfl) (by kernel_rfl) (by kernel_rfl) args w
theorem run_sub64 (args:Array Value) (w:World) : (callFunc 198 args).run Tryz.prog w = ((sub64Entry args).run Tryz.prog w).andThen fun v w' => .ok (.value v) w':=
  run_callFunc_extern Tryz.func198 (by kernel_rfl) (by kernel_rfl) (by kernel_rfl) (by kernel_rfl) args w
theorem bitLen_len (f:Nat) : ∀ x,x < 2 ^ f → Lib.bitLenAux f x = len64 x:=by
  induction f with
  | zero =>
    intro x hx
    have : x = 0:=by simpa using hx
    subst this; rfl
  | succ f ih =>
    intro x hx
    show (if x = 0 then 0 else 1 + Lib.bitLenAux f (x / 2)) = _
    by_cases h : x = 0
    · subst h; rfl
    · rw [if_neg h,ih _ (by rw [Nat.pow_succ] at hx; omega)]
      unfold len64
      rw [beq_f.2 h,ifB_false]
      by_cases h1 : x = 1
      · subst h1; rfl
      · rw [beq_f.2 (by omega),ifB_false,Nat.log2_def x,if_pos (by omega)]; omega
theorem ok_Len64 : Ok Tryz.prog E0 155:=by
  obtain ⟨p,hp⟩:=Option.isSome_iff_exists.1 (show (funcOf (cxOf Tryz.prog E0) 155).isSome = true by kernel_rfl)
  refine ok_len64 (C:=cxOf Tryz.prog E0) rfl hp (fun l => show E0 155 l = eLen64 l by kernel_rfl) fun x w hx => ?_
  have h:=Tryz.bits_Len64 (x:Int) w (by omega) (by omega)
  rw [Int.toNat_natCast,show Lib.bitLen x = len64 x from bitLen_len 64 x hx] at h
  exact h
theorem ok_Mul64 : Ok Tryz.prog E0 97:=by
  obtain ⟨p,hp⟩:=Option.isSome_iff_exists.1 (show (funcOf (cxOf Tryz.prog E0) 97).isSome = true by kernel_rfl)
  exact ok_mul64 (C:=cxOf Tryz.prog E0) rfl hp (fun l => show E0 97 l = eMul64 l by kernel_rfl) fun x y hx hy w => tryz_mul64 x y hx hy w
theorem ok_Add64 : Ok Tryz.prog E0 99:=
  ok_carry (g:=add64) (fun l => show E0 99 l = eAdd64 l by kernel_rfl) fun X j w l v args h hr => add64_ok (C:=cxOf Tryz.prog E0) run_add64 h hr
theorem ok_Sub64 : Ok Tryz.prog E0 198:=
  ok_carry (g:=sub64) (fun l => show E0 198 l = eSub64 l by kernel_rfl) fun X j w l v args h hr => sub64_ok (C:=cxOf Tryz.prog E0) run_sub64 h hr
theorem al_none : ∀ g,memN g [] = true → Ok Tryz.prog E0 g:=fun g h => by cases h
theorem al_bits : ∀ g,memN g [198,99,97,155] = true → Ok Tryz.prog E0 g:=mem_step (mem_step (mem_step (mem_step al_none ok_Len64) ok_Mul64) ok_Add64) ok_Sub64
noncomputable def S_Bits : Es:=only (fun g => memN g [198,99,97,155]) E0
theorem e_Bits (l:List AV) : E0 85 l = eBits l:=by kernel_rfl
noncomputable abbrev No (a:Bool×Bool)(l:Ob):Ob:=a::l
noncomputable abbrev NC (S:Es)(f:Nat)(a:List AV)(d:List Dc):=symCall (cxOf Tryz.prog S) S 100 f a d
abbrev NR (v:AV)(o:Ob):Option (CR×List Dc×Ob):=some (CR.value v (some []),[],o)
noncomputable abbrev N0 (x0 x1:Nat)(l:Ob):Ob:=No (small (x0.mul x1),true)<|No (andB (small x0) (andB (small x1) (small (x0.mul x1))),true)<|l
noncomputable abbrev N1 (x0 x1:Nat)(l:Ob):Ob:=No (small (x0.gcd x1),true)<|No (andB (small x0) (small x1),true)<|l
noncomputable abbrev N2 (x1:Nat)(l:Ob):Ob:=No (eqI (Int.ofNat (len64 x1)) 1,false)<|No (small x1,true)<|l
noncomputable abbrev N3 (x0 x1:Nat)(l:Ob):Ob:=No (eqI (Int.ofNat x1) 0,false)<|No (eqI (Int.ofNat x0) 0,false)<|l
noncomputable abbrev N4 (x0 x1:Nat)(l:Ob):Ob:=No (andB (pos (x0.gcd x1)) (andB (small x1) (small (x0.gcd x1))),true)<|No (small (x0.div (x0.gcd x1)),true)<|l
noncomputable abbrev N5 (x0 x1:Nat)(l:Ob):Ob:=No (ltI (cmpN x0 x1) 0,false)<|No (true,true)<|l
noncomputable abbrev N6 (x0 x1:Nat)(l:Ob):Ob:=No (ltI (cmpN x0 x1) 0,true)<|No (true,true)<|l
noncomputable abbrev N7 (x0 x1:Nat)(l:Ob):Ob:=No (andB (Nat.ble 1 (x1.div (x0.gcd x1))) (small (x1.div (x0.gcd x1))),true)<|No (true,true)<|l
noncomputable abbrev N8 (x0 x1:Nat)(l:Ob):Ob:=No (andB (pos (x0.gcd x1)) (andB (small x0) (small (x0.gcd x1))),true)<|No (true,true)<|l
theorem p_Bits__0 (x0:Nat):NC S_Bits 85 [natA x0] [.c]=NR (i64A (Int.ofNat (len64 x0))) (No (small x0,true)<|[]):=by kernel_rfl
theorem ok_Bits : Ok Tryz.prog E0 85:=ok_sym (S:=fun g => memN g [198,99,97,155]) mixed al_bits rfl fun l v h => by
  rw [e_Bits] at h
  replace h:=arg1_some h; obtain ⟨a,rfl,h⟩:=h
  replace h:=natP_some h; obtain ⟨x0,rfl,h⟩:=h
  obtain ⟨rfl,hc⟩:=q_some h
  try simp only [NQ,mulC,lowC,not_false_eq_true,and_true,true_and,and_self,reduceCtorEq,subN,subS,subC,ne_eq] at hc
  refine ⟨rfl,rfl,?_⟩
  exact leaf_ok (p_Bits__0 x0) rfl (by (repeat' apply met_cons) <;> first | exact met_nil | with_reducible rfl | assumption | ((try simp only [NQ,mulC,lowC,not_false_eq_true,and_true,true_and,and_self,reduceCtorEq,subN,subS,subC,ne_eq]) <;> first | omega | (simp only [hc]; done)))
theorem al_Bits : ∀ g,memN g [85,198,99,97,155] = true → Ok Tryz.prog E0 g:=mem_step al_bits ok_Bits
noncomputable def S_NatOf : Es:=only (fun g => memN g [85,198,99,97,155]) E0
theorem e_NatOf (l:List AV) : E0 32 l = eNatOf l:=by kernel_rfl
theorem p_NatOf__0 (x0:Nat):NC S_NatOf 32 [u64A x0] []=NR (.agg [u64A x0,nilS]) ([]):=by kernel_rfl
theorem ok_NatOf : Ok Tryz.prog E0 32:=ok_sym (S:=fun g => memN g [85,198,99,97,155]) mixed al_Bits rfl fun l v h => by
  rw [e_NatOf] at h
  replace h:=arg1_some h; obtain ⟨a,rfl,h⟩:=h
  replace h:=u64P_some h; obtain ⟨x0,rfl,h⟩:=h
  obtain ⟨rfl,hc⟩:=q_some h
  refine ⟨rfl,rfl,?_⟩
  exact leaf_ok (p_NatOf__0 x0) rfl (by (repeat' apply met_cons) <;> first | exact met_nil | with_reducible rfl | assumption | ((try simp only [NQ,mulC,lowC,not_false_eq_true,and_true,true_and,and_self,reduceCtorEq,subN,subS,subC,ne_eq]) <;> first | omega | (simp only [hc]; done)))
theorem al_NatOf : ∀ g,memN g [32,85,198,99,97,155] = true → Ok Tryz.prog E0 g:=mem_step al_Bits ok_NatOf
noncomputable def S_NatCmp : Es:=only (fun g => memN g [32,85,198,99,97,155]) E0
theorem e_NatCmp (l:List AV) : E0 91 l = eNatCmp l:=by kernel_rfl
theorem p_NatCmp__0 (x0 x1:Nat):NC S_NatCmp 91 [natA x0,natA x1] [.c,.t,.c,.t,.c,.c]=NR (i64A (Int.ofNat 0)) (No (eqI (Int.ofNat x1) 0,true)<|No (eqI (Int.ofNat x0) 0,true)<|[]):=by kernel_rfl
theorem p_NatCmp__1 (x0 x1:Nat):NC S_NatCmp 91 [natA x0,natA x1] [.c,.t,.c,.f,.c,.c]=NR (i64A (-1)) (No (eqI (Int.ofNat x1) 0,false)<|No (eqI (Int.ofNat x0) 0,true)<|[]):=by kernel_rfl
theorem p_NatCmp__2 (x0 x1:Nat):NC S_NatCmp 91 [natA x0,natA x1] [.c,.f,.c,.t,.c,.c]=NR (i64A (Int.ofNat 1)) (No (eqI (Int.ofNat x1) 0,true)<|No (eqI (Int.ofNat x0) 0,false)<|[]):=by kernel_rfl
theorem p_NatCmp__3 (x0 x1:Nat):NC S_NatCmp 91 [natA x0,natA x1] [.c,.f,.c,.f,.c,.c,.t]=NR (i64A (-1)) (No (ltI (Int.ofNat x0) (Int.ofNat x1),true)<|N3 x0 x1<|[]):=by kernel_rfl
theorem p_NatCmp__4 (x0 x1:Nat):NC S_NatCmp 91 [natA x0,natA x1] [.c,.f,.c,.f,.c,.c,.f,.t]=NR (i64A (Int.ofNat 1)) (No (ltI (Int.ofNat x1) (Int.ofNat x0),true)<|No (ltI (Int.ofNat x0) (Int.ofNat x1),false)<|N3 x0 x1<|[]):=by kernel_rfl
theorem p_NatCmp__5 (x0 x1:Nat):NC S_NatCmp 91 [natA x0,natA x1] [.c,.f,.c,.f,.c,.c,.f,.f,.c]=NR (i64A (Int.ofNat 0)) (No (ltI (Int.ofNat x1) (Int.ofNat x0),false)<|No (ltI (Int.ofNat x0) (Int.ofNat x1),false)<|N3 x0 x1<|[]):=by kernel_rfl
theorem ok_NatCmp : Ok Tryz.prog E0 91:=ok_sym (S:=fun g => memN g [32,85,198,99,97,155]) mixed al_NatOf rfl fun l v h => by
  rw [e_NatCmp] at h
  replace h:=arg2_some h; obtain ⟨a,b,rfl,h⟩:=h
  replace h:=natP_some h; obtain ⟨x0,rfl,h⟩:=h
  replace h:=natP_some h; obtain ⟨x1,rfl,h⟩:=h
  obtain ⟨rfl,hc⟩:=q_some h
  refine ⟨rfl,rfl,?_⟩
  by_cases h0 : x0 = 0
  · by_cases h1 : x1 = 0
    · exact leaf_ok (p_NatCmp__0 x0 x1) (i64A_c (cmpN_eq (by omega))) (by (repeat' apply met_cons) <;> first | exact met_nil | with_reducible rfl | assumption | ((try simp only [NQ,mulC,lowC,not_false_eq_true,and_true,true_and,and_self,reduceCtorEq,subN,subS,subC,ne_eq]) <;> first | omega | (simp only [hc]; done)))
    · exact leaf_ok (p_NatCmp__1 x0 x1) (i64A_c (cmpN_lt (by omega))) (by (repeat' apply met_cons) <;> first | exact met_nil | with_reducible rfl | assumption | ((try simp only [NQ,mulC,lowC,not_false_eq_true,and_true,true_and,and_self,reduceCtorEq,subN,subS,subC,ne_eq]) <;> first | omega | (simp only [hc]; done)))
  · by_cases h1 : x1 = 0
    · exact leaf_ok (p_NatCmp__2 x0 x1) (i64A_c (cmpN_gt (by omega))) (by (repeat' apply met_cons) <;> first | exact met_nil | with_reducible rfl | assumption | ((try simp only [NQ,mulC,lowC,not_false_eq_true,and_true,true_and,and_self,reduceCtorEq,subN,subS,subC,ne_eq]) <;> first | omega | (simp only [hc]; done)))
    · by_cases h2 : x0 < x1
      · exact leaf_ok (p_NatCmp__3 x0 x1) (i64A_c (cmpN_lt (by omega))) (by (repeat' apply met_cons) <;> first | exact met_nil | with_reducible rfl | assumption | ((try simp only [NQ,mulC,lowC,not_false_eq_true,and_true,true_and,and_self,reduceCtorEq,subN,subS,subC,ne_eq]) <;> first | omega | (simp only [hc]; done)))
      · by_cases h3 : x1 < x0
        · exact leaf_ok (p_NatCmp__4 x0 x1) (i64A_c (cmpN_gt (by omega))) (by (repeat' apply met_cons) <;> first | exact met_nil | with_reducible rfl | assumption | ((try simp only [NQ,mulC,lowC,not_false_eq_true,and_true,true_and,and_self,reduceCtorEq,subN,subS,subC,ne_eq]) <;> first | omega | (simp only [hc]; done)))
        · exact leaf_ok (p_NatCmp__5 x0 x1) (i64A_c (cmpN_eq (by omega))) (by (repeat' apply met_cons) <;> first | exact met_nil | with_reducible rfl | assumption | ((try simp only [NQ,mulC,lowC,not_false_eq_true,and_true,true_and,and_self,reduceCtorEq,subN,subS,subC,ne_eq]) <;> first | omega | (simp only [hc]; done)))
theorem al_NatCmp : ∀ g,memN g [91,32,85,198,99,97,155] = true → Ok Tryz.prog E0 g:=mem_step al_NatOf ok_NatCmp
noncomputable def S_NatAdd : Es:=only (fun g => memN g [91,32,85,198,99,97,155]) E0
theorem e_NatAdd (l:List AV) : E0 95 l = eNatAdd l:=by kernel_rfl
theorem p_NatAdd__0 (x0 x1:Nat):NC S_NatAdd 95 [natA x0,natA x1] [.c,.c,.c,.c,.c,.t]=NR (.agg [u64A (((x0.add x1).add 0).mod 18446744073709551616),nilS]) (No (eqI (Int.ofNat (((x0.add x1).add 0).div 18446744073709551616)) 0,true)<|No (true,true)<|[]):=by kernel_rfl
theorem p_NatAdd__1 (x0 x1:Nat):NC S_NatAdd 95 [natA x0,natA x1] [.c,.c,.c,.c,.c,.f]=NR (.agg [u64A 0,AV.vs { o:=O9.mk (some (u64A (((x0.add x1).add 0).mod 18446744073709551616))) { o:=O9.mk (some (u64A (((x0.add x1).add 0).div 18446744073709551616))) T.nil T.nil T.nil T.nil T.nil T.nil T.nil T.nil } T.nil T.nil T.nil T.nil T.nil T.nil T.nil } 0 2 1 2 true]) (No (eqI (Int.ofNat (((x0.add x1).add 0).div 18446744073709551616)) 0,false)<|No (true,true)<|[]):=by kernel_rfl
theorem ok_NatAdd : Ok Tryz.prog E0 95:=ok_sym (S:=fun g => memN g [91,32,85,198,99,97,155]) mixed al_NatCmp rfl fun l v h => by
  rw [e_NatAdd] at h
  replace h:=arg2_some h; obtain ⟨a,b,rfl,h⟩:=h
  replace h:=natP_some h; obtain ⟨x0,rfl,h⟩:=h
  replace h:=natP_some h; obtain ⟨x1,rfl,h⟩:=h
  obtain ⟨rfl,hc⟩:=q_some h
  try simp only [NQ,mulC,lowC,not_false_eq_true,and_true,true_and,and_self,reduceCtorEq,subN,subS,subC,ne_eq] at hc
  refine ⟨rfl,rfl,?_⟩
  exact leaf_ok (p_NatAdd__0 x0 x1) (natA_c (by simp only [NQ,mulC,lowC,not_false_eq_true,and_true,true_and,and_self,reduceCtorEq,subN,subS,subC,ne_eq]; omega)) (by (repeat' apply met_cons) <;> first | exact met_nil | with_reducible rfl | assumption | ((try simp only [NQ,mulC,lowC,not_false_eq_true,and_true,true_and,and_self,reduceCtorEq,subN,subS,subC,ne_eq]) <;> first | omega | (simp only [hc]; done)))
theorem al_NatAdd : ∀ g,memN g [95,91,32,85,198,99,97,155] = true → Ok Tryz.prog E0 g:=mem_step al_NatCmp ok_NatAdd
noncomputable def S_NatSub : Es:=only (fun g => memN g [95,91,32,85,198,99,97,155]) E0
theorem e_NatSub (l:List AV) : E0 215 l = (eNatSub ok) l:=by kernel_rfl
theorem p_NatSub__0 (x0 x1:Nat):NC S_NatSub 215 [natA x0,natA x1] [.t]=NR (AV.tuple [.agg [u64A 0,nilS],i64A (Int.ofNat 10)]) (N6 x0 x1<|[]):=by kernel_rfl
theorem p_NatSub__1 (x0 x1:Nat):NC S_NatSub 215 [natA x0,natA x1] [.f,.c]=NR (AV.tuple [.agg [u64A (x0.sub x1),nilS],i64A (Int.ofNat 0)]) (No (x1.ble x0,true)<|No (small x0,true)<|N5 x0 x1<|[]):=by kernel_rfl
theorem ok_NatSub : Ok Tryz.prog E0 215:=ok_sym (S:=fun g => memN g [95,91,32,85,198,99,97,155]) mixed al_NatAdd rfl fun l v h => by
  rw [e_NatSub] at h
  replace h:=arg2_some h; obtain ⟨a,b,rfl,h⟩:=h
  replace h:=natP_some h; obtain ⟨x0,rfl,h⟩:=h
  replace h:=natP_some h; obtain ⟨x1,rfl,h⟩:=h
  obtain ⟨rfl,hc⟩:=q_some h
  try simp only [NQ,mulC,lowC,not_false_eq_true,and_true,true_and,and_self,reduceCtorEq,subN,subS,subC,ne_eq] at hc
  refine ⟨rfl,rfl,?_⟩
  exact leaf_ok (p_NatSub__1 x0 x1) rfl (by (repeat' apply met_cons) <;> first | exact met_nil | with_reducible rfl | assumption | ((try simp only [NQ,mulC,lowC,not_false_eq_true,and_true,true_and,and_self,reduceCtorEq,subN,subS,subC,ne_eq]) <;> first | omega | (simp only [hc]; done)))
theorem al_NatSub : ∀ g,memN g [215,95,91,32,85,198,99,97,155] = true → Ok Tryz.prog E0 g:=mem_step al_NatAdd ok_NatSub
noncomputable def S_NatMul : Es:=only (fun g => memN g [215,95,91,32,85,198,99,97,155]) E0
theorem e_NatMul (l:List AV) : E0 36 l = eNatMul l:=by kernel_rfl
theorem p_NatMul__0 (x0 x1:Nat):NC S_NatMul 36 [natA x0,natA x1] [.c,.c,.c,.c,.c,.t]=NR (.agg [u64A ((x0.mul x1).mod 18446744073709551616),nilS]) (No (eqI (Int.ofNat ((x0.mul x1).div 18446744073709551616)) 0,true)<|No (andB (small x0) (small x1),true)<|[]):=by kernel_rfl
theorem p_NatMul__1 (x0 x1:Nat):NC S_NatMul 36 [natA x0,natA x1] [.c,.c,.c,.c,.c,.f]=NR (.agg [u64A 0,AV.vs { o:=O9.mk (some (u64A ((x0.mul x1).mod 18446744073709551616))) { o:=O9.mk (some (u64A ((x0.mul x1).div 18446744073709551616))) T.nil T.nil T.nil T.nil T.nil T.nil T.nil T.nil } T.nil T.nil T.nil T.nil T.nil T.nil T.nil } 0 2 1 2 true]) (No (eqI (Int.ofNat ((x0.mul x1).div 18446744073709551616)) 0,false)<|No (andB (small x0) (small x1),true)<|[]):=by kernel_rfl
theorem ok_NatMul : Ok Tryz.prog E0 36:=ok_sym (S:=fun g => memN g [215,95,91,32,85,198,99,97,155]) mixed al_NatSub rfl fun l v h => by
  rw [e_NatMul] at h
  replace h:=arg2_some h; obtain ⟨a,b,rfl,h⟩:=h
  replace h:=natP_some h; obtain ⟨x0,rfl,h⟩:=h
  replace h:=natP_some h; obtain ⟨x1,rfl,h⟩:=h
  obtain ⟨rfl,hc⟩:=q_some h
  try simp only [NQ,mulC,lowC,not_false_eq_true,and_true,true_and,and_self,reduceCtorEq,subN,subS,subC,ne_eq] at hc
  refine ⟨rfl,rfl,?_⟩
  exact leaf_ok (p_NatMul__0 x0 x1) (natA_c (by simp only [NQ,mulC,lowC,not_false_eq_true,and_true,true_and,and_self,reduceCtorEq,subN,subS,subC,ne_eq]; omega)) (by (repeat' apply met_cons) <;> first | exact met_nil | with_reducible rfl | assumption | ((try simp only [NQ,mulC,lowC,not_false_eq_true,and_true,true_and,and_self,reduceCtorEq,subN,subS,subC,ne_eq]) <;> first | omega | (simp only [hc]; done)))
theorem al_NatMul : ∀ g,memN g [36,215,95,91,32,85,198,99,97,155] = true → Ok Tryz.prog E0 g:=mem_step al_NatSub ok_NatMul
noncomputable def S_NatDiv : Es:=only (fun g => memN g [36,215,95,91,32,85,198,99,97,155]) E0
theorem e_NatDiv (l:List AV) : E0 33 l = (eNatDiv ok) l:=by kernel_rfl
theorem p_NatDiv__0 (x0 x1:Nat):NC S_NatDiv 33 [natA x0,natA x1] [.t]=NR (AV.tuple [.agg [u64A 0,nilS],.agg [u64A 0,nilS],i64A (Int.ofNat 11)]) (No (eqI (Int.ofNat (len64 x1)) 0,true)<|No (small x1,true)<|[]):=by kernel_rfl
theorem p_NatDiv__1 (x0 x1:Nat):NC S_NatDiv 33 [natA x0,natA x1] [.f,.t]=NR (AV.tuple [.agg [u64A 0,nilS],.agg [u64A x0,nilS],i64A (Int.ofNat 0)]) (N6 x0 x1<|No (eqI (Int.ofNat (len64 x1)) 0,false)<|No (small x1,true)<|[]):=by kernel_rfl
theorem p_NatDiv__2 (x0 x1:Nat):NC S_NatDiv 33 [natA x0,natA x1] [.f,.f,.c]=NR (AV.tuple [.agg [u64A (x0.div x1),nilS],.agg [u64A (x0.mod x1),nilS],i64A (Int.ofNat 0)]) (No (x1.beq 0,false)<|No (x1.beq 0,false)<|No (small x0,true)<|N5 x0 x1<|No (eqI (Int.ofNat (len64 x1)) 0,false)<|No (small x1,true)<|[]):=by kernel_rfl
theorem ok_NatDiv : Ok Tryz.prog E0 33:=ok_sym (S:=fun g => memN g [36,215,95,91,32,85,198,99,97,155]) mixed al_NatMul rfl fun l v h => by
  rw [e_NatDiv] at h
  replace h:=arg2_some h; obtain ⟨a,b,rfl,h⟩:=h
  replace h:=natP_some h; obtain ⟨x0,rfl,h⟩:=h
  replace h:=natP_some h; obtain ⟨x1,rfl,h⟩:=h
  obtain ⟨rfl,hc⟩:=q_some h
  try simp only [NQ,mulC,lowC,not_false_eq_true,and_true,true_and,and_self,reduceCtorEq,subN,subS,subC,ne_eq] at hc
  refine ⟨rfl,rfl,?_⟩
  by_cases h : x0 < x1
  · exact leaf_ok (p_NatDiv__1 x0 x1) (tuple3_c (natA_c (Nat.div_eq_of_lt h)) (natA_c (Nat.mod_eq_of_lt h)) rfl) (by (repeat' apply met_cons) <;> first | exact met_nil | with_reducible rfl | assumption | ((try simp only [NQ,mulC,lowC,not_false_eq_true,and_true,true_and,and_self,reduceCtorEq,subN,subS,subC,ne_eq]) <;> first | omega | (simp only [hc]; done)))
  · exact leaf_ok (p_NatDiv__2 x0 x1) rfl (by (repeat' apply met_cons) <;> first | exact met_nil | with_reducible rfl | assumption | ((try simp only [NQ,mulC,lowC,not_false_eq_true,and_true,true_and,and_self,reduceCtorEq,subN,subS,subC,ne_eq]) <;> first | omega | (simp only [hc]; done)))
theorem al_NatDiv : ∀ g,memN g [33,36,215,95,91,32,85,198,99,97,155] = true → Ok Tryz.prog E0 g:=mem_step al_NatMul ok_NatDiv
noncomputable def S_Gcd : Es:=only (fun g => memN g [33,36,215,95,91,32,85,198,99,97,155]) E0
theorem e_Gcd (l:List AV) : E0 35 l = eGcd l:=by kernel_rfl
noncomputable def cxG : Cx:=cxOf Tryz.prog S_Gcd
def sub : Code → List Nat → Code
  | .seq a _,0::l => sub a l
  | .seq _ b,1::l => sub b l
  | .cond _ a _,0::l => sub a l
  | .cond _ _ b,1::l => sub b l
  | .block _ a,0::l => sub a l
  | .loop a,0::l => sub a l
  | .scope a,0::l => sub a l
  | c,[] => c
  | _,_ => .skip
noncomputable def codeG : Code:=elimO (funcOf cxG 35) Code.skip (fun p => p.2)
noncomputable def G0 : Code:=sub codeG [0]
noncomputable def G1 : Code:=sub codeG [1,0,0,0,0]
noncomputable def G2 : Code:=sub codeG [1,0,0,0,1,0,0,0]
noncomputable def G3 : Code:=sub codeG [1,0,0,0,1,0,0,1,0,0]
noncomputable def G4 : Code:=sub codeG [1,0,0,0,1,0,0,1,0,1,0,0,0]
noncomputable def G6 : Code:=sub codeG [1,0,0,0,1,0,0,1,0,1,1]
noncomputable def G7 : Code:=sub codeG [1,0,0,0,1,0,0,1,1]
noncomputable def G8 : Code:=sub codeG [1,0,0,0,1,0,1]
noncomputable def G9 : Code:=sub codeG [1,1]
theorem codeG_eq : codeG = .seq G0 (.seq (.block 0 (.loop (.seq G1 (.block 1 (.seq (.seq G2 (.cond (.tmp 20) (.seq G3 (.seq (.block 2 (.loop G4)) G6)) G7)) G8))))) G9):=by kernel_rfl
noncomputable def stOf (r:Option DO) : S:=Option.rec ⟨T.nil,T.nil,0,0⟩ (fun r => Out.rec (motive:=fun _ => S) (fun s => s) (fun _ s => s) (fun s => s) (fun _ => ⟨T.nil,T.nil,0,0⟩) r.1) r
noncomputable def sG (x y:Nat) : S:=⟨fillT 0 T.nil [natA x,natA y],T.nil,0,far⟩
noncomputable def sA (x y:Nat) : S:=stOf (runD cxG S_Gcd 20 G0 (sG x y) [] [])
noncomputable def sB (x y:Nat) : S:=stOf (runD cxG S_Gcd 20 G1 (sA x y) [.t] [])
noncomputable def sC (x y:Nat) : S:=stOf (runD cxG S_Gcd 20 G2 (sB x y) [.c,.c,.c,.c,.c,.c] [])
noncomputable def sD (x y:Nat) : S:=stOf (runD cxG S_Gcd 20 G3 (sC x y) [] [])
noncomputable def sL (X Y x y:Nat) (a b c d e f:AV) (n:Nat) : S:=
  ⟨T.set 5 (u64A x) (T.set 6 (u64A y) (T.set 25 a (T.set 26 b (T.set 27 c (T.set 28 d (T.set 29 e (T.set 30 f (S.env (sD X Y))))))))),S.H (sD X Y),n,S.low (sD X Y)⟩
theorem g0 (x y m:Nat) : runD cxG S_Gcd (m + 5) G0 (sG x y) [] [] = some (.nrm (sA x y),[],[]):=by kernel_rfl
theorem g1 (x y m:Nat) : runD cxG S_Gcd (m + 5) G1 (sA x y) [.t] [] = some (.nrm (sB x y),[],[(ltI 0 (Int.ofNat (len64 y)),true),(small y,true)]):=by kernel_rfl
theorem g2 (x y m:Nat) : runD cxG S_Gcd (m + 5) G2 (sB x y) [.c,.c,.c,.c] [] = some (.nrm (sC x y),[],[]):=by kernel_rfl
theorem g2c (x y:Nat) : bindO (opd (S.env (sC x y)) (.tmp 20)) boolOf = some true:=by kernel_rfl
theorem g3 (x y m:Nat) : runD cxG S_Gcd (m + 5) G3 (sC x y) [] [] = some (.nrm (sD x y),[],[]):=by kernel_rfl
theorem g4s (x y m:Nat) : runD cxG S_Gcd (m + 5) G4 (sD x y) [.t] [] = some (.nrm (sL x y y (Nat.mod x y) (u64A y) (boolA (ltI 0 (Int.ofNat y))) (u64A y) (u64A x) (u64A y) (u64A (Nat.mod x y)) (Nat.add (Nat.add (S.nx (sD x y)) 2) 6)),[],[(Nat.beq y 0,false),(ltI 0 (Int.ofNat y),true)]):=by kernel_rfl
theorem g4 (X Y x y:Nat) (a b c d e f:AV) (n m:Nat) : runD cxG S_Gcd (m + 5) G4 (sL X Y x y a b c d e f n) [.t] [] = some (.nrm (sL X Y y (Nat.mod x y) (u64A y) (boolA (ltI 0 (Int.ofNat y))) (u64A y) (u64A x) (u64A y) (u64A (Nat.mod x y)) (Nat.add (Nat.add n 2) 6)),[],[(Nat.beq y 0,false),(ltI 0 (Int.ofNat y),true)]):=by kernel_rfl
theorem g4e (X Y x y:Nat) (a b c d e f:AV) (n m:Nat) : runD cxG S_Gcd (m + 5) G4 (sL X Y x y a b c d e f n) [.f] [] = some (.ext 2 (sL X Y x y (u64A y) (boolA (ltI 0 (Int.ofNat y))) c d e f (Nat.add n 2)),[],[(ltI 0 (Int.ofNat y),false)]):=by kernel_rfl
noncomputable def outG (r:Out) : CR:=elimO (funcOf cxG 35) (.bad 1) fun p => doneWith (finPure cxG p.1) r
theorem g6 (X Y x y:Nat) (a b c d e f:AV) (n m:Nat) : elimO (runD cxG S_Gcd (m + 5) G6 (sL X Y x y a b c d e f n) [] []) none (fun r => Out.rec (motive:=fun _ => Option (CR × Ob)) (fun _ => none) (fun _ _ => none) (fun s => some (outG (.ret s),r.2.2)) (fun _ => none) r.1) = some (.value (natA x) (some []),[]):=by kernel_rfl
theorem g_zero (x:Nat) : symCall cxG S_Gcd 100 35 [natA x,natA 0] [.c] = some (.value (natA x) (some []),[],[(true,true)]):=by kernel_rfl
section
variable {C:Cx} {n:Nat} {a b:Code} {s s' : S} {id:Nat}
theorem run_seq_nrm (h:Go.Abs.run C n a s = .nrm s') : Go.Abs.run C (n + 1) (.seq a b) s = Go.Abs.run C n b s':=by
  have e : Go.Abs.run C (n + 1) (.seq a b) s = Out.rec (motive:=fun _ => Out) (fun s' => Go.Abs.run C n b s') (fun i s' => .ext i s') (fun s' => .ret s') (fun w => .bad w) (Go.Abs.run C n a s):=rfl
  rw [e,h]
theorem run_seq_ret (h:Go.Abs.run C n a s = .ret s') : Go.Abs.run C (n + 1) (.seq a b) s = .ret s':=by
  have e : Go.Abs.run C (n + 1) (.seq a b) s = Out.rec (motive:=fun _ => Out) (fun s' => Go.Abs.run C n b s') (fun i s' => .ext i s') (fun s' => .ret s') (fun w => .bad w) (Go.Abs.run C n a s):=rfl
  rw [e,h]
theorem run_block_ret (h:Go.Abs.run C n a s = .ret s') : Go.Abs.run C (n + 1) (.block id a) s = .ret s':=by
  have e : Go.Abs.run C (n + 1) (.block id a) s = Out.rec (motive:=fun _ => Out) (fun s' => .nrm s') (fun id' s' => ifB (Nat.beq id' id) (.nrm s') (.ext id' s')) (fun s' => .ret s') (fun w => .bad w) (Go.Abs.run C n a s):=rfl
  rw [e,h]
theorem run_block_ext (h:Go.Abs.run C n a s = .ext id s') : Go.Abs.run C (n + 1) (.block id a) s = .nrm s':=by
  have e : Go.Abs.run C (n + 1) (.block id a) s = Out.rec (motive:=fun _ => Out) (fun s' => .nrm s') (fun id' s' => ifB (Nat.beq id' id) (.nrm s') (.ext id' s')) (fun s' => .ret s') (fun w => .bad w) (Go.Abs.run C n a s):=rfl
  rw [e,h]
  show ifB (Nat.beq id id) _ _ = _
  rw [Abs.beq_true.2 rfl]; rfl
theorem run_loop_nrm (h:Go.Abs.run C n a s = .nrm s') : Go.Abs.run C (n + 1) (.loop a) s = Go.Abs.run C n (.loop a) s':=by
  have e : Go.Abs.run C (n + 1) (.loop a) s = Out.rec (motive:=fun _ => Out) (fun s' => Go.Abs.run C n (.loop a) s') (fun i s' => .ext i s') (fun s' => .ret s') (fun w => .bad w) (Go.Abs.run C n a s):=rfl
  rw [e,h]
theorem run_loop_ext (h:Go.Abs.run C n a s = .ext id s') : Go.Abs.run C (n + 1) (.loop a) s = .ext id s':=by
  have e : Go.Abs.run C (n + 1) (.loop a) s = Out.rec (motive:=fun _ => Out) (fun s' => Go.Abs.run C n (.loop a) s') (fun i s' => .ext i s') (fun s' => .ret s') (fun w => .bad w) (Go.Abs.run C n a s):=rfl
  rw [e,h]
theorem run_loop_ret (h:Go.Abs.run C n a s = .ret s') : Go.Abs.run C (n + 1) (.loop a) s = .ret s':=by
  have e : Go.Abs.run C (n + 1) (.loop a) s = Out.rec (motive:=fun _ => Out) (fun s' => Go.Abs.run C n (.loop a) s') (fun i s' => .ext i s') (fun s' => .ret s') (fun w => .bad w) (Go.Abs.run C n a s):=rfl
  rw [e,h]
theorem run_cond_t {c:Operand} (h:bindO (opd (S.env s) c) boolOf = some true) : Go.Abs.run C (n + 1) (.cond c a b) s = Go.Abs.run C n a s:=by
  obtain ⟨env,H,nx,low⟩:=s
  have e : Go.Abs.run C (n + 1) (.cond c a b) ⟨env,H,nx,low⟩ = elimO (bindO (opd env c) boolOf) (.bad 101) (fun x => Go.Abs.run C n (ifB x a b) ⟨env,H,nx,low⟩):=rfl
  rw [e,show bindO (opd env c) boolOf = some true from h]; rfl
end
theorem gcd_loop (X Y:Nat) : ∀ (y x:Nat) (a b c d e f:AV) (n m:Nat),y ≤ m → ∃ a' b' c' d' e' f' n',Go.Abs.run cxG (m + 6) (.loop G4) (sL X Y x y a b c d e f n) = .ext 2 (sL X Y (Nat.gcd x y) 0 a' b' c' d' e' f' n'):=by
  intro y
  induction y using Nat.strongRecOn with
  | _ y ih =>
    intro x a b c d e f n m hm
    by_cases hy : y = 0
    · subst hy
      have h:=(runD_ok (C:=cxG) (E:=S_Gcd) rfl _ (g4e X Y x 0 a b c d e f n m) (met_cons (ltI0_f.2 (Nat.le_refl 0)) met_nil)).2
      rw [Nat.gcd_zero_right]
      exact ⟨_,_,_,_,_,_,_,run_loop_ext h⟩
    · have h:=(runD_ok (C:=cxG) (E:=S_Gcd) rfl _ (g4 X Y x y a b c d e f n m) (met_cons (beq_f.2 hy) (met_cons (ltI0_t.2 (by omega)) met_nil))).2
      have hlt:=Nat.mod_lt x (show y > 0 by omega)
      obtain ⟨k,rfl⟩ : ∃ k,m = k + 1:=⟨m - 1,by omega⟩
      obtain ⟨a',b',c',d',e',f',n',h'⟩:=ih (Nat.mod x y) hlt y (u64A y) (boolA (ltI 0 (Int.ofNat y))) (u64A y) (u64A x) (u64A y) (u64A (Nat.mod x y)) (Nat.add (Nat.add n 2) 6) k (by show x % y ≤ k; omega)
      refine ⟨a',b',c',d',e',f',n',?_⟩
      rw [run_loop_nrm h,show k + 1 + 5 = k + 6 by omega,h']
      have : Nat.gcd y (Nat.mod x y) = Nat.gcd x y:=by show Nat.gcd y (x % y) = _; rw [Nat.gcd_comm y,← Nat.gcd_rec y x,Nat.gcd_comm]
      rw [this]
theorem gcd_call (x y:Nat) (hx:x < 18446744073709551616) (hy:y < 18446744073709551616) : ∃ n rd,Go.Abs.call cxG n 35 [natA x,natA y] = .value (natA (Nat.gcd x y)) rd:=by
  by_cases h0 : y = 0
  · subst h0
    rw [Nat.gcd_zero_right]
    exact ⟨100,_,symCall_ok (C:=cxG) (E:=S_Gcd) rfl (by kernel_rfl) (g_zero x) (met_cons rfl met_nil)⟩
  · have r0:=fun m => (runD_ok (C:=cxG) (E:=S_Gcd) rfl _ (g0 x y m) met_nil).2
    have r1:=fun m => (runD_ok (C:=cxG) (E:=S_Gcd) rfl _ (g1 x y m) (met_cons (ltI0_t.2 (len64_pos.2 h0)) (met_cons (small_t.2 hy) met_nil))).2
    have r2:=fun m => (runD_ok (C:=cxG) (E:=S_Gcd) rfl _ (g2 x y m) met_nil).2
    have r3:=fun m => (runD_ok (C:=cxG) (E:=S_Gcd) rfl _ (g3 x y m) met_nil).2
    have r4:=fun m => (runD_ok (C:=cxG) (E:=S_Gcd) rfl _ (g4s x y m) (met_cons (beq_f.2 h0) (met_cons (ltI0_t.2 (by omega)) met_nil))).2
    obtain ⟨a,b,c,d,e,f,n,r5⟩:=gcd_loop x y (Nat.mod x y) y (u64A y) (boolA (ltI 0 (Int.ofNat y))) (u64A y) (u64A x) (u64A y) (u64A (Nat.mod x y)) (Nat.add (Nat.add (S.nx (sD x y)) 2) 6) y (by have:=Nat.mod_lt x (show y > 0 by omega); show x % y ≤ y; omega)
    have hg : Nat.gcd y (Nat.mod x y) = Nat.gcd x y:=by show Nat.gcd y (x % y) = _; rw [Nat.gcd_comm y,← Nat.gcd_rec y x,Nat.gcd_comm]
    rw [hg] at r5
    have rl : Go.Abs.run cxG (y + 7) (.loop G4) (sD x y) = .ext 2 (sL x y (Nat.gcd x y) 0 a b c d e f n):=by
      rw [show y + 7 = (y + 6) + 1 by omega,run_loop_nrm (r4 (y + 1)),r5]
    have r6:=g6 x y (Nat.gcd x y) 0 a b c d e f n (y + 3)
    cases hr : runD cxG S_Gcd (y + 3 + 5) G6 (sL x y (Nat.gcd x y) 0 a b c d e f n) [] [] with
    | none => rw [hr] at r6; cases r6
    | some q =>
      obtain ⟨o,ds,ob⟩:=q
      rw [hr,elimO_some] at r6
      cases o with
      | ret s6 =>
        replace r6 : some (outG (.ret s6),ob) = some (CR.value (natA (Nat.gcd x y)) (some []),[]):=r6
        injection r6 with r6; injection r6 with r6 r7
        subst r7
        have r8:=(runD_ok (C:=cxG) (E:=S_Gcd) rfl _ hr met_nil).2
        have q1 : Go.Abs.run cxG (y + 9) (.seq (.block 2 (.loop G4)) G6) (sD x y) = .ret s6:=by
          rw [show y + 9 = (y + 8) + 1 by omega,run_seq_nrm (run_block_ext rl)]; exact r8
        have q2 : Go.Abs.run cxG (y + 10) (.seq G3 (.seq (.block 2 (.loop G4)) G6)) (sC x y) = .ret s6:=by
          rw [show y + 10 = (y + 9) + 1 by omega,run_seq_nrm (r3 (y + 4))]; exact q1
        have q3 : Go.Abs.run cxG (y + 11) (.cond (.tmp 20) (.seq G3 (.seq (.block 2 (.loop G4)) G6)) G7) (sC x y) = .ret s6:=by
          rw [show y + 11 = (y + 10) + 1 by omega,run_cond_t (g2c x y)]; exact q2
        have q4:=run_seq_ret (b:=G8) (show Go.Abs.run cxG (y + 12) (.seq G2 (.cond (.tmp 20) (.seq G3 (.seq (.block 2 (.loop G4)) G6)) G7)) (sB x y) = .ret s6 by
          rw [show y + 12 = (y + 11) + 1 by omega,run_seq_nrm (r2 (y + 6))]; exact q3)
        have q5:=run_block_ret (id:=1) q4
        have q6 : Go.Abs.run cxG (y + 15) (.seq G1 (.block 1 (.seq (.seq G2 (.cond (.tmp 20) (.seq G3 (.seq (.block 2 (.loop G4)) G6)) G7)) G8))) (sA x y) = .ret s6:=by
          rw [show y + 15 = (y + 14) + 1 by omega,run_seq_nrm (r1 (y + 9))]; exact q5
        have q7:=run_seq_ret (b:=G9) (run_block_ret (id:=0) (run_loop_ret q6))
        have q8 : Go.Abs.run cxG (y + 19) codeG (sG x y) = .ret s6:=by
          rw [codeG_eq,show y + 19 = (y + 18) + 1 by omega,run_seq_nrm (r0 (y + 13))]; exact q7
        refine ⟨y + 19,some [],?_⟩
        obtain ⟨p,hp⟩:=Option.isSome_iff_exists.1 (show (funcOf cxG 35).isSome = true by kernel_rfl)
        have hc : codeG = p.2:=by unfold codeG; rw [hp]; rfl
        have ho : outG (.ret s6) = doneWith (finPure cxG p.1) (.ret s6):=by unfold outG; rw [hp]; rfl
        have hn : Nat.ble (lenL [natA x,natA y]) p.1.ntmps = true:=by
          have h : elimO (funcOf cxG 35) false (fun p => Nat.ble 2 p.1.ntmps) = true:=by kernel_rfl
          rw [hp] at h; exact h
        unfold Go.Abs.call callWith
        rw [show cxG.ext 35 [natA x,natA y] = none by kernel_rfl,elimO_none,hp,elimO_some,hn,ifB_true]
        unfold enterWith
        rw [fill_eq,show andB (allB (flat 4) [natA x,natA y]) (notB (cxG.nf 35)) = true from rfl,ifB_true,← hc]
        rw [show Go.Abs.run cxG (y + 19) codeG ⟨fillT 0 T.nil [natA x,natA y],T.nil,0,far⟩ = .ret s6 from q8,← ho]
        exact r6
      | _ => cases r6
theorem ok_Gcd : Ok Tryz.prog E0 35:=ok_of (C:=cxG) rfl mixed (extOk_of al_NatDiv) fun l v h => by
  rw [e_Gcd] at h
  replace h:=arg2_some h; obtain ⟨a,b,rfl,h⟩:=h
  replace h:=natP_some h; obtain ⟨x0,rfl,h⟩:=h
  replace h:=natP_some h; obtain ⟨x1,rfl,h⟩:=h
  obtain ⟨rfl,hc⟩:=q_some h
  obtain ⟨h1,h2⟩:=andB_true.1 hc
  exact ⟨rfl,rfl,gcd_call x0 x1 (small_t.1 h1) (small_t.1 h2)⟩
theorem al_Gcd : ∀ g,memN g [35,33,36,215,95,91,32,85,198,99,97,155] = true → Ok Tryz.prog E0 g:=mem_step al_NatDiv ok_Gcd
noncomputable def S_Make : Es:=only (fun g => memN g [35,33,36,215,95,91,32,85,198,99,97,155]) E0
theorem e_Make (l:List AV) : E0 39 l = eMake l:=by kernel_rfl
theorem p_Make_t_0 (x1:Nat):NC S_Make 39 [boolA true,natA x1] [.c,.c,.c,.c]=NR (.agg [boolA (ltI 0 (Int.ofNat (len64 x1))),u64A x1,nilS]) (No (small x1,true)<|[]):=by kernel_rfl
theorem p_Make_f_0 (x1:Nat):NC S_Make 39 [boolA false,natA x1] [.c,.c,.c,.c]=NR (.agg [boolA false,u64A x1,nilS]) ([]):=by kernel_rfl
theorem ok_Make : Ok Tryz.prog E0 39:=ok_sym (S:=fun g => memN g [35,33,36,215,95,91,32,85,198,99,97,155]) mixed al_Gcd rfl fun l v h => by
  rw [e_Make] at h
  replace h:=arg2_some h; obtain ⟨a,b,rfl,h⟩:=h
  replace h:=boolP_some h; obtain ⟨s0,rfl,h⟩:=h
  replace h:=natP_some h; obtain ⟨x1,rfl,h⟩:=h
  obtain ⟨rfl,hc⟩:=q_some h
  try simp only [NQ,mulC,lowC,not_false_eq_true,and_true,true_and,and_self,reduceCtorEq,subN,subS,subC,ne_eq] at hc
  cases s0 <;> refine ⟨rfl,rfl,?_⟩
  · exact leaf_ok (p_Make_f_0 x1) rfl (by (repeat' apply met_cons) <;> first | exact met_nil | with_reducible rfl | assumption | ((try simp only [NQ,mulC,lowC,not_false_eq_true,and_true,true_and,and_self,reduceCtorEq,subN,subS,subC,ne_eq]) <;> first | omega | (simp only [hc]; done)))
  · exact leaf_ok (p_Make_t_0 x1) (wholeA_c (pos_len x1).symm rfl) (by (repeat' apply met_cons) <;> first | exact met_nil | with_reducible rfl | assumption | ((try simp only [NQ,mulC,lowC,not_false_eq_true,and_true,true_and,and_self,reduceCtorEq,subN,subS,subC,ne_eq]) <;> first | omega | (simp only [hc]; done)))
theorem al_Make : ∀ g,memN g [39,35,33,36,215,95,91,32,85,198,99,97,155] = true → Ok Tryz.prog E0 g:=mem_step al_Gcd ok_Make
noncomputable def S_Sign : Es:=only (fun g => memN g [39,35,33,36,215,95,91,32,85,198,99,97,155]) E0
theorem e_Sign (l:List AV) : E0 41 l = eSign l:=by kernel_rfl
theorem p_Sign_t_0 (x0:Nat):NC S_Sign 41 [wholeA true x0] [.t]=NR (i64A (Int.ofNat 0)) (No (eqI (Int.ofNat (len64 x0)) 0,true)<|No (small x0,true)<|[]):=by kernel_rfl
theorem p_Sign_t_1 (x0:Nat):NC S_Sign 41 [wholeA true x0] [.f,.c]=NR (i64A (-1)) (No (eqI (Int.ofNat (len64 x0)) 0,false)<|No (small x0,true)<|[]):=by kernel_rfl
theorem p_Sign_f_0 (x0:Nat):NC S_Sign 41 [wholeA false x0] [.t]=NR (i64A (Int.ofNat 0)) (No (eqI (Int.ofNat (len64 x0)) 0,true)<|No (small x0,true)<|[]):=by kernel_rfl
theorem p_Sign_f_1 (x0:Nat):NC S_Sign 41 [wholeA false x0] [.f,.c]=NR (i64A (Int.ofNat 1)) (No (eqI (Int.ofNat (len64 x0)) 0,false)<|No (small x0,true)<|[]):=by kernel_rfl
theorem ok_Sign : Ok Tryz.prog E0 41:=ok_sym (S:=fun g => memN g [39,35,33,36,215,95,91,32,85,198,99,97,155]) mixed al_Make rfl fun l v h => by
  rw [e_Sign] at h
  replace h:=arg1_some h; obtain ⟨a,rfl,h⟩:=h
  replace h:=wholeP_some h; obtain ⟨s0,x0,rfl,h⟩:=h
  obtain ⟨rfl,hc⟩:=q_some h
  try simp only [NQ,mulC,lowC,not_false_eq_true,and_true,true_and,and_self,reduceCtorEq,subN,subS,subC,ne_eq] at hc
  cases s0 <;> refine ⟨rfl,rfl,?_⟩
  · by_cases h : x0 = 0
    · subst h; exact leaf_ok (p_Sign_f_0 0) rfl (by (repeat' apply met_cons) <;> first | exact met_nil | with_reducible rfl | assumption | ((try simp only [NQ,mulC,lowC,not_false_eq_true,and_true,true_and,and_self,reduceCtorEq,subN,subS,subC,ne_eq]) <;> first | omega | (simp only [hc]; done)))
    · exact leaf_ok (p_Sign_f_1 x0) (i64A_c (signI_f h)) (by (repeat' apply met_cons) <;> first | exact met_nil | with_reducible rfl | assumption | ((try simp only [NQ,mulC,lowC,not_false_eq_true,and_true,true_and,and_self,reduceCtorEq,subN,subS,subC,ne_eq]) <;> first | omega | (simp only [hc]; done)))
  · by_cases h : x0 = 0
    · subst h; exact leaf_ok (p_Sign_t_0 0) rfl (by (repeat' apply met_cons) <;> first | exact met_nil | with_reducible rfl | assumption | ((try simp only [NQ,mulC,lowC,not_false_eq_true,and_true,true_and,and_self,reduceCtorEq,subN,subS,subC,ne_eq]) <;> first | omega | (simp only [hc]; done)))
    · exact leaf_ok (p_Sign_t_1 x0) (i64A_c (signI_t h)) (by (repeat' apply met_cons) <;> first | exact met_nil | with_reducible rfl | assumption | ((try simp only [NQ,mulC,lowC,not_false_eq_true,and_true,true_and,and_self,reduceCtorEq,subN,subS,subC,ne_eq]) <;> first | omega | (simp only [hc]; done)))
theorem al_Sign : ∀ g,memN g [41,39,35,33,36,215,95,91,32,85,198,99,97,155] = true → Ok Tryz.prog E0 g:=mem_step al_Make ok_Sign
noncomputable def S_Abs : Es:=only (fun g => memN g [41,39,35,33,36,215,95,91,32,85,198,99,97,155]) E0
theorem e_Abs (l:List AV) : E0 179 l = eAbs l:=by kernel_rfl
theorem p_Abs_t_0 (x0:Nat):NC S_Abs 179 [wholeA true x0] []=NR (.agg [u64A x0,nilS]) ([]):=by kernel_rfl
theorem p_Abs_f_0 (x0:Nat):NC S_Abs 179 [wholeA false x0] []=NR (.agg [u64A x0,nilS]) ([]):=by kernel_rfl
theorem ok_Abs : Ok Tryz.prog E0 179:=ok_sym (S:=fun g => memN g [41,39,35,33,36,215,95,91,32,85,198,99,97,155]) mixed al_Sign rfl fun l v h => by
  rw [e_Abs] at h
  replace h:=arg1_some h; obtain ⟨a,rfl,h⟩:=h
  replace h:=wholeP_some h; obtain ⟨s0,x0,rfl,h⟩:=h
  obtain ⟨rfl,hc⟩:=q_some h
  cases s0 <;> refine ⟨rfl,rfl,?_⟩
  · exact leaf_ok (p_Abs_f_0 x0) rfl (by (repeat' apply met_cons) <;> first | exact met_nil | with_reducible rfl | assumption | ((try simp only [NQ,mulC,lowC,not_false_eq_true,and_true,true_and,and_self,reduceCtorEq,subN,subS,subC,ne_eq]) <;> first | omega | (simp only [hc]; done)))
  · exact leaf_ok (p_Abs_t_0 x0) rfl (by (repeat' apply met_cons) <;> first | exact met_nil | with_reducible rfl | assumption | ((try simp only [NQ,mulC,lowC,not_false_eq_true,and_true,true_and,and_self,reduceCtorEq,subN,subS,subC,ne_eq]) <;> first | omega | (simp only [hc]; done)))
theorem al_Abs : ∀ g,memN g [179,41,39,35,33,36,215,95,91,32,85,198,99,97,155] = true → Ok Tryz.prog E0 g:=mem_step al_Sign ok_Abs
noncomputable def S_Cmp : Es:=only (fun g => memN g [179,41,39,35,33,36,215,95,91,32,85,198,99,97,155]) E0
theorem e_Cmp (l:List AV) : E0 129 l = eCmp l:=by kernel_rfl
theorem p_Cmp_tt_0 (x0 x1:Nat):NC S_Cmp 129 [wholeA true x0,wholeA true x1] [.c,.c,.c,.c]=NR (i64A (cmpN x1 x0)) (No (true,true)<|[]):=by kernel_rfl
theorem p_Cmp_tf_0 (x0 x1:Nat):NC S_Cmp 129 [wholeA true x0,wholeA false x1] [.c,.c,.c,.c,.c]=NR (i64A (-1)) ([]):=by kernel_rfl
theorem p_Cmp_ft_0 (x0 x1:Nat):NC S_Cmp 129 [wholeA false x0,wholeA true x1] [.c,.c,.c,.c,.c,.c]=NR (i64A (Int.ofNat 1)) ([]):=by kernel_rfl
theorem p_Cmp_ff_0 (x0 x1:Nat):NC S_Cmp 129 [wholeA false x0,wholeA false x1] [.c,.c,.c,.c,.c,.c]=NR (i64A (cmpN x0 x1)) (No (true,true)<|[]):=by kernel_rfl
theorem ok_Cmp : Ok Tryz.prog E0 129:=ok_sym (S:=fun g => memN g [179,41,39,35,33,36,215,95,91,32,85,198,99,97,155]) mixed al_Abs rfl fun l v h => by
  rw [e_Cmp] at h
  replace h:=arg2_some h; obtain ⟨a,b,rfl,h⟩:=h
  replace h:=wholeP_some h; obtain ⟨s0,x0,rfl,h⟩:=h
  replace h:=wholeP_some h; obtain ⟨s1,x1,rfl,h⟩:=h
  obtain ⟨rfl,hc⟩:=q_some h
  cases s0 <;> cases s1 <;> refine ⟨rfl,rfl,?_⟩
  · exact leaf_ok (p_Cmp_ff_0 x0 x1) rfl (by (repeat' apply met_cons) <;> first | exact met_nil | with_reducible rfl | assumption | ((try simp only [NQ,mulC,lowC,not_false_eq_true,and_true,true_and,and_self,reduceCtorEq,subN,subS,subC,ne_eq]) <;> first | omega | (simp only [hc]; done)))
  · exact leaf_ok (p_Cmp_ft_0 x0 x1) rfl (by (repeat' apply met_cons) <;> first | exact met_nil | with_reducible rfl | assumption | ((try simp only [NQ,mulC,lowC,not_false_eq_true,and_true,true_and,and_self,reduceCtorEq,subN,subS,subC,ne_eq]) <;> first | omega | (simp only [hc]; done)))
  · exact leaf_ok (p_Cmp_tf_0 x0 x1) rfl (by (repeat' apply met_cons) <;> first | exact met_nil | with_reducible rfl | assumption | ((try simp only [NQ,mulC,lowC,not_false_eq_true,and_true,true_and,and_self,reduceCtorEq,subN,subS,subC,ne_eq]) <;> first | omega | (simp only [hc]; done)))
  · exact leaf_ok (p_Cmp_tt_0 x0 x1) rfl (by (repeat' apply met_cons) <;> first | exact met_nil | with_reducible rfl | assumption | ((try simp only [NQ,mulC,lowC,not_false_eq_true,and_true,true_and,and_self,reduceCtorEq,subN,subS,subC,ne_eq]) <;> first | omega | (simp only [hc]; done)))
theorem al_Cmp : ∀ g,memN g [129,179,41,39,35,33,36,215,95,91,32,85,198,99,97,155] = true → Ok Tryz.prog E0 g:=mem_step al_Abs ok_Cmp
noncomputable def S_Neg : Es:=only (fun g => memN g [129,179,41,39,35,33,36,215,95,91,32,85,198,99,97,155]) E0
theorem e_Neg (l:List AV) : E0 42 l = eNeg l:=by kernel_rfl
theorem p_Neg_t_0 (x0:Nat):NC S_Neg 42 [wholeA true x0] []=NR (.agg [boolA (mk false x0),u64A x0,nilS]) (No (small x0,true)<|[]):=by kernel_rfl
theorem p_Neg_f_0 (x0:Nat):NC S_Neg 42 [wholeA false x0] []=NR (.agg [boolA (mk true x0),u64A x0,nilS]) (No (small x0,true)<|[]):=by kernel_rfl
theorem ok_Neg : Ok Tryz.prog E0 42:=ok_sym (S:=fun g => memN g [129,179,41,39,35,33,36,215,95,91,32,85,198,99,97,155]) mixed al_Cmp rfl fun l v h => by
  rw [e_Neg] at h
  replace h:=arg1_some h; obtain ⟨a,rfl,h⟩:=h
  replace h:=wholeP_some h; obtain ⟨s0,x0,rfl,h⟩:=h
  obtain ⟨rfl,hc⟩:=q_some h
  try simp only [NQ,mulC,lowC,not_false_eq_true,and_true,true_and,and_self,reduceCtorEq,subN,subS,subC,ne_eq] at hc
  cases s0 <;> refine ⟨rfl,rfl,?_⟩
  · exact leaf_ok (p_Neg_f_0 x0) rfl (by (repeat' apply met_cons) <;> first | exact met_nil | with_reducible rfl | assumption | ((try simp only [NQ,mulC,lowC,not_false_eq_true,and_true,true_and,and_self,reduceCtorEq,subN,subS,subC,ne_eq]) <;> first | omega | (simp only [hc]; done)))
  · exact leaf_ok (p_Neg_t_0 x0) rfl (by (repeat' apply met_cons) <;> first | exact met_nil | with_reducible rfl | assumption | ((try simp only [NQ,mulC,lowC,not_false_eq_true,and_true,true_and,and_self,reduceCtorEq,subN,subS,subC,ne_eq]) <;> first | omega | (simp only [hc]; done)))
theorem al_Neg : ∀ g,memN g [42,129,179,41,39,35,33,36,215,95,91,32,85,198,99,97,155] = true → Ok Tryz.prog E0 g:=mem_step al_Cmp ok_Neg
noncomputable def S_Add : Es:=only (fun g => memN g [42,129,179,41,39,35,33,36,215,95,91,32,85,198,99,97,155]) E0
theorem e_Add (l:List AV) : E0 195 l = eAdd l:=by kernel_rfl
theorem p_Add_tt_0 (x0 x1:Nat):NC S_Add 195 [wholeA true x0,wholeA true x1] [.c]=NR (.agg [boolA (mk true (x0.add x1)),u64A (x0.add x1),nilS]) (No (small (x0.add x1),true)<|No (small (x0.add x1),true)<|[]):=by kernel_rfl
theorem p_Add_tf_0 (x0 x1:Nat):NC S_Add 195 [wholeA true x0,wholeA false x1] [.c,.t]=NR (.agg [boolA (mk false (x1.sub x0)),u64A (x1.sub x0),nilS]) (No (small (x1.sub x0),true)<|No (andB (x0.ble x1) (small x1),true)<|N6 x0 x1<|[]):=by kernel_rfl
theorem p_Add_tf_1 (x0 x1:Nat):NC S_Add 195 [wholeA true x0,wholeA false x1] [.c,.f]=NR (.agg [boolA (mk true (x0.sub x1)),u64A (x0.sub x1),nilS]) (No (small (x0.sub x1),true)<|No (andB (x1.ble x0) (small x0),true)<|N5 x0 x1<|[]):=by kernel_rfl
theorem p_Add_ft_0 (x0 x1:Nat):NC S_Add 195 [wholeA false x0,wholeA true x1] [.c,.t]=NR (.agg [boolA (mk true (x1.sub x0)),u64A (x1.sub x0),nilS]) (No (small (x1.sub x0),true)<|No (andB (x0.ble x1) (small x1),true)<|N6 x0 x1<|[]):=by kernel_rfl
theorem p_Add_ft_1 (x0 x1:Nat):NC S_Add 195 [wholeA false x0,wholeA true x1] [.c,.f]=NR (.agg [boolA (mk false (x0.sub x1)),u64A (x0.sub x1),nilS]) (No (small (x0.sub x1),true)<|No (andB (x1.ble x0) (small x0),true)<|N5 x0 x1<|[]):=by kernel_rfl
theorem p_Add_ff_0 (x0 x1:Nat):NC S_Add 195 [wholeA false x0,wholeA false x1] [.c]=NR (.agg [boolA (mk false (x0.add x1)),u64A (x0.add x1),nilS]) (No (small (x0.add x1),true)<|No (small (x0.add x1),true)<|[]):=by kernel_rfl
theorem ok_Add : Ok Tryz.prog E0 195:=ok_sym (S:=fun g => memN g [42,129,179,41,39,35,33,36,215,95,91,32,85,198,99,97,155]) mixed al_Neg rfl fun l v h => by
  rw [e_Add] at h
  replace h:=arg2_some h; obtain ⟨a,b,rfl,h⟩:=h
  replace h:=wholeP_some h; obtain ⟨s0,x0,rfl,h⟩:=h
  replace h:=wholeP_some h; obtain ⟨s1,x1,rfl,h⟩:=h
  obtain ⟨rfl,hc⟩:=q_some h
  cases s0 <;> cases s1 <;> refine ⟨rfl,rfl,?_⟩
  · simp only [NQ,mulC,lowC,not_false_eq_true,and_true,true_and,and_self,reduceCtorEq,subN,subS,subC,ne_eq,sumC,sumN,xorB,ifB_true,ifB_false] at hc
    exact leaf_ok (p_Add_ff_0 x0 x1) rfl (by (repeat' apply met_cons) <;> first | exact met_nil | with_reducible rfl | assumption | ((try simp only [NQ,mulC,lowC,not_false_eq_true,and_true,true_and,and_self,reduceCtorEq,subN,subS,subC,ne_eq]) <;> first | omega | (simp only [hc]; done)))
  · by_cases h : x0 < x1
    · rw [sumC_l false true rfl h] at hc; simp only [NQ,mulC,lowC,not_false_eq_true,and_true,true_and,and_self,reduceCtorEq,subN,subS,subC,ne_eq] at hc; rw [sumN_l false true rfl h,sumS_l false true rfl h]
      exact leaf_ok (p_Add_ft_0 x0 x1) rfl (by (repeat' apply met_cons) <;> first | exact met_nil | with_reducible rfl | assumption | ((try simp only [NQ,mulC,lowC,not_false_eq_true,and_true,true_and,and_self,reduceCtorEq,subN,subS,subC,ne_eq]) <;> first | omega | (simp only [hc]; done)))
    · rw [sumC_g false true rfl h] at hc; simp only [NQ,mulC,lowC,not_false_eq_true,and_true,true_and,and_self,reduceCtorEq,subN,subS,subC,ne_eq] at hc; rw [sumN_g false true rfl h,sumS_g false true rfl h]
      exact leaf_ok (p_Add_ft_1 x0 x1) rfl (by (repeat' apply met_cons) <;> first | exact met_nil | with_reducible rfl | assumption | ((try simp only [NQ,mulC,lowC,not_false_eq_true,and_true,true_and,and_self,reduceCtorEq,subN,subS,subC,ne_eq]) <;> first | omega | (simp only [hc]; done)))
  · by_cases h : x0 < x1
    · rw [sumC_l true false rfl h] at hc; simp only [NQ,mulC,lowC,not_false_eq_true,and_true,true_and,and_self,reduceCtorEq,subN,subS,subC,ne_eq] at hc; rw [sumN_l true false rfl h,sumS_l true false rfl h]
      exact leaf_ok (p_Add_tf_0 x0 x1) rfl (by (repeat' apply met_cons) <;> first | exact met_nil | with_reducible rfl | assumption | ((try simp only [NQ,mulC,lowC,not_false_eq_true,and_true,true_and,and_self,reduceCtorEq,subN,subS,subC,ne_eq]) <;> first | omega | (simp only [hc]; done)))
    · rw [sumC_g true false rfl h] at hc; simp only [NQ,mulC,lowC,not_false_eq_true,and_true,true_and,and_self,reduceCtorEq,subN,subS,subC,ne_eq] at hc; rw [sumN_g true false rfl h,sumS_g true false rfl h]
      exact leaf_ok (p_Add_tf_1 x0 x1) rfl (by (repeat' apply met_cons) <;> first | exact met_nil | with_reducible rfl | assumption | ((try simp only [NQ,mulC,lowC,not_false_eq_true,and_true,true_and,and_self,reduceCtorEq,subN,subS,subC,ne_eq]) <;> first | omega | (simp only [hc]; done)))
  · simp only [NQ,mulC,lowC,not_false_eq_true,and_true,true_and,and_self,reduceCtorEq,subN,subS,subC,ne_eq,sumC,sumN,xorB,ifB_true,ifB_false] at hc
    exact leaf_ok (p_Add_tt_0 x0 x1) rfl (by (repeat' apply met_cons) <;> first | exact met_nil | with_reducible rfl | assumption | ((try simp only [NQ,mulC,lowC,not_false_eq_true,and_true,true_and,and_self,reduceCtorEq,subN,subS,subC,ne_eq]) <;> first | omega | (simp only [hc]; done)))
theorem al_Add : ∀ g,memN g [195,42,129,179,41,39,35,33,36,215,95,91,32,85,198,99,97,155] = true → Ok Tryz.prog E0 g:=mem_step al_Neg ok_Add
noncomputable def S_Sub : Es:=only (fun g => memN g [195,42,129,179,41,39,35,33,36,215,95,91,32,85,198,99,97,155]) E0
theorem e_Sub (l:List AV) : E0 197 l = eSub l:=by kernel_rfl
theorem p_Sub_tt_0 (x0 x1:Nat):NC S_Sub 197 [wholeA true x0,wholeA true x1] []=NR (.agg [boolA (sumS true x0 (mk (notB true) x1) x1),u64A (sumN true x0 (mk (notB true) x1) x1),nilS]) (No (sumC true x0 (mk (notB true) x1) x1,true)<|No (small x1,true)<|[]):=by kernel_rfl
theorem p_Sub_tf_0 (x0 x1:Nat):NC S_Sub 197 [wholeA true x0,wholeA false x1] []=NR (.agg [boolA (sumS true x0 (mk (notB false) x1) x1),u64A (sumN true x0 (mk (notB false) x1) x1),nilS]) (No (sumC true x0 (mk (notB false) x1) x1,true)<|No (small x1,true)<|[]):=by kernel_rfl
theorem p_Sub_ft_0 (x0 x1:Nat):NC S_Sub 197 [wholeA false x0,wholeA true x1] []=NR (.agg [boolA (sumS false x0 (mk (notB true) x1) x1),u64A (sumN false x0 (mk (notB true) x1) x1),nilS]) (No (sumC false x0 (mk (notB true) x1) x1,true)<|No (small x1,true)<|[]):=by kernel_rfl
theorem p_Sub_ff_0 (x0 x1:Nat):NC S_Sub 197 [wholeA false x0,wholeA false x1] []=NR (.agg [boolA (sumS false x0 (mk (notB false) x1) x1),u64A (sumN false x0 (mk (notB false) x1) x1),nilS]) (No (sumC false x0 (mk (notB false) x1) x1,true)<|No (small x1,true)<|[]):=by kernel_rfl
theorem ok_Sub : Ok Tryz.prog E0 197:=ok_sym (S:=fun g => memN g [195,42,129,179,41,39,35,33,36,215,95,91,32,85,198,99,97,155]) mixed al_Add rfl fun l v h => by
  rw [e_Sub] at h
  replace h:=arg2_some h; obtain ⟨a,b,rfl,h⟩:=h
  replace h:=wholeP_some h; obtain ⟨s0,x0,rfl,h⟩:=h
  replace h:=wholeP_some h; obtain ⟨s1,x1,rfl,h⟩:=h
  obtain ⟨rfl,hc⟩:=q_some h
  try simp only [NQ,mulC,lowC,not_false_eq_true,and_true,true_and,and_self,reduceCtorEq,subN,subS,subC,ne_eq] at hc
  cases s0 <;> cases s1 <;> refine ⟨rfl,rfl,?_⟩
  · have h1:=sumC_small hc
    exact leaf_ok (p_Sub_ff_0 x0 x1) rfl (by (repeat' apply met_cons) <;> first | exact met_nil | with_reducible rfl | assumption | ((try simp only [NQ,mulC,lowC,not_false_eq_true,and_true,true_and,and_self,reduceCtorEq,subN,subS,subC,ne_eq]) <;> first | omega | (simp only [hc]; done)))
  · have h1:=sumC_small hc
    exact leaf_ok (p_Sub_ft_0 x0 x1) rfl (by (repeat' apply met_cons) <;> first | exact met_nil | with_reducible rfl | assumption | ((try simp only [NQ,mulC,lowC,not_false_eq_true,and_true,true_and,and_self,reduceCtorEq,subN,subS,subC,ne_eq]) <;> first | omega | (simp only [hc]; done)))
  · have h1:=sumC_small hc
    exact leaf_ok (p_Sub_tf_0 x0 x1) rfl (by (repeat' apply met_cons) <;> first | exact met_nil | with_reducible rfl | assumption | ((try simp only [NQ,mulC,lowC,not_false_eq_true,and_true,true_and,and_self,reduceCtorEq,subN,subS,subC,ne_eq]) <;> first | omega | (simp only [hc]; done)))
  · have h1:=sumC_small hc
    exact leaf_ok (p_Sub_tt_0 x0 x1) rfl (by (repeat' apply met_cons) <;> first | exact met_nil | with_reducible rfl | assumption | ((try simp only [NQ,mulC,lowC,not_false_eq_true,and_true,true_and,and_self,reduceCtorEq,subN,subS,subC,ne_eq]) <;> first | omega | (simp only [hc]; done)))
theorem al_Sub : ∀ g,memN g [197,195,42,129,179,41,39,35,33,36,215,95,91,32,85,198,99,97,155] = true → Ok Tryz.prog E0 g:=mem_step al_Add ok_Sub
noncomputable def S_Mul : Es:=only (fun g => memN g [197,195,42,129,179,41,39,35,33,36,215,95,91,32,85,198,99,97,155]) E0
theorem e_Mul (l:List AV) : E0 37 l = eMul l:=by kernel_rfl
theorem p_Mul_tt_0 (x0 x1:Nat):NC S_Mul 37 [wholeA true x0,wholeA true x1] []=NR (.agg [boolA (mk false (x0.mul x1)),u64A (x0.mul x1),nilS]) (N0 x0 x1<|[]):=by kernel_rfl
theorem p_Mul_tf_0 (x0 x1:Nat):NC S_Mul 37 [wholeA true x0,wholeA false x1] []=NR (.agg [boolA (mk true (x0.mul x1)),u64A (x0.mul x1),nilS]) (N0 x0 x1<|[]):=by kernel_rfl
theorem p_Mul_ft_0 (x0 x1:Nat):NC S_Mul 37 [wholeA false x0,wholeA true x1] []=NR (.agg [boolA (mk true (x0.mul x1)),u64A (x0.mul x1),nilS]) (N0 x0 x1<|[]):=by kernel_rfl
theorem p_Mul_ff_0 (x0 x1:Nat):NC S_Mul 37 [wholeA false x0,wholeA false x1] []=NR (.agg [boolA (mk false (x0.mul x1)),u64A (x0.mul x1),nilS]) (N0 x0 x1<|[]):=by kernel_rfl
theorem ok_Mul : Ok Tryz.prog E0 37:=ok_sym (S:=fun g => memN g [197,195,42,129,179,41,39,35,33,36,215,95,91,32,85,198,99,97,155]) mixed al_Sub rfl fun l v h => by
  rw [e_Mul] at h
  replace h:=arg2_some h; obtain ⟨a,b,rfl,h⟩:=h
  replace h:=wholeP_some h; obtain ⟨s0,x0,rfl,h⟩:=h
  replace h:=wholeP_some h; obtain ⟨s1,x1,rfl,h⟩:=h
  obtain ⟨rfl,hc⟩:=q_some h
  try simp only [NQ,mulC,lowC,not_false_eq_true,and_true,true_and,and_self,reduceCtorEq,subN,subS,subC,ne_eq] at hc
  cases s0 <;> cases s1 <;> refine ⟨rfl,rfl,?_⟩
  · exact leaf_ok (p_Mul_ff_0 x0 x1) rfl (by (repeat' apply met_cons) <;> first | exact met_nil | with_reducible rfl | assumption | ((try simp only [NQ,mulC,lowC,not_false_eq_true,and_true,true_and,and_self,reduceCtorEq,subN,subS,subC,ne_eq]) <;> first | omega | (simp only [hc]; done)))
  · exact leaf_ok (p_Mul_ft_0 x0 x1) rfl (by (repeat' apply met_cons) <;> first | exact met_nil | with_reducible rfl | assumption | ((try simp only [NQ,mulC,lowC,not_false_eq_true,and_true,true_and,and_self,reduceCtorEq,subN,subS,subC,ne_eq]) <;> first | omega | (simp only [hc]; done)))
  · exact leaf_ok (p_Mul_tf_0 x0 x1) rfl (by (repeat' apply met_cons) <;> first | exact met_nil | with_reducible rfl | assumption | ((try simp only [NQ,mulC,lowC,not_false_eq_true,and_true,true_and,and_self,reduceCtorEq,subN,subS,subC,ne_eq]) <;> first | omega | (simp only [hc]; done)))
  · exact leaf_ok (p_Mul_tt_0 x0 x1) rfl (by (repeat' apply met_cons) <;> first | exact met_nil | with_reducible rfl | assumption | ((try simp only [NQ,mulC,lowC,not_false_eq_true,and_true,true_and,and_self,reduceCtorEq,subN,subS,subC,ne_eq]) <;> first | omega | (simp only [hc]; done)))
theorem al_Mul : ∀ g,memN g [37,197,195,42,129,179,41,39,35,33,36,215,95,91,32,85,198,99,97,155] = true → Ok Tryz.prog E0 g:=mem_step al_Sub ok_Mul
noncomputable def S_One : Es:=only (fun g => memN g [37,197,195,42,129,179,41,39,35,33,36,215,95,91,32,85,198,99,97,155]) E0
theorem e_One (l:List AV) : E0 96 l = eOne l:=by kernel_rfl
theorem p_One__0 : symCall (cxOf Tryz.prog S_One) S_One 100 96 [] [] = some (CR.value (AV.agg [AV.v (Go.Value.int Go.IntKind.u64 (Int.ofNat 1)),AV.v (Go.Value.slice none 0 0)]) (some []),[],[(true,true)]):=by kernel_rfl
theorem ok_One : Ok Tryz.prog E0 96:=ok_sym (S:=fun g => memN g [37,197,195,42,129,179,41,39,35,33,36,215,95,91,32,85,198,99,97,155]) mixed al_Mul rfl fun l v h => by
  rw [e_One] at h
  replace h:=endL_some h; obtain ⟨rfl,h⟩:=h
  obtain ⟨rfl,hc⟩:=q_some h
  refine ⟨rfl,rfl,?_⟩
  exact leaf_ok (p_One__0 ) rfl (by (repeat' apply met_cons) <;> first | exact met_nil | with_reducible rfl | assumption | ((try simp only [NQ,mulC,lowC,not_false_eq_true,and_true,true_and,and_self,reduceCtorEq,subN,subS,subC,ne_eq]) <;> first | omega | (simp only [hc]; done)))
theorem al_One : ∀ g,memN g [96,37,197,195,42,129,179,41,39,35,33,36,215,95,91,32,85,198,99,97,155] = true → Ok Tryz.prog E0 g:=mem_step al_Mul ok_One
noncomputable def S_Of : Es:=only (fun g => memN g [96,37,197,195,42,129,179,41,39,35,33,36,215,95,91,32,85,198,99,97,155]) E0
theorem e_Of (l:List AV) : E0 44 l = eOf l:=by kernel_rfl
theorem p_Of_t_0 (x0:Nat):NC S_Of 44 [wholeA true x0] []=NR (.agg [boolA true,u64A x0,nilS,u64A 0,nilS]) ([]):=by kernel_rfl
theorem p_Of_f_0 (x0:Nat):NC S_Of 44 [wholeA false x0] []=NR (.agg [boolA false,u64A x0,nilS,u64A 0,nilS]) ([]):=by kernel_rfl
theorem ok_Of : Ok Tryz.prog E0 44:=ok_sym (S:=fun g => memN g [96,37,197,195,42,129,179,41,39,35,33,36,215,95,91,32,85,198,99,97,155]) mixed al_One rfl fun l v h => by
  rw [e_Of] at h
  replace h:=arg1_some h; obtain ⟨a,rfl,h⟩:=h
  replace h:=wholeP_some h; obtain ⟨s0,x0,rfl,h⟩:=h
  obtain ⟨rfl,hc⟩:=q_some h
  cases s0 <;> refine ⟨rfl,rfl,?_⟩
  · exact leaf_ok (p_Of_f_0 x0) rfl (by (repeat' apply met_cons) <;> first | exact met_nil | with_reducible rfl | assumption | ((try simp only [NQ,mulC,lowC,not_false_eq_true,and_true,true_and,and_self,reduceCtorEq,subN,subS,subC,ne_eq]) <;> first | omega | (simp only [hc]; done)))
  · exact leaf_ok (p_Of_t_0 x0) rfl (by (repeat' apply met_cons) <;> first | exact met_nil | with_reducible rfl | assumption | ((try simp only [NQ,mulC,lowC,not_false_eq_true,and_true,true_and,and_self,reduceCtorEq,subN,subS,subC,ne_eq]) <;> first | omega | (simp only [hc]; done)))
theorem al_Of : ∀ g,memN g [44,96,37,197,195,42,129,179,41,39,35,33,36,215,95,91,32,85,198,99,97,155] = true → Ok Tryz.prog E0 g:=mem_step al_One ok_Of
noncomputable def S_Num : Es:=only (fun g => memN g [44,96,37,197,195,42,129,179,41,39,35,33,36,215,95,91,32,85,198,99,97,155]) E0
theorem e_Num (l:List AV) : E0 38 l = eNum l:=by kernel_rfl
theorem p_Num_t_0 (x0 e0:Nat):NC S_Num 38 [fracA true x0 e0] []=NR (.agg [boolA true,u64A x0,nilS]) ([]):=by kernel_rfl
theorem p_Num_f_0 (x0 e0:Nat):NC S_Num 38 [fracA false x0 e0] []=NR (.agg [boolA false,u64A x0,nilS]) ([]):=by kernel_rfl
theorem ok_Num : Ok Tryz.prog E0 38:=ok_sym (S:=fun g => memN g [44,96,37,197,195,42,129,179,41,39,35,33,36,215,95,91,32,85,198,99,97,155]) mixed al_Of rfl fun l v h => by
  rw [e_Num] at h
  replace h:=arg1_some h; obtain ⟨a,rfl,h⟩:=h
  replace h:=fracP_some h; obtain ⟨s0,x0,e0,rfl,h⟩:=h
  obtain ⟨rfl,hc⟩:=q_some h
  cases s0 <;> refine ⟨rfl,rfl,?_⟩
  · exact leaf_ok (p_Num_f_0 x0 e0) rfl (by (repeat' apply met_cons) <;> first | exact met_nil | with_reducible rfl | assumption | ((try simp only [NQ,mulC,lowC,not_false_eq_true,and_true,true_and,and_self,reduceCtorEq,subN,subS,subC,ne_eq]) <;> first | omega | (simp only [hc]; done)))
  · exact leaf_ok (p_Num_t_0 x0 e0) rfl (by (repeat' apply met_cons) <;> first | exact met_nil | with_reducible rfl | assumption | ((try simp only [NQ,mulC,lowC,not_false_eq_true,and_true,true_and,and_self,reduceCtorEq,subN,subS,subC,ne_eq]) <;> first | omega | (simp only [hc]; done)))
theorem al_Num : ∀ g,memN g [38,44,96,37,197,195,42,129,179,41,39,35,33,36,215,95,91,32,85,198,99,97,155] = true → Ok Tryz.prog E0 g:=mem_step al_Of ok_Num
noncomputable def S_Den : Es:=only (fun g => memN g [38,44,96,37,197,195,42,129,179,41,39,35,33,36,215,95,91,32,85,198,99,97,155]) E0
theorem e_Den (l:List AV) : E0 34 l = eDen l:=by kernel_rfl
theorem p_Den_t_0 (x0 e0:Nat):NC S_Den 34 [fracA true x0 e0] []=NR (.agg [u64A (e0.add 1),nilS]) (No (small (e0.add 1),true)<|No (true,true)<|[]):=by kernel_rfl
theorem p_Den_f_0 (x0 e0:Nat):NC S_Den 34 [fracA false x0 e0] []=NR (.agg [u64A (e0.add 1),nilS]) (No (small (e0.add 1),true)<|No (true,true)<|[]):=by kernel_rfl
theorem ok_Den : Ok Tryz.prog E0 34:=ok_sym (S:=fun g => memN g [38,44,96,37,197,195,42,129,179,41,39,35,33,36,215,95,91,32,85,198,99,97,155]) mixed al_Num rfl fun l v h => by
  rw [e_Den] at h
  replace h:=arg1_some h; obtain ⟨a,rfl,h⟩:=h
  replace h:=fracP_some h; obtain ⟨s0,x0,e0,rfl,h⟩:=h
  obtain ⟨rfl,hc⟩:=q_some h
  try simp only [NQ,mulC,lowC,not_false_eq_true,and_true,true_and,and_self,reduceCtorEq,subN,subS,subC,ne_eq] at hc
  cases s0 <;> refine ⟨rfl,rfl,?_⟩
  · exact leaf_ok (p_Den_f_0 x0 e0) rfl (by (repeat' apply met_cons) <;> first | exact met_nil | with_reducible rfl | assumption | ((try simp only [NQ,mulC,lowC,not_false_eq_true,and_true,true_and,and_self,reduceCtorEq,subN,subS,subC,ne_eq]) <;> first | omega | (simp only [hc]; done)))
  · exact leaf_ok (p_Den_t_0 x0 e0) rfl (by (repeat' apply met_cons) <;> first | exact met_nil | with_reducible rfl | assumption | ((try simp only [NQ,mulC,lowC,not_false_eq_true,and_true,true_and,and_self,reduceCtorEq,subN,subS,subC,ne_eq]) <;> first | omega | (simp only [hc]; done)))
theorem al_Den : ∀ g,memN g [34,38,44,96,37,197,195,42,129,179,41,39,35,33,36,215,95,91,32,85,198,99,97,155] = true → Ok Tryz.prog E0 g:=mem_step al_Num ok_Den
noncomputable def S_FSign : Es:=only (fun g => memN g [34,38,44,96,37,197,195,42,129,179,41,39,35,33,36,215,95,91,32,85,198,99,97,155]) E0
theorem e_FSign (l:List AV) : E0 27 l = eFSign l:=by kernel_rfl
theorem p_FSign_t_0 (x0 e0:Nat):NC S_FSign 27 [fracA true x0 e0] []=NR (i64A (signI true x0)) (No (small x0,true)<|[]):=by kernel_rfl
theorem p_FSign_f_0 (x0 e0:Nat):NC S_FSign 27 [fracA false x0 e0] []=NR (i64A (signI false x0)) (No (small x0,true)<|[]):=by kernel_rfl
theorem ok_FSign : Ok Tryz.prog E0 27:=ok_sym (S:=fun g => memN g [34,38,44,96,37,197,195,42,129,179,41,39,35,33,36,215,95,91,32,85,198,99,97,155]) mixed al_Den rfl fun l v h => by
  rw [e_FSign] at h
  replace h:=arg1_some h; obtain ⟨a,rfl,h⟩:=h
  replace h:=fracP_some h; obtain ⟨s0,x0,e0,rfl,h⟩:=h
  obtain ⟨rfl,hc⟩:=q_some h
  try simp only [NQ,mulC,lowC,not_false_eq_true,and_true,true_and,and_self,reduceCtorEq,subN,subS,subC,ne_eq] at hc
  cases s0 <;> refine ⟨rfl,rfl,?_⟩
  · exact leaf_ok (p_FSign_f_0 x0 e0) rfl (by (repeat' apply met_cons) <;> first | exact met_nil | with_reducible rfl | assumption | ((try simp only [NQ,mulC,lowC,not_false_eq_true,and_true,true_and,and_self,reduceCtorEq,subN,subS,subC,ne_eq]) <;> first | omega | (simp only [hc]; done)))
  · exact leaf_ok (p_FSign_t_0 x0 e0) rfl (by (repeat' apply met_cons) <;> first | exact met_nil | with_reducible rfl | assumption | ((try simp only [NQ,mulC,lowC,not_false_eq_true,and_true,true_and,and_self,reduceCtorEq,subN,subS,subC,ne_eq]) <;> first | omega | (simp only [hc]; done)))
theorem al_FSign : ∀ g,memN g [27,34,38,44,96,37,197,195,42,129,179,41,39,35,33,36,215,95,91,32,85,198,99,97,155] = true → Ok Tryz.prog E0 g:=mem_step al_Den ok_FSign
noncomputable def S_Entire : Es:=only (fun g => memN g [27,34,38,44,96,37,197,195,42,129,179,41,39,35,33,36,215,95,91,32,85,198,99,97,155]) E0
theorem e_Entire (l:List AV) : E0 128 l = eEntire l:=by kernel_rfl
theorem p_Entire_t_0 (x0 e0:Nat):NC S_Entire 128 [fracA true x0 e0] []=NR (boolA (eqI (Int.ofNat (len64 e0)) 0)) (No (small e0,true)<|[]):=by kernel_rfl
theorem p_Entire_f_0 (x0 e0:Nat):NC S_Entire 128 [fracA false x0 e0] []=NR (boolA (eqI (Int.ofNat (len64 e0)) 0)) (No (small e0,true)<|[]):=by kernel_rfl
theorem ok_Entire : Ok Tryz.prog E0 128:=ok_sym (S:=fun g => memN g [27,34,38,44,96,37,197,195,42,129,179,41,39,35,33,36,215,95,91,32,85,198,99,97,155]) mixed al_FSign rfl fun l v h => by
  rw [e_Entire] at h
  replace h:=arg1_some h; obtain ⟨a,rfl,h⟩:=h
  replace h:=fracP_some h; obtain ⟨s0,x0,e0,rfl,h⟩:=h
  obtain ⟨rfl,hc⟩:=q_some h
  try simp only [NQ,mulC,lowC,not_false_eq_true,and_true,true_and,and_self,reduceCtorEq,subN,subS,subC,ne_eq] at hc
  cases s0 <;> refine ⟨rfl,rfl,?_⟩
  · exact leaf_ok (p_Entire_f_0 x0 e0) (boolA_c (entire_len e0).symm) (by (repeat' apply met_cons) <;> first | exact met_nil | with_reducible rfl | assumption | ((try simp only [NQ,mulC,lowC,not_false_eq_true,and_true,true_and,and_self,reduceCtorEq,subN,subS,subC,ne_eq]) <;> first | omega | (simp only [hc]; done)))
  · exact leaf_ok (p_Entire_t_0 x0 e0) (boolA_c (entire_len e0).symm) (by (repeat' apply met_cons) <;> first | exact met_nil | with_reducible rfl | assumption | ((try simp only [NQ,mulC,lowC,not_false_eq_true,and_true,true_and,and_self,reduceCtorEq,subN,subS,subC,ne_eq]) <;> first | omega | (simp only [hc]; done)))
theorem al_Entire : ∀ g,memN g [128,27,34,38,44,96,37,197,195,42,129,179,41,39,35,33,36,215,95,91,32,85,198,99,97,155] = true → Ok Tryz.prog E0 g:=mem_step al_FSign ok_Entire
noncomputable def S_By : Es:=only (fun g => memN g [128,27,34,38,44,96,37,197,195,42,129,179,41,39,35,33,36,215,95,91,32,85,198,99,97,155]) E0
theorem e_By (l:List AV) : E0 130 l = eBy l:=by kernel_rfl
theorem p_By_t_0 (x0 x1:Nat):NC S_By 130 [wholeA true x0,natA x1] []=NR (.agg [boolA (mk (xorB true (mk false x1)) (x0.mul x1)),u64A (x0.mul x1),nilS]) (No (mulC x0 x1,true)<|No (small x1,true)<|[]):=by kernel_rfl
theorem p_By_f_0 (x0 x1:Nat):NC S_By 130 [wholeA false x0,natA x1] []=NR (.agg [boolA (mk (xorB false (mk false x1)) (x0.mul x1)),u64A (x0.mul x1),nilS]) (No (mulC x0 x1,true)<|No (small x1,true)<|[]):=by kernel_rfl
theorem ok_By : Ok Tryz.prog E0 130:=ok_sym (S:=fun g => memN g [128,27,34,38,44,96,37,197,195,42,129,179,41,39,35,33,36,215,95,91,32,85,198,99,97,155]) mixed al_Entire rfl fun l v h => by
  rw [e_By] at h
  replace h:=arg2_some h; obtain ⟨a,b,rfl,h⟩:=h
  replace h:=wholeP_some h; obtain ⟨s0,x0,rfl,h⟩:=h
  replace h:=natP_some h; obtain ⟨x1,rfl,h⟩:=h
  obtain ⟨rfl,hc⟩:=q_some h
  try simp only [NQ,mulC,lowC,not_false_eq_true,and_true,true_and,and_self,reduceCtorEq,subN,subS,subC,ne_eq] at hc
  cases s0 <;> refine ⟨rfl,rfl,?_⟩
  · exact leaf_ok (p_By_f_0 x0 x1) rfl (by (repeat' apply met_cons) <;> first | exact met_nil | with_reducible rfl | assumption | ((try simp only [NQ,mulC,lowC,not_false_eq_true,and_true,true_and,and_self,reduceCtorEq,subN,subS,subC,ne_eq]) <;> first | omega | (simp only [hc]; done)))
  · exact leaf_ok (p_By_t_0 x0 x1) rfl (by (repeat' apply met_cons) <;> first | exact met_nil | with_reducible rfl | assumption | ((try simp only [NQ,mulC,lowC,not_false_eq_true,and_true,true_and,and_self,reduceCtorEq,subN,subS,subC,ne_eq]) <;> first | omega | (simp only [hc]; done)))
theorem al_By : ∀ g,memN g [130,128,27,34,38,44,96,37,197,195,42,129,179,41,39,35,33,36,215,95,91,32,85,198,99,97,155] = true → Ok Tryz.prog E0 g:=mem_step al_Entire ok_By
noncomputable def S_Low : Es:=only (fun g => memN g [130,128,27,34,38,44,96,37,197,195,42,129,179,41,39,35,33,36,215,95,91,32,85,198,99,97,155]) E0
theorem e_Low (l:List AV) : E0 196 l = eLow l:=by kernel_rfl
theorem p_Low_t_0 (x0 x1:Nat):NC S_Low 196 [wholeA true x0,natA x1] [.t]=NR (.agg [boolA true,u64A x0,nilS,u64A 0,nilS]) (No (eqI (Int.ofNat (len64 x1)) 1,true)<|No (small x1,true)<|[]):=by kernel_rfl
theorem p_Low_t_1 (x0 x1:Nat):NC S_Low 196 [wholeA true x0,natA x1] [.f,.t]=NR (.agg [boolA (mk (ltI (signI true x0) 0) (x0.div (x0.gcd x1))),u64A (x0.div (x0.gcd x1)),nilS,u64A ((x1.div (x0.gcd x1)).sub 1),nilS]) (N7 x0 x1<|N4 x0 x1<|N8 x0 x1<|No (small x0,true)<|No (ltI 1 (Int.ofNat (len64 (x0.gcd x1))),true)<|N1 x0 x1<|No (true,true)<|N2 x1<|[]):=by kernel_rfl
theorem p_Low_t_2 (x0 x1:Nat):NC S_Low 196 [wholeA true x0,natA x1] [.f,.f]=NR (.agg [boolA true,u64A x0,nilS,u64A (x1.sub 1),nilS]) (No (andB (Nat.ble 1 x1) (small x1),true)<|No (true,true)<|No (ltI 1 (Int.ofNat (len64 (x0.gcd x1))),false)<|N1 x0 x1<|No (true,true)<|N2 x1<|[]):=by kernel_rfl
theorem p_Low_f_0 (x0 x1:Nat):NC S_Low 196 [wholeA false x0,natA x1] [.t]=NR (.agg [boolA false,u64A x0,nilS,u64A 0,nilS]) (No (eqI (Int.ofNat (len64 x1)) 1,true)<|No (small x1,true)<|[]):=by kernel_rfl
theorem p_Low_f_1 (x0 x1:Nat):NC S_Low 196 [wholeA false x0,natA x1] [.f,.t]=NR (.agg [boolA (mk (ltI (signI false x0) 0) (x0.div (x0.gcd x1))),u64A (x0.div (x0.gcd x1)),nilS,u64A ((x1.div (x0.gcd x1)).sub 1),nilS]) (N7 x0 x1<|N4 x0 x1<|N8 x0 x1<|No (small x0,true)<|No (ltI 1 (Int.ofNat (len64 (x0.gcd x1))),true)<|N1 x0 x1<|No (true,true)<|N2 x1<|[]):=by kernel_rfl
theorem p_Low_f_2 (x0 x1:Nat):NC S_Low 196 [wholeA false x0,natA x1] [.f,.f]=NR (.agg [boolA false,u64A x0,nilS,u64A (x1.sub 1),nilS]) (No (andB (Nat.ble 1 x1) (small x1),true)<|No (true,true)<|No (ltI 1 (Int.ofNat (len64 (x0.gcd x1))),false)<|N1 x0 x1<|No (true,true)<|N2 x1<|[]):=by kernel_rfl
theorem ok_Low : Ok Tryz.prog E0 196:=ok_sym (S:=fun g => memN g [130,128,27,34,38,44,96,37,197,195,42,129,179,41,39,35,33,36,215,95,91,32,85,198,99,97,155]) mixed al_By rfl fun l v h => by
  rw [e_Low] at h
  replace h:=arg2_some h; obtain ⟨a,b,rfl,h⟩:=h
  replace h:=wholeP_some h; obtain ⟨s0,x0,rfl,h⟩:=h
  replace h:=natP_some h; obtain ⟨x1,rfl,h⟩:=h
  obtain ⟨rfl,hc⟩:=q_some h
  try simp only [NQ,mulC,lowC,not_false_eq_true,and_true,true_and,and_self,reduceCtorEq,subN,subS,subC,ne_eq] at hc
  cases s0 <;> refine ⟨rfl,rfl,?_⟩
  · have g1:=Nat.gcd_le_left x1 (m:=x0)
    have g2 : Nat.gcd x0 x1 ≤ x1:=Nat.gcd_le_right x0 (by omega)
    have g3 : 0 < Nat.gcd x0 x1:=Nat.gcd_pos_of_pos_right x0 (by omega)
    have g4:=Nat.div_le_self x0 (Nat.gcd x0 x1)
    have g5:=Nat.div_le_self x1 (Nat.gcd x0 x1)
    have g6 : 0 < x1 / Nat.gcd x0 x1:=Nat.div_pos g2 g3
    by_cases h1 : x1 = 1
    · exact leaf_ok (p_Low_f_0 x0 x1) (fracA_c (by unfold lowS; rw [Abs.beq_true.2 h1]; rfl) (by unfold lowN; rw [Abs.beq_true.2 h1]; rfl) (by unfold lowE; rw [Abs.beq_true.2 h1]; rfl)) (by (repeat' apply met_cons) <;> first | exact met_nil | with_reducible rfl | assumption | ((try simp only [NQ,mulC,lowC,not_false_eq_true,and_true,true_and,and_self,reduceCtorEq,subN,subS,subC,ne_eq]) <;> first | omega | (simp only [hc]; done)))
    · by_cases h2 : 1 < Nat.gcd x0 x1
      · exact leaf_ok (p_Low_f_1 x0 x1) (fracA_c (by unfold lowS; rw [beq_f.2 h1,lt_t.2 h2,signI_neg]; rfl) (by unfold lowN; rw [beq_f.2 h1,lt_t.2 h2]; rfl) (by unfold lowE; rw [beq_f.2 h1,lt_t.2 h2]; rfl)) (by (repeat' apply met_cons) <;> first | exact met_nil | with_reducible rfl | assumption | ((try simp only [NQ,mulC,lowC,not_false_eq_true,and_true,true_and,and_self,reduceCtorEq,subN,subS,subC,ne_eq]) <;> first | omega | (simp only [hc]; done)))
      · exact leaf_ok (p_Low_f_2 x0 x1) (fracA_c (by unfold lowS; rw [beq_f.2 h1,lt_f.2 (by omega)]; rfl) (by unfold lowN; rw [beq_f.2 h1,lt_f.2 (by omega)]; rfl) (by unfold lowE; rw [beq_f.2 h1,lt_f.2 (by omega)]; rfl)) (by (repeat' apply met_cons) <;> first | exact met_nil | with_reducible rfl | assumption | ((try simp only [NQ,mulC,lowC,not_false_eq_true,and_true,true_and,and_self,reduceCtorEq,subN,subS,subC,ne_eq]) <;> first | omega | (simp only [hc]; done)))
  · have g1:=Nat.gcd_le_left x1 (m:=x0)
    have g2 : Nat.gcd x0 x1 ≤ x1:=Nat.gcd_le_right x0 (by omega)
    have g3 : 0 < Nat.gcd x0 x1:=Nat.gcd_pos_of_pos_right x0 (by omega)
    have g4:=Nat.div_le_self x0 (Nat.gcd x0 x1)
    have g5:=Nat.div_le_self x1 (Nat.gcd x0 x1)
    have g6 : 0 < x1 / Nat.gcd x0 x1:=Nat.div_pos g2 g3
    by_cases h1 : x1 = 1
    · exact leaf_ok (p_Low_t_0 x0 x1) (fracA_c (by unfold lowS; rw [Abs.beq_true.2 h1]; rfl) (by unfold lowN; rw [Abs.beq_true.2 h1]; rfl) (by unfold lowE; rw [Abs.beq_true.2 h1]; rfl)) (by (repeat' apply met_cons) <;> first | exact met_nil | with_reducible rfl | assumption | ((try simp only [NQ,mulC,lowC,not_false_eq_true,and_true,true_and,and_self,reduceCtorEq,subN,subS,subC,ne_eq]) <;> first | omega | (simp only [hc]; done)))
    · by_cases h2 : 1 < Nat.gcd x0 x1
      · exact leaf_ok (p_Low_t_1 x0 x1) (fracA_c (by unfold lowS; rw [beq_f.2 h1,lt_t.2 h2,signI_neg]; rfl) (by unfold lowN; rw [beq_f.2 h1,lt_t.2 h2]; rfl) (by unfold lowE; rw [beq_f.2 h1,lt_t.2 h2]; rfl)) (by (repeat' apply met_cons) <;> first | exact met_nil | with_reducible rfl | assumption | ((try simp only [NQ,mulC,lowC,not_false_eq_true,and_true,true_and,and_self,reduceCtorEq,subN,subS,subC,ne_eq]) <;> first | omega | (simp only [hc]; done)))
      · exact leaf_ok (p_Low_t_2 x0 x1) (fracA_c (by unfold lowS; rw [beq_f.2 h1,lt_f.2 (by omega)]; rfl) (by unfold lowN; rw [beq_f.2 h1,lt_f.2 (by omega)]; rfl) (by unfold lowE; rw [beq_f.2 h1,lt_f.2 (by omega)]; rfl)) (by (repeat' apply met_cons) <;> first | exact met_nil | with_reducible rfl | assumption | ((try simp only [NQ,mulC,lowC,not_false_eq_true,and_true,true_and,and_self,reduceCtorEq,subN,subS,subC,ne_eq]) <;> first | omega | (simp only [hc]; done)))
theorem al_Low : ∀ g,memN g [196,130,128,27,34,38,44,96,37,197,195,42,129,179,41,39,35,33,36,215,95,91,32,85,198,99,97,155] = true → Ok Tryz.prog E0 g:=mem_step al_By ok_Low
end Go.Proofs.YtcgnkejpcjcaoaaGreat.num
