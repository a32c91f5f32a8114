/- A piece's end compared by reckoning; pointers to data by the kernel's own comparison. -/
import Derived.Test.YtdomagdnaohpbaaGreatDoorEvEqM
set_option linter.unusedVariables false
namespace Go.Abs.Cmpd
open Go.Abs
abbrev ZP:=Option (List (AV×AV))
def zA (a b:ZP):ZP:=match a with | some l => (match b with | some r => some (l++r) | none => none) | none => none
def zL (f:AV → AV → ZP):List AV → List AV → ZP
  | [],[] => some []
  | x::a,y::b => zA (f x y) (zL f a b)
  | _,_ => none
noncomputable def zV:Nat → AV → AV → ZP
  | 0,x,y => if eqA 40 x y=true then some [] else none
  | d+1,x,y => match x,y with
    | .vp t o,.vp u q => some [(.vp t o,.vp u q)]
    | .agg l,.agg k => zL (zV d) l k
    | .tuple l,.tuple k => zL (zV d) l k
    | x,y => if eqA 40 x y=true then some [] else none
def zO (f:AV → AV → ZP):Option AV → Option AV → ZP
  | none,none => some []
  | some x,some y => f x y
  | _,_ => none
def zT (f:AV → AV → ZP):Nat → T AV → T AV → ZP
  | 0,_,_ => none
  | d+1,t,u => match T.o t,T.o u with
    | .nil,.nil => some []
    | .mk v a0 a1 a2 a3 a4 a5 a6 a7,.mk w b0 b1 b2 b3 b4 b5 b6 b7 => zA (zO f v w) (zA (zT f d a0 b0) (zA (zT f d a1 b1) (zA (zT f d a2 b2) (zA (zT f d a3 b3) (zA (zT f d a4 b4) (zA (zT f d a5 b5) (zA (zT f d a6 b6) (zT f d a7 b7))))))))
    | _,_ => none
def Dg (a:ZP):Prop:=∀ l,a=some l → ∀ p∈l,p.1=p.2
theorem zA_some {a b:ZP} {l} (h:zA a b=some l):∃ p q,a=some p ∧ b=some q ∧ l=p++q:=by
  unfold zA at h; split at h
  · split at h
    · cases h; exact ⟨_,_,rfl,rfl,rfl⟩
    · cases h
  · cases h
theorem zA_two {a b:ZP} {l} (h:zA a b=some l) (hl:∀ p∈l,p.1=p.2):(∃ p,a=some p ∧ ∀ q∈p,q.1=q.2) ∧ ∃ p,b=some p ∧ ∀ q∈p,q.1=q.2:=by
  obtain ⟨p,q,h1,h2,rfl⟩:=zA_some h
  exact ⟨⟨p,h1,fun q hq => hl q (List.mem_append_left _ hq)⟩,q,h2,fun q hq => hl q (List.mem_append_right _ hq)⟩
theorem zA_dg {a b:ZP} (ha:Dg a) (hb:Dg b):Dg (zA a b):=fun l h p hp => by
  obtain ⟨q,r,rfl,rfl,rfl⟩:=zA_some h
  exact (List.mem_append.1 hp).elim (ha _ rfl p) (hb _ rfl p)
/-- What comes of equal pairs: f's two values are equal, if all its pairs are. -/
def Zq {α:Type} (f:α → α → ZP):Prop:=(∀ x,Dg (f x x)) ∧ ∀ x y l,f x y=some l → (∀ p∈l,p.1=p.2) → x=y
theorem zL_q {f:AV → AV → ZP} (hf:Zq f):Zq (zL f):=by
  refine ⟨fun x => ?_,fun x => ?_⟩
  · induction x with
    | nil => intro l h; cases h; intro p hp; cases hp
    | cons x a ih => exact zA_dg (hf.1 x) ih
  · induction x with
    | nil => intro y l h hl; cases y <;> first | rfl | cases h
    | cons x a ih =>
      intro y l h hl
      cases y with
      | nil => cases h
      | cons y b =>
        obtain ⟨q,r,h1,h2,rfl⟩:=zA_some (a:=f x y) h
        rw [hf.2 x y q h1 fun p hp => hl p (List.mem_append_left _ hp),ih b r h2 fun p hp => hl p (List.mem_append_right _ hp)]
theorem zE_q {x y:AV} {l} (h:(if eqA 40 x y=true then some [] else none:ZP)=some l):x=y:=by
  split at h
  · rename_i h1; exact Kj 40 _ _ h1
  · cases h
theorem zE_d {x y:AV}:Dg (if eqA 40 x y=true then some [] else none):=fun l h p hp => by
  split at h
  · cases h; cases hp
  · cases h
theorem zV_q:∀ d,Zq (zV d)
  | 0 => ⟨fun x => zE_d,fun x y l h _ => zE_q h⟩
  | d+1 => by
    refine ⟨fun x => ?_,fun x y l h hl => ?_⟩
    · cases x <;> first | exact zE_d | exact (zL_q (zV_q d)).1 _ | (intro l h p hp; cases h; simp at hp; subst hp; rfl)
    · unfold zV at h; split at h
      · cases h; exact hl _ (List.mem_singleton.2 rfl)
      · rw [(zL_q (zV_q d)).2 _ _ _ h hl]
      · rw [(zL_q (zV_q d)).2 _ _ _ h hl]
      · exact zE_q h
theorem zO_q {f:AV → AV → ZP} (hf:Zq f):Zq (zO f):=by
  refine ⟨fun x => ?_,fun x y l h hl => ?_⟩
  · cases x with
    | none => intro l h p hp; cases h; cases hp
    | some x => exact hf.1 x
  · cases x <;> cases y <;> first | rfl | (cases h; done) | (rw [hf.2 _ _ _ h hl])
theorem zT_q {f:AV → AV → ZP} (hf:Zq f):∀ d,Zq (zT f d)
  | 0 => ⟨fun x l h => (by cases h),fun x y l h => (by cases h)⟩
  | d+1 => by
    have ih:=zT_q hf d
    refine ⟨fun ⟨x⟩ => ?_,fun ⟨x⟩ ⟨y⟩ l h hl => ?_⟩
    · cases x with
      | nil => intro l h p hp; cases h; cases hp
      | mk v a0 a1 a2 a3 a4 a5 a6 a7 => exact zA_dg ((zO_q hf).1 v) (zA_dg (ih.1 a0) (zA_dg (ih.1 a1) (zA_dg (ih.1 a2) (zA_dg (ih.1 a3) (zA_dg (ih.1 a4) (zA_dg (ih.1 a5) (zA_dg (ih.1 a6) (ih.1 a7))))))))
    · cases x with
      | nil => cases y <;> first | rfl | cases h
      | mk v a0 a1 a2 a3 a4 a5 a6 a7 =>
        cases y with
        | nil => cases h
        | mk w b0 b1 b2 b3 b4 b5 b6 b7 =>
          obtain ⟨⟨_,e,k⟩,_,h,hl⟩:=zA_two (a:=zO f v w) h hl; have e:=(zO_q hf).2 _ _ _ e k
          obtain ⟨⟨_,e0,k⟩,_,h,hl⟩:=zA_two h hl; have e0:=ih.2 _ _ _ e0 k
          obtain ⟨⟨_,e1,k⟩,_,h,hl⟩:=zA_two h hl; have e1:=ih.2 _ _ _ e1 k
          obtain ⟨⟨_,e2,k⟩,_,h,hl⟩:=zA_two h hl; have e2:=ih.2 _ _ _ e2 k
          obtain ⟨⟨_,e3,k⟩,_,h,hl⟩:=zA_two h hl; have e3:=ih.2 _ _ _ e3 k
          obtain ⟨⟨_,e4,k⟩,_,h,hl⟩:=zA_two h hl; have e4:=ih.2 _ _ _ e4 k
          obtain ⟨⟨_,e5,k⟩,_,h,hl⟩:=zA_two h hl; have e5:=ih.2 _ _ _ e5 k
          obtain ⟨⟨_,e6,k⟩,_,h,hl⟩:=zA_two h hl; have e6:=ih.2 _ _ _ e6 k
          have e7:=ih.2 _ _ _ h hl
          subst e e0 e1 e2 e3 e4 e5 e6 e7; rfl
theorem z_eq {α:Type} {f:α → α → ZP} (hf:Zq f) {x y:α} {l} (h:f y y=some l) (h2:f x y=f y y):x=y:=hf.2 x y l (h2.trans h) (hf.1 y l h)
/-- A frame, its state left out. -/
noncomputable def skF (x:Fr):Fr:=Fr.rec (fun f p => .seq f p) (fun i => .blk i) (fun f p => .lp f p) (fun g md a b f p i base _ fs => .cl g md a b f p i base ⟨T.nil,T.nil,0,0⟩ fs) (fun g md a b => .top g md a b) x
noncomputable def skK (k:List Fr):List Fr:=List.rec [] (fun x _ ih => skF x::ih) k
noncomputable def zS (a b:S):ZP:=S.rec (fun env H nx low => S.rec (fun env' H' nx' low' => ifB (Nat.beq nx nx') (ifB (Nat.beq low low') (ifB (eqTB 12 H H') (zT (zV 4) 12 env env') none) none) none) b) a
noncomputable def zF (x y:Fr):ZP:=Fr.rec (fun _ _ => some []) (fun _ => some []) (fun _ _ => some []) (fun _ _ _ _ _ _ _ _ s _ => Fr.rec (fun _ _ => none) (fun _ => none) (fun _ _ => none) (fun _ _ _ _ _ _ _ _ s' _ => zS s s') (fun _ _ _ _ => none) y) (fun _ _ _ _ => some []) x
noncomputable def zK:List Fr → List Fr → ZP
  | [],[] => some []
  | x::a,y::b => zA (zF x y) (zK a b)
  | _,_ => none
theorem zS_q:Zq zS:=by
  refine ⟨fun ⟨e,H,n,w⟩ => ?_,fun ⟨e,H,n,w⟩ ⟨e',H',n',w'⟩ l h hl => ?_⟩
  · intro l h
    replace h:ifB (Nat.beq n n) (ifB (Nat.beq w w) (ifB (eqTB 12 H H) (zT (zV 4) 12 e e) none) none) none=some l:=h
    rw [Nat.beq_refl,Nat.beq_refl] at h
    cases hq:eqTB 12 H H with
    | true => rw [hq] at h; exact (zT_q (zV_q 4) 12).1 e l h
    | false => rw [hq] at h; cases h
  · replace h:ifB (Nat.beq n n') (ifB (Nat.beq w w') (ifB (eqTB 12 H H') (zT (zV 4) 12 e e') none) none) none=some l:=h
    cases h1:Nat.beq n n' with
    | false => rw [h1] at h; cases h
    | true =>
      cases h2:Nat.beq w w' with
      | false => rw [h1,h2] at h; cases h
      | true =>
        cases h3:eqTB 12 H H' with
        | false => rw [h1,h2,h3] at h; cases h
        | true =>
          rw [h1,h2,h3] at h
          rw [Nat.eq_of_beq_eq_true h1,Nat.eq_of_beq_eq_true h2,eqTB_t 12 _ _ h3,(zT_q (zV_q 4) 12).2 _ _ _ h hl]
theorem zF_d (x:Fr):Dg (zF x x):=by
  cases x <;> first | exact zS_q.1 _ | (intro l h p hp; cases h; cases hp)
theorem zF_e {x y:Fr} {l} (h1:skF x=skF y) (h:zF x y=some l) (hl:∀ p∈l,p.1=p.2):x=y:=by
  cases x <;> cases y <;> first | exact h1 | cases h1
  rename_i s fs s'
  rw [zS_q.2 s s' l h hl]
theorem zK_d:∀ k:List Fr,Dg (zK k k)
  | [] => fun l h p hp => by cases h; cases hp
  | x::k => zA_dg (zF_d x) (zK_d k)
theorem zK_e:∀ {a b:List Fr} {l},skK a=skK b → zK a b=some l → (∀ p∈l,p.1=p.2) → a=b
  | [],[],_,_,_,_ => rfl
  | [],_::_,_,h,_,_ => by cases h
  | _::_,[],_,h,_,_ => by cases h
  | x::a,y::b,l,h,h2,hl => by
    replace h:skF x::skK a=skF y::skK b:=h
    injection h with h3 h4
    obtain ⟨⟨_,e,k⟩,_,h5,hl⟩:=zA_two (a:=zF x y) h2 hl
    rw [zF_e h3 e k,zK_e h4 h5 hl]
noncomputable def skF2 (x:Fr):Fr:=Fr.rec (fun f p => .seq f p) (fun i => .blk i) (fun f p => .lp f p) (fun g md a b f p i base _ fs => .cl g md a b f p i base ⟨T.nil,T.nil,0,0⟩ fs) (fun g md a b => .top g md a b) x
noncomputable def skK2 (k:List Fr):List Fr:=List.rec [] (fun x _ ih => skF2 x::ih) k
def dup (x:AV):AV×AV:=(x,x)
noncomputable def vpsOf (s:S) (k:List Fr):List AV:=match zA (zS s s) (zK k k) with | some l => l.map fun p => p.1 | none => []
theorem dup_d (l:List AV):∀ p∈l.map dup,p.1=p.2:=fun p hp => by obtain ⟨x,_,rfl⟩:=List.mem_map.1 hp; rfl
noncomputable def viewK (m:M) (s0:S) (k0:List Fr):Option (FuncId×List Nat×List Fr×ZP):=M.rec (fun f p s k => some (f,p,skK k,zA (zS s s0) (zK k k0))) (fun _ _ => none) (fun _ => none) (fun _ => none) m
theorem viewK_t {m:M} {s0:S} {f:FuncId} {p:List Nat} {k0:List Fr} (z:List AV) (h:viewK m s0 k0=some (f,p,skK2 k0,some (z.map dup))):m=.code f p s0 k0:=by
  cases m with
  | code g q s l =>
    replace h:some (g,q,skK l,zA (zS s s0) (zK l k0))=some (f,p,skK k0,some (z.map dup)):=h
    injection h with h
    injection h with h1 h
    injection h with h2 h
    injection h with h3 h4
    obtain ⟨⟨_,e,k⟩,_,e',k'⟩:=zA_two h4 (dup_d z)
    rw [h1,h2,zK_e h3 e' k',zS_q.2 _ _ _ e k]
  | _ => cases h
theorem viewK_s {m:M} {s0:S} {f:FuncId} {p:List Nat} {k0:List Fr} (h:viewK m s0 k0=some (f,p,skK2 k0,some ((vpsOf s0 k0).map dup))):m=.code f p s0 k0:=viewK_t _ h
noncomputable def viewP (m:M) (s0:S) (k0:List Fr):Option (List Fr×ZP):=M.rec (fun _ _ _ _ => none) (fun o k => Out.rec (motive:=fun _ => Option (List Fr×ZP)) (fun s => some (skK k,zA (zS s s0) (zK k k0))) (fun _ _ => none) (fun _ => none) (fun _ => none) o) (fun _ => none) (fun _ => none) m
theorem viewP_t {m:M} {s0:S} {k0:List Fr} (z:List AV) (h:viewP m s0 k0=some (skK2 k0,some (z.map dup))):m=.out (.nrm s0) k0:=by
  cases m with
  | out o l =>
    cases o with
    | nrm s =>
      replace h:some (skK l,zA (zS s s0) (zK l k0))=some (skK k0,some (z.map dup)):=h
      injection h with h
      injection h with h3 h4
      obtain ⟨⟨_,e,k⟩,_,e',k'⟩:=zA_two h4 (dup_d z)
      rw [zK_e h3 e' k',zS_q.2 _ _ _ e k]
    | _ => cases h
  | _ => cases h
theorem viewP_s {m:M} {s0:S} {k0:List Fr} (h:viewP m s0 k0=some (skK2 k0,some ((vpsOf s0 k0).map dup))):m=.out (.nrm s0) k0:=viewP_t _ h
noncomputable def viewF (m:M) (v:AV):Option (Option (List Nat)×ZP):=M.rec (fun _ _ _ _ => none) (fun _ _ => none) (fun r => CR.rec (motive:=fun _ => Option (Option (List Nat)×ZP)) (fun x rd => some (rd,zV 4 x v)) (fun _ _ _ _ => none) (fun _ _ _ => none) (fun _ => none) r) (fun _ => none) m
theorem viewF_t {m:M} {v:AV} {rd:Option (List Nat)} (h:viewF m v=some (rd,zV 4 v v)) (h':(zV 4 v v).isSome=true):m=.fin (.value v rd):=by
  cases m with
  | fin r =>
    cases r with
    | value x rd' =>
      replace h:some (rd',zV 4 x v)=some (rd,zV 4 v v):=h
      injection h with h
      injection h with h1 h2
      obtain ⟨r,hr⟩:=Option.isSome_iff_exists.1 h'
      rw [h1,z_eq (zV_q 4) hr h2]
    | _ => cases h
  | _ => cases h
end Go.Abs.Cmpd
