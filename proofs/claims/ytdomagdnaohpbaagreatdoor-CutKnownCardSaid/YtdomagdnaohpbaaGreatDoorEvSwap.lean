/- TWO OPERATIONS WHOSE ORDER IS OPEN: done in the other order they come to the same. -/
import Derived.Test.YtdomagdnaohpbaaGreatDoorEvLoc
import Derived.Test.YtdomagdnaohpbaaGreatDoorEvOps5
set_option linter.unusedSimpArgs false
set_option linter.unusedVariables false
namespace Go.Abs
theorem z8 {a b:Bool}:ifB a b false=true↔a=true∧b=true:=by cases a <;> simp [ifB_true,zj]
theorem zaX {a b:Bool} (h:eqB a b=true):a=b:=by cases a <;> cases b <;> first | rfl | cases h
theorem uQ {α:Type} {a:Option α} (h:vF a=true):a=none:=by cases a <;> first | rfl | cases h
theorem w8 {α:Type} {e:α→α→Bool} (he:∀ x y,e x y=true→x=y):∀ (a b:List α),xL e a b=true→a=b
  | [],[],_=>rfl
  | [],_::_,h=>by cases h
  | _::_,[],h=>by cases h
  |
    x::a,y::b,h=>by
    obtain ⟨h1,h2⟩:=z8.1 (show ifB (xL e a b) (e x y) false=true from h)
    rw [he x y h2,w8 he a b h1]
theorem zc1 {α:Type} {e:α→α→Bool} (he:∀ x y,e x y=true→x=y) {a b:Option α} (h:zaH e a b=true):a=b:=by
  cases a <;> cases b
  · rfl
  · cases h
  · cases h
  · rw [he _ _ (show e _ _=true from h)]
theorem zc2 {a b:Value} (h:zaI a b=true):a=b:=by
  cases a with
  | bool x=>cases b <;> first | (rw [zaX (show eqB _ _=true from h)]) | cases h
  |
    int k x =>
    cases b with
    |
      int k' y =>
      obtain ⟨h1,h2⟩:=z8.1 (show ifB (eqI x y) (eqK k k') false=true from h)
      rw [Y6] at h1
      rw [vI h2,eq_of_beq h1]
    | _=>cases h
  |
    string x =>
    cases b <;> first | (rename_i y; have h1:=(qo _ _).symm.trans (show vS x.data.toList y.data.toList=true from h); exact congrArg Value.string (ByteArray.ext (Array.toList_inj.1 (beq_iff_eq.1 h1)))) | cases h
  | pointer x=>cases b <;> first | (obtain ⟨h1,h2⟩:=zl.1 (show andB (vF _) (vF _)=true from h); rw [uQ h1,uQ h2]) | cases h
  |
    slice x m n =>
    cases b <;> first | (obtain ⟨h1,h2⟩:=zl.1 (show andB (andB (vF _) (vF _)) (andB (Nat.beq _ _) (Nat.beq _ _))=true from h); obtain ⟨h3,h4⟩:=zl.1 h1; obtain ⟨h5,h6⟩:=zl.1 h2; rw [uQ h3,uQ h4,Abs.beq_true.1 h5,Abs.beq_true.1 h6]) | cases h
  | map x=>cases b <;> first | (obtain ⟨h1,h2⟩:=zl.1 (show andB (vF _) (vF _)=true from h); rw [uQ h1,uQ h2]) | cases h
  | nilFunc=>cases b <;> first | rfl | cases h
  | nilIface=>cases b <;> first | rfl | cases h
  | float=>cases h
  | complex=>cases h
  | chan=>cases h
  | func=>cases h
  | iface=>cases h
  | agg=>cases h
  | tuple=>cases h
theorem zfM {e:AV→AV→Bool} {k:T AV→T AV→Bool} (he:∀ x y,e x y=true→x=y) (hk:∀ x y,k x y=true→x=y) {a b:O9 (Option AV) (T AV)} (h:zfH e k a b=true):a=b:=by
  cases a with
  | nil=>cases b <;> first | rfl | cases h
  |
    mk v c0 c1 c2 c3 c4 c5 c6 c7 =>
    cases b with
    | nil=>cases h
    |
      mk w d0 d1 d2 d3 d4 d5 d6 d7 =>
      obtain ⟨g,h⟩:=z8.1 (show ifB (zaH e v w) _ false=true from h)
      obtain ⟨g0,h⟩:=z8.1 h
      obtain ⟨g1,h⟩:=z8.1 h
      obtain ⟨g2,h⟩:=z8.1 h
      obtain ⟨g3,h⟩:=z8.1 h
      obtain ⟨g4,h⟩:=z8.1 h
      obtain ⟨g5,h⟩:=z8.1 h
      obtain ⟨g6,g7⟩:=z8.1 h
      rw [zc1 he g,hk _ _ g0,hk _ _ g1,hk _ _ g2,hk _ _ g3,hk _ _ g4,hk _ _ g5,hk _ _ g6,hk _ _ g7]
theorem Ki {e:AV→AV→Bool} (he:∀ x y,e x y=true→x=y):∀ (d:Nat) (a b:T AV),eqT e d a b=true→a=b
  | 0,_,_,h=>by cases h
  | d + 1,⟨a⟩,⟨b⟩,h=>congrArg T.mk (zfM he (Ki he d) (show zfH e (eqT e d) a b=true from h))
theorem eqF_t {a b:Fn} (h:eqF a b=true):a=b:=by
  cases a <;> cases b <;> first | (rw [Abs.beq_true.1 (show Nat.beq _ _=true from h)]) | cases h
theorem Kj:∀ (d:Nat) (a b:AV),eqA d a b=true→a=b
  | 0,_,_,h=>by cases h
  |
    d + 1,a,b,h=>by
    have ih:=Kj d
    cases a with
    | v x=>cases b <;> first | (rw [zc2 (show zaI _ _=true from h)]) | cases h
    |
      vp t o =>
      cases b <;> first | (obtain ⟨h1,h2⟩:=z8.1 (show ifB (Nat.beq _ _) (eqT (eqA d) 12 _ _) false=true from h); rw [Abs.beq_true.1 h1,Ki ih _ _ _ h2]) | cases h
    |
      vs t o l s c x =>
      cases b <;> first | (
                           obtain ⟨h1,h2⟩:=z8.1 (show ifB (andB (Nat.beq _ _) (andB (Nat.beq _ _) (andB (Nat.beq _ _) (andB (Nat.beq _ _) (eqB _ _))))) (eqT (eqA d) 12 _ _) false=true from h)
                           obtain ⟨g1,h1⟩:=zl.1 h1; obtain ⟨g2,h1⟩:=zl.1 h1; obtain ⟨g3,h1⟩:=zl.1 h1; obtain ⟨g4,g5⟩:=zl.1 h1
                           rw [Abs.beq_true.1 g1,Abs.beq_true.1 g2,Abs.beq_true.1 g3,Abs.beq_true.1 g4,zaX g5,Ki ih _ _ _ h2]) | cases h
    |
      fn f x y =>
      cases b <;> first | (
                           obtain ⟨h1,h2⟩:=z8.1 (show ifB (eqF _ _) (ifB (xL (eqA d) _ _) (xL (eqA d) _ _) false) false=true from h); obtain ⟨h3,h4⟩:=z8.1 h2
                           rw [eqF_t h1,w8 ih _ _ h3,w8 ih _ _ h4]) | cases h
    | agg l=>cases b <;> first | (rw [w8 ih _ _ (show xL (eqA d) _ _=true from h)]) | cases h
    | tuple l=>cases b <;> first | (rw [w8 ih _ _ (show xL (eqA d) _ _=true from h)]) | cases h
    |
      vm l =>
      cases b with
      |
        vm l' =>
        have h1:xL (fun p q:AV×AV=>ifB (eqA d p.1 q.1) (eqA d p.2 q.2) false) l l'=true:=h
        rw [w8 (fun p q hpq=>by obtain ⟨g1,g2⟩:=z8.1 hpq; exact Prod.ext (ih _ _ g1) (ih _ _ g2)) _ _ h1]
      | _=>cases h
    | hp x y=>cases b <;> first | (obtain ⟨h1,h2⟩:=zl.1 (show andB (Nat.beq _ _) (Nat.beq _ _)=true from h); rw [Abs.beq_true.1 h1,Abs.beq_true.1 h2]) | cases h
    |
      hs b' o l s c x =>
      cases b <;> first | (
                           obtain ⟨g0,h1⟩:=zl.1 (show andB (Nat.beq _ _) (andB (Nat.beq _ _) (andB (Nat.beq _ _) (andB (Nat.beq _ _) (andB (Nat.beq _ _) (eqB _ _)))))=true from h)
                           obtain ⟨g1,h1⟩:=zl.1 h1; obtain ⟨g2,h1⟩:=zl.1 h1; obtain ⟨g3,h1⟩:=zl.1 h1; obtain ⟨g4,g5⟩:=zl.1 h1
                           rw [Abs.beq_true.1 g0,Abs.beq_true.1 g1,Abs.beq_true.1 g2,Abs.beq_true.1 g3,Abs.beq_true.1 g4,zaX g5]) | cases h
    | hm x=>cases b <;> first | (rw [Abs.beq_true.1 (show Nat.beq _ _=true from h)]) | cases h
theorem zfN {H H1:T Blk} {b:Nat} (h:v7 H H1 b=true):H1.get b=H.get b:=by
  unfold v7 at h
  rw [T.getB_eq,T.getB_eq] at h
  cases h1:H.get b with
  | none=>rw [h1] at h; cases h
  |
    some x =>
    cases h2:H1.get b with
    | none=>rw [h1,h2] at h; cases x <;> cases h
    |
      some y =>
      rw [h1,h2] at h
      cases x with
      |
        cells t n =>
        cases y with
        |
          cells u m =>
          obtain ⟨g1,g2⟩:=z8.1 (show ifB (Nat.beq n m) (eqT (eqA 12) 12 t u) false=true from h)
          rw [Abs.beq_true.1 g1,Ki (Kj 12) _ _ _ g2]
        | _=>cases h
      | _=>cases h
theorem Xi {H H1:T Blk}:∀ {l:List Nat},allB (v7 H H1) l=true→∀ b ∈ l,H1.get b=H.get b
  | [],_,b,hb=>by cases hb
  |
    x::l,h,b,hb=>by
    obtain ⟨h1,h2⟩:=z8.1 (show ifB (v7 H H1 x) (allB (v7 H H1) l) false=true from h)
    rcases List.mem_cons.1 hb with rfl | hb
    · exact zfN h1
    · exact Xi h2 b hb
section
variable {C:Cx} {run:Code→S→Out} {ops:Array Oper}
noncomputable def wl (env:T AV) (d:Option Tmp) (v:AV):T AV:=match d with | some d=>T.set d v env | none=>env
theorem zJ {β:Type} (env:T AV) (d:Option Tmp) (v:AV) (k:T AV→β):putK env d v k=k (wl env d v):=by
  cases d with
  | none=>rfl
  | some d=>exact T.setA_eq ..
theorem Zi (env:T AV) (d:Option Tmp) (v:AV) (t:Nat):(wl env d v).get t=if d=some t then some v else env.get t:=by
  cases d with
  | none=>simp [wl]
  |
    some d =>
    show (T.set d v env).get t=_
    rw [T.get_set]
    by_cases h:t=d
    · rw [if_pos h,if_pos (by rw [h])]
    · rw [if_neg h,if_neg (by simp; exact fun e=>h e.symm)]
theorem kO {env:T AV} {d e:Option Tmp} {v u:AV} (h:∀ x,d=some x→e≠some x):wl (wl env d v) e u=wl (wl env e u) d v:=by
  cases d with
  | none=>rfl
  |
    some d=>cases e with
    | none=>rfl
    | some e=>exact T.set_comm _ _ _ _ _ (fun x=>h d rfl (by rw [x]))
theorem xA (a b:Nat):wM a b=min a b:=by unfold wM; cases h:Nat.ble a b with
  | true=>have:=zq.1 h; rw [ifB_true]; omega
  | false=>have : ¬ a≤b:=(fun e=>by rw [zq.2 e] at h; cases h); rw [zj]; omega
theorem yN (low:Nat) (x:Nat×Blk) (l:List (Nat×Blk)):lower low (x::l)=wM x.1 (lower low l):=rfl
theorem JH (low c:Nat) (l:List (Nat×Blk)):lower (min c low) l=min c (lower low l):=by
  induction l with
  | nil=>rfl
  | cons x l ih=>rw [yN,yN,ih,xA,xA]; omega
theorem U3 (low:Nat) (a b:List (Nat×Blk)):lower (lower low a) b=lower (lower low b) a:=by
  induction a with
  | nil=>rfl
  | cons x a ih=>rw [yN,yN,xA,xA,JH,ih]
theorem yh:∀ {l:List (Nat×Blk)} {H:T Blk} {b:Nat},b ∉ l.map (·.1)→(z_ H l).get b=H.get b
  | [],_,_,_=>rfl
  |
    x::l,H,b,h=>by
    simp only [List.map_cons,List.mem_cons,not_or] at h
    show (z_ (T.set x.1 x.2 H) l).get b=_
    rw [yh h.2,T.get_set,if_neg h.1]
theorem Va {x:Nat×Blk}:∀ {l:List (Nat×Blk)} {H:T Blk},x.1 ∉ l.map (·.1)→T.set x.1 x.2 (z_ H l)=z_ (T.set x.1 x.2 H) l
  | [],_,_=>rfl
  |
    y::l,H,h=>by
    simp only [List.map_cons,List.mem_cons,not_or] at h
    show T.set x.1 x.2 (z_ (T.set y.1 y.2 H) l)=z_ (T.set y.1 y.2 (T.set x.1 x.2 H)) l
    rw [Va h.2,T.set_comm _ _ _ _ _ h.1]
theorem Yp:∀ {a b:List (Nat×Blk)} {H:T Blk},(∀ x ∈ a.map (·.1),x ∉ b.map (·.1))→z_ (z_ H a) b=z_ (z_ H b) a
  | [],_,_,_=>rfl
  |
    x::a,b,H,h=>by
    show z_ (z_ (T.set x.1 x.2 H) a) b=z_ (T.set x.1 x.2 (z_ H b)) a
    rw [Yp (fun y hy=>h y (List.mem_cons_of_mem _ hy)),Va (h x.1 (List.mem_cons_self ..))]
theorem ka (low:Nat) (us:List (Nat×Blk)):lower low us≤low:=by
  induction us with
  | nil=>exact Nat.le_refl _
  | cons x us ih=>rw [yN,xA]; omega
theorem ut {low b:Nat}:∀ {us:List (Nat×Blk)},b < lower low us→b ∉ us.map (·.1)
  | [],_=>by simp
  |
    x::us,h=>by
    rw [yN,xA] at h
    simp only [List.map_cons,List.mem_cons,not_or]
    exact ⟨by omega,ut (low:=low) (by omega)⟩
theorem Zj {x:Nat}:∀ {l:List Nat},memN x l=false→x ∉ l
  | [],_=>by simp
  |
    y::l,h=>by
    change ifB (Nat.beq x y) true (memN x l)=false at h
    cases e:Nat.beq x y with
    | true=>rw [e] at h; cases h
    |
      false =>
      rw [e] at h
      simp only [List.mem_cons,not_or]
      exact ⟨fun hx=>by (rw [beq_true.2 hx] at e; cases e),Zj h⟩
theorem qs:∀ {a b:List Nat},j4 a b=false→∀ x ∈ a,x ∉ b
  | [],_,_,_,h=>by cases h
  |
    y::a,b,h,x,hx=>by
    change ifB (memN y b) true (j4 a b)=false at h
    cases e:memN y b with
    | true=>rw [e] at h; cases h
    |
      false =>
      rw [e] at h
      rcases List.mem_cons.1 hx with rfl | hx
      · exact Zj e
      · exact qs h x hx
theorem uu {l:List Nat} (h:kC l=true):l=[]:=by cases l with | nil=>rfl | cons _ _=>cases h
theorem xR {b:Bool}:notB b=true↔b=false:=by cases b <;> simp [notB]
theorem uv {a b:Bool}:orB a b=true↔a=true∨b=true:=by cases a <;> simp [orB]
theorem uw {f:S→CR} {o:Out} {v:AV} {rd:Option (List Nat)} (h:zD f o=.value v rd):∃ s,(o=.nrm s∨o=.ret s)∧f s=.value v rd:=by
  cases o with
  | nrm s=>exact ⟨s,.inl rfl,h⟩
  | ret s=>exact ⟨s,.inr rfl,h⟩
  | ext i s=>cases h
  | bad w=>cases h
theorem Z3 {fn:Func} {keep:Bool} {nx low:Nat} {s:S} {v:AV} {rd:Option (List Nat)} (h:finHeap C fn keep nx low s=.value v rd):rd=none:=by
  obtain ⟨env,H,nx',low'⟩:=s
  change elimO (zN C env H fn.results.toList) (CR.bad 7) (fun l=>xH l fun r =>
    ifB (orB keep (Nat.ble (Nat.succ low') nx)) (force (wM low low') fun low=>CR.heap r H nx' low)
      (elimO (zV H nx 20 r) (force (wM low low') fun low=>CR.heap r H nx' low) (fun v=>CR.value v none)))=CR.value v rd at h
  cases hr:zN C env H fn.results.toList with
  | none=>rw [hr] at h; cases h
  |
    some l =>
    rw [hr,elimO_some] at h
    have key:∀ r,ifB (orB keep (Nat.ble (Nat.succ low') nx)) (force (wM low low') fun low=>CR.heap r H nx' low)
      (elimO (zV H nx 20 r) (force (wM low low') fun low=>CR.heap r H nx' low) (fun v=>CR.value v none))=CR.value v rd→rd=none:=by
      intro r h
      cases hk:orB keep (Nat.ble (Nat.succ low') nx) with
      | true=>rw [hk] at h; cases h
      |
        false =>
        rw [hk,zj] at h
        cases hf:zV H nx 20 r with
        | none=>rw [hf] at h; cases h
        | some y=>rw [hf] at h; cases h; rfl
    unfold xH at h
    cases h1:Nat.beq (lenL l) 1 with
    | false=>rw [h1,zj] at h; exact key _ h
    |
      true =>
      rw [h1,ifB_true] at h
      cases h2:nthL l 0 with
      | none=>rw [h2] at h; exact key _ h
      | some y=>rw [h2] at h; exact key _ h
theorem Zk {fn:Func} {nx:Nat} {s:S} {v:AV} {rd:Option (List Nat)} : ¬ finFresh C fn nx s=.value v rd:=by
  intro h
  obtain ⟨env,H,nx',low'⟩:=s
  change elimO (zN C env H fn.results.toList) (CR.bad 7) (fun l=>xH l fun r =>
    elimO (zf (kz H 20 r) fun bs=>xE (fun b=>zf (H.get b) fun k=>zm (Nat.ble nx b) (some (b,k))) bs) (CR.bad 9) fun us=>CR.fresh r us nx')=CR.value v rd at h
  cases hr:zN C env H fn.results.toList with
  | none=>rw [hr] at h; cases h
  |
    some l =>
    rw [hr,elimO_some] at h
    have key:∀ r,elimO (zf (kz H 20 r) fun bs=>xE (fun b=>zf (H.get b) fun k=>zm (Nat.ble nx b) (some (b,k))) bs) (CR.bad 9) (fun us=>CR.fresh r us nx')=CR.value v rd→False:=by
      intro r h
      cases hg:zf (kz H 20 r) fun bs=>xE (fun b=>zf (H.get b) fun k=>zm (Nat.ble nx b) (some (b,k))) bs with
      | none=>rw [hg] at h; cases h
      | some us=>rw [hg] at h; cases h
    unfold xH at h
    cases h1:Nat.beq (lenL l) 1 with
    | false=>rw [h1,zj] at h; exact key _ h
    |
      true =>
      rw [h1,ifB_true] at h
      cases h2:nthL l 0 with
      | none=>rw [h2] at h; exact key _ h
      | some y=>rw [h2] at h; exact key _ h
theorem Z4 {fn:Func} {keep:Bool} {nx low:Nat} {s:S} {v:AV} {us:List (Nat×Blk)} {n:Nat} : ¬ finHeap C fn keep nx low s=.fresh v us n:=by
  intro h
  obtain ⟨env,H,nx',low'⟩:=s
  change elimO (zN C env H fn.results.toList) (CR.bad 7) (fun l=>xH l fun r =>
    ifB (orB keep (Nat.ble (Nat.succ low') nx)) (force (wM low low') fun low=>CR.heap r H nx' low)
      (elimO (zV H nx 20 r) (force (wM low low') fun low=>CR.heap r H nx' low) (fun v=>CR.value v none)))=CR.fresh v us n at h
  cases hr:zN C env H fn.results.toList with
  | none=>rw [hr] at h; cases h
  |
    some l =>
    rw [hr,elimO_some] at h
    have key:∀ r,ifB (orB keep (Nat.ble (Nat.succ low') nx)) (force (wM low low') fun low=>CR.heap r H nx' low)
      (elimO (zV H nx 20 r) (force (wM low low') fun low=>CR.heap r H nx' low) (fun v=>CR.value v none))=CR.fresh v us n→False:=by
      intro r h
      cases hk:orB keep (Nat.ble (Nat.succ low') nx) with
      | true=>rw [hk] at h; cases h
      |
        false =>
        rw [hk,zj] at h
        cases hf:zV H nx 20 r with
        | none=>rw [hf] at h; cases h
        | some y=>rw [hf] at h; cases h
    unfold xH at h
    cases h1:Nat.beq (lenL l) 1 with
    | false=>rw [h1,zj] at h; exact key _ h
    |
      true =>
      rw [h1,ifB_true] at h
      cases h2:nthL l 0 with
      | none=>rw [h2] at h; exact key _ h
      | some y=>rw [h2] at h; exact key _ h
theorem Z5 {fn:Func} {s:S} {v:AV} {us:List (Nat×Blk)} {n:Nat} : ¬ finPure C fn s=.fresh v us n:=by
  intro h
  obtain ⟨env,H,nx',low'⟩:=s
  change elimO (zf (zN C env H fn.results.toList) fun l=>xH l (freeze H 0 20)) (CR.bad 5) (fun v=>CR.value v (some []))=CR.fresh v us n at h
  cases hr:zf (zN C env H fn.results.toList) fun l=>xH l (freeze H 0 20) with
  | none=>rw [hr] at h; cases h
  | some y=>rw [hr] at h; cases h
theorem ux {f:S→CR} {o:Out} {v:AV} {us:List (Nat×Blk)} {n:Nat} (h:zD f o=.fresh v us n):∃ s,f s=.fresh v us n:=by
  cases o with
  | nrm s=>exact ⟨s,h⟩
  | ret s=>exact ⟨s,h⟩
  | ext i s=>cases h
  | bad w=>cases h
theorem uy {f:FuncId} {args:List AV} {H:T Blk} {nx low:Nat} {v:AV} {us:List (Nat×Blk)} {n:Nat} (h:zx C run f args H nx low=.fresh v us n) :
    ∀ H' low',zx C run f args H' nx low'=.fresh v us n:=by
  intro H' low'
  unfold zx at *
  cases he:C.ext f args with
  | some y=>rw [he] at h; cases h
  |
    none =>
    rw [he] at h
    simp only [elimO_none] at h ⊢
    cases hf:funcOf C f with
    | none=>rw [hf] at h; cases h
    |
      some p =>
      rw [hf] at h
      simp only [elimO_some] at h ⊢
      cases hb:Nat.ble (lenL args) p.1.ntmps with
      | false=>rw [hb] at h; cases h
      |
        true =>
        rw [hb] at h
        simp only [ifB_true] at h ⊢
        unfold y9 at *
        rw [zZ] at h ⊢
        cases hc:andB (allB (flat 4) args) (notB (C.nf f)) with
        |
          true =>
          rw [hc,ifB_true] at h
          obtain ⟨s,hs⟩:=ux h
          exact absurd hs Z5
        |
          false =>
          rw [hc,zj] at h
          rw [zj]
          cases hfl:allB (flat 4) args with
          |
            true =>
            rw [hfl,ifB_true] at h
            rw [ifB_true]
            exact h
          |
            false =>
            rw [hfl,zj] at h
            obtain ⟨s,hs⟩:=ux h
            exact absurd hs Z4
theorem qb {f:FuncId} {args:List AV} {H:T Blk} {nx low:Nat} {v:AV} {l:List Nat} (h:zx C run f args H nx low=.value v (some l)) :
    ∀ H' nx' low',zx C run f args H' nx' low'=.value v (some l):=by
  intro H' nx' low'
  unfold zx at *
  cases he:C.ext f args with
  | some y=>rw [he] at h; simp only [elimO_some,ifB_true] at h ⊢; exact h
  |
    none =>
    rw [he] at h
    simp only [elimO_none] at h ⊢
    cases hf:funcOf C f with
    | none=>rw [hf] at h; cases h
    |
      some p =>
      rw [hf] at h
      simp only [elimO_some] at h ⊢
      cases hb:Nat.ble (lenL args) p.1.ntmps with
      | false=>rw [hb] at h; cases h
      |
        true =>
        rw [hb] at h
        simp only [ifB_true] at h ⊢
        unfold y9 at *
        rw [zZ] at h ⊢
        cases hc:andB (allB (flat 4) args) (notB (C.nf f)) with
        | true=>rw [hc] at h; simp only [elimO_some,ifB_true] at h ⊢; exact h
        |
          false =>
          rw [hc,zj] at h
          cases hfl:allB (flat 4) args with
          |
            true =>
            rw [hfl,ifB_true] at h
            obtain ⟨s,_,hs⟩:=uw h
            exact absurd hs Zk
          |
            false =>
            rw [hfl,zj] at h
            obtain ⟨s,_,hs⟩:=uw h
            cases Z3 hs
theorem y7 {env env':T AV} {o:Oper} (h:∀ t ∈ o.looksAt ops,env'.get t=env.get t):wanted env' ops o=wanted env ops o:=by
  unfold wanted
  cases hg:o.guard with
  | none=>rfl
  |
    some g =>
    show vl env' ops g.1 g.2=vl env ops g.1 g.2
    unfold vl
    cases hd:qP ops g.1 with
    | none=>rfl
    |
      some d =>
      simp only [elimO_some]
      rw [T.getA_eq,T.getA_eq,h d (by
        unfold Oper.looksAt
        rw [hg]
        have:(ops[g.1]?).bind (·.dst)=some d:=hd
        simp [this])]
theorem Vb {o:Oper} {t:Tmp} (h:Operand.tmp t ∈ o.op.operands.toList):t ∈ o.looksAt ops:=by
  unfold Oper.looksAt
  exact List.mem_append_left _ (List.mem_filterMap.2 ⟨_,h,rfl⟩)
def zc3 (C:Cx) (run:Code→S→Out) (ops:Array Oper) (nb:Nat) (o:Oper) (env:T AV) (H:T Blk) (nx low:Nat) (s:S) (f:Foot):Prop:=
  (∃ v us rd m,s=⟨wl env o.dst v,z_ H us,Option.getD m nx,lower low us⟩∧f=⟨rd,some (us.map (·.1)),m.isSome,nu⟩ ∧
    ∀
      env' H' nx' low',(∀ t ∈ o.looksAt ops,env'.get t=env.get t)→(m=none∨nx'=nx)→((∃ l,rd=some l∧jf l H H')∨(H'=H∧nx'=nx∧low'=low)) →
      stepOp C run ops nb o ⟨env',H',nx',low'⟩=.ok ⟨wl env' o.dst v,z_ H' us,Option.getD m nx',lower low' us⟩ f) ∨
  (∃ v H1 nx1 xr,s=⟨wl env o.dst v,H1,nx1,xr⟩∧f=⟨none,none,true,v7 H H1⟩ ∧
    ∀ env',(∀ t ∈ o.looksAt ops,env'.get t=env.get t)→stepOp C run ops nb o ⟨env',H,nx,low⟩=.ok ⟨wl env' o.dst v,H1,nx1,xr⟩ f)
theorem zU (dst:Option Tmp) (r:R) (env:T AV) (H:T Blk) (nx low:Nat):stepSimple dst (some r) env H nx low=.ok ⟨wl env dst r.v,z_ H r.ups,nx,lower low r.ups⟩ ⟨r.rd,some (r.ups.map (·.1)),false,nu⟩:=by
  obtain ⟨v,us,rd⟩:=r
  show putK env dst v (fun env=>Go.Abs.ups H us fun H=>force (lower low us) fun low=>StepR.ok ⟨env,H,nx,low⟩ ⟨rd,some (us.map (·.1)),false,nu⟩)=_
  rw [zJ,vx,zr]
theorem yC (nb:Nat) (o:Oper) (env:T AV) (H:T Blk) (nx low:Nat):stepOp C run ops nb o ⟨env,H,nx,low⟩=ifB (wanted env ops o) (wN C run nb o env H nx low) (putK env o.dst (.tuple []) fun env=>.ok ⟨env,H,nx,low⟩ ⟨some [],some [],false,nu⟩):=rfl
theorem vy (C:Cx) (run:Code→S→Out) (o:Oper):(∃ c f,o.op=.call c∧c.callee=.value f∧∀ nb env H nx low,wN C run nb o env H nx low=ye C run o.dst f c.args env H nx low) ∨
    (∀ nb env H nx low,wN C run nb o env H nx low=stepSimple o.dst (zY o.op C env H nb o.type) env H nx low):=by
  obtain ⟨dst,op,type,pos,after,guard⟩:=o
  cases op <;> try exact .inr fun _ _ _ _ _=>rfl
  rename_i c
  obtain ⟨callee,args,argTypes⟩:=c
  cases callee with
  | value f=>exact .inl ⟨_,f,rfl,rfl,fun _ _ _ _ _=>rfl⟩
  | _=>exact .inr fun _ _ _ _ _=>rfl
theorem kP {env env':T AV} {f:Operand} {args:Array Operand} (h:∀ t,(Operand.tmp t=f∨Operand.tmp t ∈ args.toList)→env'.get t=env.get t):yd env' f args=yd env f args:=by
  unfold yd
  rw [vL (fun t e=>h t (.inl e.symm)),qp (fun t ht=>h t (.inr ht))]
theorem qt {nb:Nat} {o:Oper} {env:T AV} {H:T Blk} {nx low:Nat} {s:S} {f:Foot} (h:stepOp C run ops nb o ⟨env,H,nx,low⟩=.ok s f):zc3 C run ops nb o env H nx low s f:=by
  rw [yC] at h
  cases hw:wanted env ops o with
  |
    false =>
    rw [hw,zj,zJ] at h
    cases h
    refine .inl ⟨.tuple [],[],some [],none,rfl,rfl,fun env' H' nx' low' he _ _ => ?_⟩
    rw [yC,y7 he,hw,zj,zJ]; rfl
  |
    true =>
    rw [hw,ifB_true] at h
    rcases vy C run o with ⟨c,g,ho,hc,e⟩ | e
    ·
      rw [e] at h
      unfold ye at h
      cases hca:yd env g c.args with
      | none=>rw [hca] at h; cases h
      |
        some p =>
        rw [hca,elimO_some] at h
        have hcong:∀ env',(∀ t ∈ o.looksAt ops,env'.get t=env.get t)→yd env' g c.args=some p:=fun env' he=>by
          rw [← hca]
          refine kP fun t ht=>he t (Vb ?_)
          rw [ho]
          show Operand.tmp t ∈ c.operands.toList
          unfold Call.operands
          rw [hc]
          rcases ht with ht | ht
          · simp [ht]
          · simp; exact .inr (by simpa using ht)
        cases hbor:C.bor p.1 with
        |
          true =>
          rw [hbor,ifB_true] at h
          cases hl:vj H p.2 with
          | none=>rw [hl] at h; cases h
          |
            some q =>
            rw [hl,elimO_some] at h
            cases hr:zx C run p.1 q.1 T.nil nx low with
            | bad w=>rw [hr] at h; cases h
            | heap v H1 nx1 xr=>rw [hr] at h; cases h
            |
              value v rd =>
              rw [hr] at h
              replace h:elimO rd (StepR.bad 97) (fun _=>ifB (wV v) (putK env o.dst v fun env=>StepR.ok ⟨env,H,nx,low⟩ ⟨some q.2,some [],false,nu⟩) (.bad 97))=.ok s f:=h
              cases rd with
              | none=>cases h
              |
                some l =>
                rw [elimO_some] at h
                cases hp:wV v with
                | false=>rw [hp] at h; cases h
                |
                  true =>
                  rw [hp,ifB_true,zJ] at h
                  cases h
                  refine .inl ⟨v,[],some q.2,none,rfl,rfl,fun env' H' nx' low' he _ hH => ?_⟩
                  rw [yC,y7 he,hw,ifB_true,e]
                  unfold ye
                  rw [hcong env' he,elimO_some,hbor,ifB_true]
                  have hl':vj H' p.2=some q:=by
                    rcases hH with ⟨l,hl2,ha⟩ | ⟨rfl,_,_⟩
                    · cases hl2; exact kN hl ha
                    · exact hl
                  rw [hl',elimO_some,qb hr T.nil nx' low']
                  show elimO (some l) (StepR.bad 97) (fun _=>ifB (wV v) (putK env' o.dst v fun env=>StepR.ok ⟨env,H',nx',low'⟩ ⟨some q.2,some [],false,nu⟩) (.bad 97))=_
                  rw [elimO_some,hp,ifB_true,zJ]; rfl
            |
              fresh v us n =>
              rw [hr] at h
              replace h:ifB (andB (ja v) (allB qI us)) (putK env o.dst v fun env=>Go.Abs.ups H us fun H=>force (lower low us) fun low=>StepR.ok ⟨env,H,n,low⟩ ⟨some q.2,some (us.map (·.1)),true,nu⟩) (.bad 97)=.ok s f:=h
              cases hp:andB (ja v) (allB qI us) with
              | false=>rw [hp] at h; cases h
              |
                true =>
                rw [hp,ifB_true,zJ,vx,zr] at h
                cases h
                refine .inl ⟨v,us,some q.2,some n,rfl,rfl,fun env' H' nx' low' he hn hH => ?_⟩
                obtain rfl:nx'=nx:=by rcases hn with hn | hn; cases hn; exact hn
                rw [yC,y7 he,hw,ifB_true,e]
                unfold ye
                rw [hcong env' he,elimO_some,hbor,ifB_true]
                have hl':vj H' p.2=some q:=by
                  rcases hH with ⟨l,hl2,ha⟩ | ⟨rfl,_,_⟩
                  · cases hl2; exact kN hl ha
                  · exact hl
                rw [hl',elimO_some,uy hr]
                show ifB (andB (ja v) (allB qI us)) (putK env' o.dst v fun env=>Go.Abs.ups H' us fun H=>force (lower low' us) fun low=>StepR.ok ⟨env,H,n,low⟩ ⟨some q.2,some (us.map (·.1)),true,nu⟩) (.bad 97)=_
                rw [hp,ifB_true,zJ,vx,zr]; rfl
        | false =>
        rw [hbor,zj] at h
        cases hr:zx C run p.1 p.2 H nx low with
        | bad w=>rw [hr] at h; cases h
        |
          value v rd =>
          rw [hr] at h
          replace h:putK env o.dst v (fun env=>StepR.ok ⟨env,H,nx,low⟩ ⟨rd,some [],false,nu⟩)=.ok s f:=h
          rw [zJ] at h
          cases h
          refine .inl ⟨v,[],rd,none,rfl,rfl,fun env' H' nx' low' he _ hH => ?_⟩
          rw [yC,y7 he,hw,ifB_true,e]
          unfold ye
          rw [hcong env' he,elimO_some,hbor,zj]
          have hr':zx C run p.1 p.2 H' nx' low'=.value v rd:=by
            rcases hH with ⟨l,rfl,_⟩ | ⟨rfl,rfl,rfl⟩
            · exact qb hr _ _ _
            · exact hr
          rw [hr']
          show putK env' o.dst v (fun env=>StepR.ok ⟨env,H',nx',low'⟩ ⟨rd,some [],false,nu⟩)=_
          rw [zJ]; rfl
        |
          fresh v us n =>
          rw [hr] at h
          replace h:putK env o.dst v (fun env=>Go.Abs.ups H us fun H=>force (lower low us) fun low=>StepR.ok ⟨env,H,n,low⟩ ⟨some [],some (us.map (·.1)),true,nu⟩)=.ok s f:=h
          rw [zJ,vx,zr] at h
          cases h
          refine .inl ⟨v,us,some [],some n,rfl,rfl,fun env' H' nx' low' he hn _ => ?_⟩
          obtain rfl:nx'=nx:=by rcases hn with hn | hn; cases hn; exact hn
          rw [yC,y7 he,hw,ifB_true,e]
          unfold ye
          rw [hcong env' he,elimO_some,hbor,zj,uy hr]
          show putK env' o.dst v (fun env=>Go.Abs.ups H' us fun H=>force (lower low' us) fun low=>StepR.ok ⟨env,H,n,low⟩ ⟨some [],some (us.map (·.1)),true,nu⟩)=_
          rw [zJ,vx,zr]; rfl
        |
          heap v H1 nx1 xr =>
          rw [hr] at h
          replace h:putK env o.dst v (fun env=>StepR.ok ⟨env,H1,nx1,xr⟩ ⟨none,none,true,v7 H H1⟩)=.ok s f:=h
          rw [zJ] at h
          cases h
          refine .inr ⟨v,H1,nx1,xr,rfl,rfl,fun env' he => ?_⟩
          rw [yC,y7 he,hw,ifB_true,e]
          unfold ye
          rw [hcong env' he,elimO_some,hbor,zj,hr]
          show putK env' o.dst v (fun env=>StepR.ok ⟨env,H1,nx1,xr⟩ ⟨none,none,true,v7 H H1⟩)=_
          rw [zJ]
    ·
      rw [e] at h
      cases hs:zY o.op C env H nb o.type with
      | none=>rw [hs] at h; cases h
      |
        some r =>
        rw [hs,zU] at h
        cases h
        obtain ⟨rd,h1,h2⟩:=U2 r hs
        refine .inl ⟨r.v,r.ups,r.rd,none,rfl,rfl,fun env' H' nx' low' he _ hH => ?_⟩
        rw [yC,y7 he,hw,ifB_true,e,UZ (fun t ht=>he t (Vb ht))]
        have:zY o.op C env H' nb o.type=some r:=by
          rcases hH with ⟨l,hl,ha⟩ | ⟨rfl,_,_⟩
          · rw [h1] at hl; cases hl; exact h2 H' ha
          · exact hs
        rw [this,zU]; rfl
theorem jh {un:Nat→Bool} {f:Foot} (h:kD un f=true):∃ l,f.rd=some l∧allB un l=true:=by
  unfold kD at h
  cases hr:f.rd with
  | none=>rw [hr] at h; cases h
  | some l=>rw [hr] at h; exact ⟨l,rfl,h⟩
theorem ji {w:List Nat} {r:Option (List Nat)} (h:wJ w r=true):w=[]∨∃ l,r=some l∧∀ x ∈ w,x ∉ l:=by
  unfold wJ at h
  rcases uv.1 h with h | h
  · exact .inl (uu h)
  ·
    cases r with
    | none=>cases h
    | some l=>exact .inr ⟨l,rfl,qs (xR.1 h)⟩
theorem swap {k i:Oper} {nk ni:Nat} {s s1 s2:S} {fk fi:Foot} (hk:stepOp C run ops nk k s=.ok s1 fk) (hi:stepOp C run ops ni i s1=.ok s2 fi)
    (hap:Oper.apart ops k i=true) (hc:clear2 fk fi=true):∃ s1',stepOp C run ops ni i s=.ok s1' fi∧stepOp C run ops nk k s1'=.ok s2 fk:=by
  obtain ⟨a1,a2,a3⟩:=Oper.apart_spec hap
  obtain ⟨env,H,nx,low⟩:=s
  have agree_i:∀ v,∀ t ∈ i.looksAt ops,env.get t=(wl env k.dst v).get t:=fun v t ht=>by
    rw [Zi]; split
    · rename_i hd; exact absurd ht (a1 t hd)
    · rfl
  have agree_k:∀ v,∀ t ∈ k.looksAt ops,(wl env i.dst v).get t=env.get t:=fun v t ht=>by
    rw [Zi]; split
    · rename_i hd; exact absurd ht (a3 t hd)
    · rfl
  unfold clear2 at hc
  rw [zl,zl,zl,xR,uv,uv,xR,xR] at hc
  obtain ⟨⟨hmv,hmk,hmi⟩,hc⟩:=hc
  rcases qt hk with ⟨vk,uk,rk,mk,rfl,rfl,gk⟩ | ⟨vk,H1,nx1,xr,rfl,rfl,gk⟩
  ·
    rcases qt hi with ⟨vi,ui,ri,mi,rfl,rfl,gi⟩ | ⟨vi,H2,nx2,low2,rfl,rfl,gi⟩
    ·
      change andB (notB (j4 (uk.map (·.1)) (ui.map (·.1)))) (andB (wJ (uk.map (·.1)) ri) (wJ (ui.map (·.1)) rk))=true at hc
      rw [zl,zl,xR] at hc
      obtain ⟨c1,c2,c3⟩:=hc
      have hm:mk=none∨mi=none:=by
        cases mk with
        | none=>exact .inl rfl
        |
          some a=>cases mi with
          | none=>exact .inr rfl
          | some b=>cases hmv
      have hi':=gi env H nx low (agree_i vk) (by rcases hm with rfl | rfl; exact .inr rfl; exact .inl rfl) (by
        rcases ji c2 with h | ⟨l,rfl,h⟩
        ·
          have:uk=[]:=by simpa using h
          subst this
          cases mk with
          | none=>exact .inr ⟨rfl,rfl,rfl⟩
          |
            some a =>
            cases ri with
            | some l=>exact .inl ⟨l,rfl,fun b hb=>rfl⟩
            | none=>rcases hmk with h | h <;> cases h
        · exact .inl ⟨l,rfl,fun b hb=>(yh (fun hm=>h b hm hb)).symm⟩)
      refine ⟨_,hi',?_⟩
      have hk':=gk (wl env i.dst vi) (z_ H ui) (Option.getD mi nx) (lower low ui) (agree_k vi) (by rcases hm with rfl | rfl; exact .inl rfl; exact .inr rfl) (by
        rcases ji c3 with h | ⟨l,rfl,h⟩
        ·
          have:ui=[]:=by simpa using h
          subst this
          cases mi with
          | none=>exact .inr ⟨rfl,rfl,rfl⟩
          |
            some a =>
            cases rk with
            | some l=>exact .inl ⟨l,rfl,fun b hb=>rfl⟩
            | none=>rcases hmi with h | h <;> cases h
        · exact .inl ⟨l,rfl,fun b hb=>yh (fun hm=>h b hm hb)⟩)
      rw [hk']
      rw [kO (fun x hx=>a2 x hx),Yp (qs c1),U3]
      rcases hm with rfl | rfl <;> rfl
    ·
      change andB (kC (uk.map (·.1))) (kD (v7 (z_ H uk) H2) ⟨rk,some (uk.map (·.1)),mk.isSome,nu⟩)=true at hc
      rw [zl] at hc
      have hu:uk=[]:=by simpa using uu hc.1
      subst hu
      obtain ⟨l,hr,hl⟩:=jh hc.2
      replace hr:rk=some l:=hr
      subst hr
      have hmk':mk=none:=by cases mk with | none=>rfl | some a=>cases hmv
      subst hmk'
      refine ⟨_,gi env (agree_i vk),?_⟩
      have hk':=gk (wl env i.dst vi) H2 nx2 low2 (agree_k vi) (.inl rfl) (.inl ⟨l,rfl,fun b hb=>Xi hl b hb⟩)
      rw [hk',kO (fun x hx=>a2 x hx)]; rfl
  · have hc':∃ vi ui l,fi=⟨some l,some [],false,nu⟩∧ui=([]:List (Nat×Blk))∧s2=⟨wl (wl env k.dst vk) i.dst vi,H1,nx1,xr⟩∧stepOp C run ops ni i ⟨env,H,nx,low⟩=.ok ⟨wl env i.dst vi,H,nx,low⟩ fi:=by
      rcases qt hi with ⟨vi,ui,ri,mi,rfl,rfl,gi⟩ | ⟨vi,H2,nx2,low2,rfl,rfl,gi⟩
      ·
        change andB (kC (ui.map (·.1))) (kD (v7 H H1) ⟨ri,some (ui.map (·.1)),mi.isSome,nu⟩)=true at hc
        rw [zl] at hc
        have hu:ui=[]:=by simpa using uu hc.1
        subst hu
        obtain ⟨l,hr,hl⟩:=jh hc.2
        replace hr:ri=some l:=hr
        subst hr
        have hmi':mi=none:=by cases mi with | none=>rfl | some a=>cases hmv
        subst hmi'
        exact ⟨vi,[],l,rfl,rfl,rfl,gi env H nx low (agree_i vk) (.inl rfl) (.inl ⟨l,rfl,fun b hb=>(Xi hl b hb).symm⟩)⟩
      · cases hc
    obtain ⟨vi,ui,l,rfl,rfl,rfl,hi'⟩:=hc'
    refine ⟨_,hi',?_⟩
    rw [gk _ (agree_k vi),kO (fun x hx=>a2 x hx)]
end
end Go.Abs
