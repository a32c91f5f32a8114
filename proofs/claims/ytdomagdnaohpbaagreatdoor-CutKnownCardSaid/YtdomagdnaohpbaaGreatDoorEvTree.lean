/- THE LAWS OF THE STEPS AND OF THE TREE OF CELLS: what is read behind a write; writes at unlike places change places. -/
import Derived.Test.YtdomagdnaohpbaaGreatDoorEv
set_option linter.unusedVariables false
set_option linter.unusedSimpArgs false
namespace Go.Abs
noncomputable section
section
variable {α β:Type}
@[simp] theorem zfL (f:α→Option β):zf none f=none:=rfl
@[simp] theorem zs (a:α) (f:α→Option β):zf (some a) f=f a:=rfl
theorem za {x:Option α} {f:α→Option β} {y:β}:zf x f=some y↔∃ a,x=some a∧f a=some y:=by
  cases x <;> simp
@[simp] theorem elimO_none (d:β) (f:α→β):elimO none d f=d:=rfl
@[simp] theorem elimO_some (a:α) (d:β) (f:α→β):elimO (some a) d f=f a:=rfl
@[simp] theorem yt (x:Option β):zm true x=x:=rfl
@[simp] theorem zcT (x:Option β):zm false x=none:=rfl
theorem zi {b:Bool} {x:Option β} {y:β}:zm b x=some y↔b=true∧x=some y:=by cases b <;> simp
@[simp] theorem ifB_true (x y:β):ifB true x y=x:=rfl
@[simp] theorem zj (x y:β):ifB false x y=y:=rfl
theorem ifB_eq (b:Bool) (x y:β):ifB b x y=if b=true then x else y:=by cases b <;> rfl
theorem andB_eq (x y:Bool):andB x y=(x && y):=by cases x <;> rfl
theorem j5 (x y:Bool):orB x y=(x || y):=by cases x <;> rfl
theorem uJ (x:Bool):notB x = !x:=by cases x <;> rfl
theorem zl {x y:Bool}:andB x y=true↔x=true∧y=true:=by cases x <;> simp [andB]
theorem zq {a b:Nat}:Nat.ble a b=true↔a≤b:=⟨Nat.le_of_ble_eq_true,Nat.ble_eq_true_of_le⟩
theorem beq_true {a b:Nat}:Nat.beq a b=true↔a=b:=⟨Nat.eq_of_beq_eq_true,fun h=>h ▸ Nat.beq_refl a⟩
theorem zr (n:Nat) (k:Nat→β):force n k=k n:=rfl
theorem xx (n:Int) (k:Int→β):wI n k=k n:=by cases n <;> rfl
theorem forceB_eq (b:Bool) (k:Bool→β):forceB b k=k b:=by cases b <;> rfl
theorem y_ (l:List α):∀ (k:List α→β),xg l k=k l:=by
  induction l with
  | nil=>intro k; rfl
  | cons x l ih=>intro k; show xg l (fun r=>k (x::r))=_; rw [ih]
theorem yb (l:List α):lenL l=l.length:=by
  induction l with
  | nil=>rfl
  | cons x l ih=>show Nat.succ (lenL l)=_; rw [ih]; rfl
theorem ws (l:List α):∀ n,nthL l n=l[n]?:=by
  induction l with
  | nil=>intro n; rfl
  |
    cons x l ih=>intro n; cases n with
    | zero=>rfl
    | succ n=>show nthL l n=_; rw [ih]; rfl
theorem yg (l r:List α):z5 l r=l++r:=by
  induction l with
  | nil=>rfl
  | cons x l ih=>show x::z5 l r=_; rw [ih]; rfl
theorem qQ (n:Nat):∀ (l:List α),Wv n l=l.take n:=by
  induction n with
  | zero=>intro l; rfl
  |
    succ n ih=>intro l; cases l with
    | nil=>rfl
    | cons x l=>show x::Wv n l=_; rw [ih]; rfl
theorem vG (n:Nat):∀ (l:List α),v8 n l=l.drop n:=by
  induction n with
  | zero=>intro l; rfl
  |
    succ n ih=>intro l; cases l with
    | nil=>rfl
    | cons x l=>show v8 n l=_; rw [ih]; rfl
theorem z6 {f:α→Bool} {l:List α}:allB f l=true↔∀ x ∈ l,f x=true:=by
  induction l with
  | nil=>simp [allB]
  |
    cons x l ih =>
    show ifB (f x) (allB f l) false=true↔_
    cases h:f x
    · simp [h]
    · simp [h,ih]
@[simp] theorem allM_nil (f:α→Option β):xE f []=some []:=rfl
theorem kE (f:α→Option β) (x:α) (l:List α):xE f (x::l)=zf (f x) fun y=>zf (xE f l) fun r=>some (y::r):=rfl
theorem wi {f:α→Option β}:∀ {l:List α} {r:List β},xE f l=some r→l.length=r.length∧∀ (i:Nat) (x:α) (y:β),l[i]? = some x→r[i]? = some y→f x=some y
  | [],r,h=>by cases h; simp
  |
    a::l,r,h=>by
    rw [kE,za] at h
    obtain ⟨b,ha,h⟩:=h
    rw [za] at h
    obtain ⟨r',hl,h⟩:=h
    cases h
    obtain ⟨h1,h2⟩:=wi hl
    refine ⟨by simp [h1],fun i x y hx hy => ?_⟩
    cases i with
    | zero=>simp at hx hy; subst hx; subst hy; exact ha
    | succ i=>simp at hx hy; exact h2 i x y hx hy
end
theorem Jo {a b:Nat} (ha:a < 8) (hb:b < 8) (h:Ww a=Ww b):a=b:=by
  have e:∀ n,n < 8→Ww n=match n with | 0=>.d0 | 1=>.d1 | 2=>.d2 | 3=>.d3 | 4=>.d4 | 5=>.d5 | 6=>.d6 | _=>.d7:=by
    intro n hn
    match n,hn with
    | 0,_=>rfl | 1,_=>rfl | 2,_=>rfl | 3,_=>rfl | 4,_=>rfl | 5,_=>rfl | 6,_=>rfl | 7,_=>rfl
  rw [e a ha,e b hb] at h
  match a,b,ha,hb with
  | 0,0,_,_=>rfl | 1,1,_,_=>rfl | 2,2,_,_=>rfl | 3,3,_,_=>rfl | 4,4,_,_=>rfl | 5,5,_,_=>rfl | 6,6,_,_=>rfl | 7,7,_,_=>rfl
  | 0,1,_,_=>cases h | 0,2,_,_=>cases h | 0,3,_,_=>cases h | 0,4,_,_=>cases h | 0,5,_,_=>cases h | 0,6,_,_=>cases h | 0,7,_,_=>cases h
  | 1,0,_,_=>cases h | 1,2,_,_=>cases h | 1,3,_,_=>cases h | 1,4,_,_=>cases h | 1,5,_,_=>cases h | 1,6,_,_=>cases h | 1,7,_,_=>cases h
  | 2,0,_,_=>cases h | 2,1,_,_=>cases h | 2,3,_,_=>cases h | 2,4,_,_=>cases h | 2,5,_,_=>cases h | 2,6,_,_=>cases h | 2,7,_,_=>cases h
  | 3,0,_,_=>cases h | 3,1,_,_=>cases h | 3,2,_,_=>cases h | 3,4,_,_=>cases h | 3,5,_,_=>cases h | 3,6,_,_=>cases h | 3,7,_,_=>cases h
  | 4,0,_,_=>cases h | 4,1,_,_=>cases h | 4,2,_,_=>cases h | 4,3,_,_=>cases h | 4,5,_,_=>cases h | 4,6,_,_=>cases h | 4,7,_,_=>cases h
  | 5,0,_,_=>cases h | 5,1,_,_=>cases h | 5,2,_,_=>cases h | 5,3,_,_=>cases h | 5,4,_,_=>cases h | 5,6,_,_=>cases h | 5,7,_,_=>cases h
  | 6,0,_,_=>cases h | 6,1,_,_=>cases h | 6,2,_,_=>cases h | 6,3,_,_=>cases h | 6,4,_,_=>cases h | 6,5,_,_=>cases h | 6,7,_,_=>cases h
  | 7,0,_,_=>cases h | 7,1,_,_=>cases h | 7,2,_,_=>cases h | 7,3,_,_=>cases h | 7,4,_,_=>cases h | 7,5,_,_=>cases h | 7,6,_,_=>cases h
theorem j6 (f:Nat):jQ (f + 1) 0=[]:=rfl
theorem w5 (f n:Nat):jQ (f + 1) (n + 1)=Ww (n % 8)::jQ f (n / 8):=rfl
theorem Jp (f:Nat):∀ (g a b:Nat),a < f→b < g→jQ f a=jQ g b→a=b:=by
  induction f with
  | zero=>intro g a b h; omega
  |
    succ f ih =>
    intro g a b ha hb h
    obtain ⟨g,rfl⟩:∃ m,g=m + 1:=⟨g - 1,by omega⟩
    cases a with
    |
      zero =>
      cases b with
      | zero=>rfl
      | succ b=>rw [j6,w5] at h; cases h
    |
      succ a =>
      cases b with
      | zero=>rw [j6,w5] at h; cases h
      |
        succ b =>
        rw [w5,w5] at h
        injection h with h1 h2
        have e1:=Jo (Nat.mod_lt _ (by decide)) (Nat.mod_lt _ (by decide)) h1
        have e2:=ih g (a / 8) (b / 8) (by omega) (by omega) h2
        omega
theorem WJ {a b:Nat} (h:path a=path b):a=b:=Jp _ _ a b (by omega) (by omega) h
namespace T
variable {α β:Type}
def sub (d:D) (t c:T α):T α:=subK d t c id
def put (v:α) (t:T α):T α:=putK v t id
theorem zcU (d:D) (t c:T α) (k:T α→β):subK d t c k=k (sub d t c):=by
  obtain ⟨o⟩:=t; cases o <;> cases d <;> rfl
theorem zcV (v:α) (t:T α) (k:T α→β):putK v t k=k (put v t):=by
  obtain ⟨o⟩:=t; cases o <;> rfl
theorem Y0 (d:D) (t c:T α):kid d (sub d t c)=c:=by obtain ⟨o⟩:=t; cases o <;> cases d <;> rfl
theorem qk (d e:D) (t c:T α) (h:e≠d):kid e (sub d t c)=kid e t:=by
  obtain ⟨o⟩:=t; cases o <;> cases d <;> cases e <;> first | exact absurd rfl h | rfl
theorem zcW (d:D) (t c:T α):val (sub d t c)=val t:=by obtain ⟨o⟩:=t; cases o <;> cases d <;> rfl
theorem zcX (v:α) (t:T α):val (put v t)=some v:=by obtain ⟨o⟩:=t; cases o <;> rfl
theorem Y1 (d:D) (v:α) (t:T α):kid d (put v t)=kid d t:=by obtain ⟨o⟩:=t; cases o <;> cases d <;> rfl
theorem Kb (d:D) (v:α) (t c:T α):sub d (put v t) c=put v (sub d t c):=by obtain ⟨o⟩:=t; cases o <;> cases d <;> rfl
theorem sub_sub (d:D) (t c c':T α):sub d (sub d t c) c'=sub d t c':=by obtain ⟨o⟩:=t; cases o <;> cases d <;> rfl
theorem zaL (d e:D) (t c c':T α) (h:e≠d):sub d (sub e t c') c=sub e (sub d t c) c':=by
  obtain ⟨o⟩:=t; cases o <;> cases d <;> cases e <;> first | exact absurd rfl h | rfl
theorem j7 (t:T α):getP [] t=val t:=rfl
theorem getP_cons (d:D) (p:List D) (t:T α):getP (d::p) t=getP p (kid d t):=rfl
def setP (v:α) (p:List D) (t:T α):T α:=setPK v p t id
theorem WK (v:α) (p:List D):∀ {β:Type} (t:T α) (k:T α→β),setPK v p t k=k (setPK v p t id):=by
  induction p with
  | nil=>intro β t k; show putK v t k=k (putK v t id); rw [zcV]; rfl
  |
    cons d p ih =>
    intro β t k
    show setPK v p (kid d t) (fun c=>subK d t c k)=k (setPK v p (kid d t) (fun c=>subK d t c id))
    rw [ih _ (fun c=>subK d t c k),zcU,ih _ (fun c=>subK d t c id)]; rfl
theorem setP_nil (v:α) (t:T α):setP v [] t=put v t:=rfl
theorem setP_cons (v:α) (d:D) (p:List D) (t:T α):setP v (d::p) t=sub d t (setP v p (kid d t)):=by
  show setPK v p (kid d t) (fun c=>subK d t c id)=_
  rw [WK]; rfl
theorem zaM (v:α) (p:List D):∀ (q:List D) (t:T α),getP q (setP v p t)=if q=p then some v else getP q t:=by
  induction p with
  |
    nil =>
    intro q t
    cases q with
    | nil=>rw [setP_nil,j7,zcX]; rfl
    | cons e q=>rw [setP_nil,getP_cons,Y1,← getP_cons]; simp
  |
    cons d p ih =>
    intro q t
    rw [setP_cons]
    cases q with
    | nil=>rw [j7,zcW]; simp [j7]
    |
      cons e q =>
      rw [getP_cons]
      by_cases h:e=d
      · subst h; rw [Y0,ih]; simp [getP_cons]
      · rw [qk _ _ _ _ h,if_neg (by simp [h])]; rfl
theorem Jq (v u:α) (p:List D):∀ (q:List D) (t:T α),p≠q→setP v p (setP u q t)=setP u q (setP v p t):=by
  induction p with
  |
    nil =>
    intro q t h
    cases q with
    | nil=>exact absurd rfl h
    | cons e q=>rw [setP_cons,setP_nil,setP_nil,setP_cons,Y1,Kb]
  |
    cons d p ih =>
    intro q t h
    cases q with
    | nil=>rw [setP_cons,setP_nil,setP_nil,setP_cons,Y1,Kb]
    |
      cons e q =>
      rw [setP_cons,setP_cons,setP_cons,setP_cons]
      by_cases hd:e=d
      ·
        subst hd
        rw [Y0,Y0,sub_sub,sub_sub,ih q _ (fun e'=>h (by rw [e']))]
      · rw [qk _ _ _ _ (Ne.symm hd),qk _ _ _ _ hd,zaL _ _ _ _ _ hd]
def set (n:Nat) (v:α) (t:T α):T α:=setP v (path n) t
theorem setK_eq (n:Nat) (v:α) (t:T α) (k:T α→β):setK n v t k=k (set n v t):=WK v (path n) t k
theorem get_set (n m:Nat) (v:α) (t:T α):(set n v t).get m=if m=n then some v else t.get m:=by
  show getP (path m) (setP v (path n) t)=_
  rw [zaM]
  by_cases h:m=n
  · subst h; simp
  · rw [if_neg (fun e=>h (WJ e)),if_neg h]; rfl
theorem set_comm (n m:Nat) (v u:α) (t:T α) (h:n≠m):set n v (set m u t)=set m u (set n v t):=Jq v u _ _ _ (fun e=>h (WJ e))
theorem getP_empty (p:List D):getP p (T.nil:T α)=none:=by
  induction p with
  | nil=>rfl
  | cons d p ih=>rw [getP_cons,show kid d (T.nil:T α)=T.nil by cases d <;> rfl,ih]
@[simp] theorem get_nil (n:Nat):(T.nil:T α).get n=none:=getP_empty _
end T
theorem Jr {α β:Type} {f:α→Option β} {x:Option α} {y:Option β} (h:zax f x=some y):∀ z,y=some z→∃ a,x=some a∧f a=some z:=by
  cases x with
  | none=>cases h; intro z hz; cases hz
  |
    some a =>
    obtain ⟨b,hb,h⟩:=za.1 h
    cases h
    intro z hz; cases hz; exact ⟨a,rfl,hb⟩
theorem Js {α β:Type} {f:α→Option β} (p:List D):∀ {t:T α} {t':T β},yY f t=some t'→∀ y,T.getP p t'=some y→∃ x,T.getP p t=some x∧f x=some y:=by
  induction p with
  |
    nil =>
    intro t t' h y hy
    obtain ⟨o⟩:=t
    cases o with
    | nil=>cases h; cases hy
    |
      mk v c0 c1 c2 c3 c4 c5 c6 c7 =>
      obtain ⟨o',ho,h⟩:=za.1 h
      cases h
      obtain ⟨v',hv,ho⟩:=za.1 ho
      obtain ⟨x0,h0,ho⟩:=za.1 ho
      obtain ⟨x1,h1,ho⟩:=za.1 ho
      obtain ⟨x2,h2,ho⟩:=za.1 ho
      obtain ⟨x3,h3,ho⟩:=za.1 ho
      obtain ⟨x4,h4,ho⟩:=za.1 ho
      obtain ⟨x5,h5,ho⟩:=za.1 ho
      obtain ⟨x6,h6,ho⟩:=za.1 ho
      obtain ⟨x7,h7,ho⟩:=za.1 ho
      cases ho
      exact Jr hv y hy
  |
    cons d p ih =>
    intro t t' h y hy
    rw [T.getP_cons] at hy ⊢
    obtain ⟨o⟩:=t
    cases o with
    | nil=>cases h; rw [show T.kid d (⟨.nil⟩:T β)=T.nil by cases d <;> rfl,T.getP_empty] at hy; cases hy
    |
      mk v c0 c1 c2 c3 c4 c5 c6 c7 =>
      obtain ⟨o',ho,h⟩:=za.1 h
      cases h
      obtain ⟨v',hv,ho⟩:=za.1 ho
      obtain ⟨x0,h0,ho⟩:=za.1 ho
      obtain ⟨x1,h1,ho⟩:=za.1 ho
      obtain ⟨x2,h2,ho⟩:=za.1 ho
      obtain ⟨x3,h3,ho⟩:=za.1 ho
      obtain ⟨x4,h4,ho⟩:=za.1 ho
      obtain ⟨x5,h5,ho⟩:=za.1 ho
      obtain ⟨x6,h6,ho⟩:=za.1 ho
      obtain ⟨x7,h7,ho⟩:=za.1 ho
      cases ho
      cases d
      · exact ih (t:=c0) h0 y hy
      · exact ih (t:=c1) h1 y hy
      · exact ih (t:=c2) h2 y hy
      · exact ih (t:=c3) h3 y hy
      · exact ih (t:=c4) h4 y hy
      · exact ih (t:=c5) h5 y hy
      · exact ih (t:=c6) h6 y hy
      · exact ih (t:=c7) h7 y hy
theorem Jt {α β:Type} {f:α→Option β} (p:List D):∀ {t:T α} {t':T β},yY f t=some t'→∀ x,T.getP p t=some x→∃ y,f x=some y:=by
  induction p with
  |
    nil =>
    intro t t' h x hx
    obtain ⟨o⟩:=t
    cases o with
    | nil=>cases hx
    |
      mk v c0 c1 c2 c3 c4 c5 c6 c7 =>
      obtain ⟨o',ho,h⟩:=za.1 h
      obtain ⟨v',hv,ho⟩:=za.1 ho
      replace hx:v=some x:=hx
      subst hx
      obtain ⟨y,hy,_⟩:=za.1 hv
      exact ⟨y,hy⟩
  |
    cons d p ih =>
    intro t t' h x hx
    rw [T.getP_cons] at hx
    obtain ⟨o⟩:=t
    cases o with
    | nil=>rw [show T.kid d (⟨.nil⟩:T α)=T.nil by cases d <;> rfl,T.getP_empty] at hx; cases hx
    |
      mk v c0 c1 c2 c3 c4 c5 c6 c7 =>
      obtain ⟨o',ho,h⟩:=za.1 h
      obtain ⟨v',hv,ho⟩:=za.1 ho
      obtain ⟨x0,h0,ho⟩:=za.1 ho
      obtain ⟨x1,h1,ho⟩:=za.1 ho
      obtain ⟨x2,h2,ho⟩:=za.1 ho
      obtain ⟨x3,h3,ho⟩:=za.1 ho
      obtain ⟨x4,h4,ho⟩:=za.1 ho
      obtain ⟨x5,h5,ho⟩:=za.1 ho
      obtain ⟨x6,h6,ho⟩:=za.1 ho
      obtain ⟨x7,h7,ho⟩:=za.1 ho
      cases d
      · exact ih (t:=c0) h0 x hx
      · exact ih (t:=c1) h1 x hx
      · exact ih (t:=c2) h2 x hx
      · exact ih (t:=c3) h3 x hx
      · exact ih (t:=c4) h4 x hx
      · exact ih (t:=c5) h5 x hx
      · exact ih (t:=c6) h6 x hx
      · exact ih (t:=c7) h7 x hx
theorem WL {α:Type} {q:α→Bool} {t:T α} (h:Option.rec (motive:=fun _=>Bool) false (fun _=>true) (yY (fun x=>zm (q x) (some x)) t)=true) {i:Nat} {x:α} (hx:t.get i=some x):q x=true:=by
  cases hm:yY (fun x=>zm (q x) (some x)) t with
  | none=>rw [hm] at h; cases h
  |
    some t' =>
    obtain ⟨y,hy⟩:=Jt _ hm x hx
    exact (zi.1 hy).1
theorem qR {α β:Type} {f:α→Option β} {t:T α} {t':T β} (h:yY f t=some t') (i:Nat) (y:β) (hy:t'.get i=some y):∃ x,t.get i=some x∧f x=some y:=
  Js _ h y hy
theorem T.getA_eq (t:T AV) (n:Nat):T.getA t n=T.get t n:=rfl
theorem T.getB_eq (t:T Blk) (n:Nat):T.getB t n=T.get t n:=rfl
theorem T.forceA_eq {β:Type} (t:T AV) (k:T AV→β):T.forceA t k=k t:=by obtain ⟨o⟩:=t; cases o <;> rfl
theorem T.forceB_eq {β:Type} (t:T Blk) (k:T Blk→β):T.forceB t k=k t:=by obtain ⟨o⟩:=t; cases o <;> rfl
theorem T.putA_eq {β:Type} (v:AV) (t:T AV) (k:T AV→β):T.putK v t k=k (T.putA v t):=by obtain ⟨o⟩:=t; cases o <;> rfl
theorem T.putB_eq {β:Type} (v:Blk) (t:T Blk) (k:T Blk→β):T.putK v t k=k (T.putB v t):=by obtain ⟨o⟩:=t; cases o <;> rfl
theorem T.subA_eq {β:Type} (d:D) (t c:T AV) (k:T AV→β):T.subK d t c k=k (T.subA d t c):=by obtain ⟨o⟩:=t; cases o <;> cases d <;> rfl
theorem T.subB_eq {β:Type} (d:D) (t c:T Blk) (k:T Blk→β):T.subK d t c k=k (T.subB d t c):=by obtain ⟨o⟩:=t; cases o <;> cases d <;> rfl
theorem T.setPA_eq {β:Type} (v:AV) (p:List D):∀ (t:T AV) (k:T AV→β),T.setPA v p t k=T.setPK v p t k:=by
  induction p with
  |
    nil =>
    intro t k
    show T.forceA (T.putA v t) k=T.putK v t k
    rw [T.forceA_eq,T.putA_eq]
  |
    cons d p ih =>
    intro t k
    show T.setPA v p (T.kidA d t) (fun c=>T.forceA (T.subA d t c) k)=T.setPK v p (T.kid d t) (fun c=>T.subK d t c k)
    have e:(fun c=>T.forceA (T.subA d t c) k)=fun c=>T.subK d t c k:=funext fun c=>by rw [T.forceA_eq,T.subA_eq]
    rw [ih,e]; rfl
theorem T.setPB_eq {β:Type} (v:Blk) (p:List D):∀ (t:T Blk) (k:T Blk→β),T.setPB v p t k=T.setPK v p t k:=by
  induction p with
  |
    nil =>
    intro t k
    show T.forceB (T.putB v t) k=T.putK v t k
    rw [T.forceB_eq,T.putB_eq]
  |
    cons d p ih =>
    intro t k
    show T.setPB v p (T.kidB d t) (fun c=>T.forceB (T.subB d t c) k)=T.setPK v p (T.kid d t) (fun c=>T.subK d t c k)
    have e:(fun c=>T.forceB (T.subB d t c) k)=fun c=>T.subK d t c k:=funext fun c=>by rw [T.forceB_eq,T.subB_eq]
    rw [ih,e]; rfl
theorem T.setA_eq {β:Type} (n:Nat) (v:AV) (t:T AV) (k:T AV→β):T.setA n v t k=k (T.set n v t):=(T.setPA_eq v (path n) t k).trans (T.setK_eq ..)
theorem T.setB_eq {β:Type} (n:Nat) (v:Blk) (t:T Blk) (k:T Blk→β):T.setB n v t k=k (T.set n v t):=(T.setPB_eq v (path n) t k).trans (T.setK_eq ..)
def zu (i:Nat) (t:T AV):List AV→T AV
  | []=>t
  | x::l=>zu (i + 1) (T.set i x t) l
theorem zZ {β:Type} (l:List AV):∀ (i:Nat) (t:T AV) (k:T AV→β),fill i t l k=k (zu i t l):=by
  induction l with
  | nil=>intros; rfl
  |
    cons x l ih =>
    intro i t k
    show force i (fun i=>T.setA i x t fun t'=>fill (Nat.succ i) t' l k)=_
    rw [zr,T.setA_eq,ih]; rfl
theorem wT (l:List AV):∀ (i j:Nat) (t:T AV),(zu i t l).get j=if i≤j∧j < i + l.length then l[j - i]? else t.get j:=by
  induction l with
  | nil=>intro i j t; simp [zu]; omega
  |
    cons x l ih =>
    intro i j t
    rw [zu,ih,T.get_set]
    by_cases h1:j=i
    · subst h1; rw [if_neg (by omega),if_pos rfl,if_pos (by simp)]; simp
    ·
      by_cases h2:i + 1≤j∧j < i + 1 + l.length
      ·
        rw [if_pos h2,if_pos (by simp; omega)]
        obtain ⟨m,rfl⟩:∃ m,j=i + 1 + m:=⟨j - (i + 1),by omega⟩
        rw [show i + 1 + m - (i + 1)=m by omega,show i + 1 + m - i=m + 1 by omega]; rfl
      · rw [if_neg h2,if_neg h1,if_neg (by simp; omega)]
theorem take_zero (t:T AV) (i:Nat):take t i 0=some []:=rfl
theorem kF (t:T AV) (i n:Nat):take t i (n + 1)=zf (t.get i) fun x=>zf (take t (i + 1) n) fun r=>some (x::r):=rfl
theorem kG (t:T AV) (n:Nat):∀ (i:Nat) (l:List AV),take t i n=some l→l.length=n∧∀ k,k < n→t.get (i + k)=l[k]?:=by
  induction n with
  | zero=>intro i l h; rw [take_zero] at h; cases h; simp
  |
    succ n ih =>
    intro i l h
    rw [kF,za] at h
    obtain ⟨x,hg,h⟩:=h
    obtain ⟨r,ht,h⟩:=za.1 h
    cases h
    obtain ⟨h1,h2⟩:=ih _ _ ht
    refine ⟨by simp [h1],fun k hk => ?_⟩
    cases k with
    | zero=>simpa using hg
    | succ k=>rw [show i + (k + 1)=i + 1 + k by omega,h2 k (by omega)]; rfl
theorem Ju (l:List Func):∀ (i j:Nat) (t:T Func),(WG l i t).get j=if i≤j∧j < i + l.length then l[j - i]? else t.get j:=by
  induction l with
  | nil=>intro i j t; show t.get j=_; simp; omega
  |
    cons x l ih =>
    intro i j t
    have e:WG (x::l) i t=WG l (i + 1) (T.set i x t):=by
      show force i (fun i=>T.setK i x t fun t'=>WG l (Nat.succ i) t')=_
      rw [zr,T.setK_eq]
    rw [e,ih,T.get_set]
    by_cases h1:j=i
    · subst h1; rw [if_neg (by omega),if_pos rfl,if_pos (by simp)]; simp
    ·
      by_cases h2:i + 1≤j∧j < i + 1 + l.length
      ·
        rw [if_pos h2,if_pos (by simp; omega)]
        obtain ⟨m,rfl⟩:∃ m,j=i + 1 + m:=⟨j - (i + 1),by omega⟩
        rw [show i + 1 + m - (i + 1)=m by omega,show i + 1 + m - i=m + 1 by omega]; rfl
      · rw [if_neg h2,if_neg h1,if_neg (by simp; omega)]
theorem Kc (C:Cx) (f:FuncId):T.get (fnT C) f=C.P.funcs[f]?:=by
  unfold fnT
  rw [Ju,T.get_nil]
  by_cases h:f < C.P.funcs.size
  · rw [if_pos ⟨Nat.zero_le _,by simpa using h⟩]; simp
  ·
    rw [if_neg (fun hh=>h (by have h2:=hh.2; rw [Nat.zero_add,Array.length_toList] at h2; exact h2))]
    exact (Array.getElem?_eq_none (Nat.le_of_not_lt h)).symm
def z_ (H:T Blk):List (Nat×Blk)→T Blk
  | []=>H
  | x::l=>z_ (T.set x.1 x.2 H) l
theorem vx {β:Type} (l:List (Nat×Blk)):∀ (H:T Blk) (k:T Blk→β),ups H l k=k (z_ H l):=by
  induction l with
  | nil=>intros; rfl
  |
    cons x l ih =>
    intro H k
    show T.setB x.1 x.2 H (fun H'=>ups H' l k)=_
    rw [T.setB_eq,ih]; rfl
end
end Go.Abs
