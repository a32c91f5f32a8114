/- A RUN BY CALLS: a context whose answers include calls that were run before, by name: arguments and result are data. (Equality of data, decided; the table of calls.) -/
import Derived.Test.YtcgnkejpcjcaoaaGreatEvFlat
import Derived.Test.YtcgnkejpcjcaoaaGreatEvFast
set_option linter.unusedSimpArgs false
set_option linter.unusedVariables false
namespace Go.Abs
noncomputable def eqB (a b:Bool) : Bool:=Bool.rec (notB b) b a
noncomputable def eqList {α:Type} (e : α → α → Bool) (a:List α) : List α → Bool:=
  List.rec (fun b => List.rec true (fun _ _ _ => false) b) (fun x _ ih b => List.rec false (fun y r _ => ifB (ih r) (e x y) false) b) a
noncomputable def eqOpt {α:Type} (e : α → α → Bool) (a b:Option α) : Bool:=Option.rec (Option.rec true (fun _ => false) b) (fun x => Option.rec false (fun y => e x y) b) a
noncomputable def noneB {α:Type} (a:Option α) : Bool:=Option.rec true (fun _ => false) a
noncomputable def eqVal (a b:Value) : Bool:=
  (@Value.rec (fun _ => Bool) (fun _ => Unit) (fun _ => Unit) (fun x => (@Value.rec (fun _ => Bool) (fun _ => Unit) (fun _ => Unit) (fun y => eqB x y) (fun _ _ => false) (fun _ _ => false) (fun _ _ _ => false) (fun _ => false) (fun _ => false) (fun _ _ _ => false) (fun _ => false) (fun _ => false) (fun _ _ _ _ _ => false) (false) (fun _ _ _ => false) (false) (fun _ _ => false) (fun _ _ => false) (fun _ _ => ()) () (fun _ _ _ _ => ()) (b))) (fun k x => (@Value.rec (fun _ => Bool) (fun _ => Unit) (fun _ => Unit) (fun _ => false) (fun k' y => ifB (eqI x y) (eqK k k') false) (fun _ _ => false) (fun _ _ _ => false) (fun _ => false) (fun _ => false) (fun _ _ _ => false) (fun _ => false) (fun _ => false) (fun _ _ _ _ _ => false) (false) (fun _ _ _ => false) (false) (fun _ _ => false) (fun _ _ => false) (fun _ _ => ()) () (fun _ _ _ _ => ()) (b))) (fun _ _ => false) (fun _ _ _ => false) (fun x => (@Value.rec (fun _ => Bool) (fun _ => Unit) (fun _ => Unit) (fun _ => false) (fun _ _ => false) (fun _ _ => false) (fun _ _ _ => false) (fun y => eqBytes x.data.toList y.data.toList) (fun _ => false) (fun _ _ _ => false) (fun _ => false) (fun _ => false) (fun _ _ _ _ _ => false) (false) (fun _ _ _ => false) (false) (fun _ _ => false) (fun _ _ => false) (fun _ _ => ()) () (fun _ _ _ _ => ()) (b))) (fun x => (@Value.rec (fun _ => Bool) (fun _ => Unit) (fun _ => Unit) (fun _ => false) (fun _ _ => false) (fun _ _ => false) (fun _ _ _ => false) (fun _ => false) (fun y => andB (noneB x) (noneB y)) (fun _ _ _ => false) (fun _ => false) (fun _ => false) (fun _ _ _ _ _ => false) (false) (fun _ _ _ => false) (false) (fun _ _ => false) (fun _ _ => false) (fun _ _ => ()) () (fun _ _ _ _ => ()) (b))) (fun x m n => (@Value.rec (fun _ => Bool) (fun _ => Unit) (fun _ => Unit) (fun _ => false) (fun _ _ => false) (fun _ _ => false) (fun _ _ _ => false) (fun _ => false) (fun _ => false) (fun y m' n' => andB (andB (noneB x) (noneB y)) (andB (Nat.beq m m') (Nat.beq n n'))) (fun _ => false) (fun _ => false) (fun _ _ _ _ _ => false) (false) (fun _ _ _ => false) (false) (fun _ _ => false) (fun _ _ => false) (fun _ _ => ()) () (fun _ _ _ _ => ()) (b))) (fun x => (@Value.rec (fun _ => Bool) (fun _ => Unit) (fun _ => Unit) (fun _ => false) (fun _ _ => false) (fun _ _ => false) (fun _ _ _ => false) (fun _ => false) (fun _ => false) (fun _ _ _ => false) (fun y => andB (noneB x) (noneB y)) (fun _ => false) (fun _ _ _ _ _ => false) (false) (fun _ _ _ => false) (false) (fun _ _ => false) (fun _ _ => false) (fun _ _ => ()) () (fun _ _ _ _ => ()) (b))) (fun _ => false) (fun _ _ _ _ _ => false) ((@Value.rec (fun _ => Bool) (fun _ => Unit) (fun _ => Unit) (fun _ => false) (fun _ _ => false) (fun _ _ => false) (fun _ _ _ => false) (fun _ => false) (fun _ => false) (fun _ _ _ => false) (fun _ => false) (fun _ => false) (fun _ _ _ _ _ => false) (true) (fun _ _ _ => false) (false) (fun _ _ => false) (fun _ _ => false) (fun _ _ => ()) () (fun _ _ _ _ => ()) (b))) (fun _ _ _ => false) ((@Value.rec (fun _ => Bool) (fun _ => Unit) (fun _ => Unit) (fun _ => false) (fun _ _ => false) (fun _ _ => false) (fun _ _ _ => false) (fun _ => false) (fun _ => false) (fun _ _ _ => false) (fun _ => false) (fun _ => false) (fun _ _ _ _ _ => false) (false) (fun _ _ _ => false) (true) (fun _ _ => false) (fun _ _ => false) (fun _ _ => ()) () (fun _ _ _ _ => ()) (b))) (fun _ _ => false) (fun _ _ => false) (fun _ _ => ()) () (fun _ _ _ _ => ()) (a))
noncomputable def eqO9 (e:AV → AV → Bool) (k:T AV → T AV → Bool) (a b:O9 (Option AV) (T AV)) : Bool:=
  O9.rec (O9.rec true (fun _ _ _ _ _ _ _ _ _ => false) b)
    (fun v c0 c1 c2 c3 c4 c5 c6 c7 => O9.rec false (fun w d0 d1 d2 d3 d4 d5 d6 d7 =>
      ifB (eqOpt e v w) (ifB (k c0 d0) (ifB (k c1 d1) (ifB (k c2 d2) (ifB (k c3 d3) (ifB (k c4 d4) (ifB (k c5 d5) (ifB (k c6 d6) (k c7 d7) false) false) false) false) false) false) false) false) b) a
noncomputable def eqT (e:AV → AV → Bool) (d:Nat) : T AV → T AV → Bool:=Nat.rec (fun _ _ => false) (fun _ ih a b => eqO9 e ih (T.o a) (T.o b)) d
noncomputable def eqF (a b:Fn) : Bool:=(@Fn.rec (fun _ => Bool) (fun x => (@Fn.rec (fun _ => Bool) (fun y => Nat.beq x y) (fun _ => false) (fun _ _ => false) (fun _ _ _ _ => false) (fun _ => false) (b))) (fun _ => false) (fun _ _ => false) (fun _ _ _ _ => false) (fun _ => false) (a))
noncomputable def eqA (d:Nat) : AV → AV → Bool:=Nat.rec (fun _ _ => false) (fun _ ih a b =>
  (@AV.rec (fun _ => Bool) (fun _ => Unit) (fun _ => Unit) (fun _ => Unit) (fun _ => Unit) (fun _ => Unit) (fun _ => Unit) (fun x => (@AV.rec (fun _ => Bool) (fun _ => Unit) (fun _ => Unit) (fun _ => Unit) (fun _ => Unit) (fun _ => Unit) (fun _ => Unit) (fun y => eqVal x y) (fun _ _ => false) (fun _ _ _ => false) (fun _ _ _ _ _ _ => false) (fun _ _ _ _ _ _ _ => false) (fun _ _ _ _ _ => false) (fun _ _ => false) (fun _ _ => false) (fun _ => false) (fun _ _ => false) (fun _ _ => ()) () (fun _ _ _ _ => ()) () (fun _ _ _ _ => ()) () (fun _ _ _ _ _ _ _ _ _ _ _ _ _ _ _ _ _ _ => ()) (fun _ _ _ _ => ()) () (fun _ _ => ()) (b))) (fun _ _ => false) (fun t o _ => (@AV.rec (fun _ => Bool) (fun _ => Unit) (fun _ => Unit) (fun _ => Unit) (fun _ => Unit) (fun _ => Unit) (fun _ => Unit) (fun _ => false) (fun _ _ => false) (fun t' o' _ => ifB (Nat.beq o o') (eqT ih 12 t t') false) (fun _ _ _ _ _ _ => false) (fun _ _ _ _ _ _ _ => false) (fun _ _ _ _ _ => false) (fun _ _ => false) (fun _ _ => false) (fun _ => false) (fun _ _ => false) (fun _ _ => ()) () (fun _ _ _ _ => ()) () (fun _ _ _ _ => ()) () (fun _ _ _ _ _ _ _ _ _ _ _ _ _ _ _ _ _ _ => ()) (fun _ _ _ _ => ()) () (fun _ _ => ()) (b))) (fun _ _ _ _ _ _ => false) (fun t o l s c x _ => (@AV.rec (fun _ => Bool) (fun _ => Unit) (fun _ => Unit) (fun _ => Unit) (fun _ => Unit) (fun _ => Unit) (fun _ => Unit) (fun _ => false) (fun _ _ => false) (fun _ _ _ => false) (fun _ _ _ _ _ _ => false) (fun t' o' l' s' c' x' _ => ifB (andB (Nat.beq o o') (andB (Nat.beq l l') (andB (Nat.beq s s') (andB (Nat.beq c c') (eqB x x'))))) (eqT ih 12 t t') false) (fun _ _ _ _ _ => false) (fun _ _ => false) (fun _ _ => false) (fun _ => false) (fun _ _ => false) (fun _ _ => ()) () (fun _ _ _ _ => ()) () (fun _ _ _ _ => ()) () (fun _ _ _ _ _ _ _ _ _ _ _ _ _ _ _ _ _ _ => ()) (fun _ _ _ _ => ()) () (fun _ _ => ()) (b))) (fun f x y _ _ => (@AV.rec (fun _ => Bool) (fun _ => Unit) (fun _ => Unit) (fun _ => Unit) (fun _ => Unit) (fun _ => Unit) (fun _ => Unit) (fun _ => false) (fun _ _ => false) (fun _ _ _ => false) (fun _ _ _ _ _ _ => false) (fun _ _ _ _ _ _ _ => false) (fun f' x' y' _ _ => ifB (eqF f f') (ifB (eqList ih x x') (eqList ih y y') false) false) (fun _ _ => false) (fun _ _ => false) (fun _ => false) (fun _ _ => false) (fun _ _ => ()) () (fun _ _ _ _ => ()) () (fun _ _ _ _ => ()) () (fun _ _ _ _ _ _ _ _ _ _ _ _ _ _ _ _ _ _ => ()) (fun _ _ _ _ => ()) () (fun _ _ => ()) (b))) (fun l _ => (@AV.rec (fun _ => Bool) (fun _ => Unit) (fun _ => Unit) (fun _ => Unit) (fun _ => Unit) (fun _ => Unit) (fun _ => Unit) (fun _ => false) (fun _ _ => false) (fun _ _ _ => false) (fun _ _ _ _ _ _ => false) (fun _ _ _ _ _ _ _ => false) (fun _ _ _ _ _ => false) (fun l' _ => eqList ih l l') (fun _ _ => false) (fun _ => false) (fun _ _ => false) (fun _ _ => ()) () (fun _ _ _ _ => ()) () (fun _ _ _ _ => ()) () (fun _ _ _ _ _ _ _ _ _ _ _ _ _ _ _ _ _ _ => ()) (fun _ _ _ _ => ()) () (fun _ _ => ()) (b))) (fun l _ => (@AV.rec (fun _ => Bool) (fun _ => Unit) (fun _ => Unit) (fun _ => Unit) (fun _ => Unit) (fun _ => Unit) (fun _ => Unit) (fun _ => false) (fun _ _ => false) (fun _ _ _ => false) (fun _ _ _ _ _ _ => false) (fun _ _ _ _ _ _ _ => false) (fun _ _ _ _ _ => false) (fun _ _ => false) (fun l' _ => eqList ih l l') (fun _ => false) (fun _ _ => false) (fun _ _ => ()) () (fun _ _ _ _ => ()) () (fun _ _ _ _ => ()) () (fun _ _ _ _ _ _ _ _ _ _ _ _ _ _ _ _ _ _ => ()) (fun _ _ _ _ => ()) () (fun _ _ => ()) (b))) (fun _ => false) (fun l _ => (@AV.rec (fun _ => Bool) (fun _ => Unit) (fun _ => Unit) (fun _ => Unit) (fun _ => Unit) (fun _ => Unit) (fun _ => Unit) (fun _ => false) (fun _ _ => false) (fun _ _ _ => false) (fun _ _ _ _ _ _ => false) (fun _ _ _ _ _ _ _ => false) (fun _ _ _ _ _ => false) (fun _ _ => false) (fun _ _ => false) (fun _ => false) (fun l' _ => eqList (fun p q => ifB (ih p.1 q.1) (ih p.2 q.2) false) l l') (fun _ _ => ()) () (fun _ _ _ _ => ()) () (fun _ _ _ _ => ()) () (fun _ _ _ _ _ _ _ _ _ _ _ _ _ _ _ _ _ _ => ()) (fun _ _ _ _ => ()) () (fun _ _ => ()) (b))) (fun _ _ => ()) () (fun _ _ _ _ => ()) () (fun _ _ _ _ => ()) () (fun _ _ _ _ _ _ _ _ _ _ _ _ _ _ _ _ _ _ => ()) (fun _ _ _ _ => ()) () (fun _ _ => ()) (a))) d
theorem ifB_and {a b:Bool} : ifB a b false = true ↔ a = true ∧ b = true:=by cases a <;> simp [ifB_true,ifB_false]
theorem eqB_t {a b:Bool} (h:eqB a b = true) : a = b:=by cases a <;> cases b <;> first | rfl | cases h
theorem noneB_t {α:Type} {a:Option α} (h:noneB a = true) : a = none:=by cases a <;> first | rfl | cases h
theorem eqList_t {α:Type} {e : α → α → Bool} (he : ∀ x y,e x y = true → x = y) : ∀ (a b:List α),eqList e a b = true → a = b
  | [],[],_ => rfl
  | [],_::_,h => by cases h
  | _::_,[],h => by cases h
  | x::a,y::b,h => by
    obtain ⟨h1,h2⟩:=ifB_and.1 (show ifB (eqList e a b) (e x y) false = true from h)
    rw [he x y h2,eqList_t he a b h1]
theorem eqOpt_t {α:Type} {e : α → α → Bool} (he : ∀ x y,e x y = true → x = y) {a b:Option α} (h:eqOpt e a b = true) : a = b:=by
  cases a <;> cases b
  · rfl
  · cases h
  · cases h
  · rw [he _ _ (show e _ _ = true from h)]
theorem eqVal_t {a b:Value} (h:eqVal a b = true) : a = b:=by
  cases a with
  | bool x => cases b <;> first | (rw [eqB_t (show eqB _ _ = true from h)]) | cases h
  | int k x =>
    cases b with
    | int k' y =>
      obtain ⟨h1,h2⟩:=ifB_and.1 (show ifB (eqI x y) (eqK k k') false = true from h)
      rw [eqI_eq] at h1
      rw [eqK_true h2,eq_of_beq h1]
    | _ => cases h
  | string x =>
    cases b <;> first | (rename_i y; have h1:=(eqBytes_eq _ _).symm.trans (show eqBytes x.data.toList y.data.toList = true from h); exact congrArg Value.string (ByteArray.ext (Array.toList_inj.1 (beq_iff_eq.1 h1)))) | cases h
  | pointer x => cases b <;> first | (obtain ⟨h1,h2⟩:=andB_true.1 (show andB (noneB _) (noneB _) = true from h); rw [noneB_t h1,noneB_t h2]) | cases h
  | slice x m n =>
    cases b <;> first | (obtain ⟨h1,h2⟩:=andB_true.1 (show andB (andB (noneB _) (noneB _)) (andB (Nat.beq _ _) (Nat.beq _ _)) = true from h); obtain ⟨h3,h4⟩:=andB_true.1 h1; obtain ⟨h5,h6⟩:=andB_true.1 h2; rw [noneB_t h3,noneB_t h4,Abs.beq_true.1 h5,Abs.beq_true.1 h6]) | cases h
  | map x => cases b <;> first | (obtain ⟨h1,h2⟩:=andB_true.1 (show andB (noneB _) (noneB _) = true from h); rw [noneB_t h1,noneB_t h2]) | cases h
  | nilFunc => cases b <;> first | rfl | cases h
  | nilIface => cases b <;> first | rfl | cases h
  | float => cases h
  | complex => cases h
  | chan => cases h
  | func => cases h
  | iface => cases h
  | agg => cases h
  | tuple => cases h
theorem eqO9_t {e:AV → AV → Bool} {k:T AV → T AV → Bool} (he : ∀ x y,e x y = true → x = y) (hk : ∀ x y,k x y = true → x = y) {a b:O9 (Option AV) (T AV)} (h:eqO9 e k a b = true) : a = b:=by
  cases a with
  | nil => cases b <;> first | rfl | cases h
  | mk v c0 c1 c2 c3 c4 c5 c6 c7 =>
    cases b with
    | nil => cases h
    | mk w d0 d1 d2 d3 d4 d5 d6 d7 =>
      obtain ⟨g,h⟩:=ifB_and.1 (show ifB (eqOpt e v w) _ false = true from h)
      obtain ⟨g0,h⟩:=ifB_and.1 h
      obtain ⟨g1,h⟩:=ifB_and.1 h
      obtain ⟨g2,h⟩:=ifB_and.1 h
      obtain ⟨g3,h⟩:=ifB_and.1 h
      obtain ⟨g4,h⟩:=ifB_and.1 h
      obtain ⟨g5,h⟩:=ifB_and.1 h
      obtain ⟨g6,g7⟩:=ifB_and.1 h
      rw [eqOpt_t he g,hk _ _ g0,hk _ _ g1,hk _ _ g2,hk _ _ g3,hk _ _ g4,hk _ _ g5,hk _ _ g6,hk _ _ g7]
theorem eqT_t {e:AV → AV → Bool} (he : ∀ x y,e x y = true → x = y) : ∀ (d:Nat) (a b:T AV),eqT e d a b = true → a = b
  | 0,_,_,h => by cases h
  | d + 1,⟨a⟩,⟨b⟩,h => congrArg T.mk (eqO9_t he (eqT_t he d) (show eqO9 e (eqT e d) a b = true from h))
theorem eqF_t {a b:Fn} (h:eqF a b = true) : a = b:=by
  cases a <;> cases b <;> first | (rw [Abs.beq_true.1 (show Nat.beq _ _ = true from h)]) | cases h
theorem eqA_t : ∀ (d:Nat) (a b:AV),eqA d a b = true → a = b
  | 0,_,_,h => by cases h
  | d + 1,a,b,h => by
    have ih:=eqA_t d
    cases a with
    | v x => cases b <;> first | (rw [eqVal_t (show eqVal _ _ = true from h)]) | cases h
    | vp t o =>
      cases b <;> first | (obtain ⟨h1,h2⟩:=ifB_and.1 (show ifB (Nat.beq _ _) (eqT (eqA d) 12 _ _) false = true from h); rw [Abs.beq_true.1 h1,eqT_t ih _ _ _ h2]) | cases h
    | vs t o l s c x =>
      cases b <;> first | (obtain ⟨h1,h2⟩:=ifB_and.1 (show ifB (andB (Nat.beq _ _) (andB (Nat.beq _ _) (andB (Nat.beq _ _) (andB (Nat.beq _ _) (eqB _ _))))) (eqT (eqA d) 12 _ _) false = true from h)
                           obtain ⟨g1,h1⟩:=andB_true.1 h1; obtain ⟨g2,h1⟩:=andB_true.1 h1; obtain ⟨g3,h1⟩:=andB_true.1 h1; obtain ⟨g4,g5⟩:=andB_true.1 h1
                           rw [Abs.beq_true.1 g1,Abs.beq_true.1 g2,Abs.beq_true.1 g3,Abs.beq_true.1 g4,eqB_t g5,eqT_t ih _ _ _ h2]) | cases h
    | fn f x y =>
      cases b <;> first | (obtain ⟨h1,h2⟩:=ifB_and.1 (show ifB (eqF _ _) (ifB (eqList (eqA d) _ _) (eqList (eqA d) _ _) false) false = true from h); obtain ⟨h3,h4⟩:=ifB_and.1 h2
                           rw [eqF_t h1,eqList_t ih _ _ h3,eqList_t ih _ _ h4]) | cases h
    | agg l => cases b <;> first | (rw [eqList_t ih _ _ (show eqList (eqA d) _ _ = true from h)]) | cases h
    | tuple l => cases b <;> first | (rw [eqList_t ih _ _ (show eqList (eqA d) _ _ = true from h)]) | cases h
    | vm l =>
      cases b with
      | vm l' =>
        have h1 : eqList (fun p q:AV × AV => ifB (eqA d p.1 q.1) (eqA d p.2 q.2) false) l l' = true:=h
        rw [eqList_t (fun p q hpq => by obtain ⟨g1,g2⟩:=ifB_and.1 hpq; exact Prod.ext (ih _ _ g1) (ih _ _ g2)) _ _ h1]
      | _ => cases h
    | hp => cases h
    | hs => cases h
    | hm => cases h
noncomputable def numI (x:Int) : Nat:=Int.rec (fun n => n) (fun n => Nat.add n 103) x
noncomputable def mixN (a b:Nat) : Nat:=Nat.mod (Nat.add (Nat.mul a 31) b) 99991
noncomputable def mixL (e:AV → Nat) (l:List AV) : Nat:=List.rec 7 (fun x _ ih => mixN ih (e x)) l
noncomputable def keyA (d:Nat) : AV → Nat:=Nat.rec (fun _ => 1) (fun _ ih x =>
  (@AV.rec (fun _ => Nat) (fun _ => Unit) (fun _ => Unit) (fun _ => Unit) (fun _ => Unit) (fun _ => Unit) (fun _ => Unit) (fun x => (@Value.rec (fun _ => Nat) (fun _ => Unit) (fun _ => Unit) (fun b => Bool.rec 2 3 b) (fun _ n => numI n) (fun _ _ => 5) (fun _ _ _ => 5) (fun _ => 5) (fun _ => 5) (fun _ _ _ => 5) (fun _ => 5) (fun _ => 5) (fun _ _ _ _ _ => 5) (5) (fun _ _ _ => 5) (5) (fun _ _ => 5) (fun _ _ => 5) (fun _ _ => ()) () (fun _ _ _ _ => ()) (x))) (fun _ _ => 19) (fun t o _ => 11) (fun _ _ _ _ _ _ => 19) (fun t o l s c x _ => mixN l (Nat.rec 13 (fun n _ => mixN (Option.rec 17 ih (T.getA t o)) (Option.rec 17 ih (T.getA t (Nat.add o (Nat.mul n s))))) l)) (fun _ _ _ _ _ => 19) (fun l _ => mixL ih l) (fun l _ => mixL ih l) (fun _ => 19) (fun _ _ => 19) (fun _ _ => ()) () (fun _ _ _ _ => ()) () (fun _ _ _ _ => ()) () (fun _ _ _ _ _ _ _ _ _ _ _ _ _ _ _ _ _ _ => ()) (fun _ _ _ _ => ()) () (fun _ _ => ()) (x))) d
noncomputable def keyL (l:List AV) : Nat:=mixL (keyA 4) l
abbrev Ent:=Nat × Nat × List AV × AV
def entF (e:Ent) : Nat:=e.1
def entL (e:Ent) : List AV:=e.2.2.1
def entV (e:Ent) : AV:=e.2.2.2
noncomputable def memoK (L:List Ent) (f k:Nat) (l:List AV) : Option AV:=
  List.rec none (fun e _ ih => ifB (Nat.beq e.2.1 k) (ifB (Nat.beq e.1 f) (ifB (eqList (eqA 40) e.2.2.1 l) (some e.2.2.2) ih) ih) ih) L
def Val (C:Cx) (f:FuncId) (l:List AV) (v:AV) : Prop:=∀ (X:Nat → Prop) (j:J) (w:World) (args:Array Value),(∀ B,X B → B < w.heap.size) → RelL X j w l args →
  Answers C.P f args w fun rv w' => Still w w' ∧ w.heap.size ≤ w'.heap.size ∧ (∀ B,B < w.heap.size → w'.heap[B]? = w.heap[B]?) ∧ Rel X j w' v rv
def AllVal (C:Cx) (L:List Ent) : Prop:=∀ e ∈ L,Val C e.1 e.2.2.1 e.2.2.2
def AllVals (C:Cx) (G:List (Nat × List Ent)) : Prop:=∀ g ∈ G,AllVal C g.2
noncomputable def memoG (G:List (Nat × List Ent)) (f k h:Nat) (l:List AV) : Option AV:=
  List.rec none (fun g _ ih => ifB (Nat.beq (Nat.mod (Nat.shiftRight g.1 h) 2) 1) (elimO (memoK g.2 f k l) ih some) ih) G
noncomputable def memoC (C:Cx) (fs:List Nat) (G:List (Nat × List Ent)) (L:List Ent) : Cx:=
  { P:=C.P,ext:=fun f l => elimO (C.ext f l) (ifB (memN f fs) (force (keyL l) fun k => elimO (memoK L f k l) (force (Nat.mod k 1024) fun h => memoG G f k h l) some) none) some,nf:=C.nf,hb:=C.hb,ro:=C.ro,bor:=C.bor }
theorem memoK_val {C:Cx} {f k:Nat} {l:List AV} {v:AV} : ∀ {L:List Ent},AllVal C L → memoK L f k l = some v → Val C f l v
  | [],_,h => by cases h
  | e::L,hL,h => by
    replace h : ifB (Nat.beq e.2.1 k) (ifB (Nat.beq e.1 f) (ifB (eqList (eqA 40) e.2.2.1 l) (some e.2.2.2) (memoK L f k l)) (memoK L f k l)) (memoK L f k l) = some v:=h
    have tl : memoK L f k l = some v → Val C f l v:=memoK_val (fun e he => hL e (List.mem_cons_of_mem _ he))
    cases h0 : Nat.beq e.2.1 k with
    | false => rw [h0,ifB_false] at h; exact tl h
    | true =>
      rw [h0,ifB_true] at h
      cases h1 : Nat.beq e.1 f with
      | false => rw [h1,ifB_false] at h; exact tl h
      | true =>
        rw [h1,ifB_true] at h
        cases h2 : eqList (eqA 40) e.2.2.1 l with
        | false => rw [h2,ifB_false] at h; exact tl h
        | true =>
          rw [h2,ifB_true] at h; cases h
          have:=hL e (List.mem_cons_self ..)
          rw [Abs.beq_true.1 h1,eqList_t (eqA_t 40) _ _ h2] at this; exact this
theorem memoG_val {C:Cx} {f k h:Nat} {l:List AV} {v:AV} : ∀ {G:List (Nat × List Ent)},AllVals C G → memoG G f k h l = some v → Val C f l v
  | [],_,e => by cases e
  | g::G,hG,e => by
    replace e : ifB (Nat.beq (Nat.mod (Nat.shiftRight g.1 h) 2) 1) (elimO (memoK g.2 f k l) (memoG G f k h l) some) (memoG G f k h l) = some v:=e
    have tl : memoG G f k h l = some v → Val C f l v:=memoG_val (fun g hg => hG g (List.mem_cons_of_mem _ hg))
    cases h0 : Nat.beq (Nat.mod (Nat.shiftRight g.1 h) 2) 1 with
    | false => rw [h0,ifB_false] at e; exact tl e
    | true =>
      rw [h0,ifB_true] at e
      cases h1 : memoK g.2 f k l with
      | none => rw [h1,elimO_none] at e; exact tl e
      | some u => rw [h1,elimO_some] at e; cases e; exact memoK_val (hG g (List.mem_cons_self ..)) h1
theorem memo_ext {C:Cx} (fs:List Nat) (h:ExtOk C) {G:List (Nat × List Ent)} {L:List Ent} (hG:AllVals C G) (hL:AllVal C L) : ExtOk (memoC C fs G L):=by
  intro f l v hx
  replace hx : elimO (C.ext f l) (ifB (memN f fs) (force (keyL l) fun k => elimO (memoK L f k l) (force (Nat.mod k 1024) fun h => memoG G f k h l) some) none) some = some v:=hx
  cases hc : C.ext f l with
  | some u => rw [hc,elimO_some] at hx; cases hx; exact h f l v hc
  | none =>
    rw [hc,elimO_none] at hx
    cases hm : memN f fs with
    | false => rw [hm,ifB_false] at hx; cases hx
    | true =>
      rw [hm,ifB_true,force_eq,force_eq] at hx
      cases h1 : memoK L f (keyL l) l with
      | some u => rw [h1,elimO_some] at hx; cases hx; exact memoK_val hL h1
      | none => rw [h1,elimO_none] at hx; exact memoG_val hG hx
noncomputable def eqCR (r:CR) (v:AV) : Bool:=(@CR.rec (fun _ => Bool) (fun x rd => eqA 40 x v) (fun _ _ _ _ => false) (fun _ _ _ => false) (fun _ => false) (r))
noncomputable def chk (C:Cx) (fs:List Nat) (G:List (Nat × List Ent)) (es:List Ent) : List Ent → Bool:=
  List.rec (fun _ => true) (fun e _ ih L => ifB (eqCR (Fast.call (memoC C fs G L) 3000 e.1 e.2.2.1) e.2.2.2) (ifB (allB (flat 4) e.2.2.1) (ifB (flat 4 e.2.2.2) (ih (e::L)) false) false) false) es
theorem eqCR_t {r:CR} {v:AV} (h:eqCR r v = true) : ∃ rd,r = .value v rd:=by
  cases r with
  | value x rd => exact ⟨rd,by rw [eqA_t 40 x v h]⟩
  | _ => cases h
theorem chk_val {C:Cx} {fs:List Nat} {G:List (Nat × List Ent)} (hm:C.P.follows .mixedOrders = true) (h:ExtOk C) (hG:AllVals C G) : ∀ (es L:List Ent),AllVal C L → chk C fs G es L = true → AllVal C es
  | [],_,_,_ => fun e he => by cases he
  | e::es,L,hL,hc => by
    obtain ⟨h1,hc⟩:=ifB_and.1 (show ifB (eqCR (Fast.call (memoC C fs G L) 3000 e.1 e.2.2.1) e.2.2.2) (ifB (allB (flat 4) e.2.2.1) (ifB (flat 4 e.2.2.2) (chk C fs G es (e::L)) false) false) false = true from hc)
    obtain ⟨h2,hc⟩:=ifB_and.1 hc
    obtain ⟨h3,hc⟩:=ifB_and.1 hc
    obtain ⟨rd,h4⟩:=eqCR_t h1
    have hv : Val C e.1 e.2.2.1 e.2.2.2:=fun X j w args hX hr => call_soundX (C:=memoC C fs G L) hm (memo_ext fs h hG hL) (by rw [← Fast.call_e]; exact h4) h2 h3 hX hr
    intro e' he'
    rcases List.mem_cons.1 he' with rfl | he'
    · exact hv
    · exact chk_val hm h hG es (e::L) (fun x hx => (List.mem_cons.1 hx).elim (fun h => by rw [h]; exact hv) (fun h => hL x h)) hc e' he'
theorem chk_ok {C:Cx} {fs:List Nat} {G:List (Nat × List Ent)} (hm:C.P.follows .mixedOrders = true) (h:ExtOk C) (hG:AllVals C G) (m:Nat) (es:List Ent) (hc:chk C fs G es [] = true) : AllVals C ((m,es)::G):=by
  intro g hg
  rcases List.mem_cons.1 hg with rfl | hg
  · exact chk_val hm h hG es [] (fun e he => by cases he) hc
  · exact hG g hg
theorem vals_nil {C:Cx} : AllVals C []:=fun g hg => by cases hg
end Go.Abs
