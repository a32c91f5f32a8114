/- THE EVALUATOR ONCE MORE, the program's types looked up in a tree: each definition is proved to be the evaluator's own. Printed by a program (mk_fast.py). -/
import Derived.Test.YtcgnkejpcjcaoaaGreatEvNum
set_option linter.unusedSimpArgs false
set_option linter.unusedVariables false
namespace Go.Abs.Fast
noncomputable def fillI (l:List TypeInfo) : Nat → T TypeInfo → T TypeInfo:=List.rec (fun _ t => t) (fun x _ ih i t => force i fun i => T.setK i x t fun t' => ih (Nat.succ i) t') l
noncomputable def tyT (C:Cx) : T TypeInfo:=fillI C.P.types.toList 0 T.nil
noncomputable def infoT (C:Cx) (t:TypeId) : Option TypeInfo:=elimO (T.get (tyT C) t) (C.P.info? t) some
noncomputable def und (C:Cx) (t:TypeId) : Option TypeDesc:=match infoT C t with
  | some { desc:=.named _ u,.. } => (infoT C u).map (·.desc)
  | some i => some i.desc
  | none => none
noncomputable def cellsN (C:Cx) (t:TypeId) : Nat:=((infoT C t).map (·.size)).getD 0
noncomputable def bytesN (C:Cx) (t:TypeId) : Nat:=((infoT C t).map (·.bytes)).getD 0
theorem get_fillI (l:List TypeInfo) : ∀ (i j:Nat) (t:T TypeInfo),(fillI l i t).get j = if i ≤ j ∧ j < i + l.length then l[j - i]? else t.get j:=by
  induction l with
  | nil => intro i j t; show t.get j = _; simp; omega
  | cons x l ih =>
    intro i j t
    have e : fillI (x::l) i t = fillI l (i + 1) (T.set i x t):=by
      show force i (fun i => T.setK i x t fun t' => fillI l (Nat.succ i) t') = _
      rw [force_eq,T.setK_eq]
    rw [e,ih,T.get_set]
    by_cases h1 : j = i
    · subst h1; rw [if_neg (by omega),if_pos rfl,if_pos (by simp)]; simp
    · by_cases h2 : i + 1 ≤ j ∧ j < i + 1 + l.length
      · rw [if_pos h2,if_pos (by simp; omega)]
        obtain ⟨m,rfl⟩ : ∃ m,j = i + 1 + m:=⟨j - (i + 1),by omega⟩
        rw [show i + 1 + m - (i + 1) = m by omega,show i + 1 + m - i = m + 1 by omega]; rfl
      · rw [if_neg h2,if_neg h1,if_neg (by simp; omega)]
theorem infoT_eq (C:Cx) (t:TypeId) : infoT C t = C.P.info? t:=by
  unfold infoT tyT
  rw [get_fillI,T.get_nil]
  by_cases h : 0 ≤ t ∧ t < 0 + C.P.types.toList.length
  · rw [if_pos h]
    have h2:=h.2
    rw [Nat.zero_add,Array.length_toList] at h2
    have e : C.P.types.toList[t - 0]? = some C.P.types[t]:=by rw [Nat.sub_zero,Array.getElem?_toList]; exact Array.getElem?_eq_getElem h2
    rw [e,elimO_some]
    have e2 : C.P.info? t = C.P.types[t]?:=if_pos h2
    rw [e2]; exact (Array.getElem?_eq_getElem h2).symm
  · rw [if_neg h]; rfl
theorem und_eq (C:Cx) (t:TypeId) : und C t = C.P.underlying t:=by
  unfold und Program.underlying
  simp only [infoT_eq]
  cases C.P.info? t with
  | none => rfl
  | some i => obtain ⟨desc,_,_,_,_,_,_,_,_,_⟩:=i; cases desc <;> rfl
theorem cellsN_eq (C:Cx) (t:TypeId) : cellsN C t = C.P.cellsOf t:=by unfold cellsN Program.cellsOf; rw [infoT_eq]
theorem bytesN_eq (C:Cx) (t:TypeId) : bytesN C t = C.P.bytesOf t:=by unfold bytesN Program.bytesOf; rw [infoT_eq]
def str : Nat → List AV → List AV
  | _,[] => []
  | 0,x::r => x::str 7 r
  | k + 1,_::r => str k r
noncomputable def deal {β:Type} (r:List AV) (k:List AV → List AV → List AV → List AV → List AV → List AV → List AV → List AV → β) : β:=
  List.rec (motive:=fun _ => (List AV → List AV → List AV → List AV → List AV → List AV → List AV → List AV → β) → β) (fun k => k [] [] [] [] [] [] [] [])
    (fun x _ ih k => ih fun a0 a1 a2 a3 a4 a5 a6 a7 => k (x::a7) a0 a1 a2 a3 a4 a5 a6) r k
theorem deal_eq {β:Type} (r:List AV) : ∀ k : List AV → List AV → List AV → List AV → List AV → List AV → List AV → List AV → β,deal r k = k (str 0 r) (str 1 r) (str 2 r) (str 3 r) (str 4 r) (str 5 r) (str 6 r) (str 7 r):=by
  induction r with
  | nil => intro k; rfl
  | cons x r ih => intro k; show deal r (fun a0 a1 a2 a3 a4 a5 a6 a7 => k (x::a7) a0 a1 a2 a3 a4 a5 a6) = _; rw [ih]; rfl
noncomputable def bld (f:Nat) : List AV → T AV:=
  Nat.rec (fun _ => T.nil) (fun _ ih l => List.rec T.nil (fun x r _ => deal r fun a0 a1 a2 a3 a4 a5 a6 a7 => ⟨.mk (some x) (ih a0) (ih a1) (ih a2) (ih a3) (ih a4) (ih a5) (ih a6) (ih a7)⟩) l) f
theorem bld_nil (f:Nat) : bld f [] = T.nil:=by cases f <;> rfl
theorem bld_cons (f:Nat) (x:AV) (r:List AV) : bld (f + 1) (x::r) = ⟨.mk (some x) (bld f (str 0 r)) (bld f (str 1 r)) (bld f (str 2 r)) (bld f (str 3 r)) (bld f (str 4 r)) (bld f (str 5 r)) (bld f (str 6 r)) (bld f (str 7 r))⟩:=by
  show deal r (fun a0 a1 a2 a3 a4 a5 a6 a7 => (⟨.mk (some x) (bld f a0) (bld f a1) (bld f a2) (bld f a3) (bld f a4) (bld f a5) (bld f a6) (bld f a7)⟩ : T AV)) = _
  rw [deal_eq]
theorem str_len (r:List AV) : ∀ k,k < 8 → (str k r).length = (r.length + 7 - k) / 8:=by
  induction r with
  | nil => intro k hk; cases k <;> simp [str] <;> omega
  | cons x r ih =>
    intro k hk
    cases k with
    | zero => show (str 7 r).length + 1 = _; rw [ih 7 (by omega)]; simp only [List.length_cons]; omega
    | succ k => show (str k r).length = _; rw [ih k (by omega)]; simp only [List.length_cons]; omega
theorem str_app (x:AV) (r:List AV) : ∀ k,k < 8 → str k (r ++ [x]) = if k = r.length % 8 then str k r ++ [x] else str k r:=by
  induction r with
  | nil => intro k hk; cases k <;> simp [str]
  | cons y r ih =>
    intro k hk
    cases k with
    | zero =>
      show y::str 7 (r ++ [x]) = _
      rw [ih 7 (by omega)]
      by_cases h : 7 = r.length % 8
      · rw [if_pos h,if_pos (by simp only [List.length_cons]; omega)]; rfl
      · rw [if_neg h,if_neg (by simp only [List.length_cons]; omega)]; rfl
    | succ k =>
      show str k (r ++ [x]) = _
      rw [ih k (by omega)]
      by_cases h : k = r.length % 8
      · rw [if_pos h,if_pos (by simp only [List.length_cons]; omega)]; rfl
      · rw [if_neg h,if_neg (by simp only [List.length_cons]; omega)]; rfl
theorem pathF_fuel (f:Nat) : ∀ g n,n < f → n < g → pathF f n = pathF g n:=by
  induction f with
  | zero => intro g n h; omega
  | succ f ih =>
    intro g n h1 h2
    obtain ⟨g,rfl⟩ : ∃ m,g = m + 1:=⟨g - 1,by omega⟩
    cases n with
    | zero => rfl
    | succ n => rw [pathF_succ,pathF_succ,ih g (n / 8) (by omega) (by omega)]
theorem set_bld (x:AV) (f:Nat) : ∀ l : List AV,l.length < f → T.set l.length x (bld f l) = bld f (l ++ [x]):=by
  induction f with
  | zero => intro l h; omega
  | succ f ih =>
    intro l h
    cases l with
    | nil => rw [bld_nil,List.nil_append,bld_cons]; simp only [str,bld_nil]; rfl
    | cons y r =>
      have hp : path (r.length + 1) = digit (r.length % 8)::path (r.length / 8):=by
        show pathF (r.length + 2) (r.length + 1) = _
        rw [pathF_succ,pathF_fuel (r.length + 1) (r.length / 8 + 1) (r.length / 8) (by omega) (by omega)]; rfl
      show T.setP x (path (r.length + 1)) (bld (f + 1) (y::r)) = bld (f + 1) (y::(r ++ [x]))
      rw [hp,T.setP_cons,bld_cons,bld_cons]
      have hk : r.length % 8 < 8:=Nat.mod_lt _ (by omega)
      have hl:=str_len r (r.length % 8) hk
      have hlen : (str (r.length % 8) r).length = r.length / 8:=by omega
      have hs:=ih (str (r.length % 8) r) (by simp only [List.length_cons] at h; omega)
      rw [hlen] at hs
      have a:=fun k hk => str_app x r k hk
      rw [a 0 (by omega),a 1 (by omega),a 2 (by omega),a 3 (by omega),a 4 (by omega),a 5 (by omega),a 6 (by omega),a 7 (by omega)]
      generalize r.length % 8 = d at *
      match d,hk with
      | 0,_ => simp (decide:=true) only [↓reduceIte]; rw [← hs]; rfl
      | 1,_ => simp (decide:=true) only [↓reduceIte]; rw [← hs]; rfl
      | 2,_ => simp (decide:=true) only [↓reduceIte]; rw [← hs]; rfl
      | 3,_ => simp (decide:=true) only [↓reduceIte]; rw [← hs]; rfl
      | 4,_ => simp (decide:=true) only [↓reduceIte]; rw [← hs]; rfl
      | 5,_ => simp (decide:=true) only [↓reduceIte]; rw [← hs]; rfl
      | 6,_ => simp (decide:=true) only [↓reduceIte]; rw [← hs]; rfl
      | 7,_ => simp (decide:=true) only [↓reduceIte]; rw [← hs]; rfl
theorem fillT_app (x:AV) : ∀ (l:List AV) (i:Nat) (t:T AV),fillT i t (l ++ [x]) = T.set (i + l.length) x (fillT i t l)
  | [],i,t => rfl
  | y::l,i,t => by
    show fillT (i + 1) (T.set i y t) (l ++ [x]) = T.set (i + (l.length + 1)) x (fillT (i + 1) (T.set i y t) l)
    rw [fillT_app x l,show i + 1 + l.length = i + (l.length + 1) by omega]
theorem fillT_bld (l:List AV) : ∀ f,l.length ≤ f → fillT 0 T.nil l.reverse = bld f l.reverse:=by
  induction l with
  | nil => intro f _; rw [List.reverse_nil,bld_nil]; rfl
  | cons x l ih =>
    intro f hf
    simp only [List.length_cons] at hf
    rw [List.reverse_cons,fillT_app,ih f (by omega),Nat.zero_add,set_bld x f _ (by rw [List.length_reverse]; omega)]
noncomputable def fillN {β:Type} (l:List AV) (k:T AV → β) : β:=T.forceA (bld (lenL l) l) k
theorem fillN_eq {β:Type} (l:List AV) (k:T AV → β) : fillN l k = fill 0 T.nil l k:=by
  unfold fillN
  rw [T.forceA_eq,fill_eq,lenL_eq]
  have h:=fillT_bld l.reverse l.length (by rw [List.length_reverse]; exact Nat.le_refl _)
  rw [List.reverse_reverse] at h
  rw [h]
noncomputable def setPA (p:List D) : AV → T AV → (T AV → T AV) → T AV:=
  @List.rec D (fun _ => AV → T AV → (T AV → T AV) → T AV) (fun v t k => @O9.rec (Option AV) (T AV) (fun _ => T AV) (k ⟨.mk (some v) (T.nil : T AV) (T.nil : T AV) (T.nil : T AV) (T.nil : T AV) (T.nil : T AV) (T.nil : T AV) (T.nil : T AV) (T.nil : T AV)⟩) (fun _ c0 c1 c2 c3 c4 c5 c6 c7 => k ⟨.mk (some v) c0 c1 c2 c3 c4 c5 c6 c7⟩) (T.o t)) (fun d _ ih => @D.rec (fun _ => (AV → T AV → (T AV → T AV) → T AV) → AV → T AV → (T AV → T AV) → T AV)
    (fun (ih:AV → T AV → (T AV → T AV) → T AV) (v:AV) (t:T AV) (k:T AV → T AV) => @O9.rec (Option AV) (T AV) (fun _ => T AV) (ih v (T.nil : T AV) fun c => k ⟨.mk none c (T.nil : T AV) (T.nil : T AV) (T.nil : T AV) (T.nil : T AV) (T.nil : T AV) (T.nil : T AV) (T.nil : T AV)⟩) (fun u c0 c1 c2 c3 c4 c5 c6 c7 => ih v c0 fun c => k ⟨.mk u c c1 c2 c3 c4 c5 c6 c7⟩) (T.o t))
    (fun (ih:AV → T AV → (T AV → T AV) → T AV) (v:AV) (t:T AV) (k:T AV → T AV) => @O9.rec (Option AV) (T AV) (fun _ => T AV) (ih v (T.nil : T AV) fun c => k ⟨.mk none (T.nil : T AV) c (T.nil : T AV) (T.nil : T AV) (T.nil : T AV) (T.nil : T AV) (T.nil : T AV) (T.nil : T AV)⟩) (fun u c0 c1 c2 c3 c4 c5 c6 c7 => ih v c1 fun c => k ⟨.mk u c0 c c2 c3 c4 c5 c6 c7⟩) (T.o t))
    (fun (ih:AV → T AV → (T AV → T AV) → T AV) (v:AV) (t:T AV) (k:T AV → T AV) => @O9.rec (Option AV) (T AV) (fun _ => T AV) (ih v (T.nil : T AV) fun c => k ⟨.mk none (T.nil : T AV) (T.nil : T AV) c (T.nil : T AV) (T.nil : T AV) (T.nil : T AV) (T.nil : T AV) (T.nil : T AV)⟩) (fun u c0 c1 c2 c3 c4 c5 c6 c7 => ih v c2 fun c => k ⟨.mk u c0 c1 c c3 c4 c5 c6 c7⟩) (T.o t))
    (fun (ih:AV → T AV → (T AV → T AV) → T AV) (v:AV) (t:T AV) (k:T AV → T AV) => @O9.rec (Option AV) (T AV) (fun _ => T AV) (ih v (T.nil : T AV) fun c => k ⟨.mk none (T.nil : T AV) (T.nil : T AV) (T.nil : T AV) c (T.nil : T AV) (T.nil : T AV) (T.nil : T AV) (T.nil : T AV)⟩) (fun u c0 c1 c2 c3 c4 c5 c6 c7 => ih v c3 fun c => k ⟨.mk u c0 c1 c2 c c4 c5 c6 c7⟩) (T.o t))
    (fun (ih:AV → T AV → (T AV → T AV) → T AV) (v:AV) (t:T AV) (k:T AV → T AV) => @O9.rec (Option AV) (T AV) (fun _ => T AV) (ih v (T.nil : T AV) fun c => k ⟨.mk none (T.nil : T AV) (T.nil : T AV) (T.nil : T AV) (T.nil : T AV) c (T.nil : T AV) (T.nil : T AV) (T.nil : T AV)⟩) (fun u c0 c1 c2 c3 c4 c5 c6 c7 => ih v c4 fun c => k ⟨.mk u c0 c1 c2 c3 c c5 c6 c7⟩) (T.o t))
    (fun (ih:AV → T AV → (T AV → T AV) → T AV) (v:AV) (t:T AV) (k:T AV → T AV) => @O9.rec (Option AV) (T AV) (fun _ => T AV) (ih v (T.nil : T AV) fun c => k ⟨.mk none (T.nil : T AV) (T.nil : T AV) (T.nil : T AV) (T.nil : T AV) (T.nil : T AV) c (T.nil : T AV) (T.nil : T AV)⟩) (fun u c0 c1 c2 c3 c4 c5 c6 c7 => ih v c5 fun c => k ⟨.mk u c0 c1 c2 c3 c4 c c6 c7⟩) (T.o t))
    (fun (ih:AV → T AV → (T AV → T AV) → T AV) (v:AV) (t:T AV) (k:T AV → T AV) => @O9.rec (Option AV) (T AV) (fun _ => T AV) (ih v (T.nil : T AV) fun c => k ⟨.mk none (T.nil : T AV) (T.nil : T AV) (T.nil : T AV) (T.nil : T AV) (T.nil : T AV) (T.nil : T AV) c (T.nil : T AV)⟩) (fun u c0 c1 c2 c3 c4 c5 c6 c7 => ih v c6 fun c => k ⟨.mk u c0 c1 c2 c3 c4 c5 c c7⟩) (T.o t))
    (fun (ih:AV → T AV → (T AV → T AV) → T AV) (v:AV) (t:T AV) (k:T AV → T AV) => @O9.rec (Option AV) (T AV) (fun _ => T AV) (ih v (T.nil : T AV) fun c => k ⟨.mk none (T.nil : T AV) (T.nil : T AV) (T.nil : T AV) (T.nil : T AV) (T.nil : T AV) (T.nil : T AV) (T.nil : T AV) c⟩) (fun u c0 c1 c2 c3 c4 c5 c6 c7 => ih v c7 fun c => k ⟨.mk u c0 c1 c2 c3 c4 c5 c6 c⟩) (T.o t)) d ih) p
noncomputable def setA {β:Type} (n:Nat) (v:AV) (t:T AV) (k:T AV → β) : β:=T.forceA (setPA (path n) v t fun t => t) k
noncomputable def getPA (p:List D) : T AV → Option AV:=
  @List.rec D (fun _ => T AV → Option AV) (fun t => @O9.rec (Option AV) (T AV) (fun _ => Option AV) none (fun v _ _ _ _ _ _ _ _ => v) (T.o t)) (fun d _ ih => @D.rec (fun _ => (T AV → Option AV) → T AV → Option AV)
    (fun (ih:T AV → Option AV) (t:T AV) => @O9.rec (Option AV) (T AV) (fun _ => Option AV) none (fun _ c0 _ _ _ _ _ _ _ => ih c0) (T.o t))
    (fun (ih:T AV → Option AV) (t:T AV) => @O9.rec (Option AV) (T AV) (fun _ => Option AV) none (fun _ _ c1 _ _ _ _ _ _ => ih c1) (T.o t))
    (fun (ih:T AV → Option AV) (t:T AV) => @O9.rec (Option AV) (T AV) (fun _ => Option AV) none (fun _ _ _ c2 _ _ _ _ _ => ih c2) (T.o t))
    (fun (ih:T AV → Option AV) (t:T AV) => @O9.rec (Option AV) (T AV) (fun _ => Option AV) none (fun _ _ _ _ c3 _ _ _ _ => ih c3) (T.o t))
    (fun (ih:T AV → Option AV) (t:T AV) => @O9.rec (Option AV) (T AV) (fun _ => Option AV) none (fun _ _ _ _ _ c4 _ _ _ => ih c4) (T.o t))
    (fun (ih:T AV → Option AV) (t:T AV) => @O9.rec (Option AV) (T AV) (fun _ => Option AV) none (fun _ _ _ _ _ _ c5 _ _ => ih c5) (T.o t))
    (fun (ih:T AV → Option AV) (t:T AV) => @O9.rec (Option AV) (T AV) (fun _ => Option AV) none (fun _ _ _ _ _ _ _ c6 _ => ih c6) (T.o t))
    (fun (ih:T AV → Option AV) (t:T AV) => @O9.rec (Option AV) (T AV) (fun _ => Option AV) none (fun _ _ _ _ _ _ _ _ c7 => ih c7) (T.o t)) d ih) p
noncomputable def getA (t:T AV) (n:Nat) : Option AV:=getPA (path n) t
theorem setPA_eq (v:AV) (p:List D) : ∀ (t:T AV) (k:T AV → T AV),setPA p v t k = T.setPA v p t k:=by
  induction p with
  | nil => intro t k; obtain ⟨o⟩:=t; cases o <;> rfl
  | cons d p ih =>
    intro t k
    have e : T.setPA v (d::p) t k = T.setPA v p (T.kidA d t) (fun c => T.forceA (T.subA d t c) k):=rfl
    rw [e,← ih]
    obtain ⟨o⟩:=t
    cases o <;> cases d <;> rfl
theorem getPA_eq (p:List D) : ∀ (t:T AV),getPA p t = T.getPA p t:=by
  induction p with
  | nil => intro t; rfl
  | cons d p ih =>
    intro t
    have e : T.getPA (d::p) t = T.getPA p (T.kidA d t):=rfl
    rw [e,← ih]
    obtain ⟨o⟩:=t
    cases o with
    | nil =>
      have h : getPA p (T.nil : T AV) = none:=by rw [ih]; clear ih e; induction p with
        | nil => rfl
        | cons d p ih => cases d <;> exact ih
      cases d <;> exact h.symm
    | mk _ _ _ _ _ _ _ _ _ => cases d <;> rfl
theorem setA_eq {β:Type} (n:Nat) (v:AV) (t:T AV) (k:T AV → β) : setA n v t k = T.setA n v t k:=by
  unfold setA
  rw [setPA_eq,T.forceA_eq,T.setA_eq]
  exact congrArg k (T.setA_eq n v t fun t => t)
theorem getA_eq (t:T AV) (n:Nat) : getA t n = T.getA t n:=getPA_eq (path n) t
noncomputable def setPB (p:List D) : Blk → T Blk → (T Blk → T Blk) → T Blk:=
  @List.rec D (fun _ => Blk → T Blk → (T Blk → T Blk) → T Blk) (fun v t k => @O9.rec (Option Blk) (T Blk) (fun _ => T Blk) (k ⟨.mk (some v) (T.nil : T Blk) (T.nil : T Blk) (T.nil : T Blk) (T.nil : T Blk) (T.nil : T Blk) (T.nil : T Blk) (T.nil : T Blk) (T.nil : T Blk)⟩) (fun _ c0 c1 c2 c3 c4 c5 c6 c7 => k ⟨.mk (some v) c0 c1 c2 c3 c4 c5 c6 c7⟩) (T.o t)) (fun d _ ih => @D.rec (fun _ => (Blk → T Blk → (T Blk → T Blk) → T Blk) → Blk → T Blk → (T Blk → T Blk) → T Blk)
    (fun (ih:Blk → T Blk → (T Blk → T Blk) → T Blk) (v:Blk) (t:T Blk) (k:T Blk → T Blk) => @O9.rec (Option Blk) (T Blk) (fun _ => T Blk) (ih v (T.nil : T Blk) fun c => k ⟨.mk none c (T.nil : T Blk) (T.nil : T Blk) (T.nil : T Blk) (T.nil : T Blk) (T.nil : T Blk) (T.nil : T Blk) (T.nil : T Blk)⟩) (fun u c0 c1 c2 c3 c4 c5 c6 c7 => ih v c0 fun c => k ⟨.mk u c c1 c2 c3 c4 c5 c6 c7⟩) (T.o t))
    (fun (ih:Blk → T Blk → (T Blk → T Blk) → T Blk) (v:Blk) (t:T Blk) (k:T Blk → T Blk) => @O9.rec (Option Blk) (T Blk) (fun _ => T Blk) (ih v (T.nil : T Blk) fun c => k ⟨.mk none (T.nil : T Blk) c (T.nil : T Blk) (T.nil : T Blk) (T.nil : T Blk) (T.nil : T Blk) (T.nil : T Blk) (T.nil : T Blk)⟩) (fun u c0 c1 c2 c3 c4 c5 c6 c7 => ih v c1 fun c => k ⟨.mk u c0 c c2 c3 c4 c5 c6 c7⟩) (T.o t))
    (fun (ih:Blk → T Blk → (T Blk → T Blk) → T Blk) (v:Blk) (t:T Blk) (k:T Blk → T Blk) => @O9.rec (Option Blk) (T Blk) (fun _ => T Blk) (ih v (T.nil : T Blk) fun c => k ⟨.mk none (T.nil : T Blk) (T.nil : T Blk) c (T.nil : T Blk) (T.nil : T Blk) (T.nil : T Blk) (T.nil : T Blk) (T.nil : T Blk)⟩) (fun u c0 c1 c2 c3 c4 c5 c6 c7 => ih v c2 fun c => k ⟨.mk u c0 c1 c c3 c4 c5 c6 c7⟩) (T.o t))
    (fun (ih:Blk → T Blk → (T Blk → T Blk) → T Blk) (v:Blk) (t:T Blk) (k:T Blk → T Blk) => @O9.rec (Option Blk) (T Blk) (fun _ => T Blk) (ih v (T.nil : T Blk) fun c => k ⟨.mk none (T.nil : T Blk) (T.nil : T Blk) (T.nil : T Blk) c (T.nil : T Blk) (T.nil : T Blk) (T.nil : T Blk) (T.nil : T Blk)⟩) (fun u c0 c1 c2 c3 c4 c5 c6 c7 => ih v c3 fun c => k ⟨.mk u c0 c1 c2 c c4 c5 c6 c7⟩) (T.o t))
    (fun (ih:Blk → T Blk → (T Blk → T Blk) → T Blk) (v:Blk) (t:T Blk) (k:T Blk → T Blk) => @O9.rec (Option Blk) (T Blk) (fun _ => T Blk) (ih v (T.nil : T Blk) fun c => k ⟨.mk none (T.nil : T Blk) (T.nil : T Blk) (T.nil : T Blk) (T.nil : T Blk) c (T.nil : T Blk) (T.nil : T Blk) (T.nil : T Blk)⟩) (fun u c0 c1 c2 c3 c4 c5 c6 c7 => ih v c4 fun c => k ⟨.mk u c0 c1 c2 c3 c c5 c6 c7⟩) (T.o t))
    (fun (ih:Blk → T Blk → (T Blk → T Blk) → T Blk) (v:Blk) (t:T Blk) (k:T Blk → T Blk) => @O9.rec (Option Blk) (T Blk) (fun _ => T Blk) (ih v (T.nil : T Blk) fun c => k ⟨.mk none (T.nil : T Blk) (T.nil : T Blk) (T.nil : T Blk) (T.nil : T Blk) (T.nil : T Blk) c (T.nil : T Blk) (T.nil : T Blk)⟩) (fun u c0 c1 c2 c3 c4 c5 c6 c7 => ih v c5 fun c => k ⟨.mk u c0 c1 c2 c3 c4 c c6 c7⟩) (T.o t))
    (fun (ih:Blk → T Blk → (T Blk → T Blk) → T Blk) (v:Blk) (t:T Blk) (k:T Blk → T Blk) => @O9.rec (Option Blk) (T Blk) (fun _ => T Blk) (ih v (T.nil : T Blk) fun c => k ⟨.mk none (T.nil : T Blk) (T.nil : T Blk) (T.nil : T Blk) (T.nil : T Blk) (T.nil : T Blk) (T.nil : T Blk) c (T.nil : T Blk)⟩) (fun u c0 c1 c2 c3 c4 c5 c6 c7 => ih v c6 fun c => k ⟨.mk u c0 c1 c2 c3 c4 c5 c c7⟩) (T.o t))
    (fun (ih:Blk → T Blk → (T Blk → T Blk) → T Blk) (v:Blk) (t:T Blk) (k:T Blk → T Blk) => @O9.rec (Option Blk) (T Blk) (fun _ => T Blk) (ih v (T.nil : T Blk) fun c => k ⟨.mk none (T.nil : T Blk) (T.nil : T Blk) (T.nil : T Blk) (T.nil : T Blk) (T.nil : T Blk) (T.nil : T Blk) (T.nil : T Blk) c⟩) (fun u c0 c1 c2 c3 c4 c5 c6 c7 => ih v c7 fun c => k ⟨.mk u c0 c1 c2 c3 c4 c5 c6 c⟩) (T.o t)) d ih) p
noncomputable def setB {β:Type} (n:Nat) (v:Blk) (t:T Blk) (k:T Blk → β) : β:=T.forceB (setPB (path n) v t fun t => t) k
noncomputable def getPB (p:List D) : T Blk → Option Blk:=
  @List.rec D (fun _ => T Blk → Option Blk) (fun t => @O9.rec (Option Blk) (T Blk) (fun _ => Option Blk) none (fun v _ _ _ _ _ _ _ _ => v) (T.o t)) (fun d _ ih => @D.rec (fun _ => (T Blk → Option Blk) → T Blk → Option Blk)
    (fun (ih:T Blk → Option Blk) (t:T Blk) => @O9.rec (Option Blk) (T Blk) (fun _ => Option Blk) none (fun _ c0 _ _ _ _ _ _ _ => ih c0) (T.o t))
    (fun (ih:T Blk → Option Blk) (t:T Blk) => @O9.rec (Option Blk) (T Blk) (fun _ => Option Blk) none (fun _ _ c1 _ _ _ _ _ _ => ih c1) (T.o t))
    (fun (ih:T Blk → Option Blk) (t:T Blk) => @O9.rec (Option Blk) (T Blk) (fun _ => Option Blk) none (fun _ _ _ c2 _ _ _ _ _ => ih c2) (T.o t))
    (fun (ih:T Blk → Option Blk) (t:T Blk) => @O9.rec (Option Blk) (T Blk) (fun _ => Option Blk) none (fun _ _ _ _ c3 _ _ _ _ => ih c3) (T.o t))
    (fun (ih:T Blk → Option Blk) (t:T Blk) => @O9.rec (Option Blk) (T Blk) (fun _ => Option Blk) none (fun _ _ _ _ _ c4 _ _ _ => ih c4) (T.o t))
    (fun (ih:T Blk → Option Blk) (t:T Blk) => @O9.rec (Option Blk) (T Blk) (fun _ => Option Blk) none (fun _ _ _ _ _ _ c5 _ _ => ih c5) (T.o t))
    (fun (ih:T Blk → Option Blk) (t:T Blk) => @O9.rec (Option Blk) (T Blk) (fun _ => Option Blk) none (fun _ _ _ _ _ _ _ c6 _ => ih c6) (T.o t))
    (fun (ih:T Blk → Option Blk) (t:T Blk) => @O9.rec (Option Blk) (T Blk) (fun _ => Option Blk) none (fun _ _ _ _ _ _ _ _ c7 => ih c7) (T.o t)) d ih) p
noncomputable def getB (t:T Blk) (n:Nat) : Option Blk:=getPB (path n) t
theorem setPB_eq (v:Blk) (p:List D) : ∀ (t:T Blk) (k:T Blk → T Blk),setPB p v t k = T.setPB v p t k:=by
  induction p with
  | nil => intro t k; obtain ⟨o⟩:=t; cases o <;> rfl
  | cons d p ih =>
    intro t k
    have e : T.setPB v (d::p) t k = T.setPB v p (T.kidB d t) (fun c => T.forceB (T.subB d t c) k):=rfl
    rw [e,← ih]
    obtain ⟨o⟩:=t
    cases o <;> cases d <;> rfl
theorem getPB_eq (p:List D) : ∀ (t:T Blk),getPB p t = T.getPB p t:=by
  induction p with
  | nil => intro t; rfl
  | cons d p ih =>
    intro t
    have e : T.getPB (d::p) t = T.getPB p (T.kidB d t):=rfl
    rw [e,← ih]
    obtain ⟨o⟩:=t
    cases o with
    | nil =>
      have h : getPB p (T.nil : T Blk) = none:=by rw [ih]; clear ih e; induction p with
        | nil => rfl
        | cons d p ih => cases d <;> exact ih
      cases d <;> exact h.symm
    | mk _ _ _ _ _ _ _ _ _ => cases d <;> rfl
theorem setB_eq {β:Type} (n:Nat) (v:Blk) (t:T Blk) (k:T Blk → β) : setB n v t k = T.setB n v t k:=by
  unfold setB
  rw [setPB_eq,T.forceB_eq,T.setB_eq]
  exact congrArg k (T.setB_eq n v t fun t => t)
theorem getB_eq (t:T Blk) (n:Nat) : getB t n = T.getB t n:=getPB_eq (path n) t
noncomputable def fill {β:Type} (i:Nat) (t:T AV) (l:List AV) (k:T AV → β) : β:=
  List.rec (motive:=fun _ => Nat → T AV → β) (fun _ t => k t) (fun x _ ih i t => force i fun i => setA i x t fun t' => ih (Nat.succ i) t') l i t
theorem fill_e : @fill = @Go.Abs.fill:=by
  funext β i t l k
  have e : ∀ (l:List AV) (i:Nat) (t:T AV),fill i t l k = Go.Abs.fill i t l k:=by
    intro l
    induction l with
    | nil => intro i t; rfl
    | cons x l ih =>
      intro i t
      show force i (fun i => setA i x t fun t' => fill (Nat.succ i) t' l k) = force i (fun i => T.setA i x t fun t' => Go.Abs.fill (Nat.succ i) t' l k)
      rw [force_eq,force_eq,setA_eq]
      congr 1; funext t'; exact ih _ _
  exact e l i t
noncomputable def ups {β:Type} (H:T Blk) (l:List (Nat × Blk)) (k:T Blk → β) : β:=
  List.rec (motive:=fun _ => T Blk → β) (fun H => k H) (fun x _ ih H => setB x.1 x.2 H fun H' => ih H') l H
theorem ups_e : @ups = @Go.Abs.ups:=by
  funext β H l k
  have e : ∀ (l:List (Nat × Blk)) (H:T Blk),ups H l k = Go.Abs.ups H l k:=by
    intro l
    induction l with
    | nil => intro H; rfl
    | cons x l ih =>
      intro H
      show setB x.1 x.2 H (fun H' => ups H' l k) = T.setB x.1 x.2 H (fun H' => Go.Abs.ups H' l k)
      rw [setB_eq]
      congr 1; funext H'; exact ih _
  exact e l H
noncomputable def quietF (f:Foot) : Bool:=Foot.rec (fun _ wr mv => andB (notB mv) (elimO wr false emptyB)) f
noncomputable def maxP (l:List (Nat × Nat)) : Nat:=List.rec 0 (fun x _ m => ifB (Nat.ble x.1 m) (ifB (Nat.ble x.2 m) m x.2) (ifB (Nat.ble x.1 x.2) x.2 x.1)) l
noncomputable def noClash (fs:List Foot) (l:List (Nat × Nat)) : Bool:=ifB (ifB (allB quietF fs) (Nat.ble (Nat.succ (maxP l)) (lenL fs)) false) true (Go.Abs.noClash fs l)
theorem quiet_clear {x y:Foot} (hx:quietF x = true) (hy:quietF y = true) : clear2 x y = true:=by
  obtain ⟨r1,w1,m1⟩:=x
  obtain ⟨r2,w2,m2⟩:=y
  obtain ⟨a1,b1⟩:=andB_true.1 (show andB (notB m1) (elimO w1 false emptyB) = true from hx)
  obtain ⟨a2,b2⟩:=andB_true.1 (show andB (notB m2) (elimO w2 false emptyB) = true from hy)
  cases m1 <;> cases a1
  cases m2 <;> cases a2
  cases w1 with
  | none => cases b1
  | some w1 => cases w2 with
    | none => cases b2
    | some w2 =>
      cases w1 with
      | cons _ _ => cases b1
      | nil => cases w2 with
        | cons _ _ => cases b2
        | nil => rfl
theorem maxP_le : ∀ (l:List (Nat × Nat)),∀ p ∈ l,p.1 ≤ maxP l ∧ p.2 ≤ maxP l
  | [],p,h => by cases h
  | x::l,p,h => by
    have e : maxP (x::l) = ifB (Nat.ble x.1 (maxP l)) (ifB (Nat.ble x.2 (maxP l)) (maxP l) x.2) (ifB (Nat.ble x.1 x.2) x.2 x.1):=rfl
    rw [ifB_ble,ifB_ble,ifB_ble] at e
    rcases List.mem_cons.1 h with rfl | h
    · rw [e]; split <;> split <;> omega
    · have:=maxP_le l p h
      rw [e]; split <;> split <;> omega
theorem noClash_e : @noClash = @Go.Abs.noClash:=by
  funext fs l
  unfold noClash
  cases h1 : allB quietF fs with
  | false => rfl
  | true =>
    rw [ifB_true]
    cases h2 : Nat.ble (Nat.succ (maxP l)) (lenL fs) with
    | false => rfl
    | true =>
      rw [ifB_true]
      have h2':=ble_true.1 h2
      rw [lenL_eq] at h2'
      have hq:=allB_true.1 h1
      refine (allB_true.2 fun p hp => ?_).symm
      obtain ⟨k1,k2⟩:=maxP_le l p hp
      have g1 : p.1 < fs.length:=by omega
      have g2 : p.2 < fs.length:=by omega
      rw [nthL_eq,nthL_eq,List.getElem?_eq_getElem g1,List.getElem?_eq_getElem g2]
      exact quiet_clear (hq _ (List.getElem_mem g1)) (hq _ (List.getElem_mem g2))
noncomputable def cellsOf (H:T Blk) (b:Nat) : Option (T AV × Nat):=bindO (getB H b) fun k => (@Blk.rec (fun _ => Option (T AV × Nat)) (fun t n => some (t,n)) (fun _ => none) (none) (fun t _ => some (t,0)) (k))
theorem cellsOf_e : @cellsOf = @Go.Abs.cellsOf:=by delta cellsOf Go.Abs.cellsOf; (try simp only [getB_eq]); first | done | rfl
noncomputable def ownOf (H:T Blk) (b:Nat) : Option (T AV × Nat):=bindO (getB H b) fun k => (@Blk.rec (fun _ => Option (T AV × Nat)) (fun t n => some (t,n)) (fun _ => none) (none) (fun _ _ => none) (k))
theorem ownOf_e : @ownOf = @Go.Abs.ownOf:=by delta ownOf Go.Abs.ownOf; (try simp only [getB_eq]); first | done | rfl
noncomputable def mateOf (H:T Blk) (b:Nat) : Option (Option Nat):=bindO (getB H b) fun k => (@Blk.rec (fun _ => Option (Option Nat)) (fun _ _ => some none) (fun _ => none) (none) (fun _ p => some (some p)) (k))
theorem mateOf_e : @mateOf = @Go.Abs.mateOf:=by delta mateOf Go.Abs.mateOf; (try simp only [getB_eq]); first | done | rfl
noncomputable def frzOf (H:T Blk) (n b:Nat) : Option (T AV):=bindO (getB H b) fun k => (@Blk.rec (fun _ => Option (T AV)) (fun t _ => some t) (fun _ => none) (none) (fun t p => guardB (Nat.ble n p) (some t)) (k))
theorem frzOf_e : @frzOf = @Go.Abs.frzOf:=by delta frzOf Go.Abs.frzOf; (try simp only [getB_eq]); first | done | rfl
noncomputable def mapOf (H:T Blk) (b:Nat) : Option (List (AV × AV)):=bindO (getB H b) fun k => (@Blk.rec (fun _ => Option (List (AV × AV))) (fun _ _ => none) (fun l => some l) (none) (fun _ _ => none) (k))
theorem mapOf_e : @mapOf = @Go.Abs.mapOf:=by delta mapOf Go.Abs.mapOf; (try simp only [getB_eq]); first | done | rfl
noncomputable def lendA (H:T Blk) (x:AV) : Option (AV × List Nat):=
  (@AV.rec (fun _ => Option (AV × List Nat)) (fun _ => Unit) (fun _ => Unit) (fun _ => Unit) (fun _ => Unit) (fun _ => Unit) (fun _ => Unit) (fun _ => guardB (flat 4 x) (some (x,[]))) (fun _ _ => guardB (flat 4 x) (some (x,[]))) (fun _ _ _ => guardB (flat 4 x) (some (x,[]))) (fun b off len es lo ex => bindO (ownOf H b) fun p => guardB (andB (Nat.ble 1 lo) (flatT p.1)) (some (.vs p.1 off len es lo ex,[b]))) (fun _ _ _ _ _ _ _ => guardB (flat 4 x) (some (x,[]))) (fun _ _ _ _ _ => guardB (flat 4 x) (some (x,[]))) (fun _ _ => guardB (flat 4 x) (some (x,[]))) (fun _ _ => guardB (flat 4 x) (some (x,[]))) (fun _ => guardB (flat 4 x) (some (x,[]))) (fun _ _ => guardB (flat 4 x) (some (x,[]))) (fun _ _ => ()) () (fun _ _ _ _ => ()) () (fun _ _ _ _ => ()) () (fun _ _ _ _ _ _ _ _ _ _ _ _ _ _ _ _ _ _ => ()) (fun _ _ _ _ => ()) () (fun _ _ => ()) (x))
theorem lendA_e : @lendA = @Go.Abs.lendA:=by delta lendA Go.Abs.lendA; (try simp only [ownOf_e]); first | done | rfl
noncomputable def lendL (H:T Blk) (l:List AV) : Option (List AV × List Nat):=List.rec (some ([],[])) (fun x _ ih => bindO (lendA H x) fun y => bindO ih fun r => some (y.1::r.1,appL y.2 r.2)) l
theorem lendL_e : @lendL = @Go.Abs.lendL:=by delta lendL Go.Abs.lendL; (try simp only [lendA_e]); first | done | rfl
noncomputable def freeze (H:T Blk) (n:Nat) (d:Nat) : AV → Option AV:=
  Nat.rec (fun _ => none) (fun _ ih x => (@AV.rec (fun _ => Option AV) (fun _ => Unit) (fun _ => Unit) (fun _ => Unit) (fun _ => Unit) (fun _ => Unit) (fun _ => Unit) (fun x => some (.v x)) (fun b off => guardB (Nat.ble n b) (bindO (frzOf H n b) fun p => bindO (mapT ih p) fun t' => some (.vp t' off))) (fun t off _ => some (.vp t off)) (fun b off len es lo ex => guardB (Nat.ble n b) (bindO (frzOf H n b) fun p => ifB (Nat.beq lo 0) (some (.vs T.nil off len es lo ex)) (bindO (mapT ih p) fun t' => some (.vs t' off len es lo ex)))) (fun t off len es lo ex _ => some (.vs t off len es lo ex)) (fun f first cap _ _ => bindO (allM ih first) fun a => bindO (allM ih cap) fun b => some (.fn f a b)) (fun l _ => bindO (allM ih l) fun a => some (.agg a)) (fun l _ => bindO (allM ih l) fun a => some (.tuple a)) (fun b => guardB (Nat.ble n b) (bindO (mapOf H b) fun l => bindO (allM (fun x => bindO (ih x.2) fun y => some (x.1,y)) l) fun l' => some (.vm l'))) (fun l _ => some (.vm l)) (fun _ _ => ()) () (fun _ _ _ _ => ()) () (fun _ _ _ _ => ()) () (fun _ _ _ _ _ _ _ _ _ _ _ _ _ _ _ _ _ _ => ()) (fun _ _ _ _ => ()) () (fun _ _ => ()) (x))) d
theorem freeze_e : @freeze = @Go.Abs.freeze:=by delta freeze Go.Abs.freeze; (try simp only [frzOf_e,mapOf_e]); first | done | rfl
noncomputable def freezeTop (H:T Blk) (n:Nat) (d:Nat) : AV → Option AV:=
  Nat.rec (fun _ => none) (fun _ ih x => (@AV.rec (fun _ => Option AV) (fun _ => Unit) (fun _ => Unit) (fun _ => Unit) (fun _ => Unit) (fun _ => Unit) (fun _ => Unit) (fun _ => freeze H n 20 x) (fun b off => ifB (Nat.ble n b) (freeze H n 20 x) (some x)) (fun _ _ _ => freeze H n 20 x) (fun b off len es lo ex => ifB (Nat.ble n b) (freeze H n 20 x) (some x)) (fun _ _ _ _ _ _ _ => freeze H n 20 x) (fun f first cap _ _ => bindO (allM ih first) fun a => bindO (allM ih cap) fun b => some (.fn f a b)) (fun l _ => bindO (allM ih l) fun a => some (.agg a)) (fun l _ => bindO (allM ih l) fun a => some (.tuple a)) (fun b => ifB (Nat.ble n b) (freeze H n 20 x) (some x)) (fun _ _ => freeze H n 20 x) (fun _ _ => ()) () (fun _ _ _ _ => ()) () (fun _ _ _ _ => ()) () (fun _ _ _ _ _ _ _ _ _ _ _ _ _ _ _ _ _ _ => ()) (fun _ _ _ _ => ()) () (fun _ _ => ()) (x))) d
theorem freezeTop_e : @freezeTop = @Go.Abs.freezeTop:=by delta freezeTop Go.Abs.freezeTop; (try simp only [freeze_e]); first | done | rfl
noncomputable def take (t:T AV) (i n:Nat) : Option (List AV):=
  Nat.rec (motive:=fun _ => Nat → Option (List AV)) (fun _ => some []) (fun _ ih i => force i fun i => bindO (getA t i) fun x => bindO (ih (Nat.succ i)) fun r => some (x::r)) n i
theorem take_e : @take = @Go.Abs.take:=by delta take Go.Abs.take; (try simp only [getA_eq]); first | done | rfl
noncomputable def opd (env:T AV) (o:Operand) : Option AV:=
  (@Operand.rec (fun _ => Option AV) (fun t => elimO (getA env t) (some (.tuple [])) some) (fun v => ofValue v) (fun _ => none) (fun f => some (.fn (.func f) [] [])) (o))
theorem opd_e : @opd = @Go.Abs.opd:=by delta opd Go.Abs.opd; (try simp only [getA_eq]); first | done | rfl
noncomputable def opds (env:T AV) (l:List Operand) : Option (List AV):=allM (opd env) l
theorem opds_e : @opds = @Go.Abs.opds:=by delta opds Go.Abs.opds; (try simp only [opd_e]); first | done | rfl
noncomputable def typeNo (C:Cx) (t:TypeId) : Nat:=match und C t with | some (.pointer _) => 1 | some (.slice _) => 2 | some (.func _ _ _) => 3 | some (.map _ _) => 4 | _ => 5
theorem typeNo_e : @typeNo = @Go.Abs.typeNo:=by delta typeNo Go.Abs.typeNo; (try simp only [und_eq]); first | done | rfl
noncomputable def bin (C:Cx) (op:BinOp) (t:TypeId) (xo yo:Operand) (x y:AV) : Option AV:=
  onInt x (binNil op (nilPair (typeNo C t) x y) (binFall C op t xo yo x y))
    fun k a => onInt y (binFall C op t xo yo x y) fun k' b => ifB (eqK k k') (binInt op k a b (binFall C op t xo yo x y)) (binFall C op t xo yo x y)
theorem bin_e : @bin = @Go.Abs.bin:=by delta bin Go.Abs.bin; (try simp only [typeNo_e]); first | done | rfl
noncomputable def aggOf (C:Cx) (t:TypeId) : Bool:=match und C t with | some (.struct _) => true | some (.array _ _) => true | _ => false
theorem aggOf_e : @aggOf = @Go.Abs.aggOf:=by delta aggOf Go.Abs.aggOf; (try simp only [und_eq]); first | done | rfl
noncomputable def knownT (C:Cx) (t:TypeId) : Bool:=(und C t).isSome
theorem knownT_e : @knownT = @Go.Abs.knownT:=by delta knownT Go.Abs.knownT; (try simp only [und_eq]); first | done | rfl
noncomputable def zeroOf (C:Cx) (t:TypeId) : Option AV:=
  match infoT C t with
  | some i => (match i.zero with | some z => ofValue z | none => none)
  | none => none
theorem zeroOf_e : @zeroOf = @Go.Abs.zeroOf:=by delta zeroOf Go.Abs.zeroOf; (try simp only [infoT_eq]); first | done | rfl
noncomputable def okT (C:Cx) (t:TypeId) : Bool:=match infoT C t with | some i => i.zero.isSome | none => false
theorem okT_e : @okT = @Go.Abs.okT:=by delta okT Go.Abs.okT; (try simp only [infoT_eq]); first | done | rfl
noncomputable def sliceElem (C:Cx) (t:TypeId) : Option TypeId:=match und C t with | some (.slice e) => if okT C e = true then some e else none | _ => none
theorem sliceElem_e : @sliceElem = @Go.Abs.sliceElem:=by delta sliceElem Go.Abs.sliceElem; (try simp only [und_eq,okT_e]); first | done | rfl
noncomputable def arrayElem (C:Cx) (t:TypeId) : Option (Nat × TypeId):=match und C t with | some (.array n e) => if okT C e = true then some (n,e) else none | _ => none
theorem arrayElem_e : @arrayElem = @Go.Abs.arrayElem:=by delta arrayElem Go.Abs.arrayElem; (try simp only [und_eq,okT_e]); first | done | rfl
noncomputable def fieldOf (C:Cx) (t:TypeId) (f:Nat) : Option Field:=match und C t with | some (.struct fs) => (match fs[f]? with | some fd => if okT C fd.type = true then some fd else none | none => none) | _ => none
theorem fieldOf_e : @fieldOf = @Go.Abs.fieldOf:=by delta fieldOf Go.Abs.fieldOf; (try simp only [und_eq,okT_e]); first | done | rfl
noncomputable def buildOk (C:Cx) (t:TypeId) : Bool:=match und C t with | some (.struct fs) => fs.toList.all fun f => okT C f.type | some (.array _ e) => okT C e | _ => false
theorem buildOk_e : @buildOk = @Go.Abs.buildOk:=by delta buildOk Go.Abs.buildOk; (try simp only [und_eq,okT_e]); first | done | rfl
noncomputable def isString (C:Cx) (t:TypeId) : Bool:=match und C t with | some .string => true | _ => false
theorem isString_e : @isString = @Go.Abs.isString:=by delta isString Go.Abs.isString; (try simp only [und_eq]); first | done | rfl
noncomputable def intKind (C:Cx) (t:TypeId) : Option IntKind:=match und C t with | some (.int k) => some k | _ => none
theorem intKind_e : @intKind = @Go.Abs.intKind:=by delta intKind Go.Abs.intKind; (try simp only [und_eq]); first | done | rfl
noncomputable def isSlice (C:Cx) (t:TypeId) : Bool:=match und C t with | some (.slice _) => true | _ => false
theorem isSlice_e : @isSlice = @Go.Abs.isSlice:=by delta isSlice Go.Abs.isSlice; (try simp only [und_eq]); first | done | rfl
noncomputable def keyed (C:Cx) (t:TypeId) : Option (TypeId × TypeId):=match und C t with
  | some (.map k e) => (match und C k with | some (.int _) | some .string => some (k,e) | _ => none)
  | _ => none
theorem keyed_e : @keyed = @Go.Abs.keyed:=by delta keyed Go.Abs.keyed; (try simp only [und_eq]); first | done | rfl
noncomputable def loadT (C:Cx) (ty:TypeId) (t:T AV) (off:Nat) : Option AV:=
  ifB (aggOf C ty) (bindO (take t off (cellsN C ty)) fun l => some (.agg l)) (guardB (knownT C ty) (getA t off))
theorem loadT_e : @loadT = @Go.Abs.loadT:=by delta loadT Go.Abs.loadT; (try simp only [getA_eq,cellsN_eq,take_e,aggOf_e,knownT_e]); first | done | rfl
noncomputable def sMove (x:Operand) : Sf:=fun _ env _ _ _ => bindO (opd env x) A
theorem sMove_e : @sMove = @Go.Abs.sMove:=by delta sMove Go.Abs.sMove; (try simp only [opd_e]); first | done | rfl
noncomputable def sPick (c a b:Operand) : Sf:=fun _ env _ _ _ => bindO (opd env c) fun x => bindO (boolOf x) fun y => bindO (opd env (ifB y a b)) A
theorem sPick_e : @sPick = @Go.Abs.sPick:=by delta sPick Go.Abs.sPick; (try simp only [opd_e]); first | done | rfl
noncomputable def sAlloc (t:TypeId) : Sf:=fun C _ _ nb _ => bindO (zeroOf C t) fun z =>
  fillN z.cells fun c => force (lenL z.cells) fun n => some ⟨.hp nb 0,[(nb,.cells c n)],some []⟩
theorem sAlloc_e : @sAlloc = @Go.Abs.sAlloc:=by delta sAlloc Go.Abs.sAlloc; (try simp only [fillN_eq,zeroOf_e]); first | done | rfl
noncomputable def sBox (_t:TypeId) (x:Operand) : Sf:=fun _ env _ nb _ => bindO (opd env x) fun z =>
  fillN z.cells fun c => force (lenL z.cells) fun n => some ⟨.hp nb 0,[(nb,.cells c n)],some []⟩
theorem sBox_e : @sBox = @Go.Abs.sBox:=by delta sBox Go.Abs.sBox; (try simp only [fillN_eq,opd_e]); first | done | rfl
noncomputable def placeOf (C:Cx) (t:TypeId) (i:Nat) : Option (Nat × Nat):=
  match und C t with
  | some (.struct fs) => (match fs[i]? with | some f => some (f.offset,cellsN C f.type) | none => none)
  | some (.array _ e) => some (i * cellsN C e,cellsN C e)
  | _ => none
theorem placeOf_e : @placeOf = @Go.Abs.placeOf:=by delta placeOf Go.Abs.placeOf; (try simp only [und_eq,cellsN_eq]); first | done | rfl
noncomputable def parts (env:T AV) (place:Nat → Option (Nat × Nat)) (ps:List (Nat × Operand)) : List AV → Option (List AV):=
  List.rec (fun cells => some cells) (fun io _ ih cells => bindO (place io.1) fun p => bindO (opd env io.2) fun x =>
    guardB (andB (Nat.beq (lenL x.cells) p.2) (Nat.ble (Nat.add p.1 p.2) (lenL cells))) (forceL (splice cells p.1 x.cells) fun l => ih l)) ps
theorem parts_e : @parts = @Go.Abs.parts:=by delta parts Go.Abs.parts; (try simp only [opd_e]); first | done | rfl
noncomputable def sBuild (t:TypeId) (ps:Array (Nat × Operand)) : Sf:=fun C env _ _ _ => bindO (zeroOf C t) fun z =>
  guardB (buildOk C t) (bindO (parts env (placeOf C t) ps.toList z.cells) fun l => A (.agg l))
theorem sBuild_e : @sBuild = @Go.Abs.sBuild:=by delta sBuild Go.Abs.sBuild; (try simp only [zeroOf_e,buildOk_e,placeOf_e,parts_e]); first | done | rfl
noncomputable def sBuildSlice (t0:TypeId) (len:Nat) (ps:Array (Nat × Operand)) : Sf:=fun C env _ nb _ => bindO (sliceElem C t0) fun e =>
  guardB (Nat.ble (Nat.mul len (cellsN C e)) 16777216) (bindO (zeroOf C e) fun z => guardB (Nat.beq (lenL z.cells) (cellsN C e))
    (bindO (parts env (fun i => some (Nat.mul i (cellsN C e),cellsN C e)) ps.toList (zeros z.cells len)) fun l =>
      fillN l fun t => force (cellsN C e) fun es => ifB (andB (allB (flat 4) l) (notB (C.hb t0))) (A (.vs t 0 len es len true)) (force (Nat.mul len es) fun n => some ⟨.hs nb 0 len es len true,[(nb,.cells t n)],some []⟩)))
theorem sBuildSlice_e : @sBuildSlice = @Go.Abs.sBuildSlice:=by delta sBuildSlice Go.Abs.sBuildSlice; (try simp only [cellsN_eq,fillN_eq,zeroOf_e,sliceElem_e,parts_e]); first | done | rfl
noncomputable def sLoad (t:TypeId) (a:Operand) : Sf:=fun C env H _ _ => bindO (opd env a) fun x =>
  (@AV.rec (fun _ => Option R) (fun _ => Unit) (fun _ => Unit) (fun _ => Unit) (fun _ => Unit) (fun _ => Unit) (fun _ => Unit) (fun _ => none) (fun b off => bindO (cellsOf H b) fun p => bindO (loadT C t p.1 off) fun y => some ⟨y,[],some [b]⟩) (fun c off _ => bindO (loadT C t c off) A) (fun _ _ _ _ _ _ => none) (fun _ _ _ _ _ _ _ => none) (fun _ _ _ _ _ => none) (fun _ _ => none) (fun _ _ => none) (fun _ => none) (fun _ _ => none) (fun _ _ => ()) () (fun _ _ _ _ => ()) () (fun _ _ _ _ => ()) () (fun _ _ _ _ _ _ _ _ _ _ _ _ _ _ _ _ _ _ => ()) (fun _ _ _ _ => ()) () (fun _ _ => ()) (x))
theorem sLoad_e : @sLoad = @Go.Abs.sLoad:=by delta sLoad Go.Abs.sLoad; (try simp only [cellsOf_e,opd_e,loadT_e]); first | done | rfl
noncomputable def sStore (t:TypeId) (a x:Operand) : Sf:=fun C env H _ _ => bindO (opd env a) fun p => bindO (opd env x) fun y =>
  (@AV.rec (fun _ => Option R) (fun _ => Unit) (fun _ => Unit) (fun _ => Unit) (fun _ => Unit) (fun _ => Unit) (fun _ => Unit) (fun _ => none) (fun b off => bindO (ownOf H b) fun c => guardB (andB (okT C t) (andB (Nat.beq (lenL y.cells) (cellsN C t)) (andB (Nat.ble (Nat.add off (lenL y.cells)) c.2) (allB oneCell y.cells))))
      (fill off c.1 y.cells fun c' => some ⟨.tuple [],[(b,.cells c' c.2)],some [b]⟩)) (fun _ _ _ => none) (fun _ _ _ _ _ _ => none) (fun _ _ _ _ _ _ _ => none) (fun _ _ _ _ _ => none) (fun _ _ => none) (fun _ _ => none) (fun _ => none) (fun _ _ => none) (fun _ _ => ()) () (fun _ _ _ _ => ()) () (fun _ _ _ _ => ()) () (fun _ _ _ _ _ _ _ _ _ _ _ _ _ _ _ _ _ _ => ()) (fun _ _ _ _ => ()) () (fun _ _ => ()) (p))
theorem sStore_e : @sStore = @Go.Abs.sStore:=by delta sStore Go.Abs.sStore; (try simp only [fill_e,cellsN_eq,ownOf_e,opd_e,okT_e]); first | done | rfl
noncomputable def sNilCheck (x:Operand) : Sf:=fun _ env _ _ _ => bindO (opd env x) fun y => guardB (andB (isSome y) (notB (methodly y))) (A y)
theorem sNilCheck_e : @sNilCheck = @Go.Abs.sNilCheck:=by delta sNilCheck Go.Abs.sNilCheck; (try simp only [opd_e]); first | done | rfl
noncomputable def sBin (op:BinOp) (t:TypeId) (x y:Operand) (_u:TypeId) : Sf:=fun C env _ _ _ => bindO (opd env x) fun a => bindO (opd env y) fun b => bindO (bin C op t x y a b) A
theorem sBin_e : @sBin = @Go.Abs.sBin:=by delta sBin Go.Abs.sBin; (try simp only [opd_e,bin_e]); first | done | rfl
noncomputable def sUn (op:UnOp) (_t:TypeId) (x:Operand) : Sf:=fun C env _ _ _ => bindO (opd env x) fun y => bindO (toValue y) fun a => bindO (pureRun C.P (Op.unary op a)) fun r =>
  (@Value.rec (fun _ => Option R) (fun _ => Unit) (fun _ => Unit) (fun b => forceB b fun b => A (.v (.bool b))) (fun k n => forceI n fun n => A (.v (.int k n))) (fun _ _ => none) (fun _ _ _ => none) (fun _ => none) (fun _ => none) (fun _ _ _ => none) (fun _ => none) (fun _ => none) (fun _ _ _ _ _ => none) (none) (fun _ _ _ => none) (none) (fun _ _ => none) (fun _ _ => none) (fun _ _ => ()) () (fun _ _ _ _ => ()) (r))
theorem sUn_e : @sUn = @Go.Abs.sUn:=by delta sUn Go.Abs.sUn; (try simp only [opd_e]); first | done | rfl
noncomputable def srcCells (H:T Blk) (k:Nat) (x:AV) : Option (List AV × List Nat):=
  (@AV.rec (fun _ => Option (List AV × List Nat)) (fun _ => Unit) (fun _ => Unit) (fun _ => Unit) (fun _ => Unit) (fun _ => Unit) (fun _ => Unit) (fun x => guardB (andB (nilSl x) (Nat.beq k 0)) (some ([],[]))) (fun _ _ => none) (fun _ _ _ => none) (fun b off _ _ _ _ => bindO (cellsOf H b) fun p => bindO (take p.1 off k) fun l => some (l,[b])) (fun t off _ _ _ _ _ => bindO (take t off k) fun l => some (l,[])) (fun _ _ _ _ _ => none) (fun _ _ => none) (fun _ _ => none) (fun _ => none) (fun _ _ => none) (fun _ _ => ()) () (fun _ _ _ _ => ()) () (fun _ _ _ _ => ()) () (fun _ _ _ _ _ _ _ _ _ _ _ _ _ _ _ _ _ _ => ()) (fun _ _ _ _ => ()) () (fun _ _ => ()) (x))
theorem srcCells_e : @srcCells = @Go.Abs.srcCells:=by delta srcCells Go.Abs.srcCells; (try simp only [cellsOf_e,take_e]); first | done | rfl
noncomputable def sConvert (src dst:TypeId) (x:Operand) : Sf:=fun C env H _ _ => bindO (opd env x) fun y =>
  elimO (intKind C dst)
    (ifB (isString C src) (guardB (isString C dst) (onString y none fun s => A (.v (.string s))))
      (bindO (sliceElem C src) fun e => guardB (isString C dst) (bindO (intKind C e) fun k => guardB (Nat.beq (kindNo k) 4)
        (bindO (lenA y) fun n => bindO (srcCells H n y) fun p => bindO (allM byteOfAV p.1) fun bs => some ⟨.v (.string ⟨bs.toArray⟩),[],some p.2⟩))))
    (fun k => bindO (intKind C src) fun _ => onInt y none fun _ n => bindO (intR k n) A)
theorem sConvert_e : @sConvert = @Go.Abs.sConvert:=by delta sConvert Go.Abs.sConvert; (try simp only [opd_e,sliceElem_e,isString_e,intKind_e,srcCells_e]); first | done | rfl
noncomputable def sMakeFunc (f:Fn) (first cap:Array Operand) : Sf:=fun _ env _ _ _ => bindO (opds env first.toList) fun a => bindO (opds env cap.toList) fun b => A (.fn f a b)
theorem sMakeFunc_e : @sMakeFunc = @Go.Abs.sMakeFunc:=by delta sMakeFunc Go.Abs.sMakeFunc; (try simp only [opds_e]); first | done | rfl
noncomputable def sMakeSlice (t:TypeId) (l c:Operand) : Sf:=fun C env _ nb _ => bindO (sliceElem C t) fun e => bindO (opd env l) fun a => bindO (opd env c) fun b =>
  bindO (natOf a) fun n => bindO (natOf b) fun m => bindO (zeroOf C e) fun z =>
    guardB (andB (Nat.ble n m) (andB (Nat.ble (Nat.mul m (bytesN C e)) 140737488355328) (andB (Nat.ble m 140737488355328) (Nat.beq (lenL z.cells) (cellsN C e)))))
      (fillN (zeros z.cells m) fun c => force (cellsN C e) fun es => force (Nat.mul m es) fun k => some ⟨.hs nb 0 n es m true,[(nb,.cells c k)],some []⟩)
theorem sMakeSlice_e : @sMakeSlice = @Go.Abs.sMakeSlice:=by delta sMakeSlice Go.Abs.sMakeSlice; (try simp only [cellsN_eq,bytesN_eq,fillN_eq,opd_e,zeroOf_e,sliceElem_e]); first | done | rfl
noncomputable def bound (env:T AV) (o:Option Operand) (d:Nat) : Option Nat:=elimO o (some d) fun o => bindO (opd env o) natOf
theorem bound_e : @bound = @Go.Abs.bound:=by delta bound Go.Abs.bound; (try simp only [opd_e]); first | done | rfl
noncomputable def bounds (env:T AV) (lo hi mx:Option Operand) (len cap:Nat) (k:Nat → Nat → Nat → Option R) : Option R:=
  bindO (bound env mx cap) fun m => bindO (bound env hi len) fun h => bindO (bound env lo 0) fun l => guardB (andB (Nat.ble m cap) (andB (Nat.ble h m) (andB (Nat.ble l h) (orB (hasB hi) (notB (hasB mx)))))) (k l h m)
theorem bounds_e : @bounds = @Go.Abs.bounds:=by delta bounds Go.Abs.bounds; (try simp only [bound_e]); first | done | rfl
noncomputable def sSlice (t:TypeId) (x:Operand) (lo hi mx:Option Operand) : Sf:=fun C env H _ _ => bindO (opd env x) fun y =>
  (@AV.rec (fun _ => Option R) (fun _ => Unit) (fun _ => Unit) (fun _ => Unit) (fun _ => Unit) (fun _ => Unit) (fun _ => Unit) (fun z => (@Value.rec (fun _ => Option R) (fun _ => Unit) (fun _ => Unit) (fun _ => none) (fun _ _ => none) (fun _ _ => none) (fun _ _ _ => none) (fun s => guardB (andB (isString C t) (notB (hasB mx))) (bounds env lo hi none (lenL s.data.toList) (lenL s.data.toList) fun l h _ => forceL (dropL l (takeL h s.data.toList)) fun bs => A (.v (.string ⟨⟨bs⟩⟩)))) (fun _ => none) (fun a n c => guardB (nilSl z) (bindO (sliceElem C t) fun _ => bounds env lo hi mx 0 0 fun _ _ _ => A y)) (fun _ => none) (fun _ => none) (fun _ _ _ _ _ => none) (none) (fun _ _ _ => none) (none) (fun _ _ => none) (fun _ _ => none) (fun _ _ => ()) () (fun _ _ _ _ => ()) (z))) (fun b off => bindO (arrayElem C t) fun p => bindO (cellsOf H b) fun q => guardB (Nat.ble (Nat.add off (Nat.mul p.1 (cellsN C p.2))) q.2) (bounds env lo hi mx p.1 p.1 (cutHs [b] b off (cellsN C p.2) true))) (fun t' off _ => bindO (arrayElem C t) fun p => bounds env lo hi mx p.1 p.1 (cutVs t' off (cellsN C p.2) true)) (fun b off len es cap ex => bindO (sliceElem C t) fun e => guardB (Nat.beq es (cellsN C e)) (bounds env lo hi mx len cap (cutHs [] b off es (orB ex (hasB mx))))) (fun t' off len es cap ex _ => bindO (sliceElem C t) fun e => guardB (Nat.beq es (cellsN C e)) (bounds env lo hi mx len cap (cutVs t' off es (orB ex (hasB mx))))) (fun _ _ _ _ _ => none) (fun _ _ => none) (fun _ _ => none) (fun _ => none) (fun _ _ => none) (fun _ _ => ()) () (fun _ _ _ _ => ()) () (fun _ _ _ _ => ()) () (fun _ _ _ _ _ _ _ _ _ _ _ _ _ _ _ _ _ _ => ()) (fun _ _ _ _ => ()) () (fun _ _ => ()) (y))
theorem sSlice_e : @sSlice = @Go.Abs.sSlice:=by delta sSlice Go.Abs.sSlice; (try simp only [cellsN_eq,cellsOf_e,opd_e,sliceElem_e,arrayElem_e,isString_e,bounds_e]); first | done | rfl
noncomputable def sFieldAddr (t:TypeId) (x:Operand) (f:Nat) : Sf:=fun C env _ _ _ => bindO (fieldOf C t f) fun fd => guardB (Nat.ble 1 (cellsN C fd.type)) (bindO (opd env x) fun y =>
  (@AV.rec (fun _ => Option R) (fun _ => Unit) (fun _ => Unit) (fun _ => Unit) (fun _ => Unit) (fun _ => Unit) (fun _ => Unit) (fun _ => none) (fun b off => force (Nat.add off fd.offset) fun o => A (.hp b o)) (fun c off _ => force (Nat.add off fd.offset) fun o => A (.vp c o)) (fun _ _ _ _ _ _ => none) (fun _ _ _ _ _ _ _ => none) (fun _ _ _ _ _ => none) (fun _ _ => none) (fun _ _ => none) (fun _ => none) (fun _ _ => none) (fun _ _ => ()) () (fun _ _ _ _ => ()) () (fun _ _ _ _ => ()) () (fun _ _ _ _ _ _ _ _ _ _ _ _ _ _ _ _ _ _ => ()) (fun _ _ _ _ => ()) () (fun _ _ => ()) (y)))
theorem sFieldAddr_e : @sFieldAddr = @Go.Abs.sFieldAddr:=by delta sFieldAddr Go.Abs.sFieldAddr; (try simp only [cellsN_eq,opd_e,fieldOf_e]); first | done | rfl
noncomputable def part (C:Cx) (t:TypeId) (l:List AV) (off:Nat) : Option R:=
  ifB (aggOf C t) (guardB (Nat.ble (Nat.add off (cellsN C t)) (lenL l)) (forceL (takeL (cellsN C t) (dropL off l)) fun r => A (.agg r))) (guardB (knownT C t) (bindO (nthL l off) A))
theorem part_e : @part = @Go.Abs.part:=by delta part Go.Abs.part; (try simp only [cellsN_eq,aggOf_e,knownT_e]); first | done | rfl
noncomputable def sField (t:TypeId) (x:Operand) (f:Nat) : Sf:=fun C env _ _ _ => bindO (fieldOf C t f) fun fd => bindO (opd env x) fun y =>
  (@AV.rec (fun _ => Option R) (fun _ => Unit) (fun _ => Unit) (fun _ => Unit) (fun _ => Unit) (fun _ => Unit) (fun _ => Unit) (fun _ => none) (fun _ _ => none) (fun _ _ _ => none) (fun _ _ _ _ _ _ => none) (fun _ _ _ _ _ _ _ => none) (fun _ _ _ _ _ => none) (fun l _ => part C fd.type l fd.offset) (fun _ _ => none) (fun _ => none) (fun _ _ => none) (fun _ _ => ()) () (fun _ _ _ _ => ()) () (fun _ _ _ _ => ()) () (fun _ _ _ _ _ _ _ _ _ _ _ _ _ _ _ _ _ _ => ()) (fun _ _ _ _ => ()) () (fun _ _ => ()) (y))
theorem sField_e : @sField = @Go.Abs.sField:=by delta sField Go.Abs.sField; (try simp only [opd_e,fieldOf_e,part_e]); first | done | rfl
noncomputable def sIndexAddr (t:TypeId) (x i:Operand) : Sf:=fun C env _ _ _ => bindO (opd env x) fun y => bindO (opd env i) fun j => bindO (natOf j) fun n =>
  (@AV.rec (fun _ => Option R) (fun _ => Unit) (fun _ => Unit) (fun _ => Unit) (fun _ => Unit) (fun _ => Unit) (fun _ => Unit) (fun _ => none) (fun b off => bindO (arrayElem C t) fun p => guardB (Nat.ble (Nat.succ n) p.1) (force (Nat.add off (Nat.mul n (cellsN C p.2))) fun o => A (.hp b o))) (fun t' off _ => bindO (arrayElem C t) fun p => guardB (Nat.ble (Nat.succ n) p.1) (force (Nat.add off (Nat.mul n (cellsN C p.2))) fun o => A (.vp t' o))) (fun b off len _ _ _ => bindO (sliceElem C t) fun e => guardB (Nat.ble (Nat.succ n) len) (force (Nat.add off (Nat.mul n (cellsN C e))) fun o => A (.hp b o))) (fun t' off len _ _ _ _ => bindO (sliceElem C t) fun e => guardB (Nat.ble (Nat.succ n) len) (force (Nat.add off (Nat.mul n (cellsN C e))) fun o => A (.vp t' o))) (fun _ _ _ _ _ => none) (fun _ _ => none) (fun _ _ => none) (fun _ => none) (fun _ _ => none) (fun _ _ => ()) () (fun _ _ _ _ => ()) () (fun _ _ _ _ => ()) () (fun _ _ _ _ _ _ _ _ _ _ _ _ _ _ _ _ _ _ => ()) (fun _ _ _ _ => ()) () (fun _ _ => ()) (y))
theorem sIndexAddr_e : @sIndexAddr = @Go.Abs.sIndexAddr:=by delta sIndexAddr Go.Abs.sIndexAddr; (try simp only [cellsN_eq,opd_e,sliceElem_e,arrayElem_e]); first | done | rfl
noncomputable def sIndex (t:TypeId) (x i:Operand) : Sf:=fun C env _ _ _ => bindO (opd env x) fun y => bindO (opd env i) fun j => bindO (natOf j) fun n =>
  (@AV.rec (fun _ => Option R) (fun _ => Unit) (fun _ => Unit) (fun _ => Unit) (fun _ => Unit) (fun _ => Unit) (fun _ => Unit) (fun z => onString y none fun s => guardB (isString C t) (bindO (nthL s.data.toList n) fun b => force b.toNat fun m => A (.v (.int .u8 (.ofNat m))))) (fun _ _ => none) (fun _ _ _ => none) (fun _ _ _ _ _ _ => none) (fun _ _ _ _ _ _ _ => none) (fun _ _ _ _ _ => none) (fun l _ => bindO (arrayElem C t) fun p => guardB (Nat.ble (Nat.succ n) p.1) (part C p.2 l (Nat.mul n (cellsN C p.2)))) (fun _ _ => none) (fun _ => none) (fun _ _ => none) (fun _ _ => ()) () (fun _ _ _ _ => ()) () (fun _ _ _ _ => ()) () (fun _ _ _ _ _ _ _ _ _ _ _ _ _ _ _ _ _ _ => ()) (fun _ _ _ _ => ()) () (fun _ _ => ()) (y))
theorem sIndex_e : @sIndex = @Go.Abs.sIndex:=by delta sIndex Go.Abs.sIndex; (try simp only [cellsN_eq,opd_e,arrayElem_e,isString_e,part_e]); first | done | rfl
noncomputable def sExtract (x:Operand) (i:Nat) : Sf:=fun _ env _ _ _ => bindO (opd env x) fun y => (@AV.rec (fun _ => Option R) (fun _ => Unit) (fun _ => Unit) (fun _ => Unit) (fun _ => Unit) (fun _ => Unit) (fun _ => Unit) (fun _ => none) (fun _ _ => none) (fun _ _ _ => none) (fun _ _ _ _ _ _ => none) (fun _ _ _ _ _ _ _ => none) (fun _ _ _ _ _ => none) (fun _ _ => none) (fun l _ => bindO (nthL l i) A) (fun _ => none) (fun _ _ => none) (fun _ _ => ()) () (fun _ _ _ _ => ()) () (fun _ _ _ _ => ()) () (fun _ _ _ _ _ _ _ _ _ _ _ _ _ _ _ _ _ _ => ()) (fun _ _ _ _ => ()) () (fun _ _ => ()) (y))
theorem sExtract_e : @sExtract = @Go.Abs.sExtract:=by delta sExtract Go.Abs.sExtract; (try simp only [opd_e]); first | done | rfl
noncomputable def sToArray (arr:TypeId) (x:Operand) : Sf:=fun C env _ _ _ => bindO (arrayElem C arr) fun p => bindO (opd env x) fun y =>
  (@AV.rec (fun _ => Option R) (fun _ => Unit) (fun _ => Unit) (fun _ => Unit) (fun _ => Unit) (fun _ => Unit) (fun _ => Unit) (fun _ => none) (fun _ _ => none) (fun _ _ _ => none) (fun b off len _ _ _ => guardB (andB (Nat.ble p.1 len) (Nat.ble 1 p.1)) (A (.hp b off))) (fun t off len _ _ _ _ => guardB (andB (Nat.ble p.1 len) (Nat.ble 1 p.1)) (A (.vp t off))) (fun _ _ _ _ _ => none) (fun _ _ => none) (fun _ _ => none) (fun _ => none) (fun _ _ => none) (fun _ _ => ()) () (fun _ _ _ _ => ()) () (fun _ _ _ _ => ()) () (fun _ _ _ _ _ _ _ _ _ _ _ _ _ _ _ _ _ _ => ()) (fun _ _ _ _ => ()) () (fun _ _ => ()) (y))
theorem sToArray_e : @sToArray = @Go.Abs.sToArray:=by delta sToArray Go.Abs.sToArray; (try simp only [opd_e,arrayElem_e]); first | done | rfl
noncomputable def entries (H:T Blk) (m:AV) : Option (List (AV × AV) × List Nat):=
  (@AV.rec (fun _ => Option (List (AV × AV) × List Nat)) (fun _ => Unit) (fun _ => Unit) (fun _ => Unit) (fun _ => Unit) (fun _ => Unit) (fun _ => Unit) (fun x => (@Value.rec (fun _ => Option (List (AV × AV) × List Nat)) (fun _ => Unit) (fun _ => Unit) (fun _ => none) (fun _ _ => none) (fun _ _ => none) (fun _ _ _ => none) (fun _ => none) (fun _ => none) (fun _ _ _ => none) (fun a => elimO a (some ([],[])) fun _ => none) (fun _ => none) (fun _ _ _ _ _ => none) (none) (fun _ _ _ => none) (none) (fun _ _ => none) (fun _ _ => none) (fun _ _ => ()) () (fun _ _ _ _ => ()) (x))) (fun _ _ => none) (fun _ _ _ => none) (fun _ _ _ _ _ _ => none) (fun _ _ _ _ _ _ _ => none) (fun _ _ _ _ _ => none) (fun _ _ => none) (fun _ _ => none) (fun b => bindO (mapOf H b) fun l => some (l,[b])) (fun l _ => some (l,[])) (fun _ _ => ()) () (fun _ _ _ _ => ()) () (fun _ _ _ _ => ()) () (fun _ _ _ _ _ _ _ _ _ _ _ _ _ _ _ _ _ _ => ()) (fun _ _ _ _ => ()) () (fun _ _ => ()) (m))
theorem entries_e : @entries = @Go.Abs.entries:=by delta entries Go.Abs.entries; (try simp only [mapOf_e]); first | done | rfl
noncomputable def keyFits (C:Cx) (kt:TypeId) (key:Value) : Bool:=(@Value.rec (fun _ => Bool) (fun _ => Unit) (fun _ => Unit) (fun _ => false) (fun _ _ => hasB (intKind C kt)) (fun _ _ => false) (fun _ _ _ => false) (fun _ => isString C kt) (fun _ => false) (fun _ _ _ => false) (fun _ => false) (fun _ => false) (fun _ _ _ _ _ => false) (false) (fun _ _ _ => false) (false) (fun _ _ => false) (fun _ _ => false) (fun _ _ => ()) () (fun _ _ _ _ => ()) (key))
theorem keyFits_e : @keyFits = @Go.Abs.keyFits:=by delta keyFits Go.Abs.keyFits; (try simp only [isString_e,intKind_e]); first | done | rfl
noncomputable def sLookup (t:TypeId) (x i:Operand) (ok:Bool) : Sf:=fun C env H _ _ => bindO (keyed C t) fun ke => bindO (opd env x) fun m => bindO (opd env i) fun j => bindO (asV j) fun key =>
  guardB (keyFits C ke.1 key) (bindO (entries H m) fun es => bindO (findK key es.1) fun r =>
    elimO r (bindO (zeroOf C ke.2) fun z => some ⟨withOk ok false z,[],some es.2⟩) (fun y => some ⟨withOk ok true y,[],some es.2⟩))
theorem sLookup_e : @sLookup = @Go.Abs.sLookup:=by delta sLookup Go.Abs.sLookup; (try simp only [opd_e,zeroOf_e,keyed_e,entries_e,keyFits_e]); first | done | rfl
noncomputable def sMapUpdate (t:TypeId) (m k x:Operand) : Sf:=fun C env H _ _ => bindO (keyed C t) fun ke => bindO (opd env m) fun m => bindO (opd env k) fun j => bindO (asV j) fun key => bindO (opd env x) fun y => guardB (keyFits C ke.1 key)
  (@AV.rec (fun _ => Option R) (fun _ => Unit) (fun _ => Unit) (fun _ => Unit) (fun _ => Unit) (fun _ => Unit) (fun _ => Unit) (fun _ => none) (fun _ _ => none) (fun _ _ _ => none) (fun _ _ _ _ _ _ => none) (fun _ _ _ _ _ _ _ => none) (fun _ _ _ _ _ => none) (fun _ _ => none) (fun _ _ => none) (fun b => bindO (mapOf H b) fun l => bindO (updK key y l) fun l' => some ⟨.tuple [],[(b,.map l')],some [b]⟩) (fun _ _ => none) (fun _ _ => ()) () (fun _ _ _ _ => ()) () (fun _ _ _ _ => ()) () (fun _ _ _ _ _ _ _ _ _ _ _ _ _ _ _ _ _ _ => ()) (fun _ _ _ _ => ()) () (fun _ _ => ()) (m))
theorem sMapUpdate_e : @sMapUpdate = @Go.Abs.sMapUpdate:=by delta sMapUpdate Go.Abs.sMapUpdate; (try simp only [mapOf_e,opd_e,keyed_e,keyFits_e]); first | done | rfl
noncomputable def zeroFits (C:Cx) (e:TypeId) (es:Nat) : Bool:=elimO (zeroOf C e) false fun z => Nat.beq (lenL z.cells) es
theorem zeroFits_e : @zeroFits = @Go.Abs.zeroFits:=by delta zeroFits Go.Abs.zeroFits; (try simp only [zeroOf_e]); first | done | rfl
noncomputable def appFresh (C:Cx) (e:TypeId) (nb es need:Nat) (cells:List AV) (more:List (Nat × Blk)) (rd:List Nat) : Option R:=
  guardB (zeroFits C e es) (fillN cells fun t => force (Nat.mul need es) fun k => some ⟨.hs nb 0 need es need false,(nb,.cells t k)::more,some rd⟩)
theorem appFresh_e : @appFresh = @Go.Abs.appFresh:=by delta appFresh Go.Abs.appFresh; (try simp only [fillN_eq,zeroFits_e]); first | done | rfl
noncomputable def appTwo (C:Cx) (e:TypeId) (nb b es need:Nat) (cells old:List AV) (more:List (Nat × Blk)) (rd:List Nat) : Option R:=
  guardB (zeroFits C e es) (fillN cells fun t => fillN old fun t0 => some ⟨.hs nb 0 need es need false,appL more [(nb,.ro t b),(b,.ro t0 nb)],some rd⟩)
theorem appTwo_e : @appTwo = @Go.Abs.appTwo:=by delta appTwo Go.Abs.appTwo; (try simp only [fillN_eq,zeroFits_e]); first | done | rfl
noncomputable def bAppend (C:Cx) (H:T Blk) (nb:Nat) (st xt:TypeId) (s x:AV) : Option R:=
  bindO (sliceElem C st) fun elem => guardB (isSlice C xt) (bindO (lenA x) fun n => bindO (lenA s) fun sl => ifB (Nat.beq n 0) (A s)
    (force (cellsN C elem) fun es => bindO (srcCells H (Nat.mul n es) x) fun new => bindO (srcCells H (Nat.mul sl es) s) fun old => force (Nat.add sl n) fun need =>
      guardB (andB (Nat.ble (Nat.mul need (bytesN C elem)) 70368744177664) (andB (Nat.ble need 70368744177664) (allB oneCell new.1)))
        (@AV.rec (fun _ => Option R) (fun _ => Unit) (fun _ => Unit) (fun _ => Unit) (fun _ => Unit) (fun _ => Unit) (fun _ => Unit) (fun _ => appFresh C elem nb es need (appL old.1 new.1) [] (appL new.2 old.2)) (fun _ _ => none) (fun _ _ _ => none) (fun b off _ es' lo ex => guardB (Nat.beq es es') (ifB (Nat.ble need lo)
            (bindO (ownOf H b) fun p => guardB (Nat.ble (Nat.add off (Nat.mul need es)) p.2) (fill (Nat.add off (Nat.mul sl es)) p.1 new.1 fun t' => some ⟨.hs b off need es lo ex,[(b,.cells t' p.2)],some (appL new.2 old.2)⟩))
            (ifB ex (appFresh C elem nb es need (appL old.1 new.1) [] (appL new.2 old.2)) (guardB (Nat.beq off 0) (bindO (mateOf H b) fun m => elimO m
              (ifB (C.ro st) (appTwo C elem nb b es need (appL old.1 new.1) old.1 [] (appL new.2 old.2)) (appFresh C elem nb es need (appL old.1 new.1) [(b,.gone)] (appL new.2 old.2)))
              (fun p => guardB (notB (Nat.beq p b)) (appTwo C elem nb b es need (appL old.1 new.1) old.1 [(p,.gone)] (appL new.2 old.2)))))))) (fun _ _ _ _ lo ex _ => guardB (andB ex (Nat.ble (Nat.succ lo) need)) (appFresh C elem nb es need (appL old.1 new.1) [] (appL new.2 old.2))) (fun _ _ _ _ _ => none) (fun _ _ => none) (fun _ _ => none) (fun _ => none) (fun _ _ => none) (fun _ _ => ()) () (fun _ _ _ _ => ()) () (fun _ _ _ _ => ()) () (fun _ _ _ _ _ _ _ _ _ _ _ _ _ _ _ _ _ _ => ()) (fun _ _ _ _ => ()) () (fun _ _ => ()) (s))))
theorem bAppend_e : @bAppend = @Go.Abs.bAppend:=by delta bAppend Go.Abs.bAppend; (try simp only [fill_e,cellsN_eq,bytesN_eq,ownOf_e,mateOf_e,sliceElem_e,isSlice_e,srcCells_e,appFresh_e,appTwo_e]); first | done | rfl
noncomputable def bCopy (C:Cx) (H:T Blk) (dt:TypeId) (d x:AV) : Option R:=
  bindO (sliceElem C dt) fun elem => bindO (lenA d) fun dl => bindO (lenA x) fun xl => force (ifB (Nat.ble xl dl) xl dl) fun n => ifB (Nat.beq n 0) (A (.v (.int .i64 (.ofNat 0))))
    (bindO (srcCells H (Nat.mul n (cellsN C elem)) x) fun p => guardB (allB oneCell p.1)
      (@AV.rec (fun _ => Option R) (fun _ => Unit) (fun _ => Unit) (fun _ => Unit) (fun _ => Unit) (fun _ => Unit) (fun _ => Unit) (fun _ => none) (fun _ _ => none) (fun _ _ _ => none) (fun b off _ _ _ _ => bindO (ownOf H b) fun c => guardB (Nat.ble (Nat.add off (Nat.mul n (cellsN C elem))) c.2) (fill off c.1 p.1 fun t' => some ⟨.v (.int .i64 (.ofNat n)),[(b,.cells t' c.2)],some (b::p.2)⟩)) (fun _ _ _ _ _ _ _ => none) (fun _ _ _ _ _ => none) (fun _ _ => none) (fun _ _ => none) (fun _ => none) (fun _ _ => none) (fun _ _ => ()) () (fun _ _ _ _ => ()) () (fun _ _ _ _ => ()) () (fun _ _ _ _ _ _ _ _ _ _ _ _ _ _ _ _ _ _ => ()) (fun _ _ _ _ => ()) () (fun _ _ => ()) (d)))
theorem bCopy_e : @bCopy = @Go.Abs.bCopy:=by delta bCopy Go.Abs.bCopy; (try simp only [fill_e,cellsN_eq,ownOf_e,sliceElem_e,srcCells_e]); first | done | rfl
noncomputable def bClear (C:Cx) (H:T Blk) (dt:TypeId) (d:AV) : Option R:=
  bindO (sliceElem C dt) fun elem => bindO (lenA d) fun n => ifB (Nat.beq n 0) (A (.tuple []))
    (bindO (zeroOf C elem) fun z => guardB (andB (allB oneCell z.cells) (Nat.beq (lenL z.cells) (cellsN C elem)))
      (@AV.rec (fun _ => Option R) (fun _ => Unit) (fun _ => Unit) (fun _ => Unit) (fun _ => Unit) (fun _ => Unit) (fun _ => Unit) (fun _ => none) (fun _ _ => none) (fun _ _ _ => none) (fun b off _ _ _ _ => bindO (ownOf H b) fun c => guardB (Nat.ble (Nat.add off (Nat.mul n (cellsN C elem))) c.2) (fill off c.1 (zeros z.cells n) fun t' => some ⟨.tuple [],[(b,.cells t' c.2)],some [b]⟩)) (fun _ _ _ _ _ _ _ => none) (fun _ _ _ _ _ => none) (fun _ _ => none) (fun _ _ => none) (fun _ => none) (fun _ _ => none) (fun _ _ => ()) () (fun _ _ _ _ => ()) () (fun _ _ _ _ => ()) () (fun _ _ _ _ _ _ _ _ _ _ _ _ _ _ _ _ _ _ => ()) (fun _ _ _ _ => ()) () (fun _ _ => ()) (d)))
theorem bClear_e : @bClear = @Go.Abs.bClear:=by delta bClear Go.Abs.bClear; (try simp only [fill_e,cellsN_eq,ownOf_e,zeroOf_e,sliceElem_e]); first | done | rfl
noncomputable def bLen (C:Cx) (H:T Blk) (t:TypeId) (x:AV) : Option R:=
  (@AV.rec (fun _ => Option R) (fun _ => Unit) (fun _ => Unit) (fun _ => Unit) (fun _ => Unit) (fun _ => Unit) (fun _ => Unit) (fun z => onString x (guardB (andB (nilSl z) (isSlice C t)) (A (.v (.int .i64 (.ofNat 0))))) fun s => guardB (isString C t) (force (lenL s.data.toList) fun n => A (.v (.int .i64 (.ofNat n))))) (fun _ _ => none) (fun _ _ _ => none) (fun _ _ len _ _ _ => guardB (isSlice C t) (A (.v (.int .i64 (.ofNat len))))) (fun _ _ len _ _ _ _ => guardB (isSlice C t) (A (.v (.int .i64 (.ofNat len))))) (fun _ _ _ _ _ => none) (fun _ _ => bindO (arrayElem C t) fun p => A (.v (.int .i64 (.ofNat p.1)))) (fun _ _ => none) (fun b => bindO (keyed C t) fun _ => bindO (mapOf H b) fun l => force (lenL l) fun n => some ⟨.v (.int .i64 (.ofNat n)),[],some [b]⟩) (fun l _ => bindO (keyed C t) fun _ => force (lenL l) fun n => A (.v (.int .i64 (.ofNat n)))) (fun _ _ => ()) () (fun _ _ _ _ => ()) () (fun _ _ _ _ => ()) () (fun _ _ _ _ _ _ _ _ _ _ _ _ _ _ _ _ _ _ => ()) (fun _ _ _ _ => ()) () (fun _ _ => ()) (x))
theorem bLen_e : @bLen = @Go.Abs.bLen:=by delta bLen Go.Abs.bLen; (try simp only [mapOf_e,arrayElem_e,isString_e,isSlice_e,keyed_e]); first | done | rfl
noncomputable def sBuiltin (b:Builtin) (args:Array Operand) (ts:Array TypeId) : Sf:=fun C env H nb _ => bindO (opds env args.toList) fun l =>
  (@Builtin.rec (fun _ => Option R) (two l fun s x => two ts.toList fun st xt => bAppend C H nb st xt s x) (none) (one l fun d => one ts.toList fun dt => bClear C H dt d) (none) (none) (two l fun d x => two ts.toList fun dt _ => bCopy C H dt d x) (none) (none) (one l fun x => one ts.toList fun t => bLen C H t x) (none) (two l bMax) (two l bMin) (none) (none) (none) (none) (none) (none) (none) (none) (none) (none) (none) (none) (none) (none) (b))
theorem sBuiltin_e : @sBuiltin = @Go.Abs.sBuiltin:=by delta sBuiltin Go.Abs.sBuiltin; (try simp only [opds_e,bAppend_e,bCopy_e,bClear_e,bLen_e]); first | done | rfl
noncomputable def sCall (c:Call) : Sf:=(@Callee.rec (fun _ => Sf) (fun _ => sNone) (fun _ _ => sNone) (fun b => sBuiltin b c.args c.argTypes) (c.callee))
theorem sCall_e : @sCall = @Go.Abs.sCall:=by delta sCall Go.Abs.sCall; (try simp only [sBuiltin_e]); first | done | rfl
noncomputable def simple (o:Op) : Sf:=
  (@Op.rec (fun _ => Sf) (fun x => sMove x) (fun x => sMove x) (fun c a b => sPick c a b) (fun t => sAlloc t) (fun t x => sBox t x) (fun t ps => sBuild t ps) (fun t n ps => sBuildSlice t n ps) (fun _ _ _ _ => sNone) (fun t a => sLoad t a) (fun t a x => sStore t a x) (fun _ => sNone) (fun _ => sNone) (fun x => sNilCheck x) (fun op t x y u => sBin op t x y u) (fun op t x => sUn op t x) (fun s d x => sConvert s d x) (fun t x => sToArray t x) (fun _ _ => sNone) (fun f a b => sMakeFunc f a b) (fun t r => sMakeMap t r) (fun _ _ => sNone) (fun t l c => sMakeSlice t l c) (fun t x l h m => sSlice t x l h m) (fun t x f => sFieldAddr t x f) (fun t x f => sField t x f) (fun t x i => sIndexAddr t x i) (fun t x i => sIndex t x i) (fun t x i ok => sLookup t x i ok) (fun t m k x => sMapUpdate t m k x) (fun _ _ _ => sNone) (fun _ _ _ _ => sNone) (fun _ _ => sNone) (fun _ _ => sNone) (fun _ => sNone) (fun _ _ _ _ => sNone) (fun x i => sExtract x i) (fun c => sCall c) (fun _ => sNone) (fun _ => sNone) (fun _ => sNone) (fun _ _ => sNone) (fun _ _ _ => sNone) (fun _ _ => sNone) (o))
theorem simple_e : @simple = @Go.Abs.simple:=by delta simple Go.Abs.simple; (try simp only [sMove_e,sPick_e,sAlloc_e,sBox_e,sBuild_e,sBuildSlice_e,sLoad_e,sStore_e,sNilCheck_e,sBin_e,sUn_e,sConvert_e,sMakeFunc_e,sMakeSlice_e,sSlice_e,sFieldAddr_e,sField_e,sIndexAddr_e,sIndex_e,sExtract_e,sToArray_e,sLookup_e,sMapUpdate_e,sCall_e]); first | done | rfl
noncomputable def resCell (C:Cx) (H:T Blk) (ty:TypeId) (x:AV) : Option AV:=(@AV.rec (fun _ => Option AV) (fun _ => Unit) (fun _ => Unit) (fun _ => Unit) (fun _ => Unit) (fun _ => Unit) (fun _ => Unit) (fun _ => none) (fun b off => bindO (cellsOf H b) fun p => loadT C ty p.1 off) (fun _ _ _ => none) (fun _ _ _ _ _ _ => none) (fun _ _ _ _ _ _ _ => none) (fun _ _ _ _ _ => none) (fun _ _ => none) (fun _ _ => none) (fun _ => none) (fun _ _ => none) (fun _ _ => ()) () (fun _ _ _ _ => ()) () (fun _ _ _ _ => ()) () (fun _ _ _ _ _ _ _ _ _ _ _ _ _ _ _ _ _ _ => ()) (fun _ _ _ _ => ()) () (fun _ _ => ()) (x))
theorem resCell_e : @resCell = @Go.Abs.resCell:=by delta resCell Go.Abs.resCell; (try simp only [cellsOf_e,loadT_e]); first | done | rfl
noncomputable def resV (C:Cx) (env:T AV) (H:T Blk) (r:ResultVar) : Option AV:=(@ResultVar.rec (fun _ => Option AV) (fun t => elimO (getA env t) (some (.tuple [])) some) (fun a ty => bindO (getA env a) fun x => resCell C H ty x) (r))
theorem resV_e : @resV = @Go.Abs.resV:=by delta resV Go.Abs.resV; (try simp only [getA_eq,resCell_e]); first | done | rfl
noncomputable def resultOf (C:Cx) (env:T AV) (H:T Blk) (l:List ResultVar) : Option (List AV):=allM (resV C env H) l
theorem resultOf_e : @resultOf = @Go.Abs.resultOf:=by delta resultOf Go.Abs.resultOf; (try simp only [resV_e]); first | done | rfl
noncomputable def finPure (C:Cx) (fn:Func) (s:S) : CR:=
  S.rec (fun env H _ _ => elimO (bindO (resultOf C env H fn.results.toList) fun l => oneOf l (freeze H 0 20)) (.bad 5) (fun v => .value v (some []))) s
theorem finPure_e : @finPure = @Go.Abs.finPure:=by delta finPure Go.Abs.finPure; (try simp only [freeze_e,resultOf_e]); first | done | rfl
noncomputable def finHeap (C:Cx) (fn:Func) (keep:Bool) (nx low:Nat) (s:S) : CR:=
  S.rec (fun env H' nx' low' => elimO (resultOf C env H' fn.results.toList) (.bad 7) fun l => oneOf l fun r =>
    ifB (orB keep (Nat.ble (Nat.succ low') nx)) (force (minN low low') fun low => .heap r H' nx' low)
      (elimO (freezeTop H' nx 20 r) (force (minN low low') fun low => .heap r H' nx' low) (fun v => .value v none))) s
theorem finHeap_e : @finHeap = @Go.Abs.finHeap:=by delta finHeap Go.Abs.finHeap; (try simp only [freezeTop_e,resultOf_e]); first | done | rfl
noncomputable def gather (H:T Blk) (d:Nat) : AV → Option (List Nat):=
  Nat.rec (fun _ => none) (fun _ ih x => (@AV.rec (fun _ => Option (List Nat)) (fun _ => Unit) (fun _ => Unit) (fun _ => Unit) (fun _ => Unit) (fun _ => Unit) (fun _ => Unit) (fun _ => some []) (fun b _ => bindO (cellsOf H b) fun p => bindO (foldT ih p.1) fun l => some (b::l)) (fun _ _ _ => some []) (fun b _ _ _ _ _ => bindO (cellsOf H b) fun p => bindO (foldT ih p.1) fun l => some (b::l)) (fun _ _ _ _ _ _ _ => some []) (fun _ a b _ _ => bindO (foldL ih a) fun x => bindO (foldL ih b) fun y => some (appL x y)) (fun l _ => foldL ih l) (fun l _ => foldL ih l) (fun b => bindO (mapOf H b) fun m => bindO (foldL (fun p => ih p.2) m) fun l => some (b::l)) (fun _ _ => some []) (fun _ _ => ()) () (fun _ _ _ _ => ()) () (fun _ _ _ _ => ()) () (fun _ _ _ _ _ _ _ _ _ _ _ _ _ _ _ _ _ _ => ()) (fun _ _ _ _ => ()) () (fun _ _ => ()) (x))) d
theorem gather_e : @gather = @Go.Abs.gather:=by delta gather Go.Abs.gather; (try simp only [cellsOf_e,mapOf_e]); first | done | rfl
noncomputable def finFresh (C:Cx) (fn:Func) (nx:Nat) (s:S) : CR:=
  S.rec (fun env H nx' _ => elimO (resultOf C env H fn.results.toList) (.bad 7) fun l => oneOf l fun r =>
    elimO (bindO (gather H 20 r) fun bs => allM (fun b => bindO (getB H b) fun k => guardB (Nat.ble nx b) (some (b,k))) bs) (.bad 9) fun us => .fresh r us nx') s
theorem finFresh_e : @finFresh = @Go.Abs.finFresh:=by delta finFresh Go.Abs.finFresh; (try simp only [getB_eq,resultOf_e,gather_e]); first | done | rfl
noncomputable def enterWith (C:Cx) (run:Code → S → Out) (f:FuncId) (args:List AV) (H:T Blk) (nx low:Nat) (fn:Func) (c:Code) : CR:=
  fillN args fun env =>
    ifB (andB (allB (flat 4) args) (notB (C.nf f)))
      (doneWith (finPure C fn) (run c ⟨env,T.nil,0,far⟩))
      (ifB (allB (flat 4) args) (doneWith (finFresh C fn nx) (run c ⟨env,T.nil,nx,far⟩)) (doneWith (finHeap C fn (C.nf f) nx low) (run c ⟨env,H,nx,far⟩)))
theorem enterWith_e : @enterWith = @Go.Abs.enterWith:=by delta enterWith Go.Abs.enterWith; (try simp only [fillN_eq,finPure_e,finHeap_e,finFresh_e]); first | done | rfl
noncomputable def callWith (C:Cx) (run:Code → S → Out) (f:FuncId) (args:List AV) (H:T Blk) (nx low:Nat) : CR:=
  elimO (C.ext f args) (elimO (funcOf C f) (.bad 1) fun p => ifB (Nat.ble (lenL args) p.1.ntmps) (enterWith C run f args H nx low p.1 p.2) (.bad 2)) (fun v => .value v (some []))
theorem callWith_e : @callWith = @Go.Abs.callWith:=by delta callWith Go.Abs.callWith; (try simp only [enterWith_e]); first | done | rfl
noncomputable def guardOk (env:T AV) (ops:Array Oper) (j:Nat) (want:Bool) : Bool:=
  elimO (guardDst ops j) false fun d => elimO (bindO (getA env d) boolOf) false fun b => ifB want b (notB b)
theorem guardOk_e : @guardOk = @Go.Abs.guardOk:=by delta guardOk Go.Abs.guardOk; (try simp only [getA_eq]); first | done | rfl
noncomputable def wanted (env:T AV) (ops:Array Oper) (o:Oper) : Bool:=elimO o.guard true fun g => guardOk env ops g.1 g.2
theorem wanted_e : @wanted = @Go.Abs.wanted:=by delta wanted Go.Abs.wanted; (try simp only [guardOk_e]); first | done | rfl
noncomputable def calleeArgs (env:T AV) (f:Operand) (args:Array Operand) : Option (FuncId × List AV):=
  bindO (opd env f) fun x => bindO (opds env args.toList) fun l =>
    (@AV.rec (fun _ => Option (FuncId × List AV)) (fun _ => Unit) (fun _ => Unit) (fun _ => Unit) (fun _ => Unit) (fun _ => Unit) (fun _ => Unit) (fun _ => none) (fun _ _ => none) (fun _ _ _ => none) (fun _ _ _ _ _ _ => none) (fun _ _ _ _ _ _ _ => none) (fun g first cap _ _ => (@Fn.rec (fun _ => Option (FuncId × List AV)) (fun k => forceL (appL first (appL l cap)) fun l => some (k,l)) (fun _ => none) (fun _ _ => none) (fun _ _ _ _ => none) (fun _ => none) (g))) (fun _ _ => none) (fun _ _ => none) (fun _ => none) (fun _ _ => none) (fun _ _ => ()) () (fun _ _ _ _ => ()) () (fun _ _ _ _ => ()) () (fun _ _ _ _ _ _ _ _ _ _ _ _ _ _ _ _ _ _ => ()) (fun _ _ _ _ => ()) () (fun _ _ => ()) (x))
theorem calleeArgs_e : @calleeArgs = @Go.Abs.calleeArgs:=by delta calleeArgs Go.Abs.calleeArgs; (try simp only [opd_e,opds_e]); first | done | rfl
noncomputable def putK {β:Type} (env:T AV) (d:Option Tmp) (v:AV) (k:T AV → β) : β:=elimO d (k env) fun d => setA d v env k
theorem putK_e : @putK = @Go.Abs.putK:=by delta putK Go.Abs.putK; (try simp only [setA_eq]); first | done | rfl
noncomputable def stepCall (C:Cx) (run:Code → S → Out) (dst:Option Tmp) (f:Operand) (args:Array Operand) (env:T AV) (H:T Blk) (nx low:Nat) : StepR:=
  elimO (calleeArgs env f args) (.bad 99) fun p => ifB (C.bor p.1)
    (elimO (lendL H p.2) (.bad 97) fun q => (@CR.rec (fun _ => StepR) (fun v rd => elimO rd (.bad 97) fun _ => ifB (plainA v) (putK env dst v fun env => .ok ⟨env,H,nx,low⟩ ⟨some q.2,some [],false⟩) (.bad 97)) (fun _ _ _ _ => .bad 97) (fun v us nx => ifB (andB (lentV v) (allB lentB us)) (putK env dst v fun env => ups H us fun H => force (lower low us) fun low => .ok ⟨env,H,nx,low⟩ ⟨some q.2,some (us.map (·.1)),true⟩) (.bad 97)) (fun _ => .bad 97) (callWith C run p.1 q.1 T.nil nx low)))
    (@CR.rec (fun _ => StepR) (fun v rd => putK env dst v fun env => .ok ⟨env,H,nx,low⟩ ⟨rd,some [],false⟩) (fun v H nx low => putK env dst v fun env => .ok ⟨env,H,nx,low⟩ ⟨none,none,true⟩) (fun v us nx => putK env dst v fun env => ups H us fun H => force (lower low us) fun low => .ok ⟨env,H,nx,low⟩ ⟨some [],some (us.map (·.1)),true⟩) (fun w => .bad w) (callWith C run p.1 p.2 H nx low))
theorem stepCall_e : @stepCall = @Go.Abs.stepCall:=by delta stepCall Go.Abs.stepCall; (try simp only [ups_e,lendL_e,callWith_e,calleeArgs_e,putK_e]); first | done | rfl
noncomputable def stepMore (dst:Option Tmp) (env:T AV) (H:T Blk) (nx low:Nat) (v:AV) (us:List (Nat × Blk)) (rd:Option (List Nat)) : StepR:=
  putK env dst v fun env => ups H us fun H => force (lower low us) fun low => .ok ⟨env,H,nx,low⟩ ⟨rd,some (us.map (·.1)),false⟩
noncomputable def stepSimple (dst:Option Tmp) (r:Option R) (env:T AV) (H:T Blk) (nx low:Nat) : StepR:=
  elimO r (.bad 98) fun r => R.rec (fun v us rd => @List.rec (Nat × Blk) (fun _ => StepR) (putK env dst v fun env => .ok ⟨env,H,nx,low⟩ ⟨rd,some [],false⟩) (fun x l _ => stepMore dst env H nx low v (x::l) rd) us) r
theorem stepSimple_e : @stepSimple = @Go.Abs.stepSimple:=by
  delta stepSimple Go.Abs.stepSimple stepMore
  simp only [putK_e,ups_e]
  funext dst r env H nx low
  cases r with
  | none => rfl
  | some r => obtain ⟨v,us,rd⟩:=r; cases us <;> rfl
noncomputable def stepAny (C:Cx) (run:Code → S → Out) (nb:Nat) (o:Oper) (env:T AV) (H:T Blk) (nx low:Nat) : StepR:=
  elimO (callOf o.op) (stepSimple o.dst (simple o.op C env H nb o.type) env H nx low) fun p => stepCall C run o.dst p.1 p.2 env H nx low
theorem stepAny_e : @stepAny = @Go.Abs.stepAny:=by delta stepAny Go.Abs.stepAny; (try simp only [simple_e,stepCall_e,stepSimple_e]); first | done | rfl
noncomputable def stepOp (C:Cx) (run:Code → S → Out) (ops:Array Oper) (nb:Nat) (o:Oper) (s:S) : StepR:=
  S.rec (fun env H nx low => ifB (wanted env ops o) (stepAny C run nb o env H nx low) (putK env o.dst (.tuple []) fun env => .ok ⟨env,H,nx,low⟩ ⟨some [],some [],false⟩)) s
theorem stepOp_e : @stepOp = @Go.Abs.stepOp:=by delta stepOp Go.Abs.stepOp; (try simp only [wanted_e,putK_e,stepAny_e]); first | done | rfl
noncomputable def steps (C:Cx) (run:Code → S → Out) (ops:Array Oper) (base:Nat) (l:List Oper) : Nat → S → List Foot → StepsR:=
  List.rec (fun _ s fs => .ok s fs) (fun o _ ih i s fs => (@StepR.rec (fun _ => StepsR) (fun s' f => ih (Nat.succ i) s' (f::fs)) (fun w => .bad (ifB (Nat.ble w 999) (Nat.add w (Nat.mul 1000 (Nat.succ i))) w)) (stepOp C run ops (Nat.add base i) o s))) l
theorem steps_e : @steps = @Go.Abs.steps:=by delta steps Go.Abs.steps; (try simp only [stepOp_e]); first | done | rfl
noncomputable def region (C:Cx) (run:Code → S → Out) (id:Nat) (ops:Array Oper) (draw:Bool) (s:S) : Out:=
  S.rec (fun env H nx0 low => force (Nat.add nx0 (lenL ops.toList)) fun nx =>
    (@StepsR.rec (fun _ => Out) (fun s' fs => ifB draw (ifB (andB (regionOk ops) (noClash fs.reverse (openPairs ops))) (.nrm s') (.bad (Nat.add 900000 id))) (.nrm s')) (fun w => .bad (Nat.add w (Nat.mul 1000000 id))) (steps C run ops nx0 ops.toList 0 ⟨env,H,nx,low⟩ []))) s
theorem region_e : @region = @Go.Abs.region:=by delta region Go.Abs.region; (try simp only [noClash_e,steps_e]); first | done | rfl
noncomputable def rRegion (id:Nat) (ops:Array Oper) (draw:Bool) : Cf:=fun C run s => region C run id ops draw s
theorem rRegion_e : @rRegion = @Go.Abs.rRegion:=by delta rRegion Go.Abs.rRegion; (try simp only [region_e]); first | done | rfl
noncomputable def rCond (c:Operand) (a b:Code) : Cf:=fun _ run s => S.rec (fun env H nx low => elimO (bindO (opd env c) boolOf) (.bad 101) fun x => run (ifB x a b) ⟨env,H,nx,low⟩) s
theorem rCond_e : @rCond = @Go.Abs.rCond:=by delta rCond Go.Abs.rCond; (try simp only [opd_e]); first | done | rfl
noncomputable def runWith (C:Cx) (run:Code → S → Out) (c:Code) (s:S) : Out:=
  (@Code.rec (fun _ => Cf) (rSkip) (fun id ops draw => rRegion id ops draw) (fun a b _ _ => rSeq a b) (fun c a b _ _ => rCond c a b) (fun id a _ => rBlock id a) (fun a _ => rLoop a) (fun _ _ _ _ _ _ => rBad) (fun id => rExit id) (fun a _ => rScope a) (fun _ => rSkip) (fun _ => rBad) (rRet) (fun _ => rBad) (c)) C run s
theorem runWith_e : @runWith = @Go.Abs.runWith:=by delta runWith Go.Abs.runWith; (try simp only [region_e,rRegion_e,rCond_e]); first | done | rfl
noncomputable def run (C:Cx) (n:Nat) : Code → S → Out:=Nat.rec (fun _ _ => .bad 0) (fun _ ih => runWith C ih) n
theorem run_e : @run = @Go.Abs.run:=by delta run Go.Abs.run; (try simp only [runWith_e]); first | done | rfl
noncomputable def call (C:Cx) (n:Nat) (f:FuncId) (args:List AV) : CR:=callWith C (run C n) f args T.nil 0 far
theorem call_e : @call = @Go.Abs.call:=by delta call Go.Abs.call; (try simp only [callWith_e,run_e]); first | done | rfl
end Go.Abs.Fast
