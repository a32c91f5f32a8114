/- NUMBERS THAT ARE NOT KNOWN: the evaluator over data in which unknown numbers stand; every decision is given ahead, and what it asks is written down. -/
import Derived.Test.YtcgnkejpcjcaoaaGreatEvLast
set_option linter.unusedSimpArgs false
set_option linter.unusedVariables false
namespace Go.Abs
abbrev Es:=FuncId → List AV → Option (AV × Bool)
abbrev Ob:=List (Bool × Bool)
inductive Dc where
  | c | t | f
  | r (g:Nat) (v:AV)
  | l (x:AV)
  | i
  | a
  | s (t:T AV) (n:Nat)
  | o (n:Nat) (r:R)
noncomputable def claimB (p:Prop) : Bool:=@decide p (Classical.propDecidable p)
theorem claimB_t {p:Prop} : claimB p = true ↔ p:=by unfold claimB; exact @decide_eq_true_iff p (Classical.propDecidable p)
def Met : Ob → Prop
  | [] => True
  | p::l => p.1 = p.2 ∧ Met l
noncomputable def forceCell {β:Type} (x:AV) (k:AV → β) : β:=(@AV.rec (fun _ => β) (fun _ => Unit) (fun _ => Unit) (fun _ => Unit) (fun _ => Unit) (fun _ => Unit) (fun _ => Unit) (fun z => (@Value.rec (fun _ => β) (fun _ => Unit) (fun _ => Unit) (fun b => forceB b fun b => k (.v (.bool b))) (fun kd n => forceI n fun n => k (.v (.int kd n))) (fun _ _ => k x) (fun _ _ _ => k x) (fun _ => k x) (fun _ => k x) (fun _ _ _ => k x) (fun _ => k x) (fun _ => k x) (fun _ _ _ _ _ => k x) (k x) (fun _ _ _ => k x) (k x) (fun _ _ => k x) (fun _ _ => k x) (fun _ _ => ()) () (fun _ _ _ _ => ()) (z))) (fun _ _ => k x) (fun _ _ _ => k x) (fun _ _ _ _ _ _ => k x) (fun _ _ _ _ _ _ _ => k x) (fun _ _ _ _ _ => k x) (fun _ _ => k x) (fun _ _ => k x) (fun _ => k x) (fun _ _ => k x) (fun _ _ => ()) () (fun _ _ _ _ => ()) () (fun _ _ _ _ => ()) () (fun _ _ _ _ _ _ _ _ _ _ _ _ _ _ _ _ _ _ => ()) (fun _ _ _ _ => ()) () (fun _ _ => ()) (x))
noncomputable def forceAll {β:Type} (f:AV → (AV → β) → β) (l:List AV) (k:List AV → β) : β:=
  List.rec (motive:=fun _ => (List AV → β) → β) (fun k => k []) (fun x _ ih k => f x fun y => ih fun r => k (y::r)) l k
noncomputable def forceAgg {β:Type} (x:AV) (k:AV → β) : β:=(@AV.rec (fun _ => β) (fun _ => Unit) (fun _ => Unit) (fun _ => Unit) (fun _ => Unit) (fun _ => Unit) (fun _ => Unit) (fun _ => forceCell x k) (fun _ _ => forceCell x k) (fun _ _ _ => forceCell x k) (fun _ _ _ _ _ _ => forceCell x k) (fun _ _ _ _ _ _ _ => forceCell x k) (fun _ _ _ _ _ => forceCell x k) (fun l _ => forceAll forceCell l fun l => k (.agg l)) (fun _ _ => forceCell x k) (fun _ => forceCell x k) (fun _ _ => forceCell x k) (fun _ _ => ()) () (fun _ _ _ _ => ()) () (fun _ _ _ _ => ()) () (fun _ _ _ _ _ _ _ _ _ _ _ _ _ _ _ _ _ _ => ()) (fun _ _ _ _ => ()) () (fun _ _ => ()) (x))
noncomputable def forceV {β:Type} (x:AV) (k:AV → β) : β:=(@AV.rec (fun _ => β) (fun _ => Unit) (fun _ => Unit) (fun _ => Unit) (fun _ => Unit) (fun _ => Unit) (fun _ => Unit) (fun _ => forceAgg x k) (fun _ _ => forceAgg x k) (fun _ _ _ => forceAgg x k) (fun _ _ _ _ _ _ => forceAgg x k) (fun _ _ _ _ _ _ _ => forceAgg x k) (fun _ _ _ _ _ => forceAgg x k) (fun _ _ => forceAgg x k) (fun l _ => forceAll forceAgg l fun l => k (.tuple l)) (fun _ => forceAgg x k) (fun _ _ => forceAgg x k) (fun _ _ => ()) () (fun _ _ _ _ => ()) () (fun _ _ _ _ => ()) () (fun _ _ _ _ _ _ _ _ _ _ _ _ _ _ _ _ _ _ => ()) (fun _ _ _ _ => ()) () (fun _ _ => ()) (x))
theorem forceCell_eq {β:Type} (x:AV) (k:AV → β) : forceCell x k = k x:=by
  cases x with
  | v z => cases z with
    | int kd n => exact forceI_eq n fun n => k (.v (.int kd n))
    | bool b => exact forceB_eq b fun b => k (.v (.bool b))
    | _ => rfl
  | _ => rfl
theorem forceAll_eq {β:Type} {f:AV → (AV → β) → β} (hf : ∀ x k,f x k = k x) (l:List AV) : ∀ k,forceAll f l k = k l:=by
  induction l with
  | nil => intro k; rfl
  | cons x l ih => intro k; show f x (fun y => forceAll f l fun r => k (y::r)) = _; rw [hf,ih]
theorem forceAgg_eq {β:Type} (x:AV) (k:AV → β) : forceAgg x k = k x:=by
  cases x with
  | agg l => exact forceAll_eq forceCell_eq l _
  | v z => exact forceCell_eq (.v z) k
  | _ => rfl
theorem forceV_eq {β:Type} (x:AV) (k:AV → β) : forceV x k = k x:=by
  cases x with
  | tuple l => exact forceAll_eq forceAgg_eq l _
  | agg l => exact forceAgg_eq (.agg l) k
  | v z => exact forceAgg_eq (.v z) k
  | _ => rfl
noncomputable def extOf (E:Es) (f:FuncId) (l:List AV) : Option AV:=bindO (E f l) fun q => Prod.rec (fun v c => guardB c (forceV v some)) q
theorem extOf_some {E:Es} {f:FuncId} {l:List AV} {v:AV} : extOf E f l = some v ↔ E f l = some (v,true):=by
  unfold extOf
  rw [bindO_some]
  constructor
  · rintro ⟨⟨u,c⟩,h1,h2⟩
    replace h2 : guardB c (forceV u some) = some v:=h2
    rw [forceV_eq,guardB_some] at h2
    obtain ⟨rfl,h2⟩:=h2
    cases h2; exact h1
  · intro h
    refine ⟨_,h,?_⟩
    show guardB true (forceV v some) = some v
    rw [forceV_eq]; rfl
noncomputable def branch {β:Type} (x:Bool) (ds:List Dc) (ob:Ob) (k:Bool → List Dc → Ob → Option β) : Option β:=
  List.rec (ifB x (k true [] ob) (k false [] ob)) (fun d ds _ => Dc.rec (ifB x (k true ds ob) (k false ds ob)) (k true ds ((x,true)::ob)) (k false ds ((x,false)::ob)) (fun g v => ifB x (k true (.r g v::ds) ob) (k false (.r g v::ds) ob)) (fun y => ifB x (k true (.l y::ds) ob) (k false (.l y::ds) ob)) (ifB x (k true (.i::ds) ob) (k false (.i::ds) ob)) (ifB x (k true (.a::ds) ob) (k false (.a::ds) ob)) (fun t m => ifB x (k true (.s t m::ds) ob) (k false (.s t m::ds) ob)) (fun m r => ifB x (k true (.o m r::ds) ob) (k false (.o m r::ds) ob)) d) ds
noncomputable def guardV (env:T AV) (ops:Array Oper) (j:Nat) : Option Bool:=bindO (guardDst ops j) fun d => bindO (env.get d) boolOf
noncomputable def cmpD (op:BinOp) (a b:Int) : Option AV:=
  (@BinOp.rec (fun _ => Option AV) (none) (none) (none) (none) (none) (none) (none) (none) (none) (none) (none) (some (.v (.bool (eqI a b)))) (some (.v (.bool (notB (eqI a b))))) (some (.v (.bool (ltI a b)))) (some (.v (.bool (notB (ltI b a))))) (some (.v (.bool (ltI b a)))) (some (.v (.bool (notB (ltI a b))))) (op))
noncomputable def small (a:Nat) : Bool:=Nat.ble a 18446744073709551615
noncomputable def natD (op:BinOp) (k:IntKind) (a b:Nat) : Option (AV × Ob):=guardB (Nat.beq (kindNo k) 7)
  (@BinOp.rec (fun _ => Option (AV × Ob)) (none) (some (.v (.int .u64 (.ofNat (Nat.sub a b))),[(Nat.ble b a,true),(small a,true)])) (none) (some (.v (.int .u64 (.ofNat (Nat.div a b))),[(Nat.beq b 0,false),(small a,true)])) (some (.v (.int .u64 (.ofNat (Nat.mod a b))),[(Nat.beq b 0,false)])) (none) (none) (none) (none) (none) (none) (none) (none) (none) (none) (none) (none) (op))
noncomputable def intD (op:BinOp) (k:IntKind) (a b:Int) : Option (AV × Ob):=
  elimO (cmpD op a b) (Int.rec (fun x => Int.rec (fun y => natD op k x y) (fun _ => none) b) (fun _ => none) a) fun v => some (v,[])
noncomputable def binD (C:Cx) (op:BinOp) (t:TypeId) (xo yo:Operand) (x y:AV) : Option (AV × Ob):=
  elimO (onInt x none fun k a => onInt y none fun k' b => guardB (eqK k k') (intD op k a b)) (bindO (bin C op t xo yo x y) fun v => some (v,[])) some
noncomputable def putD {α:Type} (s:S) (d:Option Tmp) (v:AV) (k:S → α) : α:=S.rec (fun env H nx low => putK env d v fun env => k ⟨env,H,nx,low⟩) s
abbrev DR:=S × Foot × List Dc × Ob
noncomputable def simpleC (C:Cx) (nb:Nat) (o:Oper) (s:S) (ds:List Dc) (ob:Ob) : Option DR:=
  S.rec (fun env H nx low => bindO (simple o.op C env H nb o.type) fun r => R.rec (fun v us rd => putK env o.dst v fun env => some (⟨env,upsT H us,nx,lower low us⟩,⟨rd,some (us.map (·.1)),false⟩,ds,ob)) r) s
noncomputable def simpleU (C:Cx) (nb:Nat) (o:Oper) (r:R) (s:S) (ds:List Dc) (ob:Ob) : Option DR:=
  S.rec (fun env H nx low => putK env o.dst r.v fun env' => some (⟨env',upsT H r.ups,nx,lower low r.ups⟩,⟨r.rd,some (r.ups.map (·.1)),false⟩,ds,(claimB (simple o.op C env H nb o.type = some r),true)::ob)) s
noncomputable def takeO {β:Type} (ds:List Dc) (n:List Dc → β) (k:R → List Dc → β) : β:=
  List.rec (n []) (fun d ds' _ => Dc.rec (n ds) (n ds) (n ds) (fun _ _ => n ds) (fun _ => n ds) (n ds) (n ds) (fun _ _ => n ds) (fun m r => Nat.rec (k r ds') (fun m _ => n (.o m r::ds')) m) d) ds
noncomputable def simpleD (C:Cx) (nb:Nat) (o:Oper) (s:S) (ds:List Dc) (ob:Ob) : Option DR:=
  takeO ds (fun ds => simpleC C nb o s ds ob) fun r ds => simpleU C nb o r s ds ob
abbrev Rc:=FuncId → List AV → T Blk → Nat → Nat → List Dc → Ob → Option (CR × List Dc × Ob)
noncomputable def takeR {β:Type} (f:Nat) (ds:List Dc) (n : β) (k:AV → List Dc → β) : β:=List.rec n (fun d ds _ => Dc.rec n n n (fun g v => ifB (Nat.beq g f) (k v ds) n) (fun _ => n) n n (fun _ _ => n) (fun _ _ => n) d) ds
noncomputable def callD (C:Cx) (E:Es) (rc:Rc) (o:Oper) (f:Operand) (args:Array Operand) (s:S) (ds:List Dc) (ob:Ob) : Option DR:=
  bindO (calleeArgs (S.env s) f args) fun p => guardB (notB (C.bor p.1)) (takeR p.1 ds (elimO (E p.1 p.2) (S.rec (fun env H nx low => bindO (rc p.1 p.2 H nx low ds ob) fun r => (@CR.rec (fun _ => Option DR) (fun v rd => putK env o.dst v fun env => some (⟨env,H,nx,low⟩,⟨rd,some [],false⟩,r.2.1,r.2.2)) (fun v H nx low => putK env o.dst v fun env => some (⟨env,H,nx,low⟩,⟨none,none,true⟩,r.2.1,r.2.2)) (fun v us nx => putK env o.dst v fun env => Go.Abs.ups H us fun H => force (lower low us) fun low => some (⟨env,H,nx,low⟩,⟨some [],some (us.map (·.1)),true⟩,r.2.1,r.2.2)) (fun _ => none) (r.1))) s)
    fun q => putD s o.dst q.1 fun s => some (s,⟨some [],some [],false⟩,ds,(q.2,true)::ob)) fun v ds' => putD s o.dst v fun s => some (s,⟨some [],some [],false⟩,ds',(claimB (E p.1 p.2 = some (v,true)),true)::ob))
noncomputable def pickD (o:Oper) (c a b:Operand) (s:S) (ds:List Dc) (ob:Ob) : Option DR:=
  bindO (opd (S.env s) c) fun x => bindO (boolOf x) fun y => branch y ds ob fun d ds ob => bindO (opd (S.env s) (ifB d a b)) fun v => putD s o.dst v fun s => some (s,⟨some [],some [],false⟩,ds,ob)
noncomputable def binopD (C:Cx) (o:Oper) (op:BinOp) (t:TypeId) (x y:Operand) (s:S) (ds:List Dc) (ob:Ob) : Option DR:=
  bindO (opd (S.env s) x) fun a => bindO (opd (S.env s) y) fun b => bindO (binD C op t x y a b) fun q => putD s o.dst q.1 fun s => some (s,⟨some [],some [],false⟩,ds,q.2 ++ ob)
noncomputable def takeL' {β:Type} (ds:List Dc) (n : β) (k:AV → List Dc → β) : β:=List.rec n (fun d ds _ => Dc.rec n n n (fun _ _ => n) (fun x => k x ds) n n (fun _ _ => n) (fun _ _ => n) d) ds
noncomputable def takeI {β:Type} (ds:List Dc) (n : β) (k:List Dc → β) : β:=List.rec n (fun d ds _ => Dc.rec n n n (fun _ _ => n) (fun _ => n) (k ds) n (fun _ _ => n) (fun _ _ => n) d) ds
noncomputable def takeA {β:Type} (ds:List Dc) (n : β) (k:List Dc → β) : β:=List.rec n (fun d ds _ => Dc.rec n n n (fun _ _ => n) (fun _ => n) n (k ds) (fun _ _ => n) (fun _ _ => n) d) ds
noncomputable def loadD (C:Cx) (nb:Nat) (o:Oper) (t:TypeId) (a:Operand) (s:S) (ds:List Dc) (ob:Ob) : Option DR:=
  takeL' ds (simpleD C nb o s ds ob) fun x ds' => bindO (opd (S.env s) a) fun p => (@AV.rec (fun _ => Option DR) (fun _ => Unit) (fun _ => Unit) (fun _ => Unit) (fun _ => Unit) (fun _ => Unit) (fun _ => Unit) (fun _ => none) (fun b off => putD s o.dst x fun s' => some (s',⟨some [b],some [],false⟩,ds',(claimB (bindO (cellsOf (S.H s) b) (fun p => loadT C t p.1 off) = some x),true)::ob)) (fun c off _ => putD s o.dst x fun s => some (s,⟨some [],some [],false⟩,ds',(claimB (loadT C t c off = some x),true)::ob)) (fun _ _ _ _ _ _ => none) (fun _ _ _ _ _ _ _ => none) (fun _ _ _ _ _ => none) (fun _ _ => none) (fun _ _ => none) (fun _ => none) (fun _ _ => none) (fun _ _ => ()) () (fun _ _ _ _ => ()) () (fun _ _ _ _ => ()) () (fun _ _ _ _ _ _ _ _ _ _ _ _ _ _ _ _ _ _ => ()) (fun _ _ _ _ => ()) () (fun _ _ => ()) (p))
noncomputable def takeS {β:Type} (ds:List Dc) (n : β) (k:T AV → Nat → List Dc → β) : β:=List.rec n (fun d ds _ => Dc.rec n n n (fun _ _ => n) (fun _ => n) n n (fun t m => k t m ds) (fun _ _ => n) d) ds
noncomputable def storeD (C:Cx) (nb:Nat) (o:Oper) (t:TypeId) (a x:Operand) (s:S) (ds:List Dc) (ob:Ob) : Option DR:=
  takeS ds (simpleD C nb o s ds ob) fun c n ds' => S.rec (fun env H nx low => bindO (opd env a) fun p => bindO (opd env x) fun y =>
    (@AV.rec (fun _ => Option DR) (fun _ => Unit) (fun _ => Unit) (fun _ => Unit) (fun _ => Unit) (fun _ => Unit) (fun _ => Unit) (fun _ => none) (fun b off => guardB (andB (okT C t) (andB (Nat.beq (lenL y.cells) (C.P.cellsOf t)) (andB (Nat.ble (Nat.add off (lenL y.cells)) n) (allB oneCell y.cells))))
      (putK env o.dst (.tuple []) fun env => some (⟨env,upsT H [(b,.cells (fillT off c y.cells) n)],nx,lower low [(b,.cells (fillT off c y.cells) n)]⟩,⟨some [b],some [b],false⟩,ds',(claimB (ownOf H b = some (c,n)),true)::ob))) (fun _ _ _ => none) (fun _ _ _ _ _ _ => none) (fun _ _ _ _ _ _ _ => none) (fun _ _ _ _ _ => none) (fun _ _ => none) (fun _ _ => none) (fun _ => none) (fun _ _ => none) (fun _ _ => ()) () (fun _ _ _ _ => ()) () (fun _ _ _ _ => ()) () (fun _ _ _ _ _ _ _ _ _ _ _ _ _ _ _ _ _ _ => ()) (fun _ _ _ _ => ()) () (fun _ _ => ()) (p))) s
noncomputable def indexD (C:Cx) (nb:Nat) (o:Oper) (t:TypeId) (x i:Operand) (s:S) (ds:List Dc) (ob:Ob) : Option DR:=
  takeI ds (simpleD C nb o s ds ob) fun ds' => bindO (opd (S.env s) x) fun y => bindO (opd (S.env s) i) fun j => bindO (natOf j) fun n => bindO (sliceElem C t) fun e =>
    (@AV.rec (fun _ => Option DR) (fun _ => Unit) (fun _ => Unit) (fun _ => Unit) (fun _ => Unit) (fun _ => Unit) (fun _ => Unit) (fun _ => none) (fun _ _ => none) (fun _ _ _ => none) (fun _ _ _ _ _ _ => none) (fun t' off len _ _ _ _ => putD s o.dst (.vp t' (Nat.add off (Nat.mul n (C.P.cellsOf e)))) fun s => some (s,⟨some [],some [],false⟩,ds',(Nat.ble (Nat.succ n) len,true)::ob)) (fun _ _ _ _ _ => none) (fun _ _ => none) (fun _ _ => none) (fun _ => none) (fun _ _ => none) (fun _ _ => ()) () (fun _ _ _ _ => ()) () (fun _ _ _ _ => ()) () (fun _ _ _ _ _ _ _ _ _ _ _ _ _ _ _ _ _ _ => ()) (fun _ _ _ _ => ()) () (fun _ _ => ()) (y))
noncomputable def isAdd (op:BinOp) : Bool:=(@BinOp.rec (fun _ => Bool) (true) (false) (false) (false) (false) (false) (false) (false) (false) (false) (false) (false) (false) (false) (false) (false) (false) (op))
noncomputable def sumD (C:Cx) (o:Oper) (op:BinOp) (t:TypeId) (x y:Operand) (s:S) (ds:List Dc) (ob:Ob) : Option DR:=
  takeA ds (binopD C o op t x y s ds ob) fun ds' => bindO (opd (S.env s) x) fun a => bindO (opd (S.env s) y) fun b => guardB (isAdd op)
    (onInt a none fun k m => onInt b none fun k' n => guardB (andB (Nat.beq (kindNo k) 3) (Nat.beq (kindNo k') 3)) (Int.rec (fun m => Int.rec (fun n =>
      putD s o.dst (.v (.int .i64 (.ofNat (Nat.add m n)))) fun s => some (s,⟨some [],some [],false⟩,ds',(Nat.ble (Nat.add m n) 9223372036854775807,true)::ob)) (fun _ => none) n) (fun _ => none) m))
noncomputable def anyD (C:Cx) (E:Es) (rc:Rc) (nb:Nat) (o:Oper) (s:S) (ds:List Dc) (ob:Ob) : Option DR:=
  (@Op.rec (fun _ => Option DR) (fun _ => simpleD C nb o s ds ob) (fun _ => simpleD C nb o s ds ob) (fun c a b => pickD o c a b s ds ob) (fun _ => simpleD C nb o s ds ob) (fun _ _ => simpleD C nb o s ds ob) (fun _ _ => simpleD C nb o s ds ob) (fun _ _ _ => simpleD C nb o s ds ob) (fun _ _ _ _ => simpleD C nb o s ds ob) (fun t a => loadD C nb o t a s ds ob) (fun t a x => storeD C nb o t a x s ds ob) (fun _ => simpleD C nb o s ds ob) (fun _ => simpleD C nb o s ds ob) (fun _ => simpleD C nb o s ds ob) (fun op t x y _ => sumD C o op t x y s ds ob) (fun _ _ _ => simpleD C nb o s ds ob) (fun _ _ _ => simpleD C nb o s ds ob) (fun _ _ => simpleD C nb o s ds ob) (fun _ _ => simpleD C nb o s ds ob) (fun _ _ _ => simpleD C nb o s ds ob) (fun _ _ => simpleD C nb o s ds ob) (fun _ _ => simpleD C nb o s ds ob) (fun _ _ _ => simpleD C nb o s ds ob) (fun _ _ _ _ _ => simpleD C nb o s ds ob) (fun _ _ _ => simpleD C nb o s ds ob) (fun _ _ _ => simpleD C nb o s ds ob) (fun t x i => indexD C nb o t x i s ds ob) (fun _ _ _ => simpleD C nb o s ds ob) (fun _ _ _ _ => simpleD C nb o s ds ob) (fun _ _ _ _ => simpleD C nb o s ds ob) (fun _ _ _ => simpleD C nb o s ds ob) (fun _ _ _ _ => simpleD C nb o s ds ob) (fun _ _ => simpleD C nb o s ds ob) (fun _ _ => simpleD C nb o s ds ob) (fun _ => simpleD C nb o s ds ob) (fun _ _ _ _ => simpleD C nb o s ds ob) (fun _ _ => simpleD C nb o s ds ob) (fun c => (@Callee.rec (fun _ => Option DR) (fun f => callD C E rc o f c.args s ds ob) (fun _ _ => simpleD C nb o s ds ob) (fun _ => simpleD C nb o s ds ob) (c.callee))) (fun _ => simpleD C nb o s ds ob) (fun _ => simpleD C nb o s ds ob) (fun _ => simpleD C nb o s ds ob) (fun _ _ => simpleD C nb o s ds ob) (fun _ _ _ => simpleD C nb o s ds ob) (fun _ _ => simpleD C nb o s ds ob) (o.op))
noncomputable def stepD (C:Cx) (E:Es) (rc:Rc) (ops:Array Oper) (nb:Nat) (o:Oper) (s:S) (ds:List Dc) (ob:Ob) : Option DR:=
  elimO o.guard (anyD C E rc nb o s ds ob) fun g => bindO (guardV (S.env s) ops g.1) fun b => branch (ifB g.2 b (notB b)) ds ob fun d ds ob => ifB d (anyD C E rc nb o s ds ob)
    (putD s o.dst (.tuple []) fun s' => some (s',⟨some [],some [],false⟩,ds,ob))
abbrev DS:=S × List Foot × List Dc × Ob
noncomputable def stepsD (C:Cx) (E:Es) (rc:Rc) (ops:Array Oper) (base:Nat) (l:List Oper) : Nat → S → List Foot → List Dc → Ob → Option DS:=
  List.rec (fun _ s fs ds ob => some (s,fs,ds,ob)) (fun o _ ih i s fs ds ob => bindO (stepD C E rc ops (Nat.add base i) o s ds ob) fun r => ih (Nat.succ i) r.1 (r.2.1::fs) r.2.2.1 r.2.2.2) l
abbrev DO:=Out × List Dc × Ob
noncomputable def regionD (C:Cx) (E:Es) (rc:Rc) (ops:Array Oper) (draw:Bool) (s:S) (ds:List Dc) (ob:Ob) : Option DO:=
  S.rec (fun env H nx0 low => force (Nat.add nx0 (lenL ops.toList)) fun nx =>
    bindO (stepsD C E rc ops nx0 ops.toList 0 ⟨env,H,nx,low⟩ [] ds ob) fun r =>
      ifB draw (guardB (andB (regionOk ops) (noClash r.2.1.reverse (openPairs ops))) (some (.nrm r.1,r.2.2.1,r.2.2.2))) (some (.nrm r.1,r.2.2.1,r.2.2.2))) s
noncomputable def outD (r:CR) (ds:List Dc) (ob:Ob) : Option (CR × List Dc × Ob):=(@CR.rec (fun _ => Option (CR × List Dc × Ob)) (fun v rd => some (.value v rd,ds,ob)) (fun v H nx low => some (.heap v H nx low,ds,ob)) (fun v us nx => some (.fresh v us nx,ds,ob)) (fun _ => none) (r))
noncomputable def enterD (C:Cx) (rn:Code → S → List Dc → Ob → Option DO) : Rc:=fun f l H nx low ds ob =>
  bindO (funcOf C f) fun p => guardB (Nat.ble (lenL l) p.1.ntmps) (fill 0 T.nil l fun env =>
    ifB (andB (allB (flat 4) l) (notB (C.nf f)))
      (bindO (rn p.2 ⟨env,T.nil,0,far⟩ ds ob) fun r => outD (doneWith (finPure C p.1) r.1) r.2.1 r.2.2)
      (ifB (allB (flat 4) l) (bindO (rn p.2 ⟨env,T.nil,nx,far⟩ ds ob) fun r => outD (doneWith (finFresh C p.1 nx) r.1) r.2.1 r.2.2)
        (bindO (rn p.2 ⟨env,H,nx,far⟩ ds ob) fun r => outD (doneWith (finHeap C p.1 (C.nf f) nx low) r.1) r.2.1 r.2.2)))
noncomputable def runD (C:Cx) (E:Es) : Nat → Code → S → List Dc → Ob → Option DO
  | 0,_,_,_,_ => none
  | n + 1,c,s,ds,ob => match c with
    | .skip => some (.nrm s,ds,ob)
    | .label _ => some (.nrm s,ds,ob)
    | .region _ ops draw => regionD C E (fun f l H nx low ds ob => enterD C (fun c s ds ob => runD C E n c s ds ob) f l H nx low ds ob) ops draw s ds ob
    | .seq a b => match runD C E n a s ds ob with
      | some (.nrm s',ds',ob') => runD C E n b s' ds' ob'
      | r => r
    | .cond c a b => match bindO (opd s.env c) boolOf with
      | some x => branch x ds ob fun d ds ob => runD C E n (ifB d a b) s ds ob
      | none => none
    | .block id a => match runD C E n a s ds ob with
      | some (.ext id' s',ds',ob') => ifB (Nat.beq id' id) (some (.nrm s',ds',ob')) (some (.ext id' s',ds',ob'))
      | r => r
    | .loop a => match runD C E n a s ds ob with
      | some (.nrm s',ds',ob') => runD C E n (.loop a) s' ds' ob'
      | r => r
    | .scope a => runD C E n a s ds ob
    | .exit id => some (.ext id s,ds,ob)
    | .ret => some (.ret s,ds,ob)
    | _ => none
noncomputable def symCall (C:Cx) (E:Es) (n:Nat) (f:FuncId) (l:List AV) (ds:List Dc) : Option (CR × List Dc × Ob):=enterD C (runD C E n) f l T.nil 0 far ds []
section
variable {C:Cx} {E:Es} {run:Code → S → Out} {ops:Array Oper}
theorem cmpD_eq {op:BinOp} {k:IntKind} {a b:Int} {v:AV} (h:cmpD op a b = some v) (fall:Option AV) : binInt op k a b fall = some v:=by
  have hb : ∀ x,boolR x = some (.v (.bool x)):=fun x => by unfold boolR; rw [forceB_eq]
  cases op <;> first | cases h | skip
  all_goals exact hb _
theorem binInt_sub (k:IntKind) (a b:Int) (fall:Option AV) : binInt .sub k a b fall = intR k (addI a (negI b)):=rfl
theorem branch_ok {β:Type} {x:Bool} {ds:List Dc} {ob:Ob} {k:Bool → List Dc → Ob → Option β} {r : β} (h:branch x ds ob k = some r) : ∃ d ds' ob',k d ds' ob' = some r ∧ (Met ob' → x = d ∧ Met ob):=by
  have same : ∀ ds,ifB x (k true ds ob) (k false ds ob) = some r → ∃ d ds' ob',k d ds' ob' = some r ∧ (Met ob' → x = d ∧ Met ob):=fun ds h => by
    cases x with
    | true => exact ⟨true,ds,ob,h,fun hm => ⟨rfl,hm⟩⟩
    | false => exact ⟨false,ds,ob,h,fun hm => ⟨rfl,hm⟩⟩
  cases ds with
  | nil => exact same [] h
  | cons d ds =>
    cases d with
    | c => exact same ds h
    | t => exact ⟨true,ds,_,h,fun hm => hm⟩
    | f => exact ⟨false,ds,_,h,fun hm => hm⟩
    | r g v => exact same (.r g v::ds) h
    | l x => exact same (.l x::ds) h
    | i => exact same (.i::ds) h
    | a => exact same (.a::ds) h
    | s t m => exact same (.s t m::ds) h
    | o m r => exact same (.o m r::ds) h
theorem Met_app {a b:Ob} : Met (a ++ b) ↔ Met a ∧ Met b:=by
  induction a with
  | nil => simp [Met]
  | cons x a ih => simp [Met,ih,and_assoc]
theorem natD_eq {op:BinOp} {k:IntKind} {t:TypeId} {xo yo:Operand} {a b:Nat} {v:AV} {ob:Ob} (h:natD op k a b = some (v,ob)) (hm:Met ob) : bin C op t xo yo (.v (.int k (.ofNat a))) (.v (.int k (.ofNat b))) = some v:=by
  replace h:=guardB_some.1 h; obtain ⟨hk,h⟩:=h
  have hk' : k = .u64:=by cases k <;> first | rfl | cases hk
  subst hk'
  have hsm : ∀ x,small x = true → (x:Int) < 18446744073709551616:=fun x h => by have:=ble_true.1 h; omega
  have hself : bin C op t xo yo (.v (.int .u64 (.ofNat a))) (.v (.int .u64 (.ofNat b))) = binInt op .u64 (.ofNat a) (.ofNat b) (binFall C op t xo yo (.v (.int .u64 (.ofNat a))) (.v (.int .u64 (.ofNat b)))):=rfl
  have wr : ∀ x : Nat,x < 18446744073709551616 → IntKind.u64.wrap (x:Int) = (x:Int):=fun x hx => by rw [IntKind.wrap_u64]; omega
  rw [hself]
  cases op <;> first | cases h | skip
  case sub.refl =>
    obtain ⟨h1,h2,_⟩:=hm
    have h1:=ble_true.1 h1
    have h2:=hsm a h2
    rw [binInt_sub]
    unfold intR
    rw [forceI_eq,wrapI_eq,addI_eq,negI_eq]
    have e : (Int.ofNat a + -Int.ofNat b) = ((a - b : Nat) : Int):=by simp only [Int.ofNat_eq_natCast]; omega
    rw [e,wr _ (by omega)]
    rfl
  case quo.refl =>
    obtain ⟨h1,h2,_⟩:=hm
    have h2:=hsm a h2
    have hb : b ≠ 0:=fun e => by subst e; cases h1
    show binFall C .quo t xo yo (.v (.int .u64 (.ofNat a))) (.v (.int .u64 (.ofNat b))) = _
    have hp : pureRun C.P (do eqGuard .quo t xo yo (.int .u64 (.ofNat a)) (.int .u64 (.ofNat b)); binOp .quo t (.int .u64 (.ofNat a)) (.int .u64 (.ofNat b))) = some (.int .u64 (.ofNat (a / b))):=by
      have hb' : ¬ ((b:Int) = 0):=by omega
      have e : (do eqGuard .quo t xo yo (.int .u64 (.ofNat a)) (.int .u64 (.ofNat b)); binOp .quo t (.int .u64 (.ofNat a)) (.int .u64 (.ofNat b)) : Sem Value) = Op.intDiv .quo .u64 (.ofNat a) (.ofNat b):=rfl
      rw [e]
      unfold Op.intDiv
      rw [if_neg (by simpa using hb')]
      show some (Value.int IntKind.u64 (IntKind.u64.wrap (Int.tdiv (a:Int) (b:Int)))) = _
      have e2 : Int.tdiv (a:Int) (b:Int) = ((a / b : Nat) : Int):=rfl
      rw [e2,wr _ (by have:=Nat.div_le_self a b; omega)]
      rfl
    unfold binFall
    show bindO (pureRun C.P _) _ = _
    rw [hp]
    rfl
  case rem.refl =>
    obtain ⟨h1,_⟩:=hm
    have hb : b ≠ 0:=fun e => by subst e; cases h1
    show binFall C .rem t xo yo (.v (.int .u64 (.ofNat a))) (.v (.int .u64 (.ofNat b))) = _
    have hp : pureRun C.P (do eqGuard .rem t xo yo (.int .u64 (.ofNat a)) (.int .u64 (.ofNat b)); binOp .rem t (.int .u64 (.ofNat a)) (.int .u64 (.ofNat b))) = some (.int .u64 (.ofNat (a % b))):=by
      have hb' : ¬ ((b:Int) = 0):=by omega
      have e : (do eqGuard .rem t xo yo (.int .u64 (.ofNat a)) (.int .u64 (.ofNat b)); binOp .rem t (.int .u64 (.ofNat a)) (.int .u64 (.ofNat b)) : Sem Value) = Op.intDiv .rem .u64 (.ofNat a) (.ofNat b):=rfl
      rw [e]
      unfold Op.intDiv
      rw [if_neg (by simpa using hb')]
      rfl
    unfold binFall
    show bindO (pureRun C.P _) _ = _
    rw [hp]
    rfl
theorem binD_eq {op:BinOp} {t:TypeId} {xo yo:Operand} {x y v:AV} {ob:Ob} (h:binD C op t xo yo x y = some (v,ob)) (hm:Met ob) : bin C op t xo yo x y = some v:=by
  unfold binD at h
  cases hi : (onInt x none fun k a => onInt y none fun k' b => guardB (eqK k k') (intD op k a b)) with
  | none =>
    rw [hi,elimO_none] at h
    obtain ⟨u,h1,h2⟩:=bindO_some.1 h
    cases h2; exact h1
  | some q =>
    rw [hi,elimO_some] at h
    cases h
    cases x <;> try (cases hi; done)
    rename_i x
    cases x <;> try (cases hi; done)
    rename_i k a
    cases y <;> try (cases hi; done)
    rename_i y
    cases y <;> try (cases hi; done)
    rename_i k' b
    replace hi : guardB (eqK k k') (intD op k a b) = some (v,ob):=hi
    obtain ⟨hk,hi2⟩:=guardB_some.1 hi
    obtain rfl:=eqK_true hk
    unfold intD at hi2
    cases hc : cmpD op a b with
    | some u =>
      rw [hc,elimO_some] at hi2
      cases hi2
      show ifB (eqK k k) (binInt op k a b _) _ = _
      rw [hk,ifB_true]
      exact cmpD_eq hc _
    | none =>
      rw [hc,elimO_none] at hi2
      cases a with
      | negSucc _ => cases hi2
      | ofNat a => cases b with
        | negSucc _ => cases hi2
        | ofNat b => exact natD_eq hi2 hm
def RcOk (C:Cx) (rc:Rc) (run:Code → S → Out) : Prop:=∀ f l H nx low ds ob cr ds' ob',C.ext f l = none → rc f l H nx low ds ob = some (cr,ds',ob') → Met ob' → Met ob ∧ callWith C run f l H nx low = cr
variable {rc:Rc} (hE:C.ext = extOf E) (hrc:RcOk C rc run)
theorem putD_eq {α:Type} (env:T AV) (H:T Blk) (nx low:Nat) (d:Option Tmp) (v:AV) (k:S → α) : putD ⟨env,H,nx,low⟩ d v k = k ⟨putT env d v,H,nx,low⟩:=by
  show putK env d v (fun env => k ⟨env,H,nx,low⟩) = _
  rw [putK_eqT]
theorem simpleC_ok {nb:Nat} {o:Oper} {env:T AV} {H:T Blk} {nx low:Nat} {ds ds' : List Dc} {ob ob' : Ob} {s' : S} {f:Foot} (h:simpleC C nb o ⟨env,H,nx,low⟩ ds ob = some (s',f,ds',ob')) :
    ob' = ob ∧ stepSimple o.dst (simple o.op C env H nb o.type) env H nx low = .ok s' f:=by
  replace h:=bindO_some.1 h; obtain ⟨r,h1,h⟩:=h
  rw [h1,stepSimple_eq]
  obtain ⟨v,us,rd⟩:=r
  replace h : putK env o.dst v (fun env => some ((⟨env,upsT H us,nx,lower low us⟩ : S),(⟨rd,some (us.map (·.1)),false⟩ : Foot),ds,ob)) = some (s',f,ds',ob'):=h
  rw [putK_eqT] at h
  cases h
  exact ⟨rfl,rfl⟩
theorem simpleU_ok {nb:Nat} {o:Oper} {r:R} {env:T AV} {H:T Blk} {nx low:Nat} {ds ds' : List Dc} {ob ob' : Ob} {s' : S} {f:Foot} (h:simpleU C nb o r ⟨env,H,nx,low⟩ ds ob = some (s',f,ds',ob')) (hm:Met ob') :
    Met ob ∧ stepSimple o.dst (simple o.op C env H nb o.type) env H nx low = .ok s' f:=by
  replace h : putK env o.dst r.v (fun env' => some ((⟨env',upsT H r.ups,nx,lower low r.ups⟩ : S),(⟨r.rd,some (r.ups.map (·.1)),false⟩ : Foot),ds,(claimB (simple o.op C env H nb o.type = some r),true)::ob)) = some (s',f,ds',ob'):=h
  rw [putK_eqT] at h
  cases h
  obtain ⟨hc,hm⟩:=hm
  have hc:=claimB_t.1 hc
  rw [hc,stepSimple_eq]
  exact ⟨hm,rfl⟩
theorem simpleD_ok {nb:Nat} {o:Oper} {env:T AV} {H:T Blk} {nx low:Nat} {ds ds' : List Dc} {ob ob' : Ob} {s' : S} {f:Foot} (h:simpleD C nb o ⟨env,H,nx,low⟩ ds ob = some (s',f,ds',ob')) (hm:Met ob') :
    Met ob ∧ stepSimple o.dst (simple o.op C env H nb o.type) env H nx low = .ok s' f:=by
  have conc : ∀ ds,simpleC C nb o ⟨env,H,nx,low⟩ ds ob = some (s',f,ds',ob') → Met ob ∧ stepSimple o.dst (simple o.op C env H nb o.type) env H nx low = .ok s' f:=fun ds h => by
    obtain ⟨e,h2⟩:=simpleC_ok h
    exact ⟨e ▸ hm,h2⟩
  cases ds with
  | nil => exact conc [] h
  | cons d ds =>
    cases d with
    | o m r =>
      cases m with
      | zero => exact simpleU_ok (show simpleU C nb o r ⟨env,H,nx,low⟩ ds ob = some (s',f,ds',ob') from h) hm
      | succ m => exact conc (.o m r::ds) h
    | c => exact conc _ h
    | t => exact conc _ h
    | f => exact conc _ h
    | r g v => exact conc _ h
    | l x => exact conc _ h
    | i => exact conc _ h
    | a => exact conc _ h
    | s t m => exact conc _ h
theorem simple_pick {c a b:Operand} {env:T AV} {H:T Blk} {nb:Nat} {ty:TypeId} {x v:AV} {y:Bool} (h1:opd env c = some x) (h2:boolOf x = some y) (h3:opd env (ifB y a b) = some v) :
    simple (.pick c a b) C env H nb ty = some ⟨v,[],some []⟩:=by
  show bindO (opd env c) (fun x => bindO (boolOf x) fun y => bindO (opd env (ifB y a b)) A) = _
  rw [h1,bindO_some',h2,bindO_some',h3]; rfl
theorem simple_bin {op:BinOp} {t u:TypeId} {xo yo:Operand} {env:T AV} {H:T Blk} {nb:Nat} {ty:TypeId} {x y v:AV} (h1:opd env xo = some x) (h2:opd env yo = some y) (h3:bin C op t xo yo x y = some v) :
    simple (.binOp op t xo yo u) C env H nb ty = some ⟨v,[],some []⟩:=by
  show bindO (opd env xo) (fun a => bindO (opd env yo) fun b => bindO (bin C op t xo yo a b) A) = _
  rw [h1,bindO_some',h2,bindO_some',h3]; rfl
include hE hrc in
theorem anyD_ok {nb:Nat} {o:Oper} {env:T AV} {H:T Blk} {nx low:Nat} {ds ds' : List Dc} {ob ob' : Ob} {s' : S} {f:Foot} (h:anyD C E rc nb o ⟨env,H,nx,low⟩ ds ob = some (s',f,ds',ob')) (hm:Met ob') :
    Met ob ∧ stepAny C run nb o env H nx low = .ok s' f:=by
  have simp_case : simpleD C nb o ⟨env,H,nx,low⟩ ds ob = some (s',f,ds',ob') → Met ob ∧ stepSimple o.dst (simple o.op C env H nb o.type) env H nx low = .ok s' f:=fun h => by
    exact simpleD_ok h hm
  obtain ⟨dst,op,type,pos,after,guard⟩:=o
  cases op <;> try exact simp_case h
  · rename_i c a b
    replace h : pickD _ c a b _ ds ob = some (s',f,ds',ob'):=h
    replace h:=bindO_some.1 h; obtain ⟨x,h1,h⟩:=h
    replace h:=bindO_some.1 h; obtain ⟨y,h2,h⟩:=h
    obtain ⟨d,ds1,ob1,h,hb⟩:=branch_ok h
    replace h:=bindO_some.1 h; obtain ⟨v,h3,h⟩:=h
    rw [putD_eq] at h
    cases h
    obtain ⟨hd,hm0⟩:=hb hm
    subst hd
    refine ⟨hm0,?_⟩
    show stepSimple dst (simple (.pick c a b) C env H nb type) env H nx low = _
    rw [simple_pick h1 h2 h3,stepSimple_eq]
    rfl
  · rename_i t a
    have same : ∀ ds,simpleD C nb ⟨dst,.load t a,type,pos,after,guard⟩ ⟨env,H,nx,low⟩ ds ob = some (s',f,ds',ob') → Met ob ∧ stepSimple dst (simple (.load t a) C env H nb type) env H nx low = .ok s' f:=fun ds h => by
      exact simpleD_ok h hm
    cases ds with
    | nil => exact same [] h
    | cons d ds =>
      cases d with
      | l x =>
        replace h:=bindO_some.1 h; obtain ⟨p,h1,h⟩:=h
        replace h1 : opd env a = some p:=h1
        cases p <;> try (cases h; done)
        · rename_i b off
          replace h : putD ⟨env,H,nx,low⟩ dst x (fun s => some (s,(⟨some [b],some [],false⟩ : Foot),ds,(claimB (bindO (cellsOf H b) (fun p => loadT C t p.1 off) = some x),true)::ob)) = some (s',f,ds',ob'):=h
          rw [putD_eq] at h
          cases h
          obtain ⟨hc,hm⟩:=hm
          have hc:=claimB_t.1 hc
          obtain ⟨q,hq,hc⟩:=bindO_some.1 hc
          refine ⟨hm,?_⟩
          show stepSimple dst (simple (.load t a) C env H nb type) env H nx low = _
          have e : simple (.load t a) C env H nb type = some ⟨x,[],some [b]⟩:=by
            show bindO (opd env a) _ = _
            rw [h1,bindO_some']
            show bindO (cellsOf H b) (fun p => bindO (loadT C t p.1 off) fun y => some (⟨y,[],some [b]⟩ : R)) = _
            rw [hq,bindO_some',hc]; rfl
          rw [e,stepSimple_eq]
          rfl
        · rename_i c off
          replace h : putD ⟨env,H,nx,low⟩ dst x (fun s => some (s,(⟨some [],some [],false⟩ : Foot),ds,(claimB (loadT C t c off = some x),true)::ob)) = some (s',f,ds',ob'):=h
          rw [putD_eq] at h
          cases h
          obtain ⟨hc,hm⟩:=hm
          have hc:=claimB_t.1 hc
          refine ⟨hm,?_⟩
          show stepSimple dst (simple (.load t a) C env H nb type) env H nx low = _
          have e : simple (.load t a) C env H nb type = some ⟨x,[],some []⟩:=by
            show bindO (opd env a) _ = _
            rw [h1,bindO_some']
            show bindO (loadT C t c off) A = _
            rw [hc]; rfl
          rw [e,stepSimple_eq]
          rfl
      | c => exact same (.c::ds) h
      | t => exact same (.t::ds) h
      | f => exact same (.f::ds) h
      | r q2 v2 => exact same (.r q2 v2::ds) h
      | i => exact same (.i::ds) h
      | a => exact same (.a::ds) h
      | s t2 m2 => exact same (.s t2 m2::ds) h
      | o m2 r2 => exact same (.o m2 r2::ds) h
  · rename_i t a x
    have same : ∀ ds,simpleD C nb ⟨dst,.store t a x,type,pos,after,guard⟩ ⟨env,H,nx,low⟩ ds ob = some (s',f,ds',ob') → Met ob ∧ stepSimple dst (simple (.store t a x) C env H nb type) env H nx low = .ok s' f:=fun ds h => by
      exact simpleD_ok h hm
    cases ds with
    | nil => exact same [] h
    | cons d ds =>
      cases d with
      | s c n =>
        replace h:=bindO_some.1 h; obtain ⟨p,h1,h⟩:=h
        replace h:=bindO_some.1 h; obtain ⟨y,h2,h⟩:=h
        replace h1 : opd env a = some p:=h1
        replace h2 : opd env x = some y:=h2
        cases p <;> try (cases h; done)
        rename_i b off
        obtain ⟨hg,h⟩:=guardB_some.1 h
        rw [putK_eqT] at h
        cases h
        obtain ⟨hc,hm⟩:=hm
        have hc:=claimB_t.1 hc
        refine ⟨hm,?_⟩
        show stepSimple dst (simple (.store t a x) C env H nb type) env H nx low = _
        have e : simple (.store t a x) C env H nb type = some ⟨.tuple [],[(b,.cells (fillT off c y.cells) n)],some [b]⟩:=by
          show bindO (opd env a) _ = _
          rw [h1,bindO_some',h2,bindO_some']
          show bindO (ownOf H b) (fun c => guardB _ (fill off c.1 y.cells fun c' => some (⟨.tuple [],[(b,.cells c' c.2)],some [b]⟩ : R))) = _
          rw [hc,bindO_some',fill_eq]
          show guardB _ _ = _
          rw [hg]; rfl
        rw [e,stepSimple_eq]
        rfl
      | c => exact same (.c::ds) h
      | t => exact same (.t::ds) h
      | f => exact same (.f::ds) h
      | r q2 v2 => exact same (.r q2 v2::ds) h
      | l x2 => exact same (.l x2::ds) h
      | i => exact same (.i::ds) h
      | a => exact same (.a::ds) h
      | o m2 r2 => exact same (.o m2 r2::ds) h
  · rename_i op t x y u
    have same : ∀ ds,binopD C ⟨dst,.binOp op t x y u,type,pos,after,guard⟩ op t x y ⟨env,H,nx,low⟩ ds ob = some (s',f,ds',ob') → Met ob ∧ stepSimple dst (simple (.binOp op t x y u) C env H nb type) env H nx low = .ok s' f:=fun ds h => by
      replace h:=bindO_some.1 h; obtain ⟨a,h1,h⟩:=h
      replace h:=bindO_some.1 h; obtain ⟨b,h2,h⟩:=h
      replace h:=bindO_some.1 h; obtain ⟨⟨v,more⟩,h3,h⟩:=h
      rw [putD_eq] at h
      cases h
      obtain ⟨hm1,hm⟩:=Met_app.1 hm
      refine ⟨hm,?_⟩
      rw [simple_bin h1 h2 (binD_eq h3 hm1),stepSimple_eq]
      rfl
    cases ds with
    | nil => exact same [] h
    | cons d ds =>
      cases d with
      | a =>
        replace h:=bindO_some.1 h; obtain ⟨a,h1,h⟩:=h
        replace h:=bindO_some.1 h; obtain ⟨b,h2,h⟩:=h
        replace h:=guardB_some.1 h; obtain ⟨ho,h⟩:=h
        replace h1 : opd env x = some a:=h1
        replace h2 : opd env y = some b:=h2
        cases a <;> try (cases h; done)
        rename_i va
        cases va <;> try (cases h; done)
        rename_i k m
        cases b <;> try (cases h; done)
        rename_i vb
        cases vb <;> try (cases h; done)
        rename_i k' n
        replace h:=guardB_some.1 h; obtain ⟨hk,h⟩:=h
        obtain ⟨hk1,hk2⟩:=andB_true.1 hk
        have e1 : k = .i64:=by cases k <;> first | rfl | cases hk1
        have e2 : k' = .i64:=by cases k' <;> first | rfl | cases hk2
        subst e1; subst e2
        cases m with
        | negSucc _ => cases h
        | ofNat m => cases n with
          | negSucc _ => cases h
          | ofNat n =>
            replace h : putD ⟨env,H,nx,low⟩ dst (.v (.int .i64 (.ofNat (Nat.add m n)))) (fun s => some (s,(⟨some [],some [],false⟩ : Foot),ds,(Nat.ble (Nat.add m n) 9223372036854775807,true)::ob)) = some (s',f,ds',ob'):=h
            rw [putD_eq] at h
            cases h
            obtain ⟨hc,hm⟩:=hm
            replace hc : Nat.ble (Nat.add m n) 9223372036854775807 = true:=hc
            refine ⟨hm,?_⟩
            show stepSimple dst (simple (.binOp op t x y u) C env H nb type) env H nx low = _
            have hop : op = .add:=by cases op <;> first | rfl | cases ho
            subst hop
            have e : bin C .add t x y (.v (.int .i64 (.ofNat m))) (.v (.int .i64 (.ofNat n))) = some (.v (.int .i64 (.ofNat (Nat.add m n)))):=by
              have e0 : bin C .add t x y (.v (.int .i64 (.ofNat m))) (.v (.int .i64 (.ofNat n))) = forceI (ifB (Nat.ble (Nat.add m n) 9223372036854775807) (.ofNat (Nat.add m n)) (IntKind.wrap .i64 (.ofNat (Nat.add m n)))) fun q => some (.v (.int .i64 q)):=rfl
              rw [e0,hc,ifB_true,forceI_eq]
            rw [simple_bin h1 h2 e,stepSimple_eq]
            rfl
      | c => exact same (.c::ds) h
      | t => exact same (.t::ds) h
      | f => exact same (.f::ds) h
      | r q2 v2 => exact same (.r q2 v2::ds) h
      | l x2 => exact same (.l x2::ds) h
      | i => exact same (.i::ds) h
      | s t2 m2 => exact same (.s t2 m2::ds) h
      | o m2 r2 => exact same (.o m2 r2::ds) h
  · rename_i t x i
    have same : ∀ ds,simpleD C nb ⟨dst,.indexAddr t x i,type,pos,after,guard⟩ ⟨env,H,nx,low⟩ ds ob = some (s',f,ds',ob') → Met ob ∧ stepSimple dst (simple (.indexAddr t x i) C env H nb type) env H nx low = .ok s' f:=fun ds h => by
      exact simpleD_ok h hm
    cases ds with
    | nil => exact same [] h
    | cons d ds =>
      cases d with
      | i =>
        replace h:=bindO_some.1 h; obtain ⟨y,h1,h⟩:=h
        replace h:=bindO_some.1 h; obtain ⟨z,h2,h⟩:=h
        replace h:=bindO_some.1 h; obtain ⟨n,h3,h⟩:=h
        replace h:=bindO_some.1 h; obtain ⟨e,h4,h⟩:=h
        replace h1 : opd env x = some y:=h1
        replace h2 : opd env i = some z:=h2
        cases y <;> try (cases h; done)
        rename_i c off len es lo ex
        replace h : putD ⟨env,H,nx,low⟩ dst (.vp c (Nat.add off (Nat.mul n (C.P.cellsOf e)))) (fun s => some (s,(⟨some [],some [],false⟩ : Foot),ds,(Nat.ble (Nat.succ n) len,true)::ob)) = some (s',f,ds',ob'):=h
        rw [putD_eq] at h
        cases h
        obtain ⟨hc,hm⟩:=hm
        replace hc : Nat.ble (Nat.succ n) len = true:=hc
        refine ⟨hm,?_⟩
        show stepSimple dst (simple (.indexAddr t x i) C env H nb type) env H nx low = _
        have e : simple (.indexAddr t x i) C env H nb type = some ⟨.vp c (Nat.add off (Nat.mul n (C.P.cellsOf e))),[],some []⟩:=by
          show bindO (opd env x) _ = _
          rw [h1,bindO_some',h2,bindO_some',h3,bindO_some']
          show bindO (sliceElem C t) _ = _
          rw [h4,bindO_some',hc]
          show force _ _ = _
          rw [force_eq]; rfl
        rw [e,stepSimple_eq]
        rfl
      | c => exact same (.c::ds) h
      | t => exact same (.t::ds) h
      | f => exact same (.f::ds) h
      | r q2 v2 => exact same (.r q2 v2::ds) h
      | l x2 => exact same (.l x2::ds) h
      | a => exact same (.a::ds) h
      | s t2 m2 => exact same (.s t2 m2::ds) h
      | o m2 r2 => exact same (.o m2 r2::ds) h
  · rename_i c
    obtain ⟨callee,args,argTypes⟩:=c
    cases callee <;> try exact simp_case h
    rename_i g
    replace h : callD C E rc _ g args _ ds ob = some (s',f,ds',ob'):=h
    replace h:=bindO_some.1 h; obtain ⟨p,h1,h⟩:=h
    replace h1 : calleeArgs env g args = some p:=h1
    obtain ⟨hbor,h⟩:=guardB_some.1 h
    rw [notB_true] at hbor
    have fin : ∀ v,callWith C run p.1 p.2 H nx low = .value v (some []) → stepCall C run dst g args env H nx low = .ok ⟨putT env dst v,H,nx,low⟩ ⟨some [],some [],false⟩:=fun v e => by
      unfold stepCall
      rw [h1,elimO_some,hbor,ifB_false,e]
      show putK env dst v (fun env => StepR.ok ⟨env,H,nx,low⟩ ⟨some [],some [],false⟩) = _
      rw [putK_eqT]
    have old : elimO (E p.1 p.2) (bindO (rc p.1 p.2 H nx low ds ob) fun r => CR.rec (motive:=fun _ => Option DR)
          (fun v rd => putK env dst v fun env => some (⟨env,H,nx,low⟩,⟨rd,some [],false⟩,r.2.1,r.2.2))
          (fun v H nx low => putK env dst v fun env => some (⟨env,H,nx,low⟩,⟨none,none,true⟩,r.2.1,r.2.2))
          (fun v us nx => putK env dst v fun env => Go.Abs.ups H us fun H => force (lower low us) fun low => some (⟨env,H,nx,low⟩,⟨some [],some (us.map (·.1)),true⟩,r.2.1,r.2.2)) (fun _ => none) r.1)
        (fun q => putD ⟨env,H,nx,low⟩ dst q.1 fun s => some (s,⟨some [],some [],false⟩,ds,(q.2,true)::ob)) = some (s',f,ds',ob') → Met ob ∧ stepCall C run dst g args env H nx low = .ok s' f:=fun h => by
      cases h2 : E p.1 p.2 with
      | some q =>
        obtain ⟨v,c⟩:=q
        rw [h2,elimO_some,putD_eq] at h
        cases h
        obtain ⟨hc,hm⟩:=hm
        replace hc : c = true:=hc
        subst hc
        exact ⟨hm,fin v (by unfold callWith; rw [hE,extOf_some.2 h2]; rfl)⟩
      | none =>
        rw [h2,elimO_none] at h
        replace h : bindO (rc p.1 p.2 H nx low ds ob) (fun r => CR.rec (motive:=fun _ => Option DR)
            (fun v rd => putK env dst v fun env => some (⟨env,H,nx,low⟩,⟨rd,some [],false⟩,r.2.1,r.2.2))
            (fun v H nx low => putK env dst v fun env => some (⟨env,H,nx,low⟩,⟨none,none,true⟩,r.2.1,r.2.2))
            (fun v us nx => putK env dst v fun env => Go.Abs.ups H us fun H => force (lower low us) fun low => some (⟨env,H,nx,low⟩,⟨some [],some (us.map (·.1)),true⟩,r.2.1,r.2.2)) (fun _ => none) r.1) = some (s',f,ds',ob'):=h
        obtain ⟨⟨cr,ds1,ob1⟩,h3,h⟩:=bindO_some.1 h
        have hx : C.ext p.1 p.2 = none:=by rw [hE]; unfold extOf; rw [h2]; rfl
        show Met ob ∧ stepCall C run dst g args env H nx low = _
        unfold stepCall
        rw [h1,elimO_some,hbor,ifB_false]
        cases cr with
        | value v rd =>
          replace h : putK env dst v (fun env => some ((⟨env,H,nx,low⟩ : S),(⟨rd,some [],false⟩ : Foot),ds1,ob1)) = some (s',f,ds',ob'):=h
          rw [putK_eqT] at h
          cases h
          obtain ⟨hm0,h4⟩:=hrc _ _ _ _ _ _ _ _ _ _ hx h3 hm
          rw [h4]
          refine ⟨hm0,?_⟩
          show putK env dst v (fun env => StepR.ok ⟨env,H,nx,low⟩ ⟨rd,some [],false⟩) = _
          rw [putK_eqT]
        | heap v H1 nx1 low1 =>
          replace h : putK env dst v (fun env => some ((⟨env,H1,nx1,low1⟩ : S),(⟨none,none,true⟩ : Foot),ds1,ob1)) = some (s',f,ds',ob'):=h
          rw [putK_eqT] at h
          cases h
          obtain ⟨hm0,h4⟩:=hrc _ _ _ _ _ _ _ _ _ _ hx h3 hm
          rw [h4]
          refine ⟨hm0,?_⟩
          show putK env dst v (fun env => StepR.ok ⟨env,H1,nx1,low1⟩ ⟨none,none,true⟩) = _
          rw [putK_eqT]
        | fresh v us nx1 =>
          replace h : putK env dst v (fun env => Go.Abs.ups H us fun H => force (lower low us) fun low => some ((⟨env,H,nx1,low⟩ : S),(⟨some [],some (us.map (·.1)),true⟩ : Foot),ds1,ob1)) = some (s',f,ds',ob'):=h
          rw [putK_eqT,ups_eq,force_eq] at h
          cases h
          obtain ⟨hm0,h4⟩:=hrc _ _ _ _ _ _ _ _ _ _ hx h3 hm
          rw [h4]
          refine ⟨hm0,?_⟩
          show putK env dst v (fun env => Go.Abs.ups H us fun H => force (lower low us) fun low => StepR.ok ⟨env,H,nx1,low⟩ ⟨some [],some (us.map (·.1)),true⟩) = _
          rw [putK_eqT,ups_eq,force_eq]
        | bad w => cases h
    have new : ∀ (v:AV) (ds1:List Dc),putD ⟨env,H,nx,low⟩ dst v (fun s => some (s,(⟨some [],some [],false⟩ : Foot),ds1,(claimB (E p.1 p.2 = some (v,true)),true)::ob)) = some (s',f,ds',ob') → Met ob ∧ stepCall C run dst g args env H nx low = .ok s' f:=fun v ds1 h => by
      rw [putD_eq] at h
      cases h
      obtain ⟨hc,hm⟩:=hm
      have hc:=claimB_t.1 hc
      exact ⟨hm,fin v (by unfold callWith; rw [hE,extOf_some.2 hc]; rfl)⟩
    cases ds with
    | nil => exact old h
    | cons d ds =>
      cases d with
      | r q v =>
        cases hq : Nat.beq q p.1 with
        | true =>
          replace h : ifB (Nat.beq q p.1) _ _ = some (s',f,ds',ob'):=h
          rw [hq,ifB_true] at h
          exact new v ds h
        | false =>
          replace h : ifB (Nat.beq q p.1) _ _ = some (s',f,ds',ob'):=h
          rw [hq,ifB_false] at h
          exact old h
      | c => exact old h
      | t => exact old h
      | f => exact old h
      | l x => exact old h
      | i => exact old h
      | a => exact old h
      | s t m => exact old h
      | o m r => exact old h
include hE hrc in
theorem stepD_ok {nb:Nat} {o:Oper} {s s' : S} {ds ds' : List Dc} {ob ob' : Ob} {f:Foot} (h:stepD C E rc ops nb o s ds ob = some (s',f,ds',ob')) (hm:Met ob') :
    Met ob ∧ stepOp C run ops nb o s = .ok s' f:=by
  obtain ⟨env,H,nx,low⟩:=s
  rw [stepOp_eq]
  unfold stepD at h
  unfold wanted
  cases hg : o.guard with
  | none =>
    rw [hg,elimO_none] at h
    obtain ⟨h1,h2⟩:=anyD_ok hE hrc h hm
    exact ⟨h1,h2⟩
  | some g =>
    rw [hg,elimO_some] at h
    rw [elimO_some]
    replace h:=bindO_some.1 h; obtain ⟨b,h1,h⟩:=h
    obtain ⟨d,ds1,ob1,h,hb⟩:=branch_ok h
    have hok : guardOk env ops g.1 g.2 = ifB g.2 b (notB b):=by
      obtain ⟨t,h2,h3⟩:=bindO_some.1 h1
      unfold guardOk
      rw [h2,elimO_some]
      replace h3 : bindO (env.get t) boolOf = some b:=h3
      rw [T.getA_eq,h3,elimO_some]
    cases d with
    | true =>
      rw [ifB_true] at h
      obtain ⟨h4,h5⟩:=anyD_ok hE hrc h hm
      obtain ⟨h6,h7⟩:=hb h4
      rw [hok,h6,ifB_true]
      exact ⟨h7,h5⟩
    | false =>
      rw [ifB_false,putD_eq] at h
      cases h
      obtain ⟨h6,h7⟩:=hb hm
      rw [hok,h6,ifB_false,putK_eqT]
      exact ⟨h7,rfl⟩
include hE hrc in
theorem stepsD_ok {base:Nat} : ∀ {l:List Oper} {i:Nat} {s s' : S} {fs fs' : List Foot} {ds ds' : List Dc} {ob ob' : Ob},stepsD C E rc ops base l i s fs ds ob = some (s',fs',ds',ob') → Met ob' →
    Met ob ∧ steps C run ops base l i s fs = .ok s' fs':=by
  intro l
  induction l with
  | nil => intro i s s' fs fs' ds ds' ob ob' h hm; cases h; exact ⟨hm,rfl⟩
  | cons o l ih =>
    intro i s s' fs fs' ds ds' ob ob' h hm
    replace h:=bindO_some.1 h; obtain ⟨⟨s1,f,ds1,ob1⟩,h1,h⟩:=h
    obtain ⟨hm1,h2⟩:=ih h hm
    obtain ⟨hm0,h3⟩:=stepD_ok hE hrc h1 hm1
    refine ⟨hm0,?_⟩
    show StepR.rec (motive:=fun _ => StepsR) (fun s' f => steps C run ops base l (Nat.succ i) s' (f::fs)) (fun w => .bad (ifB (Nat.ble w 999) (Nat.add w (Nat.mul 1000 (Nat.succ i))) w)) (stepOp C run ops (Nat.add base i) o s) = _
    rw [h3]
    exact h2
include hE hrc in
theorem regionD_ok {id:Nat} {draw:Bool} {s:S} {ds ds' : List Dc} {ob ob' : Ob} {o:Out} (h:regionD C E rc ops draw s ds ob = some (o,ds',ob')) (hm:Met ob') : Met ob ∧ region C run id ops draw s = o:=by
  obtain ⟨env,H,nx0,low⟩:=s
  rw [region_eq]
  unfold regionD at h
  simp only [force_eq] at h
  replace h:=bindO_some.1 h; obtain ⟨⟨s1,fs,ds1,ob1⟩,h1,h⟩:=h
  cases draw with
  | false =>
    replace h : some (Out.nrm s1,ds1,ob1) = some (o,ds',ob'):=h
    cases h
    obtain ⟨h2,h3⟩:=stepsD_ok hE hrc h1 hm
    replace h3 : steps C run ops nx0 ops.toList 0 ⟨env,H,nx0 + lenL ops.toList,low⟩ [] = .ok s1 fs:=h3
    rw [h3]
    exact ⟨h2,rfl⟩
  | true =>
    replace h : guardB (andB (regionOk ops) (noClash fs.reverse (openPairs ops))) (some (Out.nrm s1,ds1,ob1)) = some (o,ds',ob'):=h
    obtain ⟨hc,h⟩:=guardB_some.1 h
    cases h
    obtain ⟨h2,h3⟩:=stepsD_ok hE hrc h1 hm
    replace h3 : steps C run ops nx0 ops.toList 0 ⟨env,H,nx0 + lenL ops.toList,low⟩ [] = .ok s1 fs:=h3
    rw [h3]
    refine ⟨h2,?_⟩
    show ifB true (ifB (andB (regionOk ops) (noClash fs.reverse (openPairs ops))) (Out.nrm s1) _) _ = _
    rw [hc]; rfl
theorem outD_some {r cr:CR} {ds ds' : List Dc} {ob ob' : Ob} (h:outD r ds ob = some (cr,ds',ob')) : r = cr ∧ ob' = ob:=by
  cases r <;> cases h <;> exact ⟨rfl,rfl⟩
theorem rcD_ok {rn:Code → S → List Dc → Ob → Option DO} {run:Code → S → Out} (hrn : ∀ {c:Code} {s:S} {ds ds' : List Dc} {ob ob' : Ob} {o:Out},rn c s ds ob = some (o,ds',ob') → Met ob' → Met ob ∧ run c s = o) : RcOk C (enterD C rn) run:=by
  intro f l H nx low ds ob cr ds' ob' hx h hm
  unfold enterD at h
  replace h:=bindO_some.1 h; obtain ⟨p,h1,h⟩:=h
  obtain ⟨h2,h⟩:=guardB_some.1 h
  rw [fill_eq] at h
  unfold callWith
  rw [hx,elimO_none,h1,elimO_some,h2,ifB_true]
  unfold enterWith
  rw [fill_eq]
  cases h3 : andB (allB (flat 4) l) (notB (C.nf f)) with
  | true =>
    rw [h3,ifB_true] at h
    rw [ifB_true]
    obtain ⟨⟨o,ds1,ob1⟩,h4,h⟩:=bindO_some.1 h
    obtain ⟨h5,rfl⟩:=outD_some h
    obtain ⟨h6,h7⟩:=hrn h4 hm
    rw [h7]
    exact ⟨h6,h5⟩
  | false =>
    rw [h3,ifB_false] at h
    rw [ifB_false]
    cases h8 : allB (flat 4) l with
    | true =>
      rw [h8,ifB_true] at h
      rw [ifB_true]
      obtain ⟨⟨o,ds1,ob1⟩,h4,h⟩:=bindO_some.1 h
      obtain ⟨h5,rfl⟩:=outD_some h
      obtain ⟨h6,h7⟩:=hrn h4 hm
      rw [h7]
      exact ⟨h6,h5⟩
    | false =>
      rw [h8,ifB_false] at h
      rw [ifB_false]
      obtain ⟨⟨o,ds1,ob1⟩,h4,h⟩:=bindO_some.1 h
      obtain ⟨h5,rfl⟩:=outD_some h
      obtain ⟨h6,h7⟩:=hrn h4 hm
      rw [h7]
      exact ⟨h6,h5⟩
include hE in
theorem runD_ok : ∀ (n:Nat) {c:Code} {s:S} {ds ds' : List Dc} {ob ob' : Ob} {o:Out},runD C E n c s ds ob = some (o,ds',ob') → Met ob' → Met ob ∧ Go.Abs.run C n c s = o:=by
  intro n
  induction n with
  | zero => intro c s ds ds' ob ob' o h; cases h
  | succ n ih =>
    intro c s ds ds' ob ob' o h hm
    cases c with
    | skip => cases h; exact ⟨hm,rfl⟩
    | label l => cases h; exact ⟨hm,rfl⟩
    | region id ops draw => exact regionD_ok hE (rcD_ok (rn:=fun c s ds ob => runD C E n c s ds ob) (run:=Go.Abs.run C n) (fun {c s ds ds' ob ob' o} h hm => ih h hm)) (id:=id) h hm
    | seq a b =>
      unfold runD at h
      have e : Go.Abs.run C (n + 1) (.seq a b) s = Out.rec (motive:=fun _ => Out) (fun s' => Go.Abs.run C n b s') (fun i s' => .ext i s') (fun s' => .ret s') (fun w => .bad w) (Go.Abs.run C n a s):=rfl
      rw [e]
      dsimp only at h
      split at h
      · rename_i s1 ds1 ob1 h1
        obtain ⟨h2,h3⟩:=ih h hm
        obtain ⟨h4,h5⟩:=ih h1 h2
        rw [h5]
        exact ⟨h4,h3⟩
      · rename_i r hr
        obtain ⟨h4,h5⟩:=ih h hm
        rw [h5]
        refine ⟨h4,?_⟩
        cases o with
        | nrm s1 => exact absurd h (hr s1 ds' ob')
        | _ => rfl
    | cond c a b =>
      unfold runD at h
      obtain ⟨env,H,nx,low⟩:=s
      have e : Go.Abs.run C (n + 1) (.cond c a b) ⟨env,H,nx,low⟩ = elimO (bindO (opd env c) boolOf) (.bad 101) (fun x => Go.Abs.run C n (ifB x a b) ⟨env,H,nx,low⟩):=rfl
      rw [e]
      dsimp only at h
      split at h
      · rename_i x hx
        obtain ⟨d,ds1,ob1,h,hb⟩:=branch_ok h
        obtain ⟨h2,h3⟩:=ih h hm
        obtain ⟨h4,h5⟩:=hb h2
        subst h4
        rw [hx,elimO_some]
        exact ⟨h5,h3⟩
      · cases h
    | block id a =>
      unfold runD at h
      have e : Go.Abs.run C (n + 1) (.block id a) s = Out.rec (motive:=fun _ => Out) (fun s' => .nrm s') (fun id' s' => ifB (Nat.beq id' id) (.nrm s') (.ext id' s')) (fun s' => .ret s') (fun w => .bad w) (Go.Abs.run C n a s):=rfl
      rw [e]
      dsimp only at h
      split at h
      · rename_i id' s1 ds1 ob1 h1
        cases hb : Nat.beq id' id with
        | true =>
          rw [hb,ifB_true] at h
          cases h
          obtain ⟨h4,h5⟩:=ih h1 hm
          rw [h5]
          refine ⟨h4,?_⟩
          show ifB (Nat.beq id' id) _ _ = _
          rw [hb]; rfl
        | false =>
          rw [hb,ifB_false] at h
          cases h
          obtain ⟨h4,h5⟩:=ih h1 hm
          rw [h5]
          refine ⟨h4,?_⟩
          show ifB (Nat.beq id' id) _ _ = _
          rw [hb]; rfl
      · rename_i r hr
        obtain ⟨h4,h5⟩:=ih h hm
        rw [h5]
        refine ⟨h4,?_⟩
        cases o with
        | ext id' s1 => exact absurd h (hr id' s1 ds' ob')
        | _ => rfl
    | loop a =>
      unfold runD at h
      have e : Go.Abs.run C (n + 1) (.loop a) s = Out.rec (motive:=fun _ => Out) (fun s' => Go.Abs.run C n (.loop a) s') (fun i s' => .ext i s') (fun s' => .ret s') (fun w => .bad w) (Go.Abs.run C n a s):=rfl
      rw [e]
      dsimp only at h
      split at h
      · rename_i s1 ds1 ob1 h1
        obtain ⟨h2,h3⟩:=ih h hm
        obtain ⟨h4,h5⟩:=ih h1 h2
        rw [h5]
        exact ⟨h4,h3⟩
      · rename_i r hr
        obtain ⟨h4,h5⟩:=ih h hm
        rw [h5]
        refine ⟨h4,?_⟩
        cases o with
        | nrm s1 => exact absurd h (hr s1 ds' ob')
        | _ => rfl
    | scope a =>
      have e : Go.Abs.run C (n + 1) (.scope a) s = Go.Abs.run C n a s:=rfl
      rw [e]
      exact ih h hm
    | exit id => cases h; exact ⟨hm,rfl⟩
    | ret => cases h; exact ⟨hm,rfl⟩
    | _ => cases h
include hE in
theorem symCall_ok {n:Nat} {f:FuncId} {l:List AV} {ds ds' : List Dc} {cr:CR} {ob:Ob} (hx:C.ext f l = none) (h:symCall C E n f l ds = some (cr,ds',ob)) (hm:Met ob) : Go.Abs.call C n f l = cr:=
  (rcD_ok (rn:=runD C E n) (run:=Go.Abs.run C n) (fun {c s ds ds' ob ob' o} h hm => runD_ok hE n h hm) f l T.nil 0 far ds [] cr ds' ob hx h hm).2
end
end Go.Abs
