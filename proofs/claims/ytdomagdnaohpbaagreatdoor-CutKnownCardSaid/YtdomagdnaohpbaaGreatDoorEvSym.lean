/- NUMBERS THAT ARE NOT KNOWN: the evaluator over data in which unknown numbers stand; every decision is given ahead, and what it asks is written down. -/
import Derived.Test.YtdomagdnaohpbaaGreatDoorEvLast
set_option linter.unusedSimpArgs false
set_option linter.unusedVariables false
namespace Go.Abs
noncomputable section
abbrev Es:=FuncId→List AV→Option (AV×Bool)
abbrev Ob:=List (Bool×Bool)
inductive Dc where
  | c | t | f
  | r (g:Nat) (v:AV)
  | l (x:AV)
  | i
  | a
  | s (t:T AV) (n:Nat)
  | o (n:Nat) (r:R)
  | n
def zo (p:Prop):Bool:=@decide p (Classical.propDecidable p)
theorem zk {p:Prop}:zo p=true↔p:=by unfold zo; exact @decide_eq_true_iff p (Classical.propDecidable p)
def Met:Ob→Prop
  | []=>True
  | p::l=>p.1=p.2∧Met l
def yU {β:Type} (x:AV) (k:AV→β):β:=(@AV.rec (fun _=>β) U1 U1 U1 U1 U1 U1 (fun z=>(@Value.rec (fun _=>β) U1 U1 (fun b=>forceB b fun b=>k (.v (.bool b))) (fun kd n=>wI n fun n=>k (.v (.int kd n))) (fun _ _=>k x) (fun _ _ _=>k x) (fun _=>k x) (fun _=>k x) (fun _ _ _=>k x) (fun _=>k x) (fun _=>k x) (fun _ _ _ _ _=>k x) (k x) (fun _ _ _=>k x) (k x) (fun _ _=>k x) (fun _ _=>k x) K2 () K4 (z))) (fun _ _=>k x) (fun _ _ _=>k x) (fun _ _ _ _ _ _=>k x) (fun _ _ _ _ _ _ _=>k x) (fun _ _ _ _ _=>k x) (fun _ _=>k x) (fun _ _=>k x) (fun _=>k x) (fun _ _=>k x) K2 () K4 () K4 () K8 K4 () K2 (x))
def kf {β:Type} (f:AV→(AV→β)→β) (l:List AV) (k:List AV→β):β:=
  List.rec (motive:=fun _=>(List AV→β)→β) (fun k=>k []) (fun x _ ih k=>f x fun y=>ih fun r=>k (y::r)) l k
def xq {β:Type} (x:AV) (k:AV→β):β:=(@AV.rec (fun _=>β) U1 U1 U1 U1 U1 U1 (fun _=>yU x k) (fun _ _=>yU x k) (fun _ _ _=>yU x k) (fun _ _ _ _ _ _=>yU x k) (fun _ _ _ _ _ _ _=>yU x k) (fun _ _ _ _ _=>yU x k) (fun l _=>kf yU l fun l=>k (.agg l)) (fun _ _=>yU x k) (fun _=>yU x k) (fun _ _=>yU x k) K2 () K4 () K4 () K8 K4 () K2 (x))
def kT {β:Type} (x:AV) (k:AV→β):β:=(@AV.rec (fun _=>β) U1 U1 U1 U1 U1 U1 (fun _=>xq x k) (fun _ _=>xq x k) (fun _ _ _=>xq x k) (fun _ _ _ _ _ _=>xq x k) (fun _ _ _ _ _ _ _=>xq x k) (fun _ _ _ _ _=>xq x k) (fun _ _=>xq x k) (fun l _=>kf xq l fun l=>k (.tuple l)) (fun _=>xq x k) (fun _ _=>xq x k) K2 () K4 () K4 () K8 K4 () K2 (x))
theorem kg {β:Type} (x:AV) (k:AV→β):yU x k=k x:=by
  cases x with
  |
    v z=>cases z with
    | int kd n=>exact xx n fun n=>k (.v (.int kd n))
    | bool b=>exact forceB_eq b fun b=>k (.v (.bool b))
    | _=>rfl
  | _=>rfl
theorem jn {β:Type} {f:AV→(AV→β)→β} (hf:∀ x k,f x k=k x) (l:List AV):∀ k,kf f l k=k l:=by
  induction l with
  | nil=>intro k; rfl
  | cons x l ih=>intro k; show f x (fun y=>kf f l fun r=>k (y::r))=_; rw [hf,ih]
theorem uB {β:Type} (x:AV) (k:AV→β):xq x k=k x:=by
  cases x with
  | agg l=>exact jn kg l _
  | v z=>exact kg (.v z) k
  | _=>rfl
theorem kU {β:Type} (x:AV) (k:AV→β):kT x k=k x:=by
  cases x with
  | tuple l=>exact jn uB l _
  | agg l=>exact uB (.agg l) k
  | v z=>exact uB (.v z) k
  | _=>rfl
def extOf (E:Es) (f:FuncId) (l:List AV):Option AV:=zf (E f l) fun q=>Prod.rec (fun v c=>zm c (kT v some)) q
theorem extOf_some {E:Es} {f:FuncId} {l:List AV} {v:AV}:extOf E f l=some v↔E f l=some (v,true):=by
  unfold extOf
  rw [za]
  constructor
  ·
    rintro ⟨⟨u,c⟩,h1,h2⟩
    replace h2:zm c (kT u some)=some v:=h2
    rw [kU,zi] at h2
    obtain ⟨rfl,h2⟩:=h2
    cases h2; exact h1
  ·
    intro h
    refine ⟨_,h,?_⟩
    show zm true (kT v some)=some v
    rw [kU]; rfl
def Xl {β:Type} (x:Bool) (ds:List Dc) (ob:Ob) (k:Bool→List Dc→Ob→Option β):Option β:=
  List.rec (ifB x (k true [] ob) (k false [] ob)) (fun d ds _=>Dc.rec (ifB x (k true ds ob) (k false ds ob)) (k true ds ((x,true)::ob)) (k false ds ((x,false)::ob)) (fun g v=>ifB x (k true (.r g v::ds) ob) (k false (.r g v::ds) ob)) (fun y=>ifB x (k true (.l y::ds) ob) (k false (.l y::ds) ob)) (ifB x (k true (.i::ds) ob) (k false (.i::ds) ob)) (ifB x (k true (.a::ds) ob) (k false (.a::ds) ob)) (fun t m=>ifB x (k true (.s t m::ds) ob) (k false (.s t m::ds) ob)) (fun m r=>ifB x (k true (.o m r::ds) ob) (k false (.o m r::ds) ob)) (ifB x (k true (.n::ds) ob) (k false (.n::ds) ob)) d) ds
def zfP (env:T AV) (ops:Array Oper) (j:Nat):Option Bool:=zf (qP ops j) fun d=>zf (env.get d) z9
def zfQ (op:BinOp) (a b:Int):Option AV:=
  (@BinOp.rec (fun _=>Option AV) (none) (none) (none) (none) (none) (none) (none) (none) (none) (none) (none) (some (.v (.bool (eqI a b)))) (some (.v (.bool (notB (eqI a b))))) (some (.v (.bool (ltI a b)))) (some (.v (.bool (notB (ltI b a))))) (some (.v (.bool (ltI b a)))) (some (.v (.bool (notB (ltI a b))))) (op))
def small (a:Nat):Bool:=Nat.ble a 18446744073709551615
def natD (op:BinOp) (k:IntKind) (a b:Nat):Option (AV×Ob):=zm (Nat.beq (xD k) 7)
  (@BinOp.rec (fun _=>Option (AV×Ob)) (none) (some (.v (.int .u64 (.ofNat (Nat.sub a b))),[(Nat.ble b a,true),(small a,true)])) (none) (some (.v (.int .u64 (.ofNat (Nat.div a b))),[(Nat.beq b 0,false),(small a,true)])) (some (.v (.int .u64 (.ofNat (Nat.mod a b))),[(Nat.beq b 0,false)])) (none) (none) (none) (none) (none) (none) (none) (none) (none) (none) (none) (none) (op))
def zc5 (op:BinOp) (k:IntKind) (a b:Int):Option (AV×Ob):=
  elimO (zfQ op a b) (Int.rec (fun x=>Int.rec (fun y=>natD op k x y) (fun _=>none) b) (fun _=>none) a) fun v=>some (v,[])
def zfR (C:Cx) (op:BinOp) (t:TypeId) (xo yo:Operand) (x y:AV):Option (AV×Ob):=
  elimO (xi x none fun k a=>xi y none fun k' b=>zm (eqK k k') (zc5 op k a b)) (zf (bin C op t xo yo x y) fun v=>some (v,[])) some
def uC {α:Type} (s:S) (d:Option Tmp) (v:AV) (k:S→α):α:=S.rec (fun env H nx low=>putK env d v fun env=>k ⟨env,H,nx,low⟩) s
abbrev DR:=S×Foot×List Dc×Ob
def uR (C:Cx) (nb:Nat) (o:Oper) (s:S) (ds:List Dc) (ob:Ob):Option DR:=
  S.rec (fun env H nx low=>zf (zY o.op C env H nb o.type) fun r=>R.rec (fun v us rd=>putK env o.dst v fun env=>some (⟨env,z_ H us,nx,lower low us⟩,⟨rd,some (us.map (·.1)),false,nu⟩,ds,ob)) r) s
def Xm (C:Cx) (nb:Nat) (o:Oper) (r:R) (s:S) (ds:List Dc) (ob:Ob):Option DR:=
  S.rec (fun env H nx low=>putK env o.dst r.v fun env'=>some (⟨env',z_ H r.ups,nx,lower low r.ups⟩,⟨r.rd,some (r.ups.map (·.1)),false,nu⟩,ds,(zo (zY o.op C env H nb o.type=some r),true)::ob)) s
def Ko {β:Type} (ds:List Dc) (n:List Dc→β) (k:R→List Dc→β):β:=
  List.rec (n []) (fun d ds' _=>Dc.rec (n ds) (n ds) (n ds) (fun _ _=>n ds) (fun _=>n ds) (n ds) (n ds) (fun _ _=>n ds) (fun m r=>Nat.rec (k r ds') (fun m _=>n (.o m r::ds')) m) (n ds) d) ds
def zB (C:Cx) (nb:Nat) (o:Oper) (s:S) (ds:List Dc) (ob:Ob):Option DR:=
  Ko ds (fun ds=>uR C nb o s ds ob) fun r ds=>Xm C nb o r s ds ob
abbrev Rc:=FuncId→List AV→T Blk→Nat→Nat→List Dc→Ob→Option (CR×List Dc×Ob)
def takeR {β:Type} (f:Nat) (ds:List Dc) (n:β) (k:AV→List Dc→β):β:=List.rec n (fun d ds _=>Dc.rec n n n (fun g v=>ifB (Nat.beq g f) (k v ds) n) (fun _=>n) n n (fun _ _=>n) (fun _ _=>n) n d) ds
def zeX (C:Cx) (E:Es) (rc:Rc) (o:Oper) (f:Operand) (args:Array Operand) (s:S) (ds:List Dc) (ob:Ob):Option DR:=
  zf (yd (S.env s) f args) fun p=>zm (notB (C.bor p.1)) (takeR p.1 ds (elimO (E p.1 p.2) (S.rec (fun env H nx low=>zf (rc p.1 p.2 H nx low ds ob) fun r=>(@CR.rec (fun _=>Option DR) (fun v rd=>putK env o.dst v fun env=>some (⟨env,H,nx,low⟩,⟨rd,some [],false,nu⟩,r.2.1,r.2.2)) (fun v H1 nx low=>putK env o.dst v fun env=>some (⟨env,H1,nx,low⟩,⟨none,none,true,v7 H H1⟩,r.2.1,r.2.2)) (fun v us nx=>putK env o.dst v fun env=>Go.Abs.ups H us fun H=>force (lower low us) fun low=>some (⟨env,H,nx,low⟩,⟨some [],some (us.map (·.1)),true,nu⟩,r.2.1,r.2.2)) (fun _=>none) (r.1))) s)
    fun q=>uC s o.dst q.1 fun s=>some (s,⟨some [],some [],false,nu⟩,ds,(q.2,true)::ob)) fun v ds'=>uC s o.dst v fun s=>some (s,⟨some [],some [],false,nu⟩,ds',(zo (E p.1 p.2=some (v,true)),true)::ob))
def zeY (o:Oper) (c a b:Operand) (s:S) (ds:List Dc) (ob:Ob):Option DR:=
  zf (opd (S.env s) c) fun x=>zf (z9 x) fun y=>Xl y ds ob fun d ds ob=>zf (opd (S.env s) (ifB d a b)) fun v=>uC s o.dst v fun s=>some (s,⟨some [],some [],false,nu⟩,ds,ob)
def za9 (C:Cx) (o:Oper) (op:BinOp) (t:TypeId) (x y:Operand) (s:S) (ds:List Dc) (ob:Ob):Option DR:=
  zf (opd (S.env s) x) fun a=>zf (opd (S.env s) y) fun b=>zf (zfR C op t x y a b) fun q=>uC s o.dst q.1 fun s=>some (s,⟨some [],some [],false,nu⟩,ds,q.2++ob)
def zfS {β:Type} (ds:List Dc) (n:β) (k:AV→List Dc→β):β:=List.rec n (fun d ds _=>Dc.rec n n n (fun _ _=>n) (fun x=>k x ds) n n (fun _ _=>n) (fun _ _=>n) n d) ds
def takeI {β:Type} (ds:List Dc) (n:β) (k:List Dc→β):β:=List.rec n (fun d ds _=>Dc.rec n n n (fun _ _=>n) (fun _=>n) (k ds) n (fun _ _=>n) (fun _ _=>n) n d) ds
def takeA {β:Type} (ds:List Dc) (n:β) (k:List Dc→β):β:=List.rec n (fun d ds _=>Dc.rec n n n (fun _ _=>n) (fun _=>n) n (k ds) (fun _ _=>n) (fun _ _=>n) n d) ds
def loadD (C:Cx) (nb:Nat) (o:Oper) (t:TypeId) (a:Operand) (s:S) (ds:List Dc) (ob:Ob):Option DR:=
  zfS ds (zB C nb o s ds ob) fun x ds'=>zf (opd (S.env s) a) fun p=>(@AV.rec (fun _=>Option DR) U1 U1 U1 U1 U1 U1 (fun _=>none) (fun b off=>uC s o.dst x fun s'=>some (s',⟨some [b],some [],false,nu⟩,ds',(zo (zf (cellsOf (S.H s) b) (fun p=>loadT C t p.1 off)=some x),true)::ob)) (fun c off _=>uC s o.dst x fun s=>some (s,⟨some [],some [],false,nu⟩,ds',(zo (loadT C t c off=some x),true)::ob)) (fun _ _ _ _ _ _=>none) (fun _ _ _ _ _ _ _=>none) (fun _ _ _ _ _=>none) (fun _ _=>none) (fun _ _=>none) (fun _=>none) (fun _ _=>none) K2 () K4 () K4 () K8 K4 () K2 (p))
def takeS {β:Type} (ds:List Dc) (n:β) (k:T AV→Nat→List Dc→β):β:=List.rec n (fun d ds _=>Dc.rec n n n (fun _ _=>n) (fun _=>n) n n (fun t m=>k t m ds) (fun _ _=>n) n d) ds
def zfT (C:Cx) (nb:Nat) (o:Oper) (t:TypeId) (a x:Operand) (s:S) (ds:List Dc) (ob:Ob):Option DR:=
  takeS ds (zB C nb o s ds ob) fun c n ds'=>S.rec (fun env H nx low=>zf (opd env a) fun p=>zf (opd env x) fun y =>
    (@AV.rec (fun _=>Option DR) U1 U1 U1 U1 U1 U1 (fun _=>none) (fun b off=>zm (andB (okT C t) (andB (Nat.beq (lenL y.cells) (C.P.cellsOf t)) (andB (Nat.ble (Nat.add off (lenL y.cells)) n) (allB oneCell y.cells))))
      (putK env o.dst (.tuple []) fun env=>some (⟨env,z_ H [(b,.cells (zu off c y.cells) n)],nx,lower low [(b,.cells (zu off c y.cells) n)]⟩,⟨some [b],some [b],false,nu⟩,ds',(zo (yD H b=some (c,n)),true)::ob))) (fun _ _ _=>none) (fun _ _ _ _ _ _=>none) (fun _ _ _ _ _ _ _=>none) (fun _ _ _ _ _=>none) (fun _ _=>none) (fun _ _=>none) (fun _=>none) (fun _ _=>none) K2 () K4 () K4 () K8 K4 () K2 (p))) s
def zfU (C:Cx) (nb:Nat) (o:Oper) (t:TypeId) (x i:Operand) (s:S) (ds:List Dc) (ob:Ob):Option DR:=
  takeI ds (zB C nb o s ds ob) fun ds'=>zf (opd (S.env s) x) fun y=>zf (opd (S.env s) i) fun j=>zf (natOf j) fun n=>zf (yk C t) fun e =>
    (@AV.rec (fun _=>Option DR) U1 U1 U1 U1 U1 U1 (fun _=>none) (fun _ _=>none) (fun _ _ _=>none) (fun _ _ _ _ _ _=>none) (fun t' off len _ _ _ _=>uC s o.dst (.vp t' (Nat.add off (Nat.mul n (C.P.cellsOf e)))) fun s=>some (s,⟨some [],some [],false,nu⟩,ds',(Nat.ble (Nat.succ n) len,true)::ob)) (fun _ _ _ _ _=>none) (fun _ _=>none) (fun _ _=>none) (fun _=>none) (fun _ _=>none) K2 () K4 () K4 () K8 K4 () K2 (y))
def isAdd (op:BinOp):Bool:=(@BinOp.rec (fun _=>Bool) (true) (false) (false) (false) (false) (false) (false) (false) (false) (false) (false) (false) (false) (false) (false) (false) (false) (op))
def sumD (C:Cx) (o:Oper) (op:BinOp) (t:TypeId) (x y:Operand) (s:S) (ds:List Dc) (ob:Ob):Option DR:=
  takeA ds (za9 C o op t x y s ds ob) fun ds'=>zf (opd (S.env s) x) fun a=>zf (opd (S.env s) y) fun b=>zm (isAdd op)
    (xi a none fun k m=>xi b none fun k' n=>zm (andB (Nat.beq (xD k) 3) (Nat.beq (xD k') 3)) (Int.rec (fun m=>Int.rec (fun n =>
      uC s o.dst (.v (.int .i64 (.ofNat (Nat.add m n)))) fun s=>some (s,⟨some [],some [],false,nu⟩,ds',(Nat.ble (Nat.add m n) 9223372036854775807,true)::ob)) (fun _=>none) n) (fun _=>none) m))
def binU (C:Cx) (o:Oper) (op:BinOp) (t:TypeId) (x y:Operand) (v:AV) (s:S) (ds:List Dc) (ob:Ob):Option DR:=
  zf (opd (S.env s) x) fun a=>zf (opd (S.env s) y) fun b=>uC s o.dst v fun s=>some (s,⟨some [],some [],false,nu⟩,ds,(zo (bin C op t x y a b=some v),true)::ob)
def appU (C:Cx) (nb:Nat) (o:Oper) (args:Array Operand) (ts:Array TypeId) (r:R) (s:S) (ds:List Dc) (ob:Ob):Option DR:=
  S.rec (fun env H nx low=>zf (vP env args.toList) fun l=>zf (nthL l 0) fun x=>zf (nthL l 1) fun y=>zm (Nat.beq (lenL l) 2) (zf (nthL ts.toList 0) fun st=>zf (nthL ts.toList 1) fun xt=>zm (Nat.beq (lenL ts.toList) 2)
    (putK env o.dst r.v fun env'=>some (⟨env',z_ H r.ups,nx,lower low r.ups⟩,⟨r.rd,some (r.ups.map (·.1)),false,nu⟩,ds,(zo (wq C H nb st xt x y=some r),true)::ob)))) s
def zba (b:Builtin):Bool:=(@Builtin.rec (fun _=>Bool) (true) (false) (false) (false) (false) (false) (false) (false) (false) (false) (false) (false) (false) (false) (false) (false) (false) (false) (false) (false) (false) (false) (false) (false) (false) (false) (b))
def zfV (C:Cx) (E:Es) (rc:Rc) (nb:Nat) (o:Oper) (s:S) (ds:List Dc) (ob:Ob):Option DR:=
  (@Op.rec (fun _=>Option DR) (fun _=>zB C nb o s ds ob) (fun _=>zB C nb o s ds ob) (fun c a b=>zeY o c a b s ds ob) (fun _=>zB C nb o s ds ob) (fun _ _=>zB C nb o s ds ob) (fun _ _=>zB C nb o s ds ob) (fun _ _ _=>zB C nb o s ds ob) (fun _ _ _ _=>zB C nb o s ds ob) (fun t a=>loadD C nb o t a s ds ob) (fun t a x=>zfT C nb o t a x s ds ob) (fun _=>zB C nb o s ds ob) (fun _=>zB C nb o s ds ob) (fun _=>zB C nb o s ds ob) (fun op t x y _=>Ko ds (fun ds=>sumD C o op t x y s ds ob) fun r ds=>binU C o op t x y r.v s ds ob) (fun _ _ _=>zB C nb o s ds ob) (fun _ _ _=>zB C nb o s ds ob) (fun _ _=>zB C nb o s ds ob) (fun _ _=>zB C nb o s ds ob) (fun _ _ _=>zB C nb o s ds ob) (fun _ _=>zB C nb o s ds ob) (fun _ _=>zB C nb o s ds ob) (fun _ _ _=>zB C nb o s ds ob) (fun _ _ _ _ _=>zB C nb o s ds ob) (fun _ _ _=>zB C nb o s ds ob) (fun _ _ _=>zB C nb o s ds ob) (fun t x i=>zfU C nb o t x i s ds ob) (fun _ _ _=>zB C nb o s ds ob) (fun _ _ _ _=>zB C nb o s ds ob) (fun _ _ _ _=>zB C nb o s ds ob) (fun _ _ _=>zB C nb o s ds ob) (fun _ _ _ _=>zB C nb o s ds ob) (fun _ _=>zB C nb o s ds ob) (fun _ _=>zB C nb o s ds ob) (fun _=>zB C nb o s ds ob) (fun _ _ _ _=>zB C nb o s ds ob) (fun _ _=>zB C nb o s ds ob) (fun c=>(@Callee.rec (fun _=>Option DR) (fun f=>zeX C E rc o f c.args s ds ob) (fun _ _=>zB C nb o s ds ob) (fun b=>ifB (zba b) (Ko ds (fun ds=>uR C nb o s ds ob) fun r ds=>appU C nb o c.args c.argTypes r s ds ob) (zB C nb o s ds ob)) (c.callee))) (fun _=>zB C nb o s ds ob) (fun _=>zB C nb o s ds ob) (fun _=>zB C nb o s ds ob) (fun _ _=>zB C nb o s ds ob) (fun _ _ _=>zB C nb o s ds ob) (fun _ _=>zB C nb o s ds ob) (o.op))
def zbb (C:Cx) (E:Es) (rc:Rc) (ops:Array Oper) (nb:Nat) (o:Oper) (s:S) (ds:List Dc) (ob:Ob):Option DR:=
  elimO o.guard (zfV C E rc nb o s ds ob) fun g=>zf (zfP (S.env s) ops g.1) fun b=>Xl (ifB g.2 b (notB b)) ds ob fun d ds ob=>ifB d (zfV C E rc nb o s ds ob)
    (uC s o.dst (.tuple []) fun s'=>some (s',⟨some [],some [],false,nu⟩,ds,ob))
abbrev DS:=S×List Foot×List Dc×Ob
def zbc (C:Cx) (E:Es) (rc:Rc) (ops:Array Oper) (base:Nat) (l:List Oper):Nat→S→List Foot→List Dc→Ob→Option DS:=
  List.rec (fun _ s fs ds ob=>some (s,fs,ds,ob)) (fun o _ ih i s fs ds ob=>zf (zbb C E rc ops (Nat.add base i) o s ds ob) fun r=>ih (Nat.succ i) r.1 (r.2.1::fs) r.2.2.1 r.2.2.2) l
abbrev DO:=Out×List Dc×Ob
def Xn (C:Cx) (E:Es) (rc:Rc) (ops:Array Oper) (draw:Bool) (s:S) (ds:List Dc) (ob:Ob):Option DO:=
  S.rec (fun env H nx0 low=>force (Nat.add nx0 (lenL ops.toList)) fun nx =>
    zf (zbc C E rc ops nx0 ops.toList 0 (drop C ops.toList ⟨env,H,nx,low⟩) [] ds ob) fun r =>
      ifB draw (zm (andB (ys ops) (xw r.2.1.reverse (openPairs ops))) (some (.nrm r.1,r.2.2.1,r.2.2.2))) (some (.nrm r.1,r.2.2.1,r.2.2.2))) s
def U_ (r:CR) (ds:List Dc) (ob:Ob):Option (CR×List Dc×Ob):=(@CR.rec (fun _=>Option (CR×List Dc×Ob)) (fun v rd=>some (.value v rd,ds,ob)) (fun v H nx low=>some (.heap v H nx low,ds,ob)) (fun v us nx=>some (.fresh v us nx,ds,ob)) (fun _=>none) (r))
def takeN {β:Type} (ds:List Dc) (n:List Dc→β) (k:List Dc→β):β:=
  List.rec (n []) (fun d ds' _=>Dc.rec (n (.c::ds')) (n (.t::ds')) (n (.f::ds')) (fun g v=>n (.r g v::ds')) (fun x=>n (.l x::ds')) (n (.i::ds')) (n (.a::ds')) (fun t m=>n (.s t m::ds')) (fun m r=>n (.o m r::ds')) (k ds') d) ds
def zbd (C:Cx) (fn:Func) (nx:Nat) (ds:List Dc) (ob:Ob) (s:S):Option (CR×List Dc×Ob):=
  S.rec (fun env H' nx' low'=>zf (zN C env H' fn.results.toList) fun l=>xH l fun r=>zf (zV H' nx 20 r) fun v=>some (.value v none,ds,(Nat.ble (Nat.succ low') nx,false)::ob)) s
def Kp (C:Cx) (fn:Func) (nx:Nat) (o:Out) (ds:List Dc) (ob:Ob):Option (CR×List Dc×Ob):=(@Out.rec (fun _=>Option (CR×List Dc×Ob)) (fun s=>zbd C fn nx ds ob s) (fun _ _=>none) (fun s=>zbd C fn nx ds ob s) (fun _=>none) (o))
def Xo (C:Cx) (rn:Code→S→List Dc→Ob→Option DO):Rc:=fun f l H nx low ds ob =>
  zf (funcOf C f) fun p=>zm (Nat.ble (lenL l) p.1.ntmps) (fill 0 T.nil l fun env =>
    takeN ds (fun ds =>
    ifB (andB (allB (flat 4) l) (notB (C.nf f)))
      (zf (rn p.2 ⟨env,T.nil,0,far⟩ ds ob) fun r=>U_ (zD (finPure C p.1) r.1) r.2.1 r.2.2)
      (ifB (allB (flat 4) l) (zf (rn p.2 ⟨env,T.nil,nx,far⟩ ds ob) fun r=>U_ (zD (finFresh C p.1 nx) r.1) r.2.1 r.2.2)
        (zf (rn p.2 ⟨env,H,nx,far⟩ ds ob) fun r=>U_ (zD (finHeap C p.1 (C.nf f) nx low) r.1) r.2.1 r.2.2)))
      (fun ds=>zm (notB (C.nf f)) (zf (rn p.2 ⟨env,H,nx,far⟩ ds ((allB (flat 4) l,false)::ob)) fun r=>Kp C p.1 nx r.1 r.2.1 r.2.2)))
def yj (C:Cx) (E:Es):Nat→Code→S→List Dc→Ob→Option DO
  | 0,_,_,_,_=>none
  |
    n + 1,c,s,ds,ob=>match c with
    | .skip=>some (.nrm s,ds,ob)
    | .label _=>some (.nrm s,ds,ob)
    | .region _ ops draw=>Xn C E (fun f l H nx low ds ob=>Xo C (fun c s ds ob=>yj C E n c s ds ob) f l H nx low ds ob) ops draw s ds ob
    |
      .seq a b=>match yj C E n a s ds ob with
      | some (.nrm s',ds',ob')=>yj C E n b s' ds' ob'
      | r=>r
    |
      .cond c a b=>match zf (opd s.env c) z9 with
      | some x=>Xl x ds ob fun d ds ob=>yj C E n (ifB d a b) s ds ob
      | none=>none
    |
      .block id a=>match yj C E n a s ds ob with
      | some (.ext id' s',ds',ob')=>ifB (Nat.beq id' id) (some (.nrm s',ds',ob')) (some (.ext id' s',ds',ob'))
      | r=>r
    |
      .loop a=>match yj C E n a s ds ob with
      | some (.nrm s',ds',ob')=>yj C E n (.loop a) s' ds' ob'
      | r=>r
    | .scope a=>yj C E n a s ds ob
    | .exit id=>some (.ext id s,ds,ob)
    | .ret=>some (.ret s,ds,ob)
    | _=>none
def symCall (C:Cx) (E:Es) (n:Nat) (f:FuncId) (l:List AV) (ds:List Dc):Option (CR×List Dc×Ob):=Xo C (yj C E n) f l T.nil 0 far ds []
section
variable {C:Cx} {E:Es} {run:Code→S→Out} {ops:Array Oper}
theorem zc6 {op:BinOp} {k:IntKind} {a b:Int} {v:AV} (h:zfQ op a b=some v) (fall:Option AV):ua op k a b fall=some v:=by
  have hb:∀ x,v9 x=some (.v (.bool x)):=fun x=>by unfold v9; rw [forceB_eq]
  cases op <;> first | cases h | skip
  all_goals exact hb _
theorem Qa (k:IntKind) (a b:Int) (fall:Option AV):ua .sub k a b fall=Wx k (zcQ a (zfD b)):=rfl
theorem kV {β:Type} {x:Bool} {ds:List Dc} {ob:Ob} {k:Bool→List Dc→Ob→Option β} {r:β} (h:Xl x ds ob k=some r):∃ d ds' ob',k d ds' ob'=some r∧(Met ob'→x=d∧Met ob):=by
  have same:∀ ds,ifB x (k true ds ob) (k false ds ob)=some r→∃ d ds' ob',k d ds' ob'=some r∧(Met ob'→x=d∧Met ob):=fun ds h=>by
    cases x with
    | true=>exact ⟨true,ds,ob,h,fun hm=>⟨rfl,hm⟩⟩
    | false=>exact ⟨false,ds,ob,h,fun hm=>⟨rfl,hm⟩⟩
  cases ds with
  | nil=>exact same [] h
  |
    cons d ds =>
    cases d with
    | c=>exact same ds h
    | t=>exact ⟨true,ds,_,h,fun hm=>hm⟩
    | f=>exact ⟨false,ds,_,h,fun hm=>hm⟩
    | r g v=>exact same (.r g v::ds) h
    | l x=>exact same (.l x::ds) h
    | i=>exact same (.i::ds) h
    | a=>exact same (.a::ds) h
    | s t m=>exact same (.s t m::ds) h
    | o m r=>exact same (.o m r::ds) h
    | n=>exact same (.n::ds) h
theorem zc7 {a b:Ob}:Met (a++b)↔Met a∧Met b:=by
  induction a with
  | nil=>simp [Met]
  | cons x a ih=>simp [Met,ih,and_assoc]
theorem zc8 {op:BinOp} {k:IntKind} {t:TypeId} {xo yo:Operand} {a b:Nat} {v:AV} {ob:Ob} (h:natD op k a b=some (v,ob)) (hm:Met ob):bin C op t xo yo (.v (.int k (.ofNat a))) (.v (.int k (.ofNat b)))=some v:=by
  replace h:=zi.1 h; obtain ⟨hk,h⟩:=h
  have hk':k=.u64:=by cases k <;> first | rfl | cases hk
  subst hk'
  have hsm:∀ x,small x=true→(x:Int) < 18446744073709551616:=fun x h=>by have:=zq.1 h; omega
  have hself:bin C op t xo yo (.v (.int .u64 (.ofNat a))) (.v (.int .u64 (.ofNat b)))=ua op .u64 (.ofNat a) (.ofNat b) (yx C op t xo yo (.v (.int .u64 (.ofNat a))) (.v (.int .u64 (.ofNat b)))):=rfl
  have wr:∀ x:Nat,x < 18446744073709551616→IntKind.u64.wrap (x:Int)=(x:Int):=fun x hx=>by rw [IntKind.wrap_u64]; omega
  rw [hself]
  cases op <;> first | cases h | skip
  case sub.refl =>
    obtain ⟨h1,h2,_⟩:=hm
    have h1:=zq.1 h1
    have h2:=hsm a h2
    rw [Qa]
    unfold Wx
    rw [xx,WP,Y4,Kd]
    have e:(Int.ofNat a + -Int.ofNat b)=((a - b:Nat):Int):=by simp only [Int.ofNat_eq_natCast]; omega
    rw [e,wr _ (by omega)]
    rfl
  case quo.refl =>
    obtain ⟨h1,h2,_⟩:=hm
    have h2:=hsm a h2
    have hb:b≠0:=fun e=>by subst e; cases h1
    show yx C .quo t xo yo (.v (.int .u64 (.ofNat a))) (.v (.int .u64 (.ofNat b)))=_
    have hp:xZ C.P (do eqGuard .quo t xo yo (.int .u64 (.ofNat a)) (.int .u64 (.ofNat b)); binOp .quo t (.int .u64 (.ofNat a)) (.int .u64 (.ofNat b)))=some (.int .u64 (.ofNat (a / b))):=by
      have hb' : ¬ ((b:Int)=0):=by omega
      have e:(do eqGuard .quo t xo yo (.int .u64 (.ofNat a)) (.int .u64 (.ofNat b)); binOp .quo t (.int .u64 (.ofNat a)) (.int .u64 (.ofNat b)):Sem Value)=Op.intDiv .quo .u64 (.ofNat a) (.ofNat b):=rfl
      rw [e]
      unfold Op.intDiv
      rw [if_neg (by simpa using hb')]
      show some (Value.int IntKind.u64 (IntKind.u64.wrap (Int.tdiv (a:Int) (b:Int))))=_
      have e2:Int.tdiv (a:Int) (b:Int)=((a / b:Nat):Int):=rfl
      rw [e2,wr _ (by have:=Nat.div_le_self a b; omega)]
      rfl
    unfold yx
    show zf (xZ C.P _) _=_
    rw [hp]
    rfl
  case rem.refl =>
    obtain ⟨h1,_⟩:=hm
    have hb:b≠0:=fun e=>by subst e; cases h1
    show yx C .rem t xo yo (.v (.int .u64 (.ofNat a))) (.v (.int .u64 (.ofNat b)))=_
    have hp:xZ C.P (do eqGuard .rem t xo yo (.int .u64 (.ofNat a)) (.int .u64 (.ofNat b)); binOp .rem t (.int .u64 (.ofNat a)) (.int .u64 (.ofNat b)))=some (.int .u64 (.ofNat (a % b))):=by
      have hb' : ¬ ((b:Int)=0):=by omega
      have e:(do eqGuard .rem t xo yo (.int .u64 (.ofNat a)) (.int .u64 (.ofNat b)); binOp .rem t (.int .u64 (.ofNat a)) (.int .u64 (.ofNat b)):Sem Value)=Op.intDiv .rem .u64 (.ofNat a) (.ofNat b):=rfl
      rw [e]
      unfold Op.intDiv
      rw [if_neg (by simpa using hb')]
      rfl
    unfold yx
    show zf (xZ C.P _) _=_
    rw [hp]
    rfl
theorem zc9 {op:BinOp} {t:TypeId} {xo yo:Operand} {x y v:AV} {ob:Ob} (h:zfR C op t xo yo x y=some (v,ob)) (hm:Met ob):bin C op t xo yo x y=some v:=by
  unfold zfR at h
  cases hi:(xi x none fun k a=>xi y none fun k' b=>zm (eqK k k') (zc5 op k a b)) with
  |
    none =>
    rw [hi,elimO_none] at h
    obtain ⟨u,h1,h2⟩:=za.1 h
    cases h2; exact h1
  |
    some q =>
    rw [hi,elimO_some] at h
    cases h
    cases x <;> try (cases hi; done)
    rename_i x
    cases x <;> try (cases hi; done)
    rename_i k a
    cases y <;> try (cases hi; done)
    rename_i y
    cases y <;> try (cases hi; done)
    rename_i k' b
    replace hi:zm (eqK k k') (zc5 op k a b)=some (v,ob):=hi
    obtain ⟨hk,hi2⟩:=zi.1 hi
    obtain rfl:=vI hk
    unfold zc5 at hi2
    cases hc:zfQ op a b with
    |
      some u =>
      rw [hc,elimO_some] at hi2
      cases hi2
      show ifB (eqK k k) (ua op k a b _) _=_
      rw [hk,ifB_true]
      exact zc6 hc _
    |
      none =>
      rw [hc,elimO_none] at hi2
      cases a with
      | negSucc _=>cases hi2
      |
        ofNat a=>cases b with
        | negSucc _=>cases hi2
        | ofNat b=>exact zc8 hi2 hm
def RcOk (C:Cx) (rc:Rc) (run:Code→S→Out):Prop:=∀ f l H nx low ds ob cr ds' ob',C.ext f l=none→rc f l H nx low ds ob=some (cr,ds',ob')→Met ob'→Met ob∧zx C run f l H nx low=cr
variable {rc:Rc} (hE:C.ext=extOf E) (hrc:RcOk C rc run)
theorem wu {α:Type} (env:T AV) (H:T Blk) (nx low:Nat) (d:Option Tmp) (v:AV) (k:S→α):uC ⟨env,H,nx,low⟩ d v k=k ⟨wl env d v,H,nx,low⟩:=by
  show putK env d v (fun env=>k ⟨env,H,nx,low⟩)=_
  rw [zJ]
theorem ZD {nb:Nat} {o:Oper} {env:T AV} {H:T Blk} {nx low:Nat} {ds ds':List Dc} {ob ob':Ob} {s':S} {f:Foot} (h:uR C nb o ⟨env,H,nx,low⟩ ds ob=some (s',f,ds',ob')) :
    ob'=ob∧stepSimple o.dst (zY o.op C env H nb o.type) env H nx low=.ok s' f:=by
  replace h:=za.1 h; obtain ⟨r,h1,h⟩:=h
  rw [h1,zU]
  obtain ⟨v,us,rd⟩:=r
  replace h:putK env o.dst v (fun env=>some ((⟨env,z_ H us,nx,lower low us⟩:S),(⟨rd,some (us.map (·.1)),false,nu⟩:Foot),ds,ob))=some (s',f,ds',ob'):=h
  rw [zJ] at h
  cases h
  exact ⟨rfl,rfl⟩
theorem Qb {nb:Nat} {o:Oper} {r:R} {env:T AV} {H:T Blk} {nx low:Nat} {ds ds':List Dc} {ob ob':Ob} {s':S} {f:Foot} (h:Xm C nb o r ⟨env,H,nx,low⟩ ds ob=some (s',f,ds',ob')) (hm:Met ob') :
    Met ob∧stepSimple o.dst (zY o.op C env H nb o.type) env H nx low=.ok s' f:=by
  replace h:putK env o.dst r.v (fun env'=>some ((⟨env',z_ H r.ups,nx,lower low r.ups⟩:S),(⟨r.rd,some (r.ups.map (·.1)),false,nu⟩:Foot),ds,(zo (zY o.op C env H nb o.type=some r),true)::ob))=some (s',f,ds',ob'):=h
  rw [zJ] at h
  cases h
  obtain ⟨hc,hm⟩:=hm
  have hc:=zk.1 hc
  rw [hc,zU]
  exact ⟨hm,rfl⟩
theorem w_ {nb:Nat} {o:Oper} {env:T AV} {H:T Blk} {nx low:Nat} {ds ds':List Dc} {ob ob':Ob} {s':S} {f:Foot} (h:zB C nb o ⟨env,H,nx,low⟩ ds ob=some (s',f,ds',ob')) (hm:Met ob') :
    Met ob∧stepSimple o.dst (zY o.op C env H nb o.type) env H nx low=.ok s' f:=by
  have conc:∀ ds,uR C nb o ⟨env,H,nx,low⟩ ds ob=some (s',f,ds',ob')→Met ob∧stepSimple o.dst (zY o.op C env H nb o.type) env H nx low=.ok s' f:=fun ds h=>by
    obtain ⟨e,h2⟩:=ZD h
    exact ⟨e ▸ hm,h2⟩
  cases ds with
  | nil=>exact conc [] h
  |
    cons d ds =>
    cases d with
    |
      o m r =>
      cases m with
      | zero=>exact Qb (show Xm C nb o r ⟨env,H,nx,low⟩ ds ob=some (s',f,ds',ob') from h) hm
      | succ m=>exact conc (.o m r::ds) h
    | n=>exact conc _ h
    | c=>exact conc _ h
    | t=>exact conc _ h
    | f=>exact conc _ h
    | r g v=>exact conc _ h
    | l x=>exact conc _ h
    | i=>exact conc _ h
    | a=>exact conc _ h
    | s t m=>exact conc _ h
theorem Vo {c a b:Operand} {env:T AV} {H:T Blk} {nb:Nat} {ty:TypeId} {x v:AV} {y:Bool} (h1:opd env c=some x) (h2:z9 x=some y) (h3:opd env (ifB y a b)=some v) :
    zY (.pick c a b) C env H nb ty=some ⟨v,[],some []⟩:=by
  show zf (opd env c) (fun x=>zf (z9 x) fun y=>zf (opd env (ifB y a b)) A)=_
  rw [h1,zs,h2,zs,h3]; rfl
theorem qx {op:BinOp} {t u:TypeId} {xo yo:Operand} {env:T AV} {H:T Blk} {nb:Nat} {ty:TypeId} {x y v:AV} (h1:opd env xo=some x) (h2:opd env yo=some y) (h3:bin C op t xo yo x y=some v) :
    zY (.binOp op t xo yo u) C env H nb ty=some ⟨v,[],some []⟩:=by
  show zf (opd env xo) (fun a=>zf (opd env yo) fun b=>zf (bin C op t xo yo a b) A)=_
  rw [h1,zs,h2,zs,h3]; rfl
include hE hrc in
theorem Kq {nb:Nat} {o:Oper} {env:T AV} {H:T Blk} {nx low:Nat} {ds ds':List Dc} {ob ob':Ob} {s':S} {f:Foot} (h:zfV C E rc nb o ⟨env,H,nx,low⟩ ds ob=some (s',f,ds',ob')) (hm:Met ob') :
    Met ob∧wN C run nb o env H nx low=.ok s' f:=by
  have simp_case:zB C nb o ⟨env,H,nx,low⟩ ds ob=some (s',f,ds',ob')→Met ob∧stepSimple o.dst (zY o.op C env H nb o.type) env H nx low=.ok s' f:=fun h=>by
    exact w_ h hm
  obtain ⟨dst,op,type,pos,after,guard⟩:=o
  cases op <;> try exact simp_case h
  ·
    rename_i c a b
    replace h:zeY _ c a b _ ds ob=some (s',f,ds',ob'):=h
    replace h:=za.1 h; obtain ⟨x,h1,h⟩:=h
    replace h:=za.1 h; obtain ⟨y,h2,h⟩:=h
    obtain ⟨d,ds1,ob1,h,hb⟩:=kV h
    replace h:=za.1 h; obtain ⟨v,h3,h⟩:=h
    rw [wu] at h
    cases h
    obtain ⟨hd,hm0⟩:=hb hm
    subst hd
    refine ⟨hm0,?_⟩
    show stepSimple dst (zY (.pick c a b) C env H nb type) env H nx low=_
    rw [Vo h1 h2 h3,zU]
    rfl
  ·
    rename_i t a
    have same:∀ ds,zB C nb ⟨dst,.load t a,type,pos,after,guard⟩ ⟨env,H,nx,low⟩ ds ob=some (s',f,ds',ob')→Met ob∧stepSimple dst (zY (.load t a) C env H nb type) env H nx low=.ok s' f:=fun ds h=>by
      exact w_ h hm
    cases ds with
    | nil=>exact same [] h
    |
      cons d ds =>
      cases d with
      |
        l x =>
        replace h:=za.1 h; obtain ⟨p,h1,h⟩:=h
        replace h1:opd env a=some p:=h1
        cases p <;> try (cases h; done)
        ·
          rename_i b off
          replace h:uC ⟨env,H,nx,low⟩ dst x (fun s=>some (s,(⟨some [b],some [],false,nu⟩:Foot),ds,(zo (zf (cellsOf H b) (fun p=>loadT C t p.1 off)=some x),true)::ob))=some (s',f,ds',ob'):=h
          rw [wu] at h
          cases h
          obtain ⟨hc,hm⟩:=hm
          have hc:=zk.1 hc
          obtain ⟨q,hq,hc⟩:=za.1 hc
          refine ⟨hm,?_⟩
          show stepSimple dst (zY (.load t a) C env H nb type) env H nx low=_
          have e:zY (.load t a) C env H nb type=some ⟨x,[],some [b]⟩:=by
            show zf (opd env a) _=_
            rw [h1,zs]
            show zf (cellsOf H b) (fun p=>zf (loadT C t p.1 off) fun y=>some (⟨y,[],some [b]⟩:R))=_
            rw [hq,zs,hc]; rfl
          rw [e,zU]
          rfl
        ·
          rename_i c off
          replace h:uC ⟨env,H,nx,low⟩ dst x (fun s=>some (s,(⟨some [],some [],false,nu⟩:Foot),ds,(zo (loadT C t c off=some x),true)::ob))=some (s',f,ds',ob'):=h
          rw [wu] at h
          cases h
          obtain ⟨hc,hm⟩:=hm
          have hc:=zk.1 hc
          refine ⟨hm,?_⟩
          show stepSimple dst (zY (.load t a) C env H nb type) env H nx low=_
          have e:zY (.load t a) C env H nb type=some ⟨x,[],some []⟩:=by
            show zf (opd env a) _=_
            rw [h1,zs]
            show zf (loadT C t c off) A=_
            rw [hc]; rfl
          rw [e,zU]
          rfl
      | c=>exact same (.c::ds) h
      | t=>exact same (.t::ds) h
      | f=>exact same (.f::ds) h
      | r q2 v2=>exact same (.r q2 v2::ds) h
      | i=>exact same (.i::ds) h
      | a=>exact same (.a::ds) h
      | s t2 m2=>exact same (.s t2 m2::ds) h
      | o m2 r2=>exact same (.o m2 r2::ds) h
      | n=>exact same (.n::ds) h
  ·
    rename_i t a x
    have same:∀ ds,zB C nb ⟨dst,.store t a x,type,pos,after,guard⟩ ⟨env,H,nx,low⟩ ds ob=some (s',f,ds',ob')→Met ob∧stepSimple dst (zY (.store t a x) C env H nb type) env H nx low=.ok s' f:=fun ds h=>by
      exact w_ h hm
    cases ds with
    | nil=>exact same [] h
    |
      cons d ds =>
      cases d with
      |
        s c n =>
        replace h:=za.1 h; obtain ⟨p,h1,h⟩:=h
        replace h:=za.1 h; obtain ⟨y,h2,h⟩:=h
        replace h1:opd env a=some p:=h1
        replace h2:opd env x=some y:=h2
        cases p <;> try (cases h; done)
        rename_i b off
        obtain ⟨hg,h⟩:=zi.1 h
        rw [zJ] at h
        cases h
        obtain ⟨hc,hm⟩:=hm
        have hc:=zk.1 hc
        refine ⟨hm,?_⟩
        show stepSimple dst (zY (.store t a x) C env H nb type) env H nx low=_
        have e:zY (.store t a x) C env H nb type=some ⟨.tuple [],[(b,.cells (zu off c y.cells) n)],some [b]⟩:=by
          show zf (opd env a) _=_
          rw [h1,zs,h2,zs]
          show zf (yD H b) (fun c=>zm _ (fill off c.1 y.cells fun c'=>some (⟨.tuple [],[(b,.cells c' c.2)],some [b]⟩:R)))=_
          rw [hc,zs,zZ]
          show zm _ _=_
          rw [hg]; rfl
        rw [e,zU]
        rfl
      | c=>exact same (.c::ds) h
      | t=>exact same (.t::ds) h
      | f=>exact same (.f::ds) h
      | r q2 v2=>exact same (.r q2 v2::ds) h
      | l x2=>exact same (.l x2::ds) h
      | i=>exact same (.i::ds) h
      | a=>exact same (.a::ds) h
      | o m2 r2=>exact same (.o m2 r2::ds) h
      | n=>exact same (.n::ds) h
  ·
    rename_i op t x y u
    have same:∀ ds,za9 C ⟨dst,.binOp op t x y u,type,pos,after,guard⟩ op t x y ⟨env,H,nx,low⟩ ds ob=some (s',f,ds',ob')→Met ob∧stepSimple dst (zY (.binOp op t x y u) C env H nb type) env H nx low=.ok s' f:=fun ds h=>by
      replace h:=za.1 h; obtain ⟨a,h1,h⟩:=h
      replace h:=za.1 h; obtain ⟨b,h2,h⟩:=h
      replace h:=za.1 h; obtain ⟨⟨v,more⟩,h3,h⟩:=h
      rw [wu] at h
      cases h
      obtain ⟨hm1,hm⟩:=zc7.1 hm
      refine ⟨hm,?_⟩
      rw [qx h1 h2 (zc9 h3 hm1),zU]
      rfl
    cases ds with
    | nil=>exact same [] h
    |
      cons d ds =>
      cases d with
      |
        a =>
        replace h:=za.1 h; obtain ⟨a,h1,h⟩:=h
        replace h:=za.1 h; obtain ⟨b,h2,h⟩:=h
        replace h:=zi.1 h; obtain ⟨ho,h⟩:=h
        replace h1:opd env x=some a:=h1
        replace h2:opd env y=some b:=h2
        cases a <;> try (cases h; done)
        rename_i va
        cases va <;> try (cases h; done)
        rename_i k m
        cases b <;> try (cases h; done)
        rename_i vb
        cases vb <;> try (cases h; done)
        rename_i k' n
        replace h:=zi.1 h; obtain ⟨hk,h⟩:=h
        obtain ⟨hk1,hk2⟩:=zl.1 hk
        have e1:k=.i64:=by cases k <;> first | rfl | cases hk1
        have e2:k'=.i64:=by cases k' <;> first | rfl | cases hk2
        subst e1; subst e2
        cases m with
        | negSucc _=>cases h
        |
          ofNat m=>cases n with
          | negSucc _=>cases h
          |
            ofNat n =>
            replace h:uC ⟨env,H,nx,low⟩ dst (.v (.int .i64 (.ofNat (Nat.add m n)))) (fun s=>some (s,(⟨some [],some [],false,nu⟩:Foot),ds,(Nat.ble (Nat.add m n) 9223372036854775807,true)::ob))=some (s',f,ds',ob'):=h
            rw [wu] at h
            cases h
            obtain ⟨hc,hm⟩:=hm
            replace hc:Nat.ble (Nat.add m n) 9223372036854775807=true:=hc
            refine ⟨hm,?_⟩
            show stepSimple dst (zY (.binOp op t x y u) C env H nb type) env H nx low=_
            have hop:op=.add:=by cases op <;> first | rfl | cases ho
            subst hop
            have e:bin C .add t x y (.v (.int .i64 (.ofNat m))) (.v (.int .i64 (.ofNat n)))=some (.v (.int .i64 (.ofNat (Nat.add m n)))):=by
              have e0:bin C .add t x y (.v (.int .i64 (.ofNat m))) (.v (.int .i64 (.ofNat n)))=wI (ifB (Nat.ble (Nat.add m n) 9223372036854775807) (.ofNat (Nat.add m n)) (IntKind.wrap .i64 (.ofNat (Nat.add m n)))) fun q=>some (.v (.int .i64 q)):=rfl
              rw [e0,hc,ifB_true,xx]
            rw [qx h1 h2 e,zU]
            rfl
      | c=>exact same (.c::ds) h
      | t=>exact same (.t::ds) h
      | f=>exact same (.f::ds) h
      | r q2 v2=>exact same (.r q2 v2::ds) h
      | l x2=>exact same (.l x2::ds) h
      | i=>exact same (.i::ds) h
      | s t2 m2=>exact same (.s t2 m2::ds) h
      |
        o m2 r2 =>
        cases m2 with
        |
          zero =>
          replace h:=za.1 h; obtain ⟨a,h1,h⟩:=h
          replace h:=za.1 h; obtain ⟨b,h2,h⟩:=h
          rw [wu] at h
          cases h
          obtain ⟨hc,hm⟩:=hm
          refine ⟨hm,?_⟩
          replace h1:opd env x=some a:=h1
          replace h2:opd env y=some b:=h2
          show stepSimple dst (zY (.binOp op t x y u) C env H nb type) env H nx low=_
          rw [qx h1 h2 (zk.1 hc),zU]
          rfl
        | succ m2=>exact same (.o m2 r2::ds) h
      | n=>exact same (.n::ds) h
  ·
    rename_i t x i
    have same:∀ ds,zB C nb ⟨dst,.indexAddr t x i,type,pos,after,guard⟩ ⟨env,H,nx,low⟩ ds ob=some (s',f,ds',ob')→Met ob∧stepSimple dst (zY (.indexAddr t x i) C env H nb type) env H nx low=.ok s' f:=fun ds h=>by
      exact w_ h hm
    cases ds with
    | nil=>exact same [] h
    |
      cons d ds =>
      cases d with
      |
        i =>
        replace h:=za.1 h; obtain ⟨y,h1,h⟩:=h
        replace h:=za.1 h; obtain ⟨z,h2,h⟩:=h
        replace h:=za.1 h; obtain ⟨n,h3,h⟩:=h
        replace h:=za.1 h; obtain ⟨e,h4,h⟩:=h
        replace h1:opd env x=some y:=h1
        replace h2:opd env i=some z:=h2
        cases y <;> try (cases h; done)
        rename_i c off len es lo ex
        replace h:uC ⟨env,H,nx,low⟩ dst (.vp c (Nat.add off (Nat.mul n (C.P.cellsOf e)))) (fun s=>some (s,(⟨some [],some [],false,nu⟩:Foot),ds,(Nat.ble (Nat.succ n) len,true)::ob))=some (s',f,ds',ob'):=h
        rw [wu] at h
        cases h
        obtain ⟨hc,hm⟩:=hm
        replace hc:Nat.ble (Nat.succ n) len=true:=hc
        refine ⟨hm,?_⟩
        show stepSimple dst (zY (.indexAddr t x i) C env H nb type) env H nx low=_
        have e:zY (.indexAddr t x i) C env H nb type=some ⟨.vp c (Nat.add off (Nat.mul n (C.P.cellsOf e))),[],some []⟩:=by
          show zf (opd env x) _=_
          rw [h1,zs,h2,zs,h3,zs]
          show zf (yk C t) _=_
          rw [h4,zs,hc]
          show force _ _=_
          rw [zr]; rfl
        rw [e,zU]
        rfl
      | c=>exact same (.c::ds) h
      | t=>exact same (.t::ds) h
      | f=>exact same (.f::ds) h
      | r q2 v2=>exact same (.r q2 v2::ds) h
      | l x2=>exact same (.l x2::ds) h
      | a=>exact same (.a::ds) h
      | s t2 m2=>exact same (.s t2 m2::ds) h
      | o m2 r2=>exact same (.o m2 r2::ds) h
      | n=>exact same (.n::ds) h
  ·
    rename_i c
    obtain ⟨callee,args,argTypes⟩:=c
    cases callee with
    | invoke=>exact simp_case h
    |
      builtin bb =>
      have conc:∀ ds,uR C nb ⟨dst,.call ⟨.builtin bb,args,argTypes⟩,type,pos,after,guard⟩ ⟨env,H,nx,low⟩ ds ob=some (s',f,ds',ob')→Met ob∧stepSimple dst (zY (.call ⟨.builtin bb,args,argTypes⟩) C env H nb type) env H nx low=.ok s' f:=fun ds h=>by
        obtain ⟨e,h2⟩:=ZD h
        exact ⟨e ▸ hm,h2⟩
      replace h:ifB (zba bb) (Ko ds (fun ds=>uR C nb ⟨dst,.call ⟨.builtin bb,args,argTypes⟩,type,pos,after,guard⟩ ⟨env,H,nx,low⟩ ds ob) fun r ds=>appU C nb ⟨dst,.call ⟨.builtin bb,args,argTypes⟩,type,pos,after,guard⟩ args argTypes r ⟨env,H,nx,low⟩ ds ob)
        (zB C nb ⟨dst,.call ⟨.builtin bb,args,argTypes⟩,type,pos,after,guard⟩ ⟨env,H,nx,low⟩ ds ob)=some (s',f,ds',ob'):=h
      cases hb:zba bb with
      | false=>rw [hb,zj] at h; exact w_ h hm
      |
        true =>
        rw [hb,ifB_true] at h
        have ebb:bb=.append:=by cases bb <;> first | rfl | cases hb
        subst ebb
        cases ds with
        | nil=>exact conc [] h
        |
          cons d ds =>
          cases d with
          |
            o m2 r2 =>
            cases m2 with
            | succ m2=>exact conc (.o m2 r2::ds) h
            |
              zero =>
              replace h:=za.1 h; obtain ⟨l,h1,h⟩:=h
              replace h:=za.1 h; obtain ⟨x,h2,h⟩:=h
              replace h:=za.1 h; obtain ⟨y,h3,h⟩:=h
              obtain ⟨h4,h⟩:=zi.1 h
              replace h:=za.1 h; obtain ⟨st,h5,h⟩:=h
              replace h:=za.1 h; obtain ⟨xt,h6,h⟩:=h
              obtain ⟨h7,h⟩:=zi.1 h
              rw [zJ] at h
              cases h
              obtain ⟨hc,hm⟩:=hm
              have hc:=zk.1 hc
              refine ⟨hm,?_⟩
              have e:zY (.call ⟨.builtin .append,args,argTypes⟩) C env H nb type=some r2:=by
                show zf (vP env args.toList) (fun l=>two l fun s x=>two argTypes.toList fun st xt=>wq C H nb st xt s x)=_
                rw [h1,zs]
                unfold two
                rw [h2,zs,h3,zs,h4,yt]
                show zf (nthL argTypes.toList 0) (fun st=>zf (nthL argTypes.toList 1) fun xt=>zm (Nat.beq (lenL argTypes.toList) 2) (wq C H nb st xt x y))=_
                rw [h5,zs,h6,zs,h7,yt]
                exact hc
              show stepSimple dst (zY (.call ⟨.builtin .append,args,argTypes⟩) C env H nb type) env H nx low=_
              rw [e,zU]
          | c=>exact conc _ h
          | t=>exact conc _ h
          | f=>exact conc _ h
          | r g v=>exact conc _ h
          | l x=>exact conc _ h
          | i=>exact conc _ h
          | a=>exact conc _ h
          | s t m=>exact conc _ h
          | n=>exact conc _ h
    |
      value g =>
      replace h:zeX C E rc _ g args _ ds ob=some (s',f,ds',ob'):=h
      replace h:=za.1 h; obtain ⟨p,h1,h⟩:=h
      replace h1:yd env g args=some p:=h1
      obtain ⟨hbor,h⟩:=zi.1 h
      rw [xR] at hbor
      have fin:∀ v,zx C run p.1 p.2 H nx low=.value v (some [])→ye C run dst g args env H nx low=.ok ⟨wl env dst v,H,nx,low⟩ ⟨some [],some [],false,nu⟩:=fun v e=>by
        unfold ye
        rw [h1,elimO_some,hbor,zj,e]
        show putK env dst v (fun env=>StepR.ok ⟨env,H,nx,low⟩ ⟨some [],some [],false,nu⟩)=_
        rw [zJ]
      have old:elimO (E p.1 p.2) (zf (rc p.1 p.2 H nx low ds ob) fun r=>CR.rec (motive:=fun _=>Option DR)
            (fun v rd=>putK env dst v fun env=>some (⟨env,H,nx,low⟩,⟨rd,some [],false,nu⟩,r.2.1,r.2.2))
            (fun v H1 nx low=>putK env dst v fun env=>some (⟨env,H1,nx,low⟩,⟨none,none,true,v7 H H1⟩,r.2.1,r.2.2))
            (fun v us nx=>putK env dst v fun env=>Go.Abs.ups H us fun H=>force (lower low us) fun low=>some (⟨env,H,nx,low⟩,⟨some [],some (us.map (·.1)),true,nu⟩,r.2.1,r.2.2)) (fun _=>none) r.1)
          (fun q=>uC ⟨env,H,nx,low⟩ dst q.1 fun s=>some (s,⟨some [],some [],false,nu⟩,ds,(q.2,true)::ob))=some (s',f,ds',ob')→Met ob∧ye C run dst g args env H nx low=.ok s' f:=fun h=>by
        cases h2:E p.1 p.2 with
        |
          some q =>
          obtain ⟨v,c⟩:=q
          rw [h2,elimO_some,wu] at h
          cases h
          obtain ⟨hc,hm⟩:=hm
          replace hc:c=true:=hc
          subst hc
          exact ⟨hm,fin v (by unfold zx; rw [hE,extOf_some.2 h2]; rfl)⟩
        |
          none =>
          rw [h2,elimO_none] at h
          replace h:zf (rc p.1 p.2 H nx low ds ob) (fun r=>CR.rec (motive:=fun _=>Option DR)
              (fun v rd=>putK env dst v fun env=>some (⟨env,H,nx,low⟩,⟨rd,some [],false,nu⟩,r.2.1,r.2.2))
              (fun v H1 nx low=>putK env dst v fun env=>some (⟨env,H1,nx,low⟩,⟨none,none,true,v7 H H1⟩,r.2.1,r.2.2))
              (fun v us nx=>putK env dst v fun env=>Go.Abs.ups H us fun H=>force (lower low us) fun low=>some (⟨env,H,nx,low⟩,⟨some [],some (us.map (·.1)),true,nu⟩,r.2.1,r.2.2)) (fun _=>none) r.1)=some (s',f,ds',ob'):=h
          obtain ⟨⟨cr,ds1,ob1⟩,h3,h⟩:=za.1 h
          have hx:C.ext p.1 p.2=none:=by rw [hE]; unfold extOf; rw [h2]; rfl
          show Met ob∧ye C run dst g args env H nx low=_
          unfold ye
          rw [h1,elimO_some,hbor,zj]
          cases cr with
          |
            value v rd =>
            replace h:putK env dst v (fun env=>some ((⟨env,H,nx,low⟩:S),(⟨rd,some [],false,nu⟩:Foot),ds1,ob1))=some (s',f,ds',ob'):=h
            rw [zJ] at h
            cases h
            obtain ⟨hm0,h4⟩:=hrc _ _ _ _ _ _ _ _ _ _ hx h3 hm
            rw [h4]
            refine ⟨hm0,?_⟩
            show putK env dst v (fun env=>StepR.ok ⟨env,H,nx,low⟩ ⟨rd,some [],false,nu⟩)=_
            rw [zJ]
          |
            heap v H1 nx1 xr =>
            replace h:putK env dst v (fun env=>some ((⟨env,H1,nx1,xr⟩:S),(⟨none,none,true,v7 H H1⟩:Foot),ds1,ob1))=some (s',f,ds',ob'):=h
            rw [zJ] at h
            cases h
            obtain ⟨hm0,h4⟩:=hrc _ _ _ _ _ _ _ _ _ _ hx h3 hm
            rw [h4]
            refine ⟨hm0,?_⟩
            show putK env dst v (fun env=>StepR.ok ⟨env,H1,nx1,xr⟩ ⟨none,none,true,v7 H H1⟩)=_
            rw [zJ]
          |
            fresh v us nx1 =>
            replace h:putK env dst v (fun env=>Go.Abs.ups H us fun H=>force (lower low us) fun low=>some ((⟨env,H,nx1,low⟩:S),(⟨some [],some (us.map (·.1)),true,nu⟩:Foot),ds1,ob1))=some (s',f,ds',ob'):=h
            rw [zJ,vx,zr] at h
            cases h
            obtain ⟨hm0,h4⟩:=hrc _ _ _ _ _ _ _ _ _ _ hx h3 hm
            rw [h4]
            refine ⟨hm0,?_⟩
            show putK env dst v (fun env=>Go.Abs.ups H us fun H=>force (lower low us) fun low=>StepR.ok ⟨env,H,nx1,low⟩ ⟨some [],some (us.map (·.1)),true,nu⟩)=_
            rw [zJ,vx,zr]
          | bad w=>cases h
      have new:∀ (v:AV) (ds1:List Dc),uC ⟨env,H,nx,low⟩ dst v (fun s=>some (s,(⟨some [],some [],false,nu⟩:Foot),ds1,(zo (E p.1 p.2=some (v,true)),true)::ob))=some (s',f,ds',ob')→Met ob∧ye C run dst g args env H nx low=.ok s' f:=fun v ds1 h=>by
        rw [wu] at h
        cases h
        obtain ⟨hc,hm⟩:=hm
        have hc:=zk.1 hc
        exact ⟨hm,fin v (by unfold zx; rw [hE,extOf_some.2 hc]; rfl)⟩
      cases ds with
      | nil=>exact old h
      |
        cons d ds =>
        cases d with
        |
          r q v =>
          cases hq:Nat.beq q p.1 with
          |
            true =>
            replace h:ifB (Nat.beq q p.1) _ _=some (s',f,ds',ob'):=h
            rw [hq,ifB_true] at h
            exact new v ds h
          |
            false =>
            replace h:ifB (Nat.beq q p.1) _ _=some (s',f,ds',ob'):=h
            rw [hq,zj] at h
            exact old h
        | c=>exact old h
        | t=>exact old h
        | f=>exact old h
        | l x=>exact old h
        | i=>exact old h
        | a=>exact old h
        | s t m=>exact old h
        | o m r=>exact old h
        | n=>exact old h
include hE hrc in
theorem zbe {nb:Nat} {o:Oper} {s s':S} {ds ds':List Dc} {ob ob':Ob} {f:Foot} (h:zbb C E rc ops nb o s ds ob=some (s',f,ds',ob')) (hm:Met ob') :
    Met ob∧stepOp C run ops nb o s=.ok s' f:=by
  obtain ⟨env,H,nx,low⟩:=s
  rw [yC]
  unfold zbb at h
  unfold wanted
  cases hg:o.guard with
  |
    none =>
    rw [hg,elimO_none] at h
    obtain ⟨h1,h2⟩:=Kq hE hrc h hm
    exact ⟨h1,h2⟩
  |
    some g =>
    rw [hg,elimO_some] at h
    rw [elimO_some]
    replace h:=za.1 h; obtain ⟨b,h1,h⟩:=h
    obtain ⟨d,ds1,ob1,h,hb⟩:=kV h
    have hok:vl env ops g.1 g.2=ifB g.2 b (notB b):=by
      obtain ⟨t,h2,h3⟩:=za.1 h1
      unfold vl
      rw [h2,elimO_some]
      replace h3:zf (env.get t) z9=some b:=h3
      rw [T.getA_eq,h3,elimO_some]
    cases d with
    |
      true =>
      rw [ifB_true] at h
      obtain ⟨h4,h5⟩:=Kq hE hrc h hm
      obtain ⟨h6,h7⟩:=hb h4
      rw [hok,h6,ifB_true]
      exact ⟨h7,h5⟩
    |
      false =>
      rw [zj,wu] at h
      cases h
      obtain ⟨h6,h7⟩:=hb hm
      rw [hok,h6,zj,zJ]
      exact ⟨h7,rfl⟩
include hE hrc in
theorem Yy {base:Nat}:∀ {l:List Oper} {i:Nat} {s s':S} {fs fs':List Foot} {ds ds':List Dc} {ob ob':Ob},zbc C E rc ops base l i s fs ds ob=some (s',fs',ds',ob')→Met ob' →
    Met ob∧steps C run ops base l i s fs=.ok s' fs':=by
  intro l
  induction l with
  | nil=>intro i s s' fs fs' ds ds' ob ob' h hm; cases h; exact ⟨hm,rfl⟩
  |
    cons o l ih =>
    intro i s s' fs fs' ds ds' ob ob' h hm
    replace h:=za.1 h; obtain ⟨⟨s1,f,ds1,ob1⟩,h1,h⟩:=h
    obtain ⟨hm1,h2⟩:=ih h hm
    obtain ⟨hm0,h3⟩:=zbe hE hrc h1 hm1
    refine ⟨hm0,?_⟩
    show StepR.rec (motive:=fun _=>StepsR) (fun s' f=>steps C run ops base l (Nat.succ i) s' (f::fs)) (fun w=>.bad (ifB (Nat.ble w 999) (Nat.add w (Nat.mul 1000 (Nat.succ i))) w)) (stepOp C run ops (Nat.add base i) o s)=_
    rw [h3]
    exact h2
include hE hrc in
theorem Qc {id:Nat} {draw:Bool} {s:S} {ds ds':List Dc} {ob ob':Ob} {o:Out} (h:Xn C E rc ops draw s ds ob=some (o,ds',ob')) (hm:Met ob'):Met ob∧region C run id ops draw s=o:=by
  obtain ⟨env,H,nx0,low⟩:=s
  rw [vM]
  unfold Xn at h
  simp only [zr] at h
  replace h:=za.1 h; obtain ⟨⟨s1,fs,ds1,ob1⟩,h1,h⟩:=h
  cases draw with
  |
    false =>
    replace h:some (Out.nrm s1,ds1,ob1)=some (o,ds',ob'):=h
    cases h
    obtain ⟨h2,h3⟩:=Yy hE hrc h1 hm
    replace h3:steps C run ops nx0 ops.toList 0 (drop C ops.toList ⟨env,H,nx0 + lenL ops.toList,low⟩) []=.ok s1 fs:=h3
    rw [h3]
    exact ⟨h2,rfl⟩
  |
    true =>
    replace h:zm (andB (ys ops) (xw fs.reverse (openPairs ops))) (some (Out.nrm s1,ds1,ob1))=some (o,ds',ob'):=h
    obtain ⟨hc,h⟩:=zi.1 h
    cases h
    obtain ⟨h2,h3⟩:=Yy hE hrc h1 hm
    replace h3:steps C run ops nx0 ops.toList 0 (drop C ops.toList ⟨env,H,nx0 + lenL ops.toList,low⟩) []=.ok s1 fs:=h3
    rw [h3]
    refine ⟨h2,?_⟩
    show ifB true (ifB (andB (ys ops) (xw fs.reverse (openPairs ops))) (Out.nrm s1) _) _=_
    rw [hc]; rfl
theorem kW {r cr:CR} {ds ds':List Dc} {ob ob':Ob} (h:U_ r ds ob=some (cr,ds',ob')):r=cr∧ob'=ob:=by
  cases r <;> cases h <;> exact ⟨rfl,rfl⟩
theorem Yz {fn:Func} {keep:Bool} {nx low:Nat} {s:S} {ds ds':List Dc} {ob ob':Ob} {cr:CR} (hk:keep=false) (h:zbd C fn nx ds ob s=some (cr,ds',ob')) (hm:Met ob'):finHeap C fn keep nx low s=cr∧Met ob:=by
  obtain ⟨env,H,nx',low'⟩:=s
  obtain ⟨l,h1,h⟩:=za.1 (show zf (zN C env H fn.results.toList) (fun l=>xH l fun r=>zf (zV H nx 20 r) fun v=>some (CR.value v none,ds,(Nat.ble (Nat.succ low') nx,false)::ob))=some (cr,ds',ob') from h)
  rw [w9] at h
  obtain ⟨v,h2,h⟩:=za.1 h
  cases h
  obtain ⟨hb,hm⟩:=hm
  replace hb:Nat.ble (Nat.succ low') nx=false:=hb
  refine ⟨?_,hm⟩
  subst hk
  show elimO (zN C env H fn.results.toList) (CR.bad 7) (fun l=>xH l fun r=>ifB (orB false (Nat.ble (Nat.succ low') nx)) (force (wM low low') fun low=>CR.heap r H nx' low)
      (elimO (zV H nx 20 r) (force (wM low low') fun low=>CR.heap r H nx' low) (fun v=>CR.value v none)))=_
  rw [h1,elimO_some,w9,hb,show orB false false=false from rfl,zj,h2,elimO_some]
theorem Qd {fn:Func} {keep:Bool} {nx low:Nat} {o:Out} {ds ds':List Dc} {ob ob':Ob} {cr:CR} (hk:keep=false) (h:Kp C fn nx o ds ob=some (cr,ds',ob')) (hm:Met ob'):zD (finHeap C fn keep nx low) o=cr∧Met ob:=by
  cases o with
  | nrm s=>exact Yz (C:=C) hk (show zbd C fn nx ds ob s=_ from h) hm
  | ret s=>exact Yz (C:=C) hk (show zbd C fn nx ds ob s=_ from h) hm
  | _=>cases h
theorem zbf {rn:Code→S→List Dc→Ob→Option DO} {run:Code→S→Out} (hrn:∀ {c:Code} {s:S} {ds ds':List Dc} {ob ob':Ob} {o:Out},rn c s ds ob=some (o,ds',ob')→Met ob'→Met ob∧run c s=o):RcOk C (Xo C rn) run:=by
  intro f l H nx low ds ob cr ds' ob' hx h hm
  unfold Xo at h
  replace h:=za.1 h; obtain ⟨p,h1,h⟩:=h
  obtain ⟨h2,h⟩:=zi.1 h
  rw [zZ] at h
  unfold zx
  rw [hx,elimO_none,h1,elimO_some,h2,ifB_true]
  unfold y9
  rw [zZ]
  have old:∀ ds,(ifB (andB (allB (flat 4) l) (notB (C.nf f))) (zf (rn p.2 ⟨zu 0 T.nil l,T.nil,0,far⟩ ds ob) fun r=>U_ (zD (finPure C p.1) r.1) r.2.1 r.2.2)
      (ifB (allB (flat 4) l) (zf (rn p.2 ⟨zu 0 T.nil l,T.nil,nx,far⟩ ds ob) fun r=>U_ (zD (finFresh C p.1 nx) r.1) r.2.1 r.2.2)
        (zf (rn p.2 ⟨zu 0 T.nil l,H,nx,far⟩ ds ob) fun r=>U_ (zD (finHeap C p.1 (C.nf f) nx low) r.1) r.2.1 r.2.2)))=some (cr,ds',ob') →
      Met ob∧ifB (andB (allB (flat 4) l) (notB (C.nf f))) (zD (finPure C p.1) (run p.2 ⟨zu 0 T.nil l,T.nil,0,far⟩))
        (ifB (allB (flat 4) l) (zD (finFresh C p.1 nx) (run p.2 ⟨zu 0 T.nil l,T.nil,nx,far⟩)) (zD (finHeap C p.1 (C.nf f) nx low) (run p.2 ⟨zu 0 T.nil l,H,nx,far⟩)))=cr:=fun ds h=>by
    cases h3:andB (allB (flat 4) l) (notB (C.nf f)) with
    |
      true =>
      rw [h3,ifB_true] at h
      rw [ifB_true]
      obtain ⟨⟨o,ds1,ob1⟩,h4,h⟩:=za.1 h
      obtain ⟨h5,rfl⟩:=kW h
      obtain ⟨h6,h7⟩:=hrn h4 hm
      rw [h7]
      exact ⟨h6,h5⟩
    |
      false =>
      rw [h3,zj] at h
      rw [zj]
      cases h8:allB (flat 4) l with
      |
        true =>
        rw [h8,ifB_true] at h
        rw [ifB_true]
        obtain ⟨⟨o,ds1,ob1⟩,h4,h⟩:=za.1 h
        obtain ⟨h5,rfl⟩:=kW h
        obtain ⟨h6,h7⟩:=hrn h4 hm
        rw [h7]
        exact ⟨h6,h5⟩
      |
        false =>
        rw [h8,zj] at h
        rw [zj]
        obtain ⟨⟨o,ds1,ob1⟩,h4,h⟩:=za.1 h
        obtain ⟨h5,rfl⟩:=kW h
        obtain ⟨h6,h7⟩:=hrn h4 hm
        rw [h7]
        exact ⟨h6,h5⟩
  cases ds with
  | nil=>exact old [] h
  |
    cons d ds =>
    cases d with
    |
      n =>
      obtain ⟨hnf,h⟩:=zi.1 (show zm (notB (C.nf f)) (zf (rn p.2 ⟨zu 0 T.nil l,H,nx,far⟩ ds ((allB (flat 4) l,false)::ob)) fun r=>Kp C p.1 nx r.1 r.2.1 r.2.2)=some (cr,ds',ob') from h)
      rw [xR] at hnf
      obtain ⟨⟨o,ds1,ob1⟩,h4,h⟩:=za.1 h
      obtain ⟨h5,hm1⟩:=Qd (low:=low) hnf (show Kp C p.1 nx o ds1 ob1=some (cr,ds',ob') from h) hm
      obtain ⟨h6,h7⟩:=hrn h4 hm1
      obtain ⟨h8,h6⟩:=h6
      replace h8:allB (flat 4) l=false:=h8
      rw [h8,show andB false (notB (C.nf f))=false from rfl,zj,zj,h7]
      exact ⟨h6,h5⟩
    | c=>exact old (.c::ds) h
    | t=>exact old (.t::ds) h
    | f=>exact old (.f::ds) h
    | r g v=>exact old (.r g v::ds) h
    | l x=>exact old (.l x::ds) h
    | i=>exact old (.i::ds) h
    | a=>exact old (.a::ds) h
    | s t m=>exact old (.s t m::ds) h
    | o m r=>exact old (.o m r::ds) h
include hE in
theorem we:∀ (n:Nat) {c:Code} {s:S} {ds ds':List Dc} {ob ob':Ob} {o:Out},yj C E n c s ds ob=some (o,ds',ob')→Met ob'→Met ob∧Go.Abs.run C n c s=o:=by
  intro n
  induction n with
  | zero=>intro c s ds ds' ob ob' o h; cases h
  |
    succ n ih =>
    intro c s ds ds' ob ob' o h hm
    cases c with
    | skip=>cases h; exact ⟨hm,rfl⟩
    | label l=>cases h; exact ⟨hm,rfl⟩
    | region id ops draw=>exact Qc hE (zbf (rn:=fun c s ds ob=>yj C E n c s ds ob) (run:=Go.Abs.run C n) (fun {c s ds ds' ob ob' o} h hm=>ih h hm)) (id:=id) h hm
    |
      seq a b =>
      unfold yj at h
      have e:Go.Abs.run C (n + 1) (.seq a b) s=Out.rec (motive:=fun _=>Out) (fun s'=>Go.Abs.run C n b s') (fun i s'=>.ext i s') (fun s'=>.ret s') (fun w=>.bad w) (Go.Abs.run C n a s):=rfl
      rw [e]
      dsimp only at h
      split at h
      ·
        rename_i s1 ds1 ob1 h1
        obtain ⟨h2,h3⟩:=ih h hm
        obtain ⟨h4,h5⟩:=ih h1 h2
        rw [h5]
        exact ⟨h4,h3⟩
      ·
        rename_i r hr
        obtain ⟨h4,h5⟩:=ih h hm
        rw [h5]
        refine ⟨h4,?_⟩
        cases o with
        | nrm s1=>exact absurd h (hr s1 ds' ob')
        | _=>rfl
    |
      cond c a b =>
      unfold yj at h
      obtain ⟨env,H,nx,low⟩:=s
      have e:Go.Abs.run C (n + 1) (.cond c a b) ⟨env,H,nx,low⟩=elimO (zf (opd env c) z9) (.bad 101) (fun x=>Go.Abs.run C n (ifB x a b) ⟨env,H,nx,low⟩):=rfl
      rw [e]
      dsimp only at h
      split at h
      ·
        rename_i x hx
        obtain ⟨d,ds1,ob1,h,hb⟩:=kV h
        obtain ⟨h2,h3⟩:=ih h hm
        obtain ⟨h4,h5⟩:=hb h2
        subst h4
        rw [hx,elimO_some]
        exact ⟨h5,h3⟩
      · cases h
    |
      block id a =>
      unfold yj at h
      have e:Go.Abs.run C (n + 1) (.block id a) s=Out.rec (motive:=fun _=>Out) (fun s'=>.nrm s') (fun id' s'=>ifB (Nat.beq id' id) (.nrm s') (.ext id' s')) (fun s'=>.ret s') (fun w=>.bad w) (Go.Abs.run C n a s):=rfl
      rw [e]
      dsimp only at h
      split at h
      ·
        rename_i id' s1 ds1 ob1 h1
        cases hb:Nat.beq id' id with
        |
          true =>
          rw [hb,ifB_true] at h
          cases h
          obtain ⟨h4,h5⟩:=ih h1 hm
          rw [h5]
          refine ⟨h4,?_⟩
          show ifB (Nat.beq id' id) _ _=_
          rw [hb]; rfl
        |
          false =>
          rw [hb,zj] at h
          cases h
          obtain ⟨h4,h5⟩:=ih h1 hm
          rw [h5]
          refine ⟨h4,?_⟩
          show ifB (Nat.beq id' id) _ _=_
          rw [hb]; rfl
      ·
        rename_i r hr
        obtain ⟨h4,h5⟩:=ih h hm
        rw [h5]
        refine ⟨h4,?_⟩
        cases o with
        | ext id' s1=>exact absurd h (hr id' s1 ds' ob')
        | _=>rfl
    |
      loop a =>
      unfold yj at h
      have e:Go.Abs.run C (n + 1) (.loop a) s=Out.rec (motive:=fun _=>Out) (fun s'=>Go.Abs.run C n (.loop a) s') (fun i s'=>.ext i s') (fun s'=>.ret s') (fun w=>.bad w) (Go.Abs.run C n a s):=rfl
      rw [e]
      dsimp only at h
      split at h
      ·
        rename_i s1 ds1 ob1 h1
        obtain ⟨h2,h3⟩:=ih h hm
        obtain ⟨h4,h5⟩:=ih h1 h2
        rw [h5]
        exact ⟨h4,h3⟩
      ·
        rename_i r hr
        obtain ⟨h4,h5⟩:=ih h hm
        rw [h5]
        refine ⟨h4,?_⟩
        cases o with
        | nrm s1=>exact absurd h (hr s1 ds' ob')
        | _=>rfl
    |
      scope a =>
      have e:Go.Abs.run C (n + 1) (.scope a) s=Go.Abs.run C n a s:=rfl
      rw [e]
      exact ih h hm
    | exit id=>cases h; exact ⟨hm,rfl⟩
    | ret=>cases h; exact ⟨hm,rfl⟩
    | _=>cases h
include hE in
theorem qy {n:Nat} {f:FuncId} {l:List AV} {ds ds':List Dc} {cr:CR} {ob:Ob} (hx:C.ext f l=none) (h:symCall C E n f l ds=some (cr,ds',ob)) (hm:Met ob):Go.Abs.call C n f l=cr:=
  (zbf (rn:=yj C E n) (run:=Go.Abs.run C n) (fun {c s ds ds' ob ob' o} h hm=>we hE n h hm) f l T.nil 0 far ds [] cr ds' ob hx h hm).2
end
end
end Go.Abs
