/- A RUN IN PIECES: the evaluator as a machine with a stack, for calls of chosen functions; from state to state, each piece by itself. (Printed by gen_ev.py out of a template.) -/
import Derived.Test.YtdomagdnaohpbaaGreatDoorEvMono
set_option linter.unusedSimpArgs false
set_option linter.unusedVariables false
namespace Go.Abs
def child (c:Code) (d:Nat):Code:=match c,d with
  | .seq a _,0=>a
  | .seq _ b,_=>b
  | .cond _ a _,0=>a
  | .cond _ _ b,_=>b
  | .block _ a,_=>a
  | .loop a,_=>a
  | .scope a,_=>a
  | _,_=>.skip
noncomputable def Qm (C:Cx) (f:FuncId):Code:=elimO (funcOf C f) Code.skip fun p=>p.2
noncomputable def xP (C:Cx) (f:FuncId) (p:List Nat):Code:=List.rec (Qm C f) (fun d _ c=>child c d) p
noncomputable def uG (C:Cx) (f:FuncId) (p:List Nat):Array Oper:=(@Code.rec (fun _=>Array Oper) (#[]) (fun _ ops _=>ops) (fun _ _ _ _ => #[]) (fun _ _ _ _ _ => #[]) (fun _ _ _ => #[]) (fun _ _ => #[]) (fun _ _ _ _ _ _ => #[]) (fun _ => #[]) (fun _ _ => #[]) (fun _ => #[]) (fun _ => #[]) (#[]) (fun _ => #[]) (xP C f p))
noncomputable def ZK (C:Cx) (f:FuncId) (p:List Nat):Bool:=(@Code.rec (fun _=>Bool) (false) (fun _ _ d=>d) (fun _ _ _ _=>false) (fun _ _ _ _ _=>false) (fun _ _ _=>false) (fun _ _=>false) (fun _ _ _ _ _ _=>false) (fun _=>false) (fun _ _=>false) (fun _=>false) (fun _=>false) (false) (fun _=>false) (xP C f p))
inductive Fr where
  | seq (f:FuncId) (p:List Nat)
  | blk (id:Nat)
  | lp (f:FuncId) (p:List Nat)
  | cl (g:FuncId) (md nx0 low0:Nat) (f:FuncId) (p:List Nat) (i base:Nat) (s:S) (fs:List Foot)
  | top (g:FuncId) (md nx0 low0:Nat)
inductive M where
  | code (f:FuncId) (p:List Nat) (s:S) (k:List Fr)
  | out (o:Out) (k:List Fr)
  | fin (r:CR)
  | stuck (why:Nat)
section
variable (C:Cx) (run:Code→S→Out) (sp:FuncId→Bool)
noncomputable def zbw (o:Oper):Option (FuncId×Array Operand):=
  zf (vU o.op) fun q=>(@Operand.rec (fun _=>Option (FuncId×Array Operand)) (fun _=>none) (fun _=>none) (fun _=>none) (fun g=>zm (andB (sp g) (notB (C.bor g))) (some (g,q.2))) (q.1))
noncomputable def kZ (g:FuncId) (args:List AV) (H:T Blk) (nx:Nat) (fr:Nat→List Fr):M:=
  elimO (funcOf C g) (.stuck 1) fun p=>ifB (Nat.ble (lenL args) p.1.ntmps) (Fast.fillN args fun env =>
    ifB (andB (allB (flat 4) args) (notB (C.nf g))) (.code g [] ⟨env,T.nil,0,far⟩ (fr 0))
      (ifB (allB (flat 4) args) (.code g [] ⟨env,T.nil,nx,far⟩ (fr 1)) (.code g [] ⟨env,H,nx,far⟩ (fr 2)))) (.stuck 2)
noncomputable def Vw (f:FuncId) (p:List Nat) (ops:Array Oper) (draw:Bool) (base:Nat) (k:List Fr) (l:List Oper):Nat→S→List Foot→M:=
  List.rec (fun _ s fs=>ifB draw (ifB (andB (ys ops) (xw fs.reverse (openPairs ops))) (.out (.nrm s) k) (.stuck 3)) (.out (.nrm s) k))
    (fun o _ ih i s fs=>elimO (zbw C sp o)
      ((@StepR.rec (fun _=>M) (fun s' f=>ih (Nat.succ i) s' (f::fs)) (fun w=>.stuck w) (Fast.stepOp C run ops (Nat.add base i) o s)))
      fun q=>S.rec (fun env H nx low=>ifB (wanted env ops o) (elimO (vP env q.2.toList) (.stuck 4) fun l=>xg (z5 l []) fun l=>elimO (C.ext q.1 l)
        (kZ C q.1 l H nx fun md=>.cl q.1 md nx low f p i base ⟨env,H,nx,low⟩ fs::k) fun _=>.stuck 5)
        ((@StepR.rec (fun _=>M) (fun s' f=>ih (Nat.succ i) s' (f::fs)) (fun w=>.stuck w) (Fast.stepOp C run ops (Nat.add base i) o ⟨env,H,nx,low⟩)))) s) l
noncomputable def Yb (g:FuncId) (md nx0 low0:Nat) (o:Out):CR:=elimO (funcOf C g) (.bad 1) fun p =>
  zD (Nat.rec (Fast.finPure C p.1) (fun m _=>Nat.rec (Fast.finFresh C p.1 nx0) (fun _ _=>Fast.finHeap C p.1 (C.nf g) nx0 low0) m) md) o
noncomputable def Vx (dst:Option Tmp) (env:T AV) (H:T Blk) (nx low:Nat) (r:CR):StepR:=
  (@CR.rec (fun _=>StepR) (fun v rd=>putK env dst v fun env=>.ok ⟨env,H,nx,low⟩ ⟨rd,some [],false,nu⟩) (fun v H1 nx low=>putK env dst v fun env=>.ok ⟨env,H1,nx,low⟩ ⟨none,none,true,v7 H H1⟩) (fun v us nx=>putK env dst v fun env=>Go.Abs.ups H us fun H=>force (lower low us) fun low=>.ok ⟨env,H,nx,low⟩ ⟨some [],some (us.map (·.1)),true,nu⟩) (fun w=>.bad w) (r))
noncomputable def zbx (g:FuncId) (md nx0 low0:Nat) (f:FuncId) (p:List Nat) (i base:Nat) (s:S) (fs:List Foot) (k:List Fr) (o:Out):M:=
  List.rec (.stuck 6) (fun op l _=>S.rec (fun env H nx low=>(@StepR.rec (fun _=>M) (fun s' ft=>Vw C run sp f p (uG C f p) (ZK C f p) base k l (Nat.succ i) s' (ft::fs)) (fun w=>.stuck w) (Vx op.dst env H nx low (Yb C g md nx0 low0 o)))) s) (v8 i (uG C f p).toList)
noncomputable def KE (f:FuncId) (p:List Nat) (s:S) (k:List Fr):M:=
  (@Code.rec (fun _=>M) (.out (.nrm s) k) (fun _ ops draw=>S.rec (fun env H nx0 low=>force (Nat.add nx0 (lenL ops.toList)) fun nx=>Vw C run sp f p ops draw nx0 k ops.toList 0 (drop C ops.toList ⟨env,H,nx,low⟩) []) s) (fun _ _ _ _=>.code f (0::p) s (.seq f (1::p)::k)) (fun c _ _ _ _=>S.rec (fun env H nx low=>elimO (zf (opd env c) z9) (.stuck 101) fun x=>.code f (ifB x 0 1::p) ⟨env,H,nx,low⟩ k) s) (fun id _ _=>.code f (0::p) s (.blk id::k)) (fun _ _=>.code f (0::p) s (.lp f p::k)) (fun _ _ _ _ _ _=>.stuck 102) (fun id=>.out (.ext id s) k) (fun _ _=>.code f (0::p) s k) (fun _=>.out (.nrm s) k) (fun _=>.stuck 102) (.out (.ret s) k) (fun _=>.stuck 102) (xP C f p))
noncomputable def badO (o:Out):Bool:=(@Out.rec (fun _=>Bool) (fun _=>false) (fun _ _=>false) (fun _=>false) (fun _=>true) (o))
noncomputable def zby (o:Out) (k:List Fr):M:=ifB (badO o) (.stuck 8) <|
  List.rec (.stuck 7) (fun fr k _=>(@Fr.rec (fun _=>M) (fun f p=>(@Out.rec (fun _=>M) (fun s=>.code f p s k) (fun _ _=>.out o k) (fun _=>.out o k) (fun _=>.out o k) (o))) (fun id=>(@Out.rec (fun _=>M) (fun _=>.out o k) (fun id' s=>ifB (Nat.beq id' id) (.out (.nrm s) k) (.out o k)) (fun _=>.out o k) (fun _=>.out o k) (o))) (fun f p=>(@Out.rec (fun _=>M) (fun s=>.code f p s k) (fun _ _=>.out o k) (fun _=>.out o k) (fun _=>.out o k) (o))) (fun g md nx0 low0 f p i base s fs=>zbx C run sp g md nx0 low0 f p i base s fs k o) (fun g md nx0 low0=>.fin (Yb C g md nx0 low0 o)) (fr))) k
noncomputable def msteps (n:Nat):M→M:=
  Nat.rec (fun m=>m) (fun _ ih m=>(@M.rec (fun _=>M) (fun f p s k=>ih (KE C run sp f p s k)) (fun o k=>ih (zby C run sp o k)) (fun r=>.fin r) (fun w=>.stuck w) (m))) n
noncomputable def startM (g:FuncId) (args:List AV):M:=kZ C g args T.nil 0 fun md=>[.top g md 0 far]
end
