/- internal/bytealg.IndexByteString, which has no body: the model's own answer, as an answer of the evaluator. -/
import Derived.Test.YtdomagdnaohpbaaGreatDoorEvNum
import Derived.Test.YtdomagdnaohpbaaGreatDoorProg
import GoSem.Extern.BytealgIndexByte
namespace Go.Proofs.YtdomagdnaohpbaaGreatDoor.known
open Go Go.Abs
noncomputable def byModel (P:Program) (g:Array Value→Sem Value) (l:List AV):Option AV:=
  zf (nthL l 0) fun a=>zf (nthL l 1) fun b=>zm (Nat.beq (lenL l) 2) (zf (asV a) fun x=>zf (asV b) fun y=>zf (xZ P (g #[x,y])) fun r =>
    xi (.v r) none fun k n=>wI n fun n=>some (.v (.int k n)))
theorem vJ {x:AV} {v:Value} (h:asV x=some v):x=.v v:=by
  cases x <;> first | (cases h; rfl) | cases h
theorem byModel_ok {P:Program} {f:FuncId} {g:Array Value→Sem Value} (hcall:∀ (args:Array Value) (w:World),(callFunc f args).run P w=((g args).run P w).andThen fun v w'=>.ok (.value v) w') {l:List AV} {v:AV} (h:byModel P g l=some v)
    {X:Nat→Prop} {j:J} {w:World} {args:Array Value} (hr:wK X j w l args) :
    Answers P f args w fun rv w'=>Still w w'∧w.heap.size≤w'.heap.size∧(∀ B,B < w.heap.size→w'.heap[B]? = w.heap[B]?)∧Rel X j w' v rv:=by
  replace h:=za.1 h; obtain ⟨a,ha,h⟩:=h
  replace h:=za.1 h; obtain ⟨b,hb,h⟩:=h
  replace h:=zi.1 h; obtain ⟨hl,h⟩:=h
  replace h:=za.1 h; obtain ⟨x,hx,h⟩:=h
  replace h:=za.1 h; obtain ⟨y,hy,h⟩:=h
  replace h:=za.1 h; obtain ⟨r,hp,h⟩:=h
  obtain rfl:=vJ hx
  obtain rfl:=vJ hy
  rw [ws] at ha hb
  rw [Abs.beq_true,yb] at hl
  match l,hl with
  |
    [u1,u2],_ =>
    cases (show some u1=some (AV.v x) from ha)
    cases (show some u2=some (AV.v y) from hb)
    obtain ⟨z1,z2,rfl,r1,r2⟩:=Vr hr
    obtain ⟨rfl,_⟩:=r1.v_eq
    obtain ⟨rfl,_⟩:=r2.v_eq
    cases r with
    |
      int k n =>
      replace h:wI n (fun n=>some (AV.v (.int k n)))=some v:=h
      rw [xx] at h
      cases h
      exact .inl ⟨_,w,by rw [hcall,ul hp w]; rfl,Still.refl w,Nat.le_refl _,fun _ _=>rfl,.v rfl⟩
    | _=>cases h
theorem run_index (args:Array Value) (w:World):(callFunc 208 args).run Tryz.prog w=((Extern.BytealgIndexByte.indexByte args).run Tryz.prog w).andThen fun v w'=>.ok (.value v) w':=
  run_callFunc_extern Tryz.func208 (by kernel_rfl) (by kernel_rfl) (by kernel_rfl) (by kernel_rfl) args w
end Go.Proofs.YtdomagdnaohpbaaGreatDoor.known
