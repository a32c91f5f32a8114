/- A LAW OUT OF THE EVALUATOR's ANSWER: carries; what is called stands; the last step. -/
import Derived.Test.YtdomagdnaohpbaaGreatDoorEvCode
import Derived.Laws.Externs
import Derived.RowKit3
set_option linter.unusedSimpArgs false
set_option linter.unusedVariables false
namespace Go.Abs
noncomputable def za5 (g:Nat→Nat→Nat→Option AV) (l:List AV):Option AV:=
  zf (nthL l 0) fun a=>zf (nthL l 1) fun b=>zf (nthL l 2) fun c=>zm (Nat.beq (lenL l) 3) (zf (natOf a) fun x=>zf (natOf b) fun y=>zf (natOf c) fun z=>zm (Nat.ble z 1) (g x y z))
noncomputable def Kn (a b:Nat):Option AV:=force a fun a=>force b fun b=>some (.tuple [.v (.int .u64 (.ofNat a)),.v (.int .u64 (.ofNat b))])
noncomputable def add64:List AV→Option AV:=za5 fun x y c=>force (Nat.add (Nat.add x y) c) fun s=>Kn (Nat.mod s 18446744073709551616) (Nat.div s 18446744073709551616)
noncomputable def sub64:List AV→Option AV:=za5 fun x y b=>force (Nat.add y b) fun t=>Kn (Nat.mod (Nat.sub (Nat.add x 18446744073709551616) t) 18446744073709551616) (ifB (Nat.ble (Nat.succ x) t) 1 0)
def qw:Array Value→Sem Value:=fun args=>do
  let (x,y,b) ← Extern.MathBitsCarry.three "Sub64" args
  pure (Extern.MathBitsCarry.pair ((x + Extern.MathBitsCarry.m64 - y - b) % Extern.MathBitsCarry.m64) (if x < y + b then 1 else 0))
section
variable {C:Cx} {X:Nat→Prop} {j:J} {w:World}
theorem kS {x:AV} {v:Value} {n:Nat} (h:Rel X j w x v) (hn:natOf x=some n):∃ k,v=.int k (.ofNat n):=by
  cases x <;> try (cases hn; done)
  rename_i z
  obtain ⟨rfl,_⟩:=h.v_eq
  cases v with
  |
    int k m =>
    cases m with
    |
      ofNat a =>
      replace hn:force a some=some n:=hn
      rw [zr] at hn; cases hn
      exact ⟨k,rfl⟩
    | negSucc a=>cases hn
  | _=>cases hn
theorem ZA {g:Nat→Nat→Nat→Option AV} {l:List AV} {v:AV} {args:Array Value} (h:za5 g l=some v) (hr:wK X j w l args) :
    ∃ k1 k2 k3 x y z,args = #[.int k1 (.ofNat x),.int k2 (.ofNat y),.int k3 (.ofNat z)]∧z≤1∧g x y z=some v:=by
  replace h:=za.1 h; obtain ⟨a,ha,h⟩:=h
  replace h:=za.1 h; obtain ⟨b,hb,h⟩:=h
  replace h:=za.1 h; obtain ⟨c,hc,h⟩:=h
  replace h:=zi.1 h; obtain ⟨hl,h⟩:=h
  replace h:=za.1 h; obtain ⟨x,hx,h⟩:=h
  replace h:=za.1 h; obtain ⟨y,hy,h⟩:=h
  replace h:=za.1 h; obtain ⟨z,hz,h⟩:=h
  replace h:=zi.1 h; obtain ⟨hz1,h⟩:=h
  rw [ws] at ha hb hc
  rw [beq_true,yb] at hl
  obtain ⟨h1,h2⟩:=hr
  rcases args with ⟨args⟩
  match args,(show args.length=3 by simpa [hl] using h1.symm) with
  |
    [u1,u2,u3],_ =>
    obtain ⟨k1,rfl⟩:=kS (h2 0 a u1 ha rfl) hx
    obtain ⟨k2,rfl⟩:=kS (h2 1 b u2 hb rfl) hy
    obtain ⟨k3,rfl⟩:=kS (h2 2 c u3 hc rfl) hz
    exact ⟨k1,k2,k3,x,y,z,rfl,zq.1 hz1,h⟩
theorem ZB {a b:Nat} {v:AV} (h:Kn a b=some v):v=.tuple [.v (.int .u64 (.ofNat a)),.v (.int .u64 (.ofNat b))]:=by
  unfold Kn at h; rw [zr,zr] at h; cases h; rfl
theorem ZC {a b:Nat}:Rel X j w (.tuple [.v (.int .u64 (.ofNat a)),.v (.int .u64 (.ofNat b))]) (Extern.MathBitsCarry.pair a b):=by
  refine .tuple rfl (fun i x y hx hy => ?_)
  match i with
  | 0=>simp at hx hy; subst hx; subst hy; exact .v rfl
  | 1=>simp at hx hy; subst hx; subst hy; exact .v rfl
  | i + 2=>simp at hx
theorem za6 {f:FuncId} (hcall:∀ (args:Array Value) (w:World),(callFunc f args).run C.P w=((add64Entry args).run C.P w).andThen fun v w'=>.ok (.value v) w') {l:List AV} {v:AV} (h:add64 l=some v) {args:Array Value} (hr:wK X j w l args) :
    Answers C.P f args w fun rv w'=>Still w w'∧w.heap.size≤w'.heap.size∧(∀ B,B < w.heap.size→w'.heap[B]? = w.heap[B]?)∧Rel X j w' v rv:=by
  obtain ⟨k1,k2,k3,x,y,z,rfl,hz,hg⟩:=ZA h hr
  rw [zr] at hg
  obtain rfl:=ZB hg
  have e:(add64Entry #[.int k1 (.ofNat x),.int k2 (.ofNat y),.int k3 (.ofNat z)]).run C.P w=.ok (Extern.MathBitsCarry.pair ((x + y + z) % 18446744073709551616) ((x + y + z) / 18446744073709551616)) w:=by
    have:z=0∨z=1:=by omega
    rcases this with rfl | rfl <;> rfl
  exact .inl ⟨_,w,by rw [hcall,e]; rfl,Still.refl w,Nat.le_refl _,fun _ _=>rfl,ZC⟩
theorem za7 {f:FuncId} (hcall:∀ (args:Array Value) (w:World),(callFunc f args).run C.P w=((qw args).run C.P w).andThen fun v w'=>.ok (.value v) w') {l:List AV} {v:AV} (h:sub64 l=some v) {args:Array Value} (hr:wK X j w l args) :
    Answers C.P f args w fun rv w'=>Still w w'∧w.heap.size≤w'.heap.size∧(∀ B,B < w.heap.size→w'.heap[B]? = w.heap[B]?)∧Rel X j w' v rv:=by
  obtain ⟨k1,k2,k3,x,y,z,rfl,hz,hg⟩:=ZA h hr
  rw [zr] at hg
  obtain rfl:=ZB hg
  have e:(qw #[.int k1 (.ofNat x),.int k2 (.ofNat y),.int k3 (.ofNat z)]).run C.P w=.ok (Extern.MathBitsCarry.pair ((x + 18446744073709551616 - y - z) % 18446744073709551616) (if x < y + z then 1 else 0)) w:=by
    have:z=0∨z=1:=by omega
    rcases this with rfl | rfl <;> rfl
  refine .inl ⟨_,w,by rw [hcall,e]; rfl,Still.refl w,Nat.le_refl _,fun _ _=>rfl,?_⟩
  have e1:Nat.mod (Nat.sub (Nat.add x 18446744073709551616) (Nat.add y z)) 18446744073709551616=(x + 18446744073709551616 - y - z) % 18446744073709551616:=by
    show (x + 18446744073709551616 - (y + z)) % 18446744073709551616=_
    rw [Nat.sub_sub]
  have e2:ifB (Nat.ble (Nat.succ x) (Nat.add y z)) 1 0=if x < y + z then 1 else 0:=by rw [jB]; rfl
  rw [e1,e2]
  exact ZC
theorem za8 {w w':World} (h:Still w w') (hs:w.heap.size≤w'.heap.size) (hk:∀ B,B < w.heap.size→w'.heap[B]? = w.heap[B]?):RowKit.Grown w w':=by
  refine ⟨⟨h.os,h.output,fun i hi => ?_⟩,h.froz,hs⟩
  rw [hk i hi]
  split
  ·
    rename_i h1 h2
    rw [h1] at h2; cases h2
    exact ⟨rfl,rfl,rfl,fun _ _=>rfl⟩
  ·
    rename_i h1 h2
    rw [h1] at h2; cases h2
    exact .inr ⟨rfl,rfl⟩
  · rfl
theorem law_of_call (hm:C.P.follows .mixedOrders=true) (hext:ExtOk C) {n:Nat} {f:FuncId} {rd:Option (List Nat)} {p:Func×Code} (hp:funcOf C f=some p) (h:Go.Abs.call C n f []=.value (.v (.bool true)) rd) (w:World) :
    Calls C.P f #[] w fun e w'=>e=.returned (.bool true)∧RowKit.Grown w w':=by
  obtain ⟨hfn,hen⟩:=xk hp
  rcases qv hm hext h w #[] ⟨rfl,fun i x y hx=>by simp at hx⟩ with ⟨rv,w',h1,_⟩ | ⟨_,h2⟩
  · rw [xB hfn hen] at h1; cases h1
  ·
    refine Calls.mono h2 fun e w' ⟨rv,he,hst,hs,hk,hr⟩ => ?_
    subst he
    rw [hr.v_eq.1]
    exact ⟨rfl,za8 hst hs hk⟩
theorem zcP (hm:C.P.follows .mixedOrders=true) (hext:ExtOk C) {n:Nat} {f:FuncId} {b:Bool} {rd:Option (List Nat)} (h:Go.Abs.call C n f []=.value (.v (.bool b)) rd) {args:Array Value} (hr:wK X j w [] args) :
    Answers C.P f args w fun rv w'=>Still w w'∧w.heap.size≤w'.heap.size∧(∀ B,B < w.heap.size→w'.heap[B]? = w.heap[B]?)∧Rel X j w' (.v (.bool b)) rv:=by
  have e:args = #[]:=by
    have:=hr.1
    rcases args with ⟨args⟩
    cases args with
    | nil=>rfl
    | cons _ _=>cases this
  subst e
  exact (qv hm hext h w #[] ⟨rfl,fun i x y hx=>by simp at hx⟩).mono fun rv w' ⟨h0,h1,h2,hr⟩=>⟨h0,h1,h2,by rw [hr.v_eq.1]; exact .v rfl⟩
end
end Go.Abs
