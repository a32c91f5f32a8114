/- A RUN BY CALLS: a context whose answers include calls that were run before, by name: arguments and result are data. (Equality of data, decided; the table of calls.) -/
import Derived.Test.YtdomagdnaohpbaaGreatDoorEvFlat
import Derived.Test.YtdomagdnaohpbaaGreatDoorEvFast
set_option linter.unusedSimpArgs false
set_option linter.unusedVariables false
namespace Go.Abs
noncomputable section
def numI (x:Int):Nat:=Int.rec (fun n=>n) (fun n=>Nat.add n 103) x
def zf0 (a b:Nat):Nat:=Nat.mod (Nat.add (Nat.mul a 31) b) 99991
def zf1 (e:AV→Nat) (l:List AV):Nat:=List.rec 7 (fun x _ ih=>zf0 ih (e x)) l
def keyA (d:Nat):AV→Nat:=Nat.rec (fun _=>1) (fun _ ih x =>
  (@AV.rec (fun _=>Nat) U1 U1 U1 U1 U1 U1 (fun x=>(@Value.rec (fun _=>Nat) U1 U1 (fun b=>Bool.rec 2 3 b) (fun _ n=>numI n) (fun _ _=>5) (fun _ _ _=>5) (fun _=>5) (fun _=>5) (fun _ _ _=>5) (fun _=>5) (fun _=>5) (fun _ _ _ _ _=>5) (5) (fun _ _ _=>5) (5) (fun _ _=>5) (fun _ _=>5) K2 () K4 (x))) (fun _ _=>19) (fun t o _=>11) (fun _ _ _ _ _ _=>19) (fun t o l s c x _=>zf0 l (Nat.rec 13 (fun n _=>zf0 (Option.rec 17 ih (T.getA t o)) (Option.rec 17 ih (T.getA t (Nat.add o (Nat.mul n s))))) l)) (fun _ _ _ _ _=>19) (fun l _=>zf1 ih l) (fun l _=>zf1 ih l) (fun _=>19) (fun _ _=>19) K2 () K4 () K4 () K8 K4 () K2 (x))) d
def keyL (l:List AV):Nat:=zf1 (keyA 4) l
abbrev Ent:=Nat×Nat×List AV×AV
def entF (e:Ent):Nat:=e.1
def entL (e:Ent):List AV:=e.2.2.1
def entV (e:Ent):AV:=e.2.2.2
def uH (L:List Ent) (f k:Nat) (l:List AV):Option AV:=
  List.rec none (fun e _ ih=>ifB (Nat.beq e.2.1 k) (ifB (Nat.beq e.1 f) (ifB (xL (eqA 40) e.2.2.1 l) (some e.2.2.2) ih) ih) ih) L
def Val (C:Cx) (f:FuncId) (l:List AV) (v:AV):Prop:=∀ (X:Nat→Prop) (j:J) (w:World) (args:Array Value),(∀ B,X B→B < w.heap.size)→wK X j w l args →
  Answers C.P f args w fun rv w'=>Still w w'∧w.heap.size≤w'.heap.size∧(∀ B,B < w.heap.size→w'.heap[B]? = w.heap[B]?)∧Rel X j w' v rv
def ZM (C:Cx) (L:List Ent):Prop:=∀ e ∈ L,Val C e.1 e.2.2.1 e.2.2.2
def AllVals (C:Cx) (G:List (Nat×List Ent)):Prop:=∀ g ∈ G,ZM C g.2
def YH (G:List (Nat×List Ent)) (f k h:Nat) (l:List AV):Option AV:=
  List.rec none (fun g _ ih=>ifB (Nat.beq (Nat.mod (Nat.shiftRight g.1 h) 2) 1) (elimO (uH g.2 f k l) ih some) ih) G
def memoC (C:Cx) (fs:List Nat) (G:List (Nat×List Ent)) (L:List Ent):Cx:=
  { P:=C.P,ext:=fun f l=>elimO (C.ext f l) (ifB (memN f fs) (force (keyL l) fun k=>elimO (uH L f k l) (force (Nat.mod k 1024) fun h=>YH G f k h l) some) none) some,nf:=C.nf,hb:=C.hb,ro:=C.ro,bor:=C.bor }
theorem k6 {C:Cx} {f k:Nat} {l:List AV} {v:AV}:∀ {L:List Ent},ZM C L→uH L f k l=some v→Val C f l v
  | [],_,h=>by cases h
  |
    e::L,hL,h=>by
    replace h:ifB (Nat.beq e.2.1 k) (ifB (Nat.beq e.1 f) (ifB (xL (eqA 40) e.2.2.1 l) (some e.2.2.2) (uH L f k l)) (uH L f k l)) (uH L f k l)=some v:=h
    have tl:uH L f k l=some v→Val C f l v:=k6 (fun e he=>hL e (List.mem_cons_of_mem _ he))
    cases h0:Nat.beq e.2.1 k with
    | false=>rw [h0,zj] at h; exact tl h
    |
      true =>
      rw [h0,ifB_true] at h
      cases h1:Nat.beq e.1 f with
      | false=>rw [h1,zj] at h; exact tl h
      |
        true =>
        rw [h1,ifB_true] at h
        cases h2:xL (eqA 40) e.2.2.1 l with
        | false=>rw [h2,zj] at h; exact tl h
        |
          true =>
          rw [h2,ifB_true] at h; cases h
          have:=hL e (List.mem_cons_self ..)
          rw [Abs.beq_true.1 h1,w8 (Kj 40) _ _ h2] at this; exact this
theorem YI {C:Cx} {f k h:Nat} {l:List AV} {v:AV}:∀ {G:List (Nat×List Ent)},AllVals C G→YH G f k h l=some v→Val C f l v
  | [],_,e=>by cases e
  |
    g::G,hG,e=>by
    replace e:ifB (Nat.beq (Nat.mod (Nat.shiftRight g.1 h) 2) 1) (elimO (uH g.2 f k l) (YH G f k h l) some) (YH G f k h l)=some v:=e
    have tl:YH G f k h l=some v→Val C f l v:=YI (fun g hg=>hG g (List.mem_cons_of_mem _ hg))
    cases h0:Nat.beq (Nat.mod (Nat.shiftRight g.1 h) 2) 1 with
    | false=>rw [h0,zj] at e; exact tl e
    |
      true =>
      rw [h0,ifB_true] at e
      cases h1:uH g.2 f k l with
      | none=>rw [h1,elimO_none] at e; exact tl e
      | some u=>rw [h1,elimO_some] at e; cases e; exact k6 (hG g (List.mem_cons_self ..)) h1
theorem memo_ext {C:Cx} (fs:List Nat) (h:ExtOk C) {G:List (Nat×List Ent)} {L:List Ent} (hG:AllVals C G) (hL:ZM C L):ExtOk (memoC C fs G L):=by
  intro f l v hx
  replace hx:elimO (C.ext f l) (ifB (memN f fs) (force (keyL l) fun k=>elimO (uH L f k l) (force (Nat.mod k 1024) fun h=>YH G f k h l) some) none) some=some v:=hx
  cases hc:C.ext f l with
  | some u=>rw [hc,elimO_some] at hx; cases hx; exact h f l v hc
  |
    none =>
    rw [hc,elimO_none] at hx
    cases hm:memN f fs with
    | false=>rw [hm,zj] at hx; cases hx
    |
      true =>
      rw [hm,ifB_true,zr,zr] at hx
      cases h1:uH L f (keyL l) l with
      | some u=>rw [h1,elimO_some] at hx; cases hx; exact k6 hL h1
      | none=>rw [h1,elimO_none] at hx; exact YI hG hx
def zf2 (r:CR) (v:AV):Bool:=(@CR.rec (fun _=>Bool) (fun x rd=>eqA 40 x v) (fun _ _ _ _=>false) (fun _ _ _=>false) (fun _=>false) (r))
def chk (C:Cx) (fs:List Nat) (G:List (Nat×List Ent)) (es:List Ent):List Ent→Bool:=
  List.rec (fun _=>true) (fun e _ ih L=>ifB (zf2 (Fast.call (memoC C fs G L) 3000 e.1 e.2.2.1) e.2.2.2) (ifB (allB (flat 4) e.2.2.1) (ifB (flat 4 e.2.2.2) (ih (e::L)) false) false) false) es
theorem zf3 {r:CR} {v:AV} (h:zf2 r v=true):∃ rd,r=.value v rd:=by
  cases r with
  | value x rd=>exact ⟨rd,by rw [Kj 40 x v h]⟩
  | _=>cases h
theorem KI {C:Cx} {fs:List Nat} {G:List (Nat×List Ent)} (hm:C.P.follows .mixedOrders=true) (h:ExtOk C) (hG:AllVals C G):∀ (es L:List Ent),ZM C L→chk C fs G es L=true→ZM C es
  | [],_,_,_=>fun e he=>by cases he
  |
    e::es,L,hL,hc=>by
    obtain ⟨h1,hc⟩:=z8.1 (show ifB (zf2 (Fast.call (memoC C fs G L) 3000 e.1 e.2.2.1) e.2.2.2) (ifB (allB (flat 4) e.2.2.1) (ifB (flat 4 e.2.2.2) (chk C fs G es (e::L)) false) false) false=true from hc)
    obtain ⟨h2,hc⟩:=z8.1 hc
    obtain ⟨h3,hc⟩:=z8.1 hc
    obtain ⟨rd,h4⟩:=zf3 h1
    have hv:Val C e.1 e.2.2.1 e.2.2.2:=fun X j w args hX hr=>call_soundX (C:=memoC C fs G L) hm (memo_ext fs h hG hL) (by rw [← Fast.call_e]; exact h4) h2 h3 hX hr
    intro e' he'
    rcases List.mem_cons.1 he' with rfl | he'
    · exact hv
    · exact KI hm h hG es (e::L) (fun x hx=>(List.mem_cons.1 hx).elim (fun h=>by rw [h]; exact hv) (fun h=>hL x h)) hc e' he'
theorem chk_ok {C:Cx} {fs:List Nat} {G:List (Nat×List Ent)} (hm:C.P.follows .mixedOrders=true) (h:ExtOk C) (hG:AllVals C G) (m:Nat) (es:List Ent) (hc:chk C fs G es []=true):AllVals C ((m,es)::G):=by
  intro g hg
  rcases List.mem_cons.1 hg with rfl | hg
  · exact KI hm h hG es [] (fun e he=>by cases he) hc
  · exact hG g hg
theorem vals_nil {C:Cx}:AllVals C []:=fun g hg=>by cases hg
end
end Go.Abs
