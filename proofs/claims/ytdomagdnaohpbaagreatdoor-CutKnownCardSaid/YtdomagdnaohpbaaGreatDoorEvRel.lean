/- HOW THE EVALUATOR's VALUES AND ITS HEAP READ IN THE MACHINE's MEMORY, and what stays true when the memory goes on. -/
import Derived.Test.YtdomagdnaohpbaaGreatDoorEvTree
import Derived.Laws.AppendOwn
set_option linter.unusedVariables false
namespace Go.Abs
abbrev J:=Nat→Option (Nat×Nat)
def J0:J:=fun _=>none
inductive Rel (X:Nat→Prop):J→World→AV→Value→Prop
  | v {j:J} {w:World} {x:Value}:plain x=true→Rel X j w (.v x) x
  | hp {j:J} {w:World} {b off B S:Nat}:j b=some (B,S)→Rel X j w (.hp b off) (.pointer (some ⟨B,off,none⟩))
  | hs {j:J} {w:World} {b off len es lo:Nat} {ex:Bool} {B S o c:Nat}:j b=some (B,S)→len≤lo→lo≤c→(ex=true→c=lo)→(c≠0→o=off∧off + c * es≤S) →
      Rel X j w (.hs b off len es lo ex) (.slice (some ⟨B,o,none⟩) len c)
  | vp {j:J} {w:World} {t:T AV} {off B o:Nat} (f:Nat→Value) : ¬ X B→B < w.heap.size→(∀ (i:Nat) (x:AV),t.get (off + i)=some x→w.cell? ⟨B,o + i,none⟩=some (f i)) →
      (∀ (i:Nat) (x:AV),t.get (off + i)=some x→Rel X J0 w x (f i))→Rel X j w (.vp t off) (.pointer (some ⟨B,o,none⟩))
  | vs {j:J} {w:World} {t:T AV} {off len es lo:Nat} {ex:Bool} {B o c:Nat} (f:Nat→Value) : ¬ X B→B < w.heap.size→len≤lo→lo≤c→(ex=true→c=lo) →
      (∀ (i:Nat) (x:AV),t.get (off + i)=some x→w.cell? ⟨B,o + i,none⟩=some (f i))→(∀ (i:Nat) (x:AV),t.get (off + i)=some x→Rel X J0 w x (f i)) →
      Rel X j w (.vs t off len es lo ex) (.slice (some ⟨B,o,none⟩) len c)
  | fn {j:J} {w:World} {f:Fn} {a b:List AV} {a' b':Array Value}:a.length=a'.size→(∀ (i:Nat) (x:AV) (y:Value),a[i]? = some x→a'[i]? = some y→Rel X j w x y)→b.length=b'.size →
      (∀ (i:Nat) (x:AV) (y:Value),b[i]? = some x→b'[i]? = some y→Rel X j w x y)→Rel X j w (.fn f a b) (.func f a' b')
  | agg {j:J} {w:World} {l:List AV} {l':Array Value}:l.length=l'.size→(∀ (i:Nat) (x:AV) (y:Value),l[i]? = some x→l'[i]? = some y→Rel X j w x y)→Rel X j w (.agg l) (.agg l')
  | tuple {j:J} {w:World} {l:List AV} {l':Array Value}:l.length=l'.size→(∀ (i:Nat) (x:AV) (y:Value),l[i]? = some x→l'[i]? = some y→Rel X j w x y)→Rel X j w (.tuple l) (.tuple l')
  | hm {j:J} {w:World} {b B S:Nat}:j b=some (B,S)→Rel X j w (.hm b) (.map (some B))
  | vm {j:J} {w:World} {l:List (AV×AV)} {B:Nat} {es:Array MapEntry} {clock:Nat} : ¬ X B→B < w.heap.size→w.heap[B]? = some (.map es clock)→l.length=es.size →
      (∀ (i:Nat) (k x:AV) (e:MapEntry),l[i]? = some (k,x)→es[i]? = some e→plain e.key=true∧k=.v e.key) →
      (∀ (i:Nat) (k x:AV) (e:MapEntry),l[i]? = some (k,x)→es[i]? = some e→Rel X J0 w x e.val)→Rel X j w (.vm l) (.map (some B))
theorem Rel.mono_j {X:Nat→Prop} {j:J} {w:World} {x:AV} {v:Value} (h:Rel X j w x v):∀ {j':J},(∀ b p,j b=some p→j' b=some p)→Rel X j' w x v:=by
  induction h with
  | v hp=>intro j' hj; exact .v hp
  | hp hb=>intro j' hj; exact .hp (hj _ _ hb)
  | hs hb h1 h2 h3 h4=>intro j' hj; exact .hs (hj _ _ hb) h1 h2 h3 h4
  | vp f hB hlt hc hr _=>intro j' hj; exact .vp f hB hlt hc hr
  | vs f hB hlt h1 h2 h3 hc hr _=>intro j' hj; exact .vs f hB hlt h1 h2 h3 hc hr
  | fn h1 _ h2 _ ih1 ih2=>intro j' hj; exact .fn h1 (fun i x y hx hy=>ih1 i x y hx hy hj) h2 (fun i x y hx hy=>ih2 i x y hx hy hj)
  | agg h1 _ ih=>intro j' hj; exact .agg h1 (fun i x y hx hy=>ih i x y hx hy hj)
  | tuple h1 _ ih=>intro j' hj; exact .tuple h1 (fun i x y hx hy=>ih i x y hx hy hj)
  | hm hb=>intro j' hj; exact .hm (hj _ _ hb)
  | vm hB hlt hm hl hk hr _=>intro j' hj; exact .vm hB hlt hm hl hk hr
theorem Rel.lift {X:Nat→Prop} {j:J} {w:World} {x:AV} {v:Value} (h:Rel X J0 w x v):Rel X j w x v:=h.mono_j (fun b p hb=>by cases hb)
theorem Rel.mono_w {X X':Nat→Prop} {j:J} {w:World} {x:AV} {v:Value} (h:Rel X j w x v):∀ {w':World},(∀ B,B < w.heap.size→X' B→X B) →
    (∀ B,B < w.heap.size → ¬ X B→w'.heap[B]? = w.heap[B]?)→w.heap.size≤w'.heap.size→Rel X' j w' x v:=by
  induction h with
  | v hp=>intro w' hX hw hs; exact .v hp
  | hp hb=>intro w' hX hw hs; exact .hp hb
  | hs hb h1 h2 h3 h4=>intro w' hX hw hs; exact .hs hb h1 h2 h3 h4
  | vp f hB hlt hc _ ih=>intro w' hX hw hs; exact .vp f (fun h=>hB (hX _ hlt h)) (by omega) (fun i x hx=>by rw [World.cell?_of_block (hw _ hlt hB)]; exact hc i x hx) (fun i x hx=>ih i x hx hX hw hs)
  | vs f hB hlt h1 h2 h3 hc _ ih=>intro w' hX hw hs; exact .vs f (fun h=>hB (hX _ hlt h)) (by omega) h1 h2 h3 (fun i x hx=>by rw [World.cell?_of_block (hw _ hlt hB)]; exact hc i x hx) (fun i x hx=>ih i x hx hX hw hs)
  | fn h1 _ h2 _ ih1 ih2=>intro w' hX hw hs; exact .fn h1 (fun i x y hx hy=>ih1 i x y hx hy hX hw hs) h2 (fun i x y hx hy=>ih2 i x y hx hy hX hw hs)
  | agg h1 _ ih=>intro w' hX hw hs; exact .agg h1 (fun i x y hx hy=>ih i x y hx hy hX hw hs)
  | tuple h1 _ ih=>intro w' hX hw hs; exact .tuple h1 (fun i x y hx hy=>ih i x y hx hy hX hw hs)
  | hm hb=>intro w' hX hw hs; exact .hm hb
  | vm hB hlt hm hl hk _ ih=>intro w' hX hw hs; exact .vm (fun h=>hB (hX _ hlt h)) (by omega) (by rw [hw _ hlt hB]; exact hm) hl hk (fun i k x e hx he=>ih i k x e hx he hX hw hs)
theorem Rel.mono {X X':Nat→Prop} {j j':J} {w w':World} (hX:∀ B,B < w.heap.size→X' B→X B) (hj:∀ b p,j b=some p→j' b=some p)
    (hw:∀ B,B < w.heap.size → ¬ X B→w'.heap[B]? = w.heap[B]?) (hs:w.heap.size≤w'.heap.size) {x:AV} {v:Value} (h:Rel X j w x v):Rel X' j' w' x v:=
  (h.mono_j hj).mono_w hX hw hs
theorem ql {α β:Type} {l:List α} {l':Array β} (h:l.length=l'.size) {i:Nat} {x:α} (hx:l[i]? = some x):∃ z,l'[i]? = some z:=
  ⟨_,Array.getElem?_eq_some_iff.2 ⟨by have:=(List.getElem?_eq_some_iff.1 hx).1; omega,rfl⟩⟩
theorem Rel.back {X₀:Nat→Prop} {j:J} {w₀:World} {x:AV} {v₀:Value} (h₀:Rel X₀ j w₀ x v₀) :
    ∀ {X:Nat→Prop} {j':J} {w:World} {v:Value},(∀ b p,j b=some p→j' b=some p)→Rel X j' w x v→Rel X j w x v:=by
  induction h₀ with
  | v hp=>intro X j' w v hj h; cases h with | v hp'=>exact .v hp'
  | hp hb=>intro X j' w v hj h; cases h with | hp hb'=>have:=hj _ _ hb; rw [this] at hb'; cases hb'; exact .hp hb
  | hs hb _ _ _ _=>intro X j' w v hj h; cases h with | hs hb' h1 h2 h3 h4=>have:=hj _ _ hb; rw [this] at hb'; cases hb'; exact .hs hb h1 h2 h3 h4
  | vp f _ _ _ _ _=>intro X j' w v hj h; cases h with | vp f' hB hlt hc hr=>exact .vp f' hB hlt hc hr
  | vs f _ _ _ _ _ _ _ _=>intro X j' w v hj h; cases h with | vs f' hB hlt h1 h2 h3 hc hr=>exact .vs f' hB hlt h1 h2 h3 hc hr
  |
    fn h1 _ h2 _ ih1 ih2 =>
    intro X j' w v hj h
    cases h with
    |
      fn h1' r1 h2' r2 =>
      refine .fn h1' (fun i x y hx hy => ?_) h2' (fun i x y hx hy => ?_)
      · obtain ⟨z,hz⟩:=ql h1 hx; exact ih1 i x z hx hz hj (r1 i x y hx hy)
      · obtain ⟨z,hz⟩:=ql h2 hx; exact ih2 i x z hx hz hj (r2 i x y hx hy)
  |
    agg h1 _ ih =>
    intro X j' w v hj h
    cases h with
    | agg h1' r1=>exact .agg h1' (fun i x y hx hy=>by obtain ⟨z,hz⟩:=ql h1 hx; exact ih i x z hx hz hj (r1 i x y hx hy))
  |
    tuple h1 _ ih =>
    intro X j' w v hj h
    cases h with
    | tuple h1' r1=>exact .tuple h1' (fun i x y hx hy=>by obtain ⟨z,hz⟩:=ql h1 hx; exact ih i x z hx hz hj (r1 i x y hx hy))
  | hm hb=>intro X j' w v hj h; cases h with | hm hb'=>have:=hj _ _ hb; rw [this] at hb'; cases hb'; exact .hm hb
  | vm _ _ _ _ _ _ _=>intro X j' w v hj h; cases h with | vm hB hlt hm hl' hk hr=>exact .vm hB hlt hm hl' hk hr
theorem Jv (d:Nat) (x:AV):flat (d + 1) x=(match x with
    | .v _=>true | .vp _ _=>true | .vs _ _ _ _ _ _=>true | .vm _=>true | .agg l=>allB (flat d) l | .tuple l=>allB (flat d) l | .fn _ a b=>andB (allB (flat d) a) (allB (flat d) b) | _=>false):=by cases x <;> rfl
theorem Rel.flat {X:Nat→Prop} {w:World} (d:Nat):∀ {j:J} {x:AV} {v:Value},Rel X j w x v→Go.Abs.flat d x=true→Rel X J0 w x v:=by
  induction d with
  | zero=>intro j x v h hf; cases hf
  |
    succ d ih =>
    intro j x v h hf
    rw [Jv] at hf
    cases h with
    | v hp=>exact .v hp
    | hp _=>cases hf
    | hs _ _ _ _ _=>cases hf
    | vp f a b c e=>exact .vp f a b c e
    | vs f a b c e g k m=>exact .vs f a b c e g k m
    |
      fn h1 r1 h2 r2 =>
      obtain ⟨f1,f2⟩:=zl.1 hf
      exact .fn h1 (fun i x y hx hy=>ih (r1 i x y hx hy) (z6.1 f1 x (List.mem_of_getElem? hx))) h2 (fun i x y hx hy=>ih (r2 i x y hx hy) (z6.1 f2 x (List.mem_of_getElem? hx)))
    | agg h1 r1=>exact .agg h1 (fun i x y hx hy=>ih (r1 i x y hx hy) (z6.1 hf x (List.mem_of_getElem? hx)))
    | tuple h1 r1=>exact .tuple h1 (fun i x y hx hy=>ih (r1 i x y hx hy) (z6.1 hf x (List.mem_of_getElem? hx)))
    | hm _=>cases hf
    | vm a b c e g k=>exact .vm a b c e g k
def Blk.live:Blk→Bool
  | .gone=>false
  | _=>true
def Blk.own:Blk→Bool
  | .cells _ _=>true
  | .map _=>true
  | _=>false
theorem Blk.own_live {k:Blk} (h:k.own=true):k.live=true:=by cases k <;> first | rfl | cases h
def Blk.body:Blk→Option (T AV×Nat)
  | .cells t n=>some (t,n)
  | .ro t _=>some (t,0)
  | _=>none
theorem Blk.body_live {k:Blk} {q:T AV×Nat} (h:k.body=some q):k.live=true:=by cases k <;> first | rfl | cases h
def Own (j:J) (H:T Blk) (B:Nat):Prop:=∃ b k S,H.get b=some k∧k.live=true∧j b=some (B,S)
def Full (H:T Blk):Prop:=∀ (b:Nat) (t:T AV) (n:Nat),H.get b=some (.cells t n)→∀ (i:Nat) (x:AV),t.get i=some x→i < n
theorem Full.set {H:T Blk} {b:Nat} {k:Blk} (h:Full H) (hk:∀ (t:T AV) (n:Nat),k=.cells t n→∀ (i:Nat) (x:AV),t.get i=some x→i < n):Full (T.set b k H):=fun c t n hc=>by
  rw [T.get_set] at hc
  by_cases e:c=b
  · rw [if_pos e] at hc; cases hc; exact hk t n rfl
  · rw [if_neg e] at hc; exact h c t n hc
theorem Full.nil:Full T.nil:=fun b t n hb=>by simp at hb
structure HeapOk (X:Nat→Prop) (j:J) (w:World) (H:T Blk):Prop where
  body:∀ (b:Nat) (k:Blk) (t:T AV) (n:Nat),H.get b=some k→k.body=some (t,n)→∃ B S arr e,j b=some (B,S)∧w.heap[B]? = some (.cells arr e (0,0))∧arr.size=S∧n≤S ∧
    ∀ (i:Nat) (x:AV),t.get i=some x→∃ v,arr[i]? = some v∧Rel X j w x v
  maps:∀ (b:Nat) (l:List (AV×AV)),H.get b=some (.map l)→∃ B S es clock,j b=some (B,S)∧w.heap[B]? = some (.map es clock)∧l.length=es.size ∧
    (∀ (i:Nat) (k x:AV) (e:MapEntry),l[i]? = some (k,x)→es[i]? = some e→plain e.key=true∧k=.v e.key)∧(∀ (i:Nat) (k x:AV) (e:MapEntry),l[i]? = some (k,x)→es[i]? = some e→Rel X j w x e.val)
  inj:∀ (b b':Nat) (k k':Blk) (B S S':Nat),H.get b=some k→k.live=true→H.get b'=some k'→k'.live=true→j b=some (B,S)→j b'=some (B,S')→b=b'∨∃ t t',k=.ro t b'∧k'=.ro t' b
  full:Full H
theorem HeapOk.cells {X:Nat→Prop} {j:J} {w:World} {H:T Blk} (h:HeapOk X j w H) (b:Nat) (t:T AV) (n:Nat) (hb:H.get b=some (.cells t n)):∃ B S arr e,j b=some (B,S)∧w.heap[B]? = some (.cells arr e (0,0))∧arr.size=S∧n≤S ∧
    ∀ (i:Nat) (x:AV),t.get i=some x→∃ v,arr[i]? = some v∧Rel X j w x v:=h.body b _ t n hb rfl
theorem HeapOk.sole {X:Nat→Prop} {j:J} {w:World} {H:T Blk} (ho:HeapOk X j w H) {b c:Nat} {k0 k:Blk} {B S S':Nat} (hc:H.get c=some k) (hl:k.live=true) (hb:H.get b=some k0) (h0:k0.own=true) (hjc:j c=some (B,S')) (hj:j b=some (B,S)):c=b:=
  (ho.inj c b k k0 B S' S hc hl hb (Blk.own_live h0) hjc hj).elim id fun ⟨_,_,_,e⟩=>by rw [e] at h0; cases h0
theorem HeapOk.block {X:Nat→Prop} {j:J} {w:World} {H:T Blk} (h:HeapOk X j w H) {b:Nat} {k:Blk} (hb:H.get b=some k) (hl:k.live=true) :
    ∃ B S,j b=some (B,S)∧B < w.heap.size:=by
  cases k with
  |
    cells t n =>
    obtain ⟨B,S,arr,e,h1,h2,_⟩:=h.cells b t n hb
    exact ⟨B,S,h1,(Array.getElem?_eq_some_iff.1 h2).1⟩
  |
    map l =>
    obtain ⟨B,S,es,c,h1,h2,_⟩:=h.maps b l hb
    exact ⟨B,S,h1,(Array.getElem?_eq_some_iff.1 h2).1⟩
  | gone=>cases hl
  |
    ro t p =>
    obtain ⟨B,S,arr,e,h1,h2,_⟩:=h.body b _ t 0 hb rfl
    exact ⟨B,S,h1,(Array.getElem?_eq_some_iff.1 h2).1⟩
theorem HeapOk.own_lt {X:Nat→Prop} {j:J} {w:World} {H:T Blk} (h:HeapOk X j w H) {B:Nat} (ho:Own j H B):B < w.heap.size:=by
  obtain ⟨b,k,S,hb,hl,hj⟩:=ho
  obtain ⟨B',S',hj',hlt⟩:=h.block hb hl
  rw [hj] at hj'; cases hj'; exact hlt
def XX (F:Nat→Prop) (j:J) (H:T Blk):Nat→Prop:=fun B=>F B∨Own j H B
structure Sim (D:List Deferred) (F:Nat→Prop) (N:Nat) (j:J) (env:T AV) (H:T Blk) (a:Act) (w:World):Prop where
  env:∀ t,Rel (XX F j H) j w ((env.get t).getD (.tuple [])) (a.tmps.getD t undef)
  heap:HeapOk (XX F j H) j w H
  frame:∀ B,F B→B < w.heap.size ∧ ¬ Own j H B
  size:a.tmps.size=N
  defers:a.defers=D
structure Still (w w':World):Prop where
  os:w'.os=w.os
  output:w'.output=w.output
  froz:∀ a,w'.frozen? a=w.frozen? a
theorem Still.refl (w:World):Still w w:=⟨rfl,rfl,fun _=>rfl⟩
theorem Still.trans {w w' w'':World} (h:Still w w') (h':Still w' w''):Still w w'':=⟨h'.os.trans h.os,h'.output.trans h.output,fun a=>(h'.froz a).trans (h.froz a)⟩
theorem vn {w:World} {a:Addr} (h:∀ c t fr,w.heap[a.block]? = some (.cells c t fr)→fr=(0,0)):w.frozen? a=false:=by
  unfold World.frozen?
  cases hq:w.heap[a.block]? with
  | none=>rfl
  |
    some o =>
    cases o with
    |
      cells c t fr =>
      obtain rfl:=h c t fr hq
      simp
    | _=>rfl
theorem Still.push {w w':World} {o:Obj} (h:w'.heap=w.heap.push o) (hu:∀ c t fr,o=.cells c t fr→fr=(0,0)) (h1:w'.os=w.os) (h2:w'.output=w.output):Still w w':=by
  refine ⟨h1,h2,fun a => ?_⟩
  by_cases e:a.block=w.heap.size
  · rw [vn (w:=w') (fun c t fr hc=>by rw [h,e] at hc; simp at hc; exact hu c t fr hc),vn (w:=w) (fun c t fr hc=>by rw [e] at hc; simp at hc)]
  · exact World.frozen?_of_block (by rw [h,Array.getElem?_push,if_neg e])
theorem Still.put {w w':World} {B:Nat} (hk:∀ B',B'≠B→w'.heap[B']? = w.heap[B']?) (h0:∀ c t fr,w.heap[B]? = some (.cells c t fr)→fr=(0,0)) (h3:∀ c t fr,w'.heap[B]? = some (.cells c t fr)→fr=(0,0))
    (h1:w'.os=w.os) (h2:w'.output=w.output):Still w w':=by
  refine ⟨h1,h2,fun a => ?_⟩
  by_cases e:a.block=B
  · rw [vn (w:=w') (fun c t fr hc=>h3 c t fr (e ▸ hc)),vn (w:=w) (fun c t fr hc=>h0 c t fr (e ▸ hc))]
  · exact World.frozen?_of_block (hk _ e)
structure Trans (j:J) (H:T Blk) (w:World) (j':J) (H':T Blk) (w':World):Prop where
  still:Still w w'
  size:w.heap.size≤w'.heap.size
  keep:∀ B,B < w.heap.size → ¬ Own j H B→w'.heap[B]? = w.heap[B]?
  own:∀ B,B < w.heap.size→Own j' H' B→Own j H B
  j:∀ (b:Nat) (p:Nat×Nat),j b=some p→j' b=some p
theorem Trans.refl (j:J) (H:T Blk) (w:World):Trans j H w j H w:=⟨Still.refl _,Nat.le_refl _,fun _ _ _=>rfl,fun _ _ h=>h,fun _ _ h=>h⟩
theorem Trans.trans {j j' j'':J} {H H' H'':T Blk} {w w' w'':World} (h:Trans j H w j' H' w') (h':Trans j' H' w' j'' H'' w''):Trans j H w j'' H'' w'':=
  ⟨
   h.still.trans h'.still,Nat.le_trans h.size h'.size,
   fun B hB hn=>(h'.keep B (Nat.lt_of_lt_of_le hB h.size) (fun ho=>hn (h.own B hB ho))).trans (h.keep B hB hn),
   fun B hB ho=>h.own B hB (h'.own B (Nat.lt_of_lt_of_le hB h.size) ho),
   fun b p hp=>h'.j b p (h.j b p hp)⟩
theorem Rel.trans {F:Nat→Prop} {j j':J} {H H':T Blk} {w w':World} (h:Trans j H w j' H' w') {x:AV} {v:Value}
    (hr:Rel (XX F j H) j w x v):Rel (XX F j' H') j' w' x v:=
  hr.mono (fun B hB hx=>hx.imp id (h.own B hB)) h.j (fun B hB hn=>h.keep B hB (fun ho=>hn (.inr ho))) h.size
theorem WM {F:Nat→Prop} {j j':J} {H H':T Blk} {w w':World} (h:Trans j H w j' H' w')
    (hf:∀ B,F B→B < w.heap.size ∧ ¬ Own j H B):∀ B,F B→B < w'.heap.size ∧ ¬ Own j' H' B:=fun B hB =>
  ⟨Nat.lt_of_lt_of_le (hf B hB).1 h.size,fun ho=>(hf B hB).2 (h.own B (hf B hB).1 ho)⟩
end Go.Abs
