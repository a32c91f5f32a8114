/- WHAT IS TAKEN OUT OF THE HEAP IS DATA FROM NOW ON; a heap whose blocks stay, reads as before. -/
import Derived.Test.YtdomagdnaohpbaaGreatDoorEvOps7
set_option linter.unusedSimpArgs false
set_option linter.unusedVariables false
namespace Go.Abs
section
variable {F:Nat→Prop} {j:J} {w w':World} {H:T Blk} {n:Nat}
theorem Rel.data {X:Nat→Prop} (hX:∀ B,B < w.heap.size→X B→XX F j H B) {x:AV} {v:Value} (h:Rel (XX F j H) j w x v) (hf:Go.Abs.flat 1 x=true):Rel X J0 w x v:=
  (h.flat 1 hf).mono_w hX (fun _ _ _=>rfl) (Nat.le_refl _)
theorem qu {X:Nat→Prop} (ho:HeapOk (XX F j H) j w H) (hX:∀ B,B < w.heap.size→X B→XX F j H B) (hframe:∀ (b:Nat) (k:Blk) (B S:Nat),n≤b→H.get b=some k→k.live=true→j b=some (B,S)→(∀ t p,k=.ro t p→n≤p) → ¬ X B) :
    ∀ (d:Nat) (x y:AV) (v:Value),freeze H n d x=some y→Rel (XX F j H) j w x v→Rel X J0 w y v:=by
  intro d
  induction d with
  | zero=>intro x y v h; cases h
  |
    succ d ih =>
    intro x y v h hr
    have list:∀ {l a:List AV} {l':Array Value},xE (freeze H n d) l=some a→l.length=l'.size→(∀ (i:Nat) (x:AV) (y:Value),l[i]? = some x→l'[i]? = some y→Rel (XX F j H) j w x y) →
        a.length=l'.size∧∀ (i:Nat) (x:AV) (y:Value),a[i]? = some x→l'[i]? = some y→Rel X J0 w x y:=by
      intro l a l' ha hl hr
      obtain ⟨h1,h2⟩:=wi ha
      refine ⟨by omega,fun i y u hy hu => ?_⟩
      have hlt:i < l.length:=by have:=(List.getElem?_eq_some_iff.1 hy).1; omega
      have hx:l[i]? = some l[i]:=by simp [hlt]
      exact ih _ _ _ (h2 i _ _ hx hy) (hr i _ _ hx hu)
    cases x with
    | v z=>cases h; exact hr.data hX rfl
    | vp t off=>cases h; exact hr.data hX rfl
    | vs t off len es lo ex=>cases h; exact hr.data hX rfl
    | vm l=>cases h; exact hr.data hX rfl
    |
      agg l =>
      replace h:=za.1 h; obtain ⟨a,ha,h⟩:=h
      cases h
      cases hr with
      | agg hl hr=>obtain ⟨h1,h2⟩:=list ha hl hr; exact .agg h1 h2
    |
      tuple l =>
      replace h:=za.1 h; obtain ⟨a,ha,h⟩:=h
      cases h
      cases hr with
      | tuple hl hr=>obtain ⟨h1,h2⟩:=list ha hl hr; exact .tuple h1 h2
    |
      fn f first cap =>
      replace h:=za.1 h; obtain ⟨a,ha,h⟩:=h
      replace h:=za.1 h; obtain ⟨b,hb,h⟩:=h
      cases h
      cases hr with
      | fn hl1 hr1 hl2 hr2=>obtain ⟨h1,h2⟩:=list ha hl1 hr1; obtain ⟨h3,h4⟩:=list hb hl2 hr2; exact .fn h1 h2 h3 h4
    |
      hp b off =>
      replace h:=zi.1 h; obtain ⟨hnb,h⟩:=h
      have hnb:n≤b:=zq.1 hnb
      replace h:=za.1 h; obtain ⟨q,hq,h⟩:=h
      replace h:=za.1 h; obtain ⟨t',ht,h⟩:=h
      cases h
      obtain ⟨kq,mq,hget,hbody,hmate⟩:=Zc hq
      cases hr with
      |
        hp hb =>
        rename_i B S
        have hat:=ho.at ⟨kq,hget,hbody⟩ hb off
        obtain ⟨B',S',hj',hlt⟩:=ho.block hget (Blk.body_live hbody)
        rw [hb] at hj'; cases hj'
        refine .vp (fun i=>(w.cell? ⟨B,off + i,none⟩).getD undef) (hframe b _ B S hnb hget (Blk.body_live hbody) hb hmate) hlt (fun i y hy => ?_) (fun i y hy => ?_)
        ·
          obtain ⟨x,hx,hf⟩:=qR ht (off + i) y hy
          obtain ⟨u,hu,_⟩:=hat i x hx
          rw [hu]; rfl
        ·
          obtain ⟨x,hx,hf⟩:=qR ht (off + i) y hy
          obtain ⟨u,hu,hru⟩:=hat i x hx
          rw [hu]; exact ih x y u hf hru
    |
      hs b off len es lo ex =>
      replace h:=zi.1 h; obtain ⟨hnb,h⟩:=h
      have hnb:n≤b:=zq.1 hnb
      replace h:=za.1 h; obtain ⟨q,hq,h⟩:=h
      obtain ⟨kq,mq,hget,hbody,hmate⟩:=Zc hq
      cases hr with
      |
        hs hb k1 k2 k3 k4 =>
        rename_i B S o c
        obtain ⟨B',S',hj',hlt⟩:=ho.block hget (Blk.body_live hbody)
        rw [hb] at hj'; cases hj'
        have hnF : ¬ X B:=hframe b _ B S hnb hget (Blk.body_live hbody) hb hmate
        cases h0:Nat.beq lo 0 with
        |
          true =>
          rw [h0,ifB_true] at h
          cases h
          exact .vs (fun _=>undef) hnF hlt k1 k2 k3 (fun i x hx=>by simp at hx) (fun i x hx=>by simp at hx)
        |
          false =>
          rw [h0,zj] at h
          replace h:=za.1 h; obtain ⟨t',ht,h⟩:=h
          cases h
          have hlo:lo≠0:=by rintro rfl; cases h0
          obtain ⟨rfl,_⟩:=k4 (by omega)
          have hat:=ho.at ⟨kq,hget,hbody⟩ hb o
          refine .vs (fun i=>(w.cell? ⟨B,o + i,none⟩).getD undef) hnF hlt k1 k2 k3 (fun i y hy => ?_) (fun i y hy => ?_)
          ·
            obtain ⟨x,hx,hf⟩:=qR ht (o + i) y hy
            obtain ⟨u,hu,_⟩:=hat i x hx
            rw [hu]; rfl
          ·
            obtain ⟨x,hx,hf⟩:=qR ht (o + i) y hy
            obtain ⟨u,hu,hru⟩:=hat i x hx
            rw [hu]; exact ih x y u hf hru
    |
      hm b =>
      replace h:=zi.1 h; obtain ⟨hnb,h⟩:=h
      have hnb:n≤b:=zq.1 hnb
      replace h:=za.1 h; obtain ⟨l,hl,h⟩:=h
      replace h:=za.1 h; obtain ⟨l',hl',h⟩:=h
      cases h
      have hget:=vV hl
      cases hr with
      |
        hm hb =>
        rename_i B S
        obtain ⟨B',S',es,cl,g1,g2,g3,g4,g5⟩:=ho.maps b l hget
        rw [hb] at g1; cases g1
        obtain ⟨a1,a2⟩:=wi hl'
        have pair:∀ (i:Nat) (k x:AV),l'[i]? = some (k,x)→∃ x0,l[i]? = some (k,x0)∧freeze H n d x0=some x:=by
          intro i k x hx
          have hlt:i < l.length:=by have:=(List.getElem?_eq_some_iff.1 hx).1; omega
          have hx0:l[i]? = some l[i]:=by simp [hlt]
          have h2:=a2 i _ _ hx0 hx
          obtain ⟨y,hy,h3⟩:=za.1 h2
          cases h3
          exact ⟨_,hx0,hy⟩
        refine .vm (hframe b _ B S hnb hget rfl hb (fun _ _ e=>by cases e)) (Array.getElem?_eq_some_iff.1 g2).1 g2 (by omega) (fun i k x e hx he => ?_) (fun i k x e hx he => ?_)
        ·
          obtain ⟨x0,h0,_⟩:=pair i k x hx
          exact g4 i k x0 e h0 he
        ·
          obtain ⟨x0,h0,hf⟩:=pair i k x hx
          exact ih x0 x e.val hf (g5 i k x0 e h0 he)
theorem Zn (d:Nat) (x:AV):zV H n (d + 1) x=(match x with
    | .agg l=>zf (xE (zV H n d) l) fun a=>some (.agg a)
    | .tuple l=>zf (xE (zV H n d) l) fun a=>some (.tuple a)
    | .fn f first cap=>zf (xE (zV H n d) first) fun a=>zf (xE (zV H n d) cap) fun b=>some (.fn f a b)
    | .hp b off=>ifB (Nat.ble n b) (freeze H n 20 x) (some x)
    | .hs b off len es lo ex=>ifB (Nat.ble n b) (freeze H n 20 x) (some x)
    | .hm b=>ifB (Nat.ble n b) (freeze H n 20 x) (some x)
    | _=>freeze H n 20 x):=by cases x <;> rfl
theorem Z7 {X X0:Nat→Prop} {j0:J} (hstrict:∀ x y v,freeze H n 20 x=some y→Rel X0 j w x v→Rel X j0 w y v) (hj:∀ b,b < n→j b=j0 b) :
    ∀ (d:Nat) (x y:AV) (v:Value),zV H n d x=some y→Rel X0 j w x v→Rel X j0 w y v:=by
  have old:∀ {b:Nat},Nat.ble n b=false→j b=j0 b:=fun {b} h=>hj b (by
    apply Nat.lt_of_not_le; intro hle; rw [zq.2 hle] at h; cases h)
  intro d
  induction d with
  | zero=>intro x y v h; cases h
  |
    succ d ih =>
    have list:∀ {l l':List AV} {vs:Array Value},xE (zV H n d) l=some l'→l.length=vs.size→(∀ (i:Nat) (x:AV) (y:Value),l[i]? = some x→vs[i]? = some y→Rel X0 j w x y) →
        l'.length=vs.size∧∀ (i:Nat) (x:AV) (y:Value),l'[i]? = some x→vs[i]? = some y→Rel X j0 w x y:=by
      intro l l' vs h h1 h2
      obtain ⟨a1,a2⟩:=wi h
      refine ⟨by omega,fun i x y hx hy => ?_⟩
      have hlt:i < l.length:=by have:=(List.getElem?_eq_some_iff.1 hx).1; omega
      have hx0:l[i]? = some l[i]:=by simp [hlt]
      exact ih _ x y (a2 i _ _ hx0 hx) (h2 i _ y hx0 hy)
    intro x y v h hr
    rw [Zn] at h
    cases x with
    |
      agg l =>
      replace h:=za.1 h; obtain ⟨a,ha,h⟩:=h
      cases h
      cases hr with
      | agg h1 r1=>obtain ⟨q1,q2⟩:=list ha h1 r1; exact .agg q1 q2
    |
      tuple l =>
      replace h:=za.1 h; obtain ⟨a,ha,h⟩:=h
      cases h
      cases hr with
      | tuple h1 r1=>obtain ⟨q1,q2⟩:=list ha h1 r1; exact .tuple q1 q2
    |
      fn f first cap =>
      replace h:=za.1 h; obtain ⟨a,ha,h⟩:=h
      replace h:=za.1 h; obtain ⟨b,hb,h⟩:=h
      cases h
      cases hr with
      |
        fn h1 r1 h2 r2 =>
        obtain ⟨q1,q2⟩:=list ha h1 r1
        obtain ⟨q3,q4⟩:=list hb h2 r2
        exact .fn q1 q2 q3 q4
    |
      hp b off =>
      replace h:ifB (Nat.ble n b) (freeze H n 20 (.hp b off)) (some (.hp b off))=some y:=h
      cases hb:Nat.ble n b with
      | true=>rw [hb,ifB_true] at h; exact hstrict _ _ _ h hr
      |
        false =>
        rw [hb,zj] at h; cases h
        cases hr with
        | hp h1=>exact .hp (by rw [← old hb]; exact h1)
    |
      hs b off len es lo ex =>
      replace h:ifB (Nat.ble n b) (freeze H n 20 (.hs b off len es lo ex)) (some (.hs b off len es lo ex))=some y:=h
      cases hb:Nat.ble n b with
      | true=>rw [hb,ifB_true] at h; exact hstrict _ _ _ h hr
      |
        false =>
        rw [hb,zj] at h; cases h
        cases hr with
        | hs h1 k1 k2 k3 k4=>exact .hs (by rw [← old hb]; exact h1) k1 k2 k3 k4
    |
      hm b =>
      replace h:ifB (Nat.ble n b) (freeze H n 20 (.hm b)) (some (.hm b))=some y:=h
      cases hb:Nat.ble n b with
      | true=>rw [hb,ifB_true] at h; exact hstrict _ _ _ h hr
      |
        false =>
        rw [hb,zj] at h; cases h
        cases hr with
        | hm h1=>exact .hm (by rw [← old hb]; exact h1)
    | v z=>exact hstrict _ _ _ h hr
    | vp t off=>exact hstrict _ _ _ h hr
    | vs t off len es lo ex=>exact hstrict _ _ _ h hr
    | vm l=>exact hstrict _ _ _ h hr
theorem HeapOk.stay {X:Nat→Prop} (ho:HeapOk X j w H) (hs:w.heap.size≤w'.heap.size) (hk:∀ B,B < w.heap.size→w'.heap[B]? = w.heap[B]?):HeapOk X j w' H:=by
  have mono:∀ {x:AV} {v:Value},Rel X j w x v→Rel X j w' x v:=fun h=>h.mono_w (fun _ _ h=>h) (fun B hB _=>hk B hB) hs
  refine ⟨fun b k t n hb hkb => ?_,fun b l hb => ?_,ho.inj,ho.full⟩
  ·
    obtain ⟨B,S,arr,e,h1,h2,h3,h4,h5⟩:=ho.body b k t n hb hkb
    exact ⟨B,S,arr,e,h1,by rw [hk _ (Array.getElem?_eq_some_iff.1 h2).1]; exact h2,h3,h4,fun i x hx=>by obtain ⟨v,hv,hr⟩:=h5 i x hx; exact ⟨v,hv,mono hr⟩⟩
  ·
    obtain ⟨B,S,es,cl,h1,h2,h3,h4,h5⟩:=ho.maps b l hb
    exact ⟨B,S,es,cl,h1,by rw [hk _ (Array.getElem?_eq_some_iff.1 h2).1]; exact h2,h3,h4,fun i k x e hx he=>mono (h5 i k x e hx he)⟩
theorem HeapOk.same {j':J} {H':T Blk} {nx:Nat} (ho:HeapOk (XX F j H) j w H) (ht:Trans j H w j' H' w') (ho':HeapOk (XX F j' H') j' w' H') (hfresh:∀ b,nx≤b→j b=none) (hsame:∀ b,b < nx→H'.get b=H.get b) :
    Trans j H w j H w'∧HeapOk (XX F j H) j w' H:=by
  have lt:∀ b p,j b=some p→b < nx:=fun b p h=>by
    apply Nat.lt_of_not_le; intro hge; rw [hfresh b hge] at h; cases h
  have sub:∀ B,Own j H B→Own j' H' B:=fun B ⟨b,k,S,hb,hl,hj⟩=>⟨b,k,S,by rw [hsame b (lt b _ hj)]; exact hb,hl,ht.j _ _ hj⟩
  have back:∀ {x:AV} {v0 v:Value},Rel (XX F j H) j w x v0→Rel (XX F j' H') j' w' x v→Rel (XX F j H) j w' x v:=fun h0 h =>
    (h0.back (fun b p hb=>ht.j b p hb) h).mono_w (fun B _ hx=>hx.imp id (sub B)) (fun _ _ _=>rfl) (Nat.le_refl _)
  refine ⟨⟨ht.still,ht.size,ht.keep,fun _ _ h=>h,fun _ _ h=>h⟩,fun b k t n hb hkb => ?_,fun b l hb => ?_,ho.inj,ho.full⟩
  ·
    obtain ⟨B,S,arr,e,h1,h2,h3,h4,h5⟩:=ho.body b k t n hb hkb
    have hb':H'.get b=some k:=by rw [hsame b (lt b _ h1)]; exact hb
    obtain ⟨B',S',arr',e',g1,g2,g3,g4,g5⟩:=ho'.body b k t n hb' hkb
    rw [ht.j _ _ h1] at g1; cases g1
    refine ⟨B,S,arr',e',h1,g2,g3,g4,fun i x hx => ?_⟩
    obtain ⟨v0,_,hr0⟩:=h5 i x hx
    obtain ⟨v,hv,hr⟩:=g5 i x hx
    exact ⟨v,hv,back hr0 hr⟩
  ·
    obtain ⟨B,S,es,cl,h1,h2,h3,h4,h5⟩:=ho.maps b l hb
    have hb':H'.get b=some (.map l):=by rw [hsame b (lt b _ h1)]; exact hb
    obtain ⟨B',S',es',cl',g1,g2,g3,g4,g5⟩:=ho'.maps b l hb'
    rw [ht.j _ _ h1] at g1; cases g1
    refine ⟨B,S,es',cl',h1,g2,g3,g4,fun i k x e hx he => ?_⟩
    obtain ⟨e0,he0⟩:=ql h3 hx
    exact back (h5 i k x e0 hx he0) (g5 i k x e hx he)
end
end Go.Abs
