/- WHAT THE EVALUATOR SAYS OF AN OPERATION, THE MACHINE DOES: builtins. -/
import Derived.Test.YtdomagdnaohpbaaGreatDoorEvOps5
set_option linter.unusedSimpArgs false
set_option linter.unusedVariables false
namespace Go.Abs
section
variable {C:Cx} {F:Nat→Prop} {j:J} {env:T AV} {H:T Blk} {ρ:Operand→Value} {w w':World} {nb:Nat} {ty:TypeId} {r:R} {X:Nat→Prop}
theorem Zg {b B S n:Nat} {k0:Blk} {t:T AV} {arr:Array Value} {e:TypeId} (ho:HeapOk (XX F j H) j w H) (hb:H.get b=some k0) (hl:k0.own=true) (hj:j b=some (B,S)) (hnb:j nb=none)
    (hs:w'.heap.size=w.heap.size) (hk:∀ B',B'≠B→w'.heap[B']? = w.heap[B']?) (hst:Still w w') (hB:w'.heap[B]? = some (.cells arr e (0,0))) (hS:arr.size=S) (hn:n≤S) (hf:∀ (i:Nat) (x:AV),t.get i=some x→i < n)
    (ht:∀ (i:Nat) (x:AV),t.get i=some x→∃ v,arr[i]? = some v∧Rel (XX F j H) j w x v) :
    Trans j H w (j.upd nb (B,S)) (T.set b .gone (T.set nb (.cells t n) H)) w' ∧
    HeapOk (XX F (j.upd nb (B,S)) (T.set b .gone (T.set nb (.cells t n) H))) (j.upd nb (B,S)) w' (T.set b .gone (T.set nb (.cells t n) H)):=by
  have hne:b≠nb:=by rintro rfl; rw [hnb] at hj; cases hj
  have get:∀ (c:Nat) (k:Blk),(T.set b Blk.gone (T.set nb (.cells t n) H)).get c=some k→k.live=true→(c=nb∧k=.cells t n∧(j.upd nb (B,S)) c=some (B,S))∨(c≠nb∧c≠b∧H.get c=some k∧(j.upd nb (B,S)) c=j c):=by
    intro c k hc hlk
    rw [T.get_set,T.get_set] at hc
    by_cases e1:c=b
    · rw [if_pos e1] at hc; cases hc; cases hlk
    ·
      rw [if_neg e1] at hc
      by_cases e2:c=nb
      · rw [if_pos e2] at hc; cases hc; exact .inl ⟨e2,rfl,by rw [e2,J.upd_eq]⟩
      · rw [if_neg e2] at hc; exact .inr ⟨e2,e1,hc,J.upd_ne e2⟩
  have htr:Trans j H w (j.upd nb (B,S)) (T.set b .gone (T.set nb (.cells t n) H)) w':=by
    refine ⟨hst,by omega,fun B' _ hn=>hk B' (fun e=>hn (e ▸ ⟨b,k0,S,hb,Blk.own_live hl,hj⟩)),fun B' _ ho' => ?_,fun c p h=>by rw [J.upd_ne (by rintro rfl; rw [hnb] at h; cases h)]; exact h⟩
    obtain ⟨c,k,S',hc,hlk,hjc⟩:=ho'
    rcases get c k hc hlk with ⟨_,_,e⟩ | ⟨_,_,h1,e⟩
    · rw [e] at hjc; cases hjc; exact ⟨b,k0,S,hb,Blk.own_live hl,hj⟩
    · rw [e] at hjc; exact ⟨c,k,S',h1,hlk,hjc⟩
  refine ⟨htr,fun c kk t' n' hc hkk => ?_,fun c l hc => ?_,fun b1 b2 k1 k2 B1 S1 S2 h1 l1 h2 l2 j1 j2 => ?_,(ho.full.set (k:=.cells t n) fun t' n' e=>by cases e; exact hf).set fun t' n' e=>by cases e⟩
  ·
    rcases get c _ hc (Blk.body_live hkk) with ⟨_,e1,e⟩ | ⟨_,hcb,h1,e⟩
    ·
      rw [e1] at hkk; cases hkk
      refine ⟨B,S,arr,_,e,hB,hS,hn,fun i x hx => ?_⟩
      obtain ⟨v,hv,hr⟩:=ht i x hx
      exact ⟨v,hv,hr.trans htr⟩
    ·
      obtain ⟨B2,S2,arr',e2,g1,g2,g3,g4,g5⟩:=ho.body c kk t' n' h1 hkk
      have hBne:B2≠B:=by rintro rfl; exact hcb (ho.sole h1 (Blk.body_live hkk) hb hl g1 hj)
      refine ⟨B2,S2,arr',e2,by rw [e]; exact g1,by rw [hk _ hBne]; exact g2,g3,g4,fun i x hx => ?_⟩
      obtain ⟨v,hv,hr⟩:=g5 i x hx
      exact ⟨v,hv,hr.trans htr⟩
  ·
    rcases get c _ hc rfl with ⟨_,e1,e⟩ | ⟨_,hcb,h1,e⟩
    · cases e1
    ·
      obtain ⟨B2,S2,es,cl,g1,g2,g3,g4,g5⟩:=ho.maps c l h1
      have hBne:B2≠B:=by rintro rfl; exact hcb (ho.sole h1 rfl hb hl g1 hj)
      exact ⟨B2,S2,es,cl,by rw [e]; exact g1,by rw [hk _ hBne]; exact g2,g3,g4,fun i k x e' hx he=>(g5 i k x e' hx he).trans htr⟩
  ·
    rcases get b1 _ h1 l1 with ⟨r1,_,e1⟩ | ⟨r1,q1,g1,e1⟩ <;> rcases get b2 _ h2 l2 with ⟨r2,_,e2⟩ | ⟨r2,q2,g2,e2⟩
    · exact .inl (by rw [r1,r2])
    ·
      rw [e1] at j1; rw [e2] at j2; cases j1
      exact absurd (ho.sole g2 l2 hb hl j2 hj) q2
    ·
      rw [e1] at j1; rw [e2] at j2; cases j2
      exact absurd (ho.sole g1 l1 hb hl j1 hj) q1
    ·
      rw [e1] at j1; rw [e2] at j2
      exact ho.inj b1 b2 _ _ _ _ _ g1 l1 g2 l2 j1 j2
theorem WY {b B S B2 S2:Nat} {k0:Blk} {t0 t1:T AV} (ho:HeapOk (XX F j H) j w H) (hb:H.get b=some k0) (hl:k0.live=true)
    (hsole:∀ c k S',H.get c=some k→k.live=true→j c=some (B,S')→c=b) (hj:j b=some (B,S)) (hnb:j nb=none) (hst:Still w w') (hs:w.heap.size≤w'.heap.size)
    (hk:∀ B',B' < w.heap.size→B'≠B→w'.heap[B']? = w.heap[B']?) (hB2:B2=B∨w.heap.size≤B2)
    (h0:∃ arr e,w'.heap[B]? = some (.cells arr e (0,0))∧arr.size=S∧∀ (i:Nat) (x:AV),t0.get i=some x→∃ v,arr[i]? = some v∧Rel (XX F j H) j w x v)
    (h1:∃ arr e,w'.heap[B2]? = some (.cells arr e (0,0))∧arr.size=S2∧∀ (i:Nat) (x:AV),t1.get i=some x→∃ v,arr[i]? = some v∧Rel (XX F j H) j w x v) :
    Trans j H w (j.upd nb (B2,S2)) (T.set b (.ro t0 nb) (T.set nb (.ro t1 b) H)) w' ∧
    HeapOk (XX F (j.upd nb (B2,S2)) (T.set b (.ro t0 nb) (T.set nb (.ro t1 b) H))) (j.upd nb (B2,S2)) w' (T.set b (.ro t0 nb) (T.set nb (.ro t1 b) H)):=by
  have hne:b≠nb:=by rintro rfl; rw [hnb] at hj; cases hj
  have get:∀ (c:Nat) (k:Blk),(T.set b (.ro t0 nb) (T.set nb (.ro t1 b) H)).get c=some k→k.live=true →
      (c=b∧k=.ro t0 nb∧(j.upd nb (B2,S2)) c=some (B,S))∨(c=nb∧k=.ro t1 b∧(j.upd nb (B2,S2)) c=some (B2,S2))∨(c≠nb∧c≠b∧H.get c=some k∧(j.upd nb (B2,S2)) c=j c):=by
    intro c k hc hlk
    rw [T.get_set,T.get_set] at hc
    by_cases e1:c=b
    · rw [if_pos e1] at hc; cases hc; exact .inl ⟨e1,rfl,by rw [e1,J.upd_ne hne]; exact hj⟩
    ·
      rw [if_neg e1] at hc
      by_cases e2:c=nb
      · rw [if_pos e2] at hc; cases hc; exact .inr (.inl ⟨e2,rfl,by rw [e2,J.upd_eq]⟩)
      · rw [if_neg e2] at hc; exact .inr (.inr ⟨e2,e1,hc,J.upd_ne e2⟩)
  have htr:Trans j H w (j.upd nb (B2,S2)) (T.set b (.ro t0 nb) (T.set nb (.ro t1 b) H)) w':=by
    refine ⟨hst,hs,fun B' hB' hn=>hk B' hB' (fun e=>hn (e ▸ ⟨b,k0,S,hb,hl,hj⟩)),fun B' hB' ho' => ?_,fun c p h=>by rw [J.upd_ne (by rintro rfl; rw [hnb] at h; cases h)]; exact h⟩
    obtain ⟨c,k,S',hc,hlk,hjc⟩:=ho'
    rcases get c k hc hlk with ⟨_,_,e⟩ | ⟨_,_,e⟩ | ⟨_,_,h2,e⟩
    · rw [e] at hjc; cases hjc; exact ⟨b,k0,S,hb,hl,hj⟩
    ·
      rw [e] at hjc; cases hjc
      rcases hB2 with e3 | e3
      · rw [e3]; exact ⟨b,k0,S,hb,hl,hj⟩
      · omega
    · rw [e] at hjc; exact ⟨c,k,S',h2,hlk,hjc⟩
  refine ⟨htr,fun c kk t' n' hc hkk => ?_,fun c l hc => ?_,fun b1 b2 k1 k2 B1 S1' S2' h3 l1 h4 l2 j1 j2 => ?_,(ho.full.set (k:=.ro t1 b) fun t' n' e=>by cases e).set fun t' n' e=>by cases e⟩
  ·
    rcases get c _ hc (Blk.body_live hkk) with ⟨_,e1,e⟩ | ⟨_,e1,e⟩ | ⟨_,hcb,h2,e⟩
    ·
      rw [e1] at hkk; cases hkk
      obtain ⟨arr,e2,g1,g2,g3⟩:=h0
      refine ⟨B,S,arr,e2,e,g1,g2,Nat.zero_le _,fun i x hx => ?_⟩
      obtain ⟨v,hv,hr⟩:=g3 i x hx
      exact ⟨v,hv,hr.trans htr⟩
    ·
      rw [e1] at hkk; cases hkk
      obtain ⟨arr,e2,g1,g2,g3⟩:=h1
      refine ⟨B2,S2,arr,e2,e,g1,g2,Nat.zero_le _,fun i x hx => ?_⟩
      obtain ⟨v,hv,hr⟩:=g3 i x hx
      exact ⟨v,hv,hr.trans htr⟩
    ·
      obtain ⟨B3,S3,arr',e2,g1,g2,g3,g4,g5⟩:=ho.body c kk t' n' h2 hkk
      have hBne:B3≠B:=by rintro rfl; exact hcb (hsole c kk _ h2 (Blk.body_live hkk) g1)
      refine ⟨B3,S3,arr',e2,by rw [e]; exact g1,by rw [hk _ (Array.getElem?_eq_some_iff.1 g2).1 hBne]; exact g2,g3,g4,fun i x hx => ?_⟩
      obtain ⟨v,hv,hr⟩:=g5 i x hx
      exact ⟨v,hv,hr.trans htr⟩
  ·
    rcases get c _ hc rfl with ⟨_,e1,e⟩ | ⟨_,e1,e⟩ | ⟨_,hcb,h2,e⟩
    · cases e1
    · cases e1
    ·
      obtain ⟨B3,S3,es,cl,g1,g2,g3,g4,g5⟩:=ho.maps c l h2
      have hBne:B3≠B:=by rintro rfl; exact hcb (hsole c _ _ h2 rfl g1)
      exact ⟨B3,S3,es,cl,by rw [e]; exact g1,by rw [hk _ (Array.getElem?_eq_some_iff.1 g2).1 hBne]; exact g2,g3,g4,fun i k x e' hx he=>(g5 i k x e' hx he).trans htr⟩
  · have far:∀ {c:Nat} {k:Blk} {S':Nat},c≠b→H.get c=some k→k.live=true→j c≠some (B2,S'):=fun hc h2 hl2 hj2=>by
      rcases hB2 with e3 | e3
      · rw [e3] at hj2; exact hc (hsole _ _ _ h2 hl2 hj2)
      ·
        obtain ⟨B3,S3,hj3,hlt⟩:=ho.block h2 hl2
        rw [hj2] at hj3; cases hj3; omega
    rcases get b1 _ h3 l1 with ⟨r1,q1,e1⟩ | ⟨r1,q1,e1⟩ | ⟨r1,q1,g1,e1⟩ <;> rcases get b2 _ h4 l2 with ⟨r2,q2,e2⟩ | ⟨r2,q2,e2⟩ | ⟨r2,q2,g2,e2⟩
    · exact .inl (by rw [r1,r2])
    · exact .inr ⟨t0,t1,by rw [q1,r2],by rw [q2,r1]⟩
    ·
      rw [e1] at j1; rw [e2] at j2; cases j1
      exact absurd (hsole _ _ _ g2 l2 j2) q2
    · exact .inr ⟨t1,t0,by rw [q1,r2],by rw [q2,r1]⟩
    · exact .inl (by rw [r1,r2])
    ·
      rw [e1] at j1; rw [e2] at j2; cases j1
      exact absurd j2 (far q2 g2 l2)
    ·
      rw [e1] at j1; rw [e2] at j2; cases j2
      exact absurd (hsole _ _ _ g1 l1 j1) q1
    ·
      rw [e1] at j1; rw [e2] at j2; cases j2
      exact absurd j1 (far q1 g1 l1)
    ·
      rw [e1] at j1; rw [e2] at j2
      exact ho.inj b1 b2 _ _ _ _ _ g1 l1 g2 l2 j1 j2
theorem GoodV.gone {b:Nat} {k:Blk} {x:AV} {rd:Option (List Nat)} {v':Value} (h:GoodV F j H w nb ⟨x,[(nb,k)],rd⟩ (.ok v' w')) :
    GoodV F j H w nb ⟨x,[(nb,k),(b,.gone)],rd⟩ (.ok v' w'):=by
  obtain ⟨v,w2,j',e,h1,h2,h3,h4⟩:=h
  cases e
  obtain ⟨g1,g2⟩:=kH (b:=b) h3
  exact ⟨v',w',j',rfl,h1.trans g1,h2.trans g1,g2,h4⟩
theorem wQ {t:TypeId} (h:vQ C t=true):∃ e,C.P.underlying t=some (.slice e):=by
  unfold vQ at h
  split at h
  · rename_i e hu; exact ⟨_,hu⟩
  · cases h
theorem yF {x:AV} {v:Value} {n:Nat} (hr:Rel X j w x v) (h:qN x=some n):(v=.slice none 0 0∧n=0)∨∃ B o c,v=.slice (some ⟨B,o,none⟩) n c∧n≤c:=by
  cases x <;> try (cases h; done)
  ·
    rename_i z
    obtain ⟨rfl,hz⟩:=hr.v_eq
    replace h:=zi.1 h; obtain ⟨hnil,h⟩:=h
    cases h
    exact .inl ⟨uN (v:=v) hnil hz,rfl⟩
  ·
    cases h
    cases hr with
    | hs hb k1 k2 k3 k4=>exact .inr ⟨_,_,_,rfl,Nat.le_trans k1 k2⟩
  ·
    cases h
    cases hr with
    | vs f hB hlt k1 k2 k3 hc hr'=>exact .inr ⟨_,_,_,rfl,Nat.le_trans k1 k2⟩
theorem zaU (ho:HeapOk X j w H) {x:AV} {v:Value} {n es:Nat} {q:List AV×List Nat} {xt e':TypeId} (hk:C.P.underlying xt=some (.slice e')) (hr:Rel X j w x v) (hn:qN x=some n) (h0:n≠0)
    (h:yT H (n * es) x=some q) (h1:allB oneCell q.1=true) :
    ∃ news:List Value,news.length=n * es∧q.1.length=n * es∧(∀ (i:Nat) (y:AV) (u:Value),q.1[i]? = some y→news[i]? = some u→Rel X j w y u)∧Src C.P es xt v n news w:=by
  obtain ⟨vs,e1,e2,e3,e4⟩:=wt ho hr hn h
  rcases yF hr hn with ⟨rfl,rfl⟩ | ⟨B,o,c,rfl,hle⟩
  · exact absurd rfl h0
  ·
    rcases e4 with ⟨e,_⟩ | ⟨B',o',c',e,hc⟩
    · cases e
    ·
      cases e
      exact ⟨vs,e1,e2,e3,Src.ofSlice w hk _ _ _ _ e1 (hc (by omega)) (Y9 (by omega) e3 h1)⟩
theorem zaV (ho:HeapOk X j w H) {x:AV} {v:Value} {n es:Nat} {q:List AV×List Nat} (hr:Rel X j w x v) (hn:qN x=some n) (h:yT H (n * es) x=some q) :
    ∃
      (olds:List Value) (base:Option Addr) (c:Nat),v=.slice base n c∧olds.length=n * es∧q.1.length=n * es∧(∀ (i:Nat) (y:AV) (u:Value),q.1[i]? = some y→olds[i]? = some u→Rel X j w y u) ∧
      (Builtin.firstCells es n (.slice base n c)).run C.P w.drew=.ok olds.toArray w.drew∧n≤c:=by
  obtain ⟨vs,e1,e2,e3,e4⟩:=wt ho hr hn h
  rcases yF hr hn with ⟨rfl,rfl⟩ | ⟨B,o,c,rfl,hle⟩
  ·
    rw [Nat.zero_mul] at e1
    have:vs=[]:=List.length_eq_zero_iff.1 e1
    subst this
    exact ⟨[],none,0,rfl,by simp,by omega,e3,run_firstCells_none w.drew es 0 0 0,Nat.le_refl _⟩
  ·
    rcases e4 with ⟨e,_⟩ | ⟨B',o',c',e,hc⟩
    · cases e
    ·
      cases e
      refine ⟨vs,_,c,rfl,e1,e2,e3,run_firstCells_some w.drew es n _ n c vs e1 (fun i u hu => ?_),hle⟩
      have hc0:c≠0:=by
        rintro rfl
        have:n=0:=by omega
        subst this
        rw [Nat.zero_mul] at e1
        rw [List.length_eq_zero_iff.1 e1] at hu
        simp at hu
      have:=hc hc0 i u hu
      simpa using this
theorem vX {a b:List AV} {a' b':List Value} (hl:a.length=a'.length) (ha:∀ (i:Nat) (y:AV) (u:Value),a[i]? = some y→a'[i]? = some u→Rel X j w y u)
    (hb:∀ (i:Nat) (y:AV) (u:Value),b[i]? = some y→b'[i]? = some u→Rel X j w y u):∀ (i:Nat) (y:AV) (u:Value),(a++b)[i]? = some y→(a'++b')[i]? = some u→Rel X j w y u:=by
  intro i y u hy hu
  by_cases h:i < a.length
  ·
    rw [List.getElem?_append_left h] at hy
    rw [List.getElem?_append_left (by omega)] at hu
    exact ha i y u hy hu
  ·
    rw [List.getElem?_append_right (by omega)] at hy hu
    rw [← hl] at hu
    exact hb _ y u hy hu
theorem u7 (w:World) {e:TypeId} {es:Nat} (h:x_ C e es=true):∃ i zv,C.P.info? e=some i∧i.zero=some zv∧zv.cells.size=es:=by
  unfold x_ at h
  cases hz:vw C e with
  | none=>rw [hz] at h; cases h
  |
    some z =>
    rw [hz] at h
    change Nat.beq (lenL z.cells) es=true at h
    rw [beq_true,yb] at h
    obtain ⟨i,zv,h1,h2,h3⟩:=xj hz
    obtain ⟨c1,_⟩:=xy (X:=fun _=>False) (j:=J0) (w:=w) (yJ h3)
    exact ⟨i,zv,h1,h2,by omega⟩
theorem xz {P:Program} {e:TypeId} {i:TypeInfo} (h:P.info? e=some i):P.cellsOf e=i.size:=by
  unfold Program.cellsOf; simp [h]
theorem qW {P:Program} {e:TypeId} {i:TypeInfo} (h:P.info? e=some i):P.bytesOf e=i.bytes:=by
  unfold Program.bytesOf; simp [h]
theorem WZ (p:Pre F j env H ρ w) (hj:j nb=none) {st xt elem:TypeId} (hu:C.P.underlying st=some (.slice elem)) {n sl c:Nat} {base:Option Addr} {xv:Value} {olds news:List Value} {q1 q2:List AV} {rd:List Nat}
    (hlo:olds.length=sl * C.P.cellsOf elem) (hlq:q1.length=olds.length) (hro:∀ (i:Nat) (y:AV) (u:Value),q1[i]? = some y→olds[i]? = some u→Rel (XX F j H) j w y u)
    (hold:(Builtin.firstCells (C.P.cellsOf elem) sl (.slice base sl c)).run C.P w.drew=.ok olds.toArray w.drew)
    (hln:news.length=n * C.P.cellsOf elem) (hlq2:q2.length=news.length) (hrn:∀ (i:Nat) (y:AV) (u:Value),q2[i]? = some y→news[i]? = some u→Rel (XX F j H) j w y u)
    (hsrc:Src C.P (C.P.cellsOf elem) xt xv n news w) (hg:c < sl + n) (hb1:(sl + n) * C.P.bytesOf elem≤70368744177664) (hb2:sl + n≤70368744177664)
    (h:xG C elem nb (C.P.cellsOf elem) (sl + n) (z5 q1 q2) [] rd=some r) :
    ∃
      v' w',(Builtin.append_ #[st,xt] ty #[.slice base sl c,xv]).run C.P w=.ok v' w'∧GoodV F j H w nb r (.ok v' w')∧r.ups=[(nb,.cells (zu 0 T.nil (q1++q2)) ((sl + n) * C.P.cellsOf elem))] ∧
      r.v=.hs nb 0 (sl + n) (C.P.cellsOf elem) (sl + n) false∧r.rd=some rd:=by
  replace h:=zi.1 h; obtain ⟨hz,h⟩:=h
  rw [zZ,zr,yg] at h
  cases h
  obtain ⟨i,zv,hi,hzv,hzs⟩:=u7 w hz
  have hsz:=xz hi
  rw [qW hi] at hb1
  have hrun:=run_append_grow_src w st xt ty elem i zv hu hi hzv base sl c olds (by rw [← hsz]; exact hold) xv n news (by rw [← hsz]; exact hsrc) hg (by omega) (growslice_fits hg (by omega))
  refine ⟨_,_,hrun,?_,rfl,rfl,rfl⟩
  have hge:=grownCap_ge w (sl + n) c elem
  have hsize:((olds++news).toArray++Builtin.zeroCells zv.cells (grownCap w (sl + n) c elem - (sl + n))).size=grownCap w (sl + n) c elem * C.P.cellsOf elem:=by
    rw [Array.size_append,size_zeroCells,hzs]
    simp only [List.size_toArray,List.length_append,hlo,hln,← Nat.add_mul]
    congr 1; omega
  have hfit:(sl + n) * C.P.cellsOf elem≤grownCap w (sl + n) c elem * C.P.cellsOf elem:=Nat.mul_le_mul_right _ hge
  refine GoodV.new (arr:=(olds++news).toArray++Builtin.zeroCells zv.cells (grownCap w (sl + n) c elem - (sl + n))) p.heap hj ?_ (fun i y u hy hu' => ?_) (by rw [hsize]; exact hfit) (by rw [List.length_append,hlq,hlq2,hlo,hln,← Nat.add_mul]; exact Nat.le_refl _) rfl (Still.push rfl (fun _ _ _ h=>by cases h; rfl) rfl rfl) (fun X' j' hj' => ?_)
  · rw [hsize,List.length_append,hlq,hlq2,hlo,hln,← Nat.add_mul]; exact hfit
  ·
    have hlt:i < (olds++news).length:=by have:=(List.getElem?_eq_some_iff.1 hy).1; simp only [List.length_append] at this ⊢; omega
    rw [Array.getElem?_append_left (by simpa using hlt)] at hu'
    exact vX hlq hro hrn i y u hy (by simpa using hu')
  ·
    rw [hsize] at hj'
    exact .hs hj' (Nat.le_refl _) hge (fun h=>by cases h) (fun _=>⟨rfl,by omega⟩)
theorem jd (w:World) {st xt elem:TypeId} (hu:C.P.underlying st=some (.slice elem)) {n sl c:Nat} {base:Option Addr} {xv:Value} {olds news:List Value} (hlo:olds.length=sl * C.P.cellsOf elem)
    (hold:(Builtin.firstCells (C.P.cellsOf elem) sl (.slice base sl c)).run C.P w.drew=.ok olds.toArray w.drew) (hln:news.length=n * C.P.cellsOf elem)
    (hsrc:Src C.P (C.P.cellsOf elem) xt xv n news w) (hg:c < sl + n) (hb1:(sl + n) * C.P.bytesOf elem≤70368744177664) (hb2:sl + n≤70368744177664)
    (hz:x_ C elem (C.P.cellsOf elem)=true) :
    ∃
      (w':World) (arr:Array Value) (cap:Nat),(Builtin.append_ #[st,xt] ty #[.slice base sl c,xv]).run C.P w=.ok (.slice (some ⟨w.heap.size,0,none⟩) (sl + n) cap) w'∧w'.heap=w.heap.push (.cells arr elem (0,0))∧Still w w' ∧
      arr.size=cap * C.P.cellsOf elem∧sl + n≤cap∧∀ (i:Nat) (u:Value),(olds++news)[i]? = some u→arr[i]? = some u:=by
  obtain ⟨i,zv,hi,hzv,hzs⟩:=u7 w hz
  have hsz:=xz hi
  rw [qW hi] at hb1
  have hrun:=run_append_grow_src w st xt ty elem i zv hu hi hzv base sl c olds (by rw [← hsz]; exact hold) xv n news (by rw [← hsz]; exact hsrc) hg (by omega) (growslice_fits hg (by omega))
  have hge:=grownCap_ge w (sl + n) c elem
  have hsize:((olds++news).toArray++Builtin.zeroCells zv.cells (grownCap w (sl + n) c elem - (sl + n))).size=grownCap w (sl + n) c elem * C.P.cellsOf elem:=by
    rw [Array.size_append,size_zeroCells,hzs]
    simp only [List.size_toArray,List.length_append,hlo,hln,← Nat.add_mul]
    congr 1; omega
  refine ⟨_,(olds++news).toArray++Builtin.zeroCells zv.cells (grownCap w (sl + n) c elem - (sl + n)),grownCap w (sl + n) c elem,hrun,rfl,Still.push rfl (fun _ _ _ h=>by cases h; rfl) rfl rfl,hsize,hge,fun k u hy => ?_⟩
  have hlt:=(List.getElem?_eq_some_iff.1 hy).1
  rw [Array.getElem?_append_left (by simpa using hlt)]; simpa using hy
theorem UW (p:Pre F j env H ρ w) {st xt elem:TypeId} (hu:C.P.underlying st=some (.slice elem)) {n sl c:Nat} {base:Option Addr} {xv:Value} {olds news:List Value} {q1 q2:List AV}
    (hlo:olds.length=sl * C.P.cellsOf elem) (hlq:q1.length=olds.length) (hro:∀ (i:Nat) (y:AV) (u:Value),q1[i]? = some y→olds[i]? = some u→Rel (XX F j H) j w y u)
    (hold:(Builtin.firstCells (C.P.cellsOf elem) sl (.slice base sl c)).run C.P w.drew=.ok olds.toArray w.drew)
    (hln:news.length=n * C.P.cellsOf elem) (hlq2:q2.length=news.length) (hrn:∀ (i:Nat) (y:AV) (u:Value),q2[i]? = some y→news[i]? = some u→Rel (XX F j H) j w y u)
    (hsrc:Src C.P (C.P.cellsOf elem) xt xv n news w) (hg:c < sl + n) (hb1:(sl + n) * C.P.bytesOf elem≤70368744177664) (hb2:sl + n≤70368744177664)
    (hz:x_ C elem (C.P.cellsOf elem)=true) :
    ∃
      (w':World) (arr:Array Value) (cap:Nat),(Builtin.append_ #[st,xt] ty #[.slice base sl c,xv]).run C.P w=.ok (.slice (some ⟨w.heap.size,0,none⟩) (sl + n) cap) w'∧w'.heap=w.heap.push (.cells arr elem (0,0))∧Still w w' ∧
      arr.size=cap * C.P.cellsOf elem∧sl + n≤cap∧∀ (i:Nat) (y:AV),(q1++q2)[i]? = some y→∃ u,arr[i]? = some u∧Rel (XX F j H) j w y u:=by
  obtain ⟨w',arr,cap,e1,e2,e3,e4,e5,e6⟩:=jd (ty:=ty) w hu hlo hold hln hsrc hg hb1 hb2 hz
  refine ⟨w',arr,cap,e1,e2,e3,e4,e5,fun k y hy => ?_⟩
  have hlt:k < (olds++news).length:=by have:=(List.getElem?_eq_some_iff.1 hy).1; simp only [List.length_append] at this ⊢; omega
  exact ⟨(olds++news)[k],e6 k _ (List.getElem?_eq_getElem hlt),vX hlq hro hrn k y _ hy (by simp)⟩
theorem W0 {b:Nat} {m:Option Nat} (h:qh H b=some m):(m=none∧∃ t n,H.get b=some (.cells t n))∨∃ q t,m=some q∧H.get b=some (.ro t q):=by
  obtain ⟨k,hk,h⟩:=za.1 h
  rw [T.getB_eq] at hk
  cases k with
  | cells t n=>cases h; exact .inl ⟨rfl,_,_,hk⟩
  | ro t q=>cases h; exact .inr ⟨_,_,rfl,hk⟩
  | _=>cases h
theorem zaw (w:World) (g:Nat) (cs:Array Value):(w.setRow g cs).heap.size=w.heap.size:=wB w g cs
theorem wC {st xt elem:TypeId} (hu:C.P.underlying st=some (.slice elem)) {i:TypeInfo} (hi:C.P.info? elem=some i) {n sl c B o:Nat} {xv:Value} {news:List Value} {arr:Array Value} {e:TypeId}
    (hs:Src C.P i.size xt xv n news w) (hroom:sl + n≤c) (hB:w.heap[B]? = some (.cells arr e (0,0))) (hfit:o + sl * i.size + news.length≤arr.size) :
    (Builtin.append_ #[st,xt] ty #[.slice (some ⟨B,o,none⟩) sl c,xv]).run C.P w =
      .ok (.slice (some ⟨B,o,none⟩) (sl + n) c) (w.setRow B (arr.toList.take (o + sl * i.size)++news++arr.toList.drop (o + sl * i.size + news.length)).toArray):=by
  have hst:=run_storeCells_at C.P B (o + sl * i.size) e news 0 arr w hB (by simpa using hfit) hs.one
  simp only [Nat.add_zero] at hst
  rcases hs.kind with ⟨e',hk⟩ | hk <;> simp [Builtin.append_,run_underlying hu,run_underlying hk,sizeOf,typeInfo,hi,hs.len,hroom,hs.cells,Addr.add_lit,hst]
theorem append_two (p:Pre F j env H ρ w) (hnb:j nb=none) {st xt elem:TypeId} (hu:C.P.underlying st=some (.slice elem)) {i:TypeInfo} (hi:C.P.info? elem=some i) {n sl c B S b o:Nat} {xv:Value} {olds news arr:List Value} {l q2:List AV} {k0:Blk} {e:TypeId} {more:List (Nat×Blk)}
    (hj:j b=some (B,S)) (hget:H.get b=some k0) (hl:k0.live=true) (hB:w.heap[B]? = some (.cells arr.toArray e (0,0))) (hS:arr.length=S)
    (hmore:(more=[]∧k0.own=true)∨∃ q t,more=[(q,.gone)]∧k0=.ro t q∧q≠b)
    (hlo:olds.length=sl * C.P.cellsOf elem) (hlq:l.length=olds.length) (hro:∀ (i:Nat) (y:AV) (u:Value),l[i]? = some y→olds[i]? = some u→Rel (XX F j H) j w y u)
    (hra:∀ (i:Nat) (y:AV),l[i]? = some y→∃ v,arr[i]? = some v∧Rel (XX F j H) j w y v)
    (hold:(Builtin.firstCells (C.P.cellsOf elem) sl (.slice (some ⟨B,o,none⟩) sl c)).run C.P w.drew=.ok olds.toArray w.drew)
    (hln:news.length=n * C.P.cellsOf elem) (hlq2:q2.length=news.length) (hrn:∀ (i:Nat) (y:AV) (u:Value),q2[i]? = some y→news[i]? = some u→Rel (XX F j H) j w y u)
    (hsrc:Src C.P (C.P.cellsOf elem) xt xv n news w) (hn0:n≠0) (hcap:c≠0→o=0∧0 + c * C.P.cellsOf elem≤S) (hb1:(sl + n) * C.P.bytesOf elem≤70368744177664) (hb2:sl + n≤70368744177664)
    {rd:List Nat} (h:qj C elem nb b (C.P.cellsOf elem) (sl + n) (z5 l q2) l more rd=some r) :
    GoodV F j H w nb r ((Builtin.append_ #[st,xt] ty #[.slice (some ⟨B,o,none⟩) sl c,xv]).run C.P w):=by
  obtain ⟨hz,h⟩:=zi.1 h
  rw [zZ,zZ,yg,yg] at h
  cases h
  have hsz:=xz hi
  obtain ⟨H0,hH0,htr,ho,hb0,hsole⟩:∃ H0,H0=z_ H more∧Trans j H w j H0 w∧HeapOk (XX F j H0) j w H0∧H0.get b=some k0∧∀ c k S',H0.get c=some k→k.live=true→j c=some (B,S')→c=b:=by
    rcases hmore with ⟨e1,hown⟩ | ⟨q,t,e1,e2,hqb⟩
    · exact ⟨H,by rw [e1]; rfl,Trans.refl ..,p.heap,hget,fun c k S' h1 h2 h3=>p.heap.sole h1 h2 hget hown h3 hj⟩
    ·
      obtain ⟨g1,g2⟩:=kH (b:=q) p.heap
      refine ⟨T.set q .gone H,by rw [e1]; rfl,g1,g2,by rw [T.get_set,if_neg (fun h=>hqb h.symm)]; exact hget,fun c k S' h1 h2 h3 => ?_⟩
      rw [T.get_set] at h1
      by_cases ec:c=q
      · rw [if_pos ec] at h1; cases h1; cases h2
      ·
        rw [if_neg ec] at h1
        rcases p.heap.inj c b k k0 B S' S h1 h2 hget hl h3 hj with e3 | ⟨_,_,_,e4⟩
        · exact e3
        · rw [e2] at e4; cases e4; exact absurd rfl ec
  have hups:∀ (t1 t0:T AV),z_ H (more++[(nb,.ro t1 b),(b,.ro t0 nb)])=T.set b (.ro t0 nb) (T.set nb (.ro t1 b) H0):=by
    intro t1 t0
    rw [hH0]
    rcases hmore with ⟨e1,_⟩ | ⟨q,t,e1,_⟩ <;> rw [e1] <;> rfl
  have up:∀ {y:AV} {v:Value},Rel (XX F j H) j w y v→Rel (XX F j H0) j w y v:=fun h=>h.trans htr
  have hmul:(sl + n) * C.P.cellsOf elem=sl * C.P.cellsOf elem + n * C.P.cellsOf elem:=Nat.add_mul ..
  have ret:∀ {v':Value} {w':World} {j':J},Trans j H0 w j' (T.set b (.ro (zu 0 T.nil l) nb) (T.set nb (.ro (zu 0 T.nil (l++q2)) b) H0)) w' →
      HeapOk (XX F j' (T.set b (.ro (zu 0 T.nil l) nb) (T.set nb (.ro (zu 0 T.nil (l++q2)) b) H0))) j' w' (T.set b (.ro (zu 0 T.nil l) nb) (T.set nb (.ro (zu 0 T.nil (l++q2)) b) H0)) →
      (∀ X,Rel X j' w' (.hs nb 0 (sl + n) (C.P.cellsOf elem) (sl + n) false) v')→(∀ b,b≠nb→j' b=j b) →
      GoodV F j H w nb ⟨.hs nb 0 (sl + n) (C.P.cellsOf elem) (sl + n) false,more++[(nb,.ro (zu 0 T.nil (l++q2)) b),(b,.ro (zu 0 T.nil l) nb)],some rd⟩ (.ok v' w'):=
    fun {v'} {w'} {j'} a1 a2 a3 a4=>⟨v',w',j',rfl,by show Trans j H w j' (z_ H _) w'; rw [hups]; exact htr.trans a1,a3 _,by show HeapOk (XX F j' (z_ H _)) j' w' (z_ H _); rw [hups]; exact a2,a4⟩
  by_cases hroom:sl + n≤c
  ·
    obtain ⟨rfl,hS2⟩:=hcap (by omega)
    have hS3:(sl + n) * C.P.cellsOf elem≤c * C.P.cellsOf elem:=Nat.mul_le_mul_right _ hroom
    have hrun:=wC (ty:=ty) (arr:=arr.toArray) (e:=e) (o:=0) hu hi (by rw [← hsz]; exact hsrc) hroom hB (by rw [← hsz,List.size_toArray]; omega)
    rw [hrun,← hsz]
    have hrow:=setRow_heap w B arr.toArray (arr.take (0 + sl * C.P.cellsOf elem)++news++arr.drop (0 + sl * C.P.cellsOf elem + news.length)).toArray e (0,0) hB
    have hsz2:(arr.take (0 + sl * C.P.cellsOf elem)++news++arr.drop (0 + sl * C.P.cellsOf elem + news.length)).toArray.size=S:=by simp; omega
    have cell:∀ (k:Nat) (x:AV),(l++q2)[k]? = some x→∃ v,(arr.take (0 + sl * C.P.cellsOf elem)++news++arr.drop (0 + sl * C.P.cellsOf elem + news.length)).toArray[k]? = some v∧Rel (XX F j H0) j w x v:=by
      intro k x hy
      simp only [List.getElem?_toArray,Nat.zero_add]
      by_cases hk:k < l.length
      ·
        rw [List.getElem?_append_left hk] at hy
        obtain ⟨v,hv,hr⟩:=hra k x hy
        refine ⟨v,?_,up hr⟩
        rw [List.getElem?_append_left (by simp; omega),List.getElem?_append_left (by simp; omega),List.getElem?_take,if_pos (by omega)]
        exact hv
      ·
        rw [List.getElem?_append_right (by omega)] at hy
        have hk2:=(List.getElem?_eq_some_iff.1 hy).1
        obtain ⟨v,hv⟩:∃ v,news[k - l.length]? = some v:=⟨_,List.getElem?_eq_getElem (by omega)⟩
        refine ⟨v,?_,up (hrn _ _ _ hy hv)⟩
        rw [List.getElem?_append_left (by simp; omega),List.getElem?_append_right (by simp; omega)]
        rw [show (List.take (sl * C.P.cellsOf elem) arr).length=l.length by simp; omega]
        exact hv
    obtain ⟨m1,m2⟩:=WY (nb:=nb) (B2:=B) (S2:=S) (t0:=zu 0 T.nil l) (t1:=zu 0 T.nil (l++q2)) (w':=w.setRow B (arr.take (0 + sl * C.P.cellsOf elem)++news++arr.drop (0 + sl * C.P.cellsOf elem + news.length)).toArray)
      ho hb0 hl hsole hj hnb (Still.put (fun B' h=>setRow_other w B B' _ h) (fun c t fr h=>by rw [hB] at h; cases h; rfl) (fun c t fr h=>by rw [hrow] at h; cases h; rfl) rfl rfl) (by rw [wB]; exact Nat.le_refl _) (fun B' _ h=>setRow_other w B B' _ h) (.inl rfl)
      ⟨_,_,hrow,hsz2,fun k x hx=>by
        have hy:=yM hx
        exact cell k x (by rw [List.getElem?_append_left (List.getElem?_eq_some_iff.1 hy).1]; exact hy)⟩
      ⟨_,_,hrow,hsz2,fun k x hx=>cell k x (yM hx)⟩
    exact ret m1 m2 (fun X=>.hs J.upd_eq (Nat.le_refl _) hroom (fun h=>by cases h) (fun _=>⟨rfl,by omega⟩)) (fun b hb=>J.upd_ne hb)
  ·
    obtain ⟨w',arr2,cap,e1,e2,e3,e4,e5,e6⟩:=UW (ty:=ty) p hu hlo hlq hro hold hln hlq2 hrn hsrc (by omega) hb1 hb2 hz
    rw [e1]
    have hBlt:B < w.heap.size:=(Array.getElem?_eq_some_iff.1 hB).1
    have hold2:∀ B',B' < w.heap.size→w'.heap[B']? = w.heap[B']?:=fun B' h=>by rw [e2,Array.getElem?_push,if_neg (by omega)]
    obtain ⟨m1,m2⟩:=WY (nb:=nb) (B2:=w.heap.size) (S2:=arr2.size) (t0:=zu 0 T.nil l) (t1:=zu 0 T.nil (l++q2)) (w':=w')
      ho hb0 hl hsole hj hnb e3 (by rw [e2]; simp) (fun B' h _=>hold2 B' h) (.inr (Nat.le_refl _))
      ⟨arr.toArray,e,by rw [hold2 B hBlt]; exact hB,by simpa using hS,fun k x hx=>by
        obtain ⟨v,hv,hr⟩:=hra k x (yM hx)
        exact ⟨v,by simpa using hv,up hr⟩⟩
      ⟨arr2,elem,by rw [e2]; simp,rfl,fun k x hx=>by
        obtain ⟨v,hv,hr⟩:=e6 k x (yM hx)
        exact ⟨v,hv,up hr⟩⟩
    have hfit:(sl + n) * C.P.cellsOf elem≤cap * C.P.cellsOf elem:=Nat.mul_le_mul_right _ e5
    exact ret m1 m2 (fun X=>.hs (J.upd_eq (p:=(w.heap.size,arr2.size))) (Nat.le_refl _) e5 (fun h=>by cases h) (fun _=>⟨rfl,by omega⟩)) (fun b hb=>J.upd_ne hb)
theorem Xd (p:Pre F j env H ρ w) (hj:j nb=none) {st xt elem:TypeId} (hu:C.P.underlying st=some (.slice elem)) {i:TypeInfo} (hi:C.P.info? elem=some i) {n sl:Nat} {s:AV} {sv xv:Value} {news:List Value} {new:List AV×List Nat}
    (hs:Rel (XX F j H) j w s sv) (hsl:qN s=some sl) (hln:news.length=n * C.P.cellsOf elem) (hlq2:new.1.length=news.length)
    (hrn:∀ (i:Nat) (y:AV) (u:Value),new.1[i]? = some y→news[i]? = some u→Rel (XX F j H) j w y u) (hsrc:Src C.P (C.P.cellsOf elem) xt xv n news w) (hn0:n≠0)
    (hb1:(sl + n) * C.P.bytesOf elem≤70368744177664) (hb2:sl + n≤70368744177664) (hB:WE C H st (C.P.cellsOf elem) (sl + n) sl s=true)
    (h:jA C H elem nb (C.P.cellsOf elem) (sl + n) sl s new=some r):GoodV F j H w nb r ((Builtin.append_ #[st,xt] ty #[sv,xv]).run C.P w):=by
  have hsz:=xz hi
  cases s <;> try (cases h; done)
  rename_i b off len es' lo ex
  cases hsl
  replace h:=za.1 h; obtain ⟨q,hq,h⟩:=h
  change elimO (yD H b) false _=true at hB
  rw [hq,elimO_some] at hB
  cases hes:Nat.beq (C.P.cellsOf elem) es' with
  | false=>rw [hes] at hB; cases hB
  | true =>
  rw [hes,ifB_true] at hB
  obtain rfl:=beq_true.1 hes
  have hget:=wj hq
  have hfull:=p.heap.full b q.1 q.2 hget
  have hmul:(sl + n) * C.P.cellsOf elem=sl * C.P.cellsOf elem + n * C.P.cellsOf elem:=Nat.add_mul ..
  cases hs with
  |
    hs hb k1 k2 k3 k4 =>
    rename_i B S o c
    obtain ⟨B0,S0,arr,e,g1,g2,g3,g4,g5⟩:=p.heap.cells b q.1 q.2 hget
    rw [hb] at g1; cases g1
    cases hlo:Nat.ble (sl + n) lo with
    |
      true =>
      rw [hlo,ifB_true] at hB
      rw [hlo,ifB_true,zZ] at h
      cases h
      have hfit:off + (sl + n) * C.P.cellsOf elem≤q.2:=zq.1 hB
      have hlo:sl + n≤lo:=zq.1 hlo
      obtain ⟨rfl,hS⟩:=k4 (by omega)
      have hrun:=wC (ty:=ty) hu hi (by rw [← hsz]; exact hsrc) (show sl + n≤c by omega) g2 (show o + sl * i.size + news.length≤arr.size by rw [← hsz]; omega)
      obtain ⟨w1,w2⟩:=w7 p.heap hget hb g2 g3 g4 g5 (l:=new.1) (vs:=news) (off:=o + sl * C.P.cellsOf elem) (by omega) hrn (by omega)
      rw [hrun,← hsz]
      exact ⟨_,_,j,rfl,w1,.hs hb hlo k2 k3 (fun hne=>⟨rfl,hS⟩),w2,fun _ _=>rfl⟩
    |
      false =>
      have nt:∀ b:Bool,notB b=true↔b=false:=fun b=>by cases b <;> simp [notB]
      rw [hlo,zj,zl,zl,zl,nt,nt] at hB
      obtain ⟨hex,_,hoff,hN⟩:=hB
      obtain rfl:=beq_true.1 hoff
      have hN:q.2=sl * C.P.cellsOf elem:=beq_true.1 hN
      rw [hlo,zj] at h
      replace h:=zi.1 h; obtain ⟨hz,h⟩:=h
      rw [zZ,zr] at h
      cases h
      have keys:∀ (k:Nat) (x:AV),(zu q.2 q.1 new.1).get k=some x→(k < sl * C.P.cellsOf elem∧q.1.get k=some x)∨(sl * C.P.cellsOf elem≤k∧k < (sl + n) * C.P.cellsOf elem∧new.1[k - sl * C.P.cellsOf elem]? = some x):=by
        intro k x hx
        rw [wT] at hx
        split at hx
        · rename_i hk; rw [hN] at hk hx; exact .inr ⟨hk.1,by omega,hx⟩
        · exact .inl ⟨by have:=hfull k x hx; omega,hx⟩
      have hkn:∀ (k:Nat) (x:AV),(zu q.2 q.1 new.1).get k=some x→k < (sl + n) * C.P.cellsOf elem:=fun k x hx=>by
        rcases keys k x hx with ⟨h1,_⟩ | ⟨_,h1,_⟩ <;> omega
      by_cases hroom:sl + n≤c
      ·
        obtain ⟨rfl,hS⟩:=k4 (by omega)
        have hS2:(sl + n) * C.P.cellsOf elem≤c * C.P.cellsOf elem:=Nat.mul_le_mul_right _ hroom
        have hrun:=wC (ty:=ty) hu hi (by rw [← hsz]; exact hsrc) hroom g2 (show 0 + sl * i.size + news.length≤arr.size by rw [← hsz]; omega)
        rw [hrun,← hsz]
        obtain ⟨m1,m2⟩:=Zg (nb:=nb) (n:=(sl + n) * C.P.cellsOf elem) (t:=zu q.2 q.1 new.1) (w':=w.setRow B (arr.toList.take (0 + sl * C.P.cellsOf elem)++news++arr.toList.drop (0 + sl * C.P.cellsOf elem + news.length)).toArray)
          p.heap hget rfl hb hj (wB w B _) (fun B' h=>setRow_other w B B' _ h) (Still.put (fun B' h=>setRow_other w B B' _ h) (fun c t fr h=>by rw [g2] at h; cases h; rfl) (fun c t fr h=>by rw [setRow_heap w B arr _ e _ g2] at h; cases h; rfl) rfl rfl) (setRow_heap w B arr _ e _ g2) (by simp; omega) (by omega) hkn (fun k x hx=>by
            simp only [List.getElem?_toArray,Nat.zero_add]
            rcases keys k x hx with ⟨hk,hy⟩ | ⟨hk,hk2,hy⟩
            ·
              obtain ⟨v,hv,hr⟩:=g5 k x hy
              refine ⟨v,?_,hr⟩
              rw [List.getElem?_append_left (by simp; omega),List.getElem?_append_left (by simp; omega),List.getElem?_take,if_pos (by omega)]
              simpa using hv
            ·
              obtain ⟨v,hv⟩:∃ v,news[k - sl * C.P.cellsOf elem]? = some v:=⟨_,List.getElem?_eq_getElem (by omega)⟩
              refine ⟨v,?_,hrn _ _ _ hy hv⟩
              rw [List.getElem?_append_left (by simp; omega),List.getElem?_append_right (by simp; omega)]
              rw [show (List.take (sl * C.P.cellsOf elem) arr.toList).length=sl * C.P.cellsOf elem by simp; omega]
              exact hv)
        exact ⟨_,_,_,rfl,m1,.hs J.upd_eq (Nat.le_refl _) hroom (fun h=>by cases h) (fun _=>⟨rfl,hS⟩),m2,fun b hb=>J.upd_ne hb⟩
      ·
        have hlo2:(arr.toList.take (sl * C.P.cellsOf elem)).length=sl * C.P.cellsOf elem:=by simp; omega
        have hold:(Builtin.firstCells (C.P.cellsOf elem) sl (.slice (some ⟨B,o,none⟩) sl c)).run C.P w.drew=.ok (arr.toList.take (sl * C.P.cellsOf elem)).toArray w.drew:=by
          by_cases h0:sl * C.P.cellsOf elem=0
          ·
            rw [h0,List.take_zero]
            exact run_firstCells_some w.drew _ sl _ sl c [] (by simp [h0]) (fun i u hu=>by simp at hu)
          · have hc0:c≠0:=by
              rintro rfl
              have:sl=0:=by omega
              subst this
              rw [Nat.zero_mul] at h0; exact h0 rfl
            obtain ⟨rfl,_⟩:=k4 hc0
            refine run_firstCells_some w.drew _ sl _ sl c _ hlo2 (fun i u hu => ?_)
            rw [List.getElem?_take] at hu
            split at hu
            ·
              rw [show ((⟨B,0,none⟩:Addr).add i)=⟨B,i,none⟩ by simp [Addr.add_lit]]
              have:=cell_of_row w.drew B i arr e (0,0) g2
              rw [this]; simpa using hu
            · cases hu
        obtain ⟨w',arr2,cap,e1,e2,e3,e4,e5,e6⟩:=jd (ty:=ty) w hu hlo2 hold hln hsrc (by omega) hb1 hb2 hz
        rw [e1]
        have hfit:(sl + n) * C.P.cellsOf elem≤cap * C.P.cellsOf elem:=Nat.mul_le_mul_right _ e5
        refine GoodV.gone (k:=.cells (zu q.2 q.1 new.1) ((sl + n) * C.P.cellsOf elem)) ⟨_,w',j.upd nb (w.heap.size,arr2.size),rfl,vH hj e2 e3,.hs J.upd_eq (Nat.le_refl _) e5 (fun h=>by cases h) (fun _=>⟨rfl,by omega⟩),WN p.heap hj e2 e3 (by omega) hkn (fun k x hx => ?_),fun b hb=>J.upd_ne hb⟩
        rcases keys k x hx with ⟨hk,hy⟩ | ⟨hk,hk2,hy⟩
        ·
          obtain ⟨v,hv,hr⟩:=g5 k x hy
          refine ⟨v,e6 k v ?_,hr⟩
          rw [List.getElem?_append_left (by omega),List.getElem?_take,if_pos hk]; simpa using hv
        ·
          obtain ⟨v,hv⟩:∃ v,news[k - sl * C.P.cellsOf elem]? = some v:=⟨_,List.getElem?_eq_getElem (by omega)⟩
          refine ⟨v,e6 k v ?_,hrn _ _ _ hy hv⟩
          rw [List.getElem?_append_right (by omega),hlo2]; exact hv
theorem Xe (p:Pre F j env H ρ w) (hj:j nb=none) {st xt:TypeId} {s x:AV} {sv xv:Value} (hs:Rel (XX F j H) j w s sv) (hx:Rel (XX F j H) j w x xv) (h:wq C H nb st xt s x=some r) :
    GoodV F j H w nb r ((Builtin.append_ #[st,xt] ty #[sv,xv]).run C.P w):=by
  replace h:=za.1 h; obtain ⟨elem,he,h⟩:=h
  replace h:=zi.1 h; obtain ⟨hxt,h⟩:=h
  replace h:=za.1 h; obtain ⟨n,hn,h⟩:=h
  replace h:=za.1 h; obtain ⟨sl,hsl,h⟩:=h
  obtain ⟨hu,hk⟩:=ya he
  obtain ⟨e',hux⟩:=wQ hxt
  obtain ⟨i,hi⟩:∃ i,C.P.info? elem=some i:=by
    have:=z7 hk w
    cases hq:C.P.info? elem with
    | some i=>exact ⟨i,rfl⟩
    | none=>simp [sizeOf,typeInfo,hq] at this
  have hsz:=xz hi
  cases hn0:Nat.beq n 0 with
  |
    true =>
    rw [hn0,ifB_true] at h
    cases h
    obtain rfl:=beq_true.1 hn0
    have hfc:∀ (w:World),(Builtin.firstCells i.size 0 xv).run C.P w=.ok #[] w:=by
      intro w2
      rcases yF hx hn with ⟨rfl,_⟩ | ⟨B,o,c,rfl,_⟩
      · rfl
      · simp [Builtin.firstCells,loadCells,loadCellsFrom]
    have hlen:∀ (w:World),(Builtin.lenOf xv).run C.P w=.ok 0 w:=by
      intro w2
      rcases yF hx hn with ⟨rfl,_⟩ | ⟨B,o,c,rfl,_⟩ <;> rfl
    have e:(Builtin.append_ #[st,xt] ty #[sv,xv]).run C.P w=.ok sv w:=by
      rcases yF hs hsl with ⟨rfl,rfl⟩ | ⟨B,o,c,rfl,hle⟩
      · simp [Builtin.append_,run_underlying hu,run_underlying hux,sizeOf,typeInfo,hi,hlen,hfc]
      · simp [Builtin.append_,run_underlying hu,run_underlying hux,sizeOf,typeInfo,hi,hlen,hfc,hle,storeCells]
    rw [e]; exact GoodV.pure p.heap hs
  |
    false =>
    have hn1:n≠0:=by rintro rfl; cases hn0
    rw [hn0,zj,zr] at h
    replace h:=za.1 h; obtain ⟨new,hnew,h⟩:=h
    rw [zr] at h
    replace h:=zi.1 h; obtain ⟨hg,h⟩:=h
    rw [zl,zl,zq,zq] at hg
    obtain ⟨hb1,hb2,hone⟩:=hg
    have hb1:(sl + n) * C.P.bytesOf elem≤70368744177664:=hb1
    have hb2:sl + n≤70368744177664:=hb2
    obtain ⟨news,n1,n2,n3,hsrc⟩:=zaU p.heap hux hx hn hn1 hnew hone
    cases hF:WE C H st (C.P.cellsOf elem) (Nat.add sl n) sl s with
    |
      true =>
      rw [hF,ifB_true] at h
      exact Xd p hj hu hi hs hsl n1 (by omega) n3 hsrc hn1 hb1 hb2 hF h
    | false =>
    rw [hF,zj] at h
    replace h:=za.1 h; obtain ⟨old,hold,h⟩:=h
    obtain ⟨olds,base,c,hsv,o1,o2,o3,o4,o5⟩:=zaV p.heap hs hsl hold
    subst hsv
    have grow:c < sl + n→∀ (more:List Nat) {r2:R},xG C elem nb (C.P.cellsOf elem) (sl + n) (z5 old.1 new.1) [] more=some r2→_:=
      fun hlt more r2 h2=>WZ (ty:=ty) (r:=r2) p hj hu o1 (by omega) o3 o4 n1 (by omega) n3 hsrc hlt hb1 hb2 h2
    cases s <;> try (cases h; done)
    ·
      rename_i z
      obtain ⟨hz,_⟩:=hs.v_eq
      rcases yF hs hsl with ⟨e,rfl⟩ | ⟨B,o,c',e,hle⟩
      ·
        cases e
        obtain ⟨v',w',e1,e2,_⟩:=grow (by omega) _ h
        rw [e1]; exact e2
      ·
        subst hz
        replace hsl:=zi.1 hsl
        have:=uN (v:=.nilFunc) hsl.1 hs.v_eq.2
        rw [this] at e; cases e
    ·
      rename_i b off len es' lo ex
      cases hsl
      replace h:=zi.1 h; obtain ⟨hes,h⟩:=h
      have hes:=beq_true.1 hes
      subst hes
      cases hs with
      |
        hs hb k1 k2 k3 k4 =>
        rename_i B S o
        replace hold:=za.1 hold; obtain ⟨q,hq,hold⟩:=hold
        replace hold:=za.1 hold; obtain ⟨l,hl,hold⟩:=hold
        cases hold
        obtain ⟨kq,hgetq,hbody⟩:=wc hq
        obtain ⟨B',S',arr,e,g1,g2,g3,g4,g5⟩:=p.heap.body b kq q.1 q.2 hgetq hbody
        rw [hb] at g1; cases g1
        have hmul:(sl + n) * C.P.cellsOf elem=sl * C.P.cellsOf elem + n * C.P.cellsOf elem:=Nat.add_mul ..
        cases hlo:Nat.ble (sl + n) lo with
        |
          true =>
          change ifB (Nat.ble (sl + n) lo) (zf (yD H b) _) _=some r at h
          rw [hlo,ifB_true] at h
          replace h:=za.1 h; obtain ⟨q',hq',h⟩:=h
          have hget:=wj hq'
          have hqe:q=q':=by
            have h9:=hget
            rw [hgetq] at h9; cases h9
            have h8:some (q'.1,q'.2)=some (q.1,q.2):=hbody
            injection h8 with h8
            exact h8.symm
          subst hqe
          replace h:=zi.1 h; obtain ⟨hfit,h⟩:=h
          rw [zZ] at h
          cases h
          have hfit:off + (sl + n) * C.P.cellsOf elem≤q.2:=zq.1 hfit
          have hlo:sl + n≤lo:=zq.1 hlo
          obtain ⟨rfl,hS⟩:=k4 (by omega)
          have hrun:=wC (ty:=ty) hu hi (by rw [← hsz]; exact hsrc) (show sl + n≤c by omega) g2 (show o + sl * i.size + news.length≤arr.size by rw [← hsz]; omega)
          obtain ⟨w1,w2⟩:=w7 p.heap hget hb g2 g3 g4 g5 (l:=new.1) (vs:=news) (off:=o + sl * C.P.cellsOf elem) (by omega) n3 (by omega)
          rw [hrun,← hsz]
          exact ⟨_,_,j,rfl,w1,.hs hb hlo k2 k3 (fun hne=>⟨rfl,hS⟩),w2,fun _ _=>rfl⟩
        |
          false =>
          have hlo:lo < sl + n:=by
            apply Nat.lt_of_not_le; intro hle; rw [zq.2 hle] at hlo; cases hlo
          have hlo':Nat.ble (sl + n) lo=false:=by assumption
          change ifB (Nat.ble (sl + n) lo) (zf (yD H b) _) (ifB ex _ _)=some r at h
          rw [hlo',zj] at h
          cases ex with
          |
            true =>
            rw [ifB_true] at h
            obtain ⟨v',w',e1,e2,_⟩:=grow (by have:=k3 rfl; omega) _ h
            rw [e1]; exact e2
          |
            false =>
            rw [zj] at h
            replace h:=zi.1 h; obtain ⟨hoff,h⟩:=h
            have hoff:=beq_true.1 hoff
            subst hoff
            replace h:=za.1 h; obtain ⟨m,hm,h⟩:=h
            obtain ⟨t1,t2⟩:=kG q.1 _ _ _ hl
            have hra:∀ (i:Nat) (y:AV),l[i]? = some y→∃ v,arr.toList[i]? = some v∧Rel (XX F j H) j w y v:=fun k y hy=>by
              have hk:=(List.getElem?_eq_some_iff.1 hy).1
              have hgk:=t2 k (by omega)
              rw [Nat.zero_add,hy] at hgk
              obtain ⟨v,hv,hr⟩:=g5 k y hgk
              exact ⟨v,by simpa using hv,hr⟩
            have hset:(∃ more,((more=[]∧kq.own=true)∨∃ q t,more=[(q,.gone)]∧kq=.ro t q∧q≠b)∧qj C elem nb b (C.P.cellsOf elem) (sl + n) (z5 l new.1) l more (z5 new.2 [b])=some r) ∨
                (H.get b=some (.cells q.1 q.2)∧xG C elem nb (C.P.cellsOf elem) (sl + n) (z5 l new.1) [(b,.gone)] (z5 new.2 [b])=some r):=by
              rcases W0 hm with ⟨rfl,t,n',hc⟩ | ⟨q',t,rfl,hc⟩
              ·
                rw [hgetq] at hc; cases hc
                rw [elimO_none] at h
                cases hro:C.ro st with
                | true=>rw [hro,ifB_true] at h; exact .inl ⟨[],.inl ⟨rfl,rfl⟩,h⟩
                |
                  false =>
                  rw [hro,zj] at h
                  have h8:some (t,n')=some (q.1,q.2):=hbody
                  injection h8 with h8
                  injection h8 with e1 e2
                  exact .inr ⟨by rw [← e1,← e2]; exact hgetq,h⟩
              ·
                rw [hgetq] at hc; cases hc
                rw [elimO_some] at h
                obtain ⟨hne,h⟩:=zi.1 h
                refine .inl ⟨_,.inr ⟨q',t,rfl,rfl,fun e => ?_⟩,h⟩
                rw [e,show Nat.beq b b=true from Nat.beq_refl b] at hne; cases hne
            rcases hset with ⟨more,hmore,h⟩ | ⟨hget,h⟩
            · exact append_two (ty:=ty) (arr:=arr.toList) p hj hu hi hb hgetq (Blk.body_live hbody) (by simpa using g2) (by simpa using g3) hmore o1 (by omega) o3 hra o4 n1 (by omega) n3 hsrc hn1 k4 hb1 hb2 h
            by_cases hroom:sl + n≤c
            ·
              replace h:=zi.1 h; obtain ⟨hz,h⟩:=h
              rw [zZ,zr,yg] at h
              cases h
              obtain ⟨rfl,hS⟩:=k4 (by omega)
              have hS2:(sl + n) * C.P.cellsOf elem≤c * C.P.cellsOf elem:=Nat.mul_le_mul_right _ hroom
              have hrun:=wC (ty:=ty) hu hi (by rw [← hsz]; exact hsrc) hroom g2 (show 0 + sl * i.size + news.length≤arr.size by rw [← hsz]; omega)
              rw [hrun,← hsz]
              obtain ⟨m1,m2⟩:=Zg (nb:=nb) (n:=(sl + n) * C.P.cellsOf elem) (t:=zu 0 T.nil (l++new.1)) (w':=w.setRow B (arr.toList.take (0 + sl * C.P.cellsOf elem)++news++arr.toList.drop (0 + sl * C.P.cellsOf elem + news.length)).toArray)
                p.heap hget rfl hb hj (wB w B _) (fun B' h=>setRow_other w B B' _ h) (Still.put (fun B' h=>setRow_other w B B' _ h) (fun c t fr h=>by rw [g2] at h; cases h; rfl) (fun c t fr h=>by rw [setRow_heap w B arr _ e _ g2] at h; cases h; rfl) rfl rfl) (setRow_heap w B arr _ e _ g2) (by simp; omega) (by omega) (fun k x hx=>by have h9:=(List.getElem?_eq_some_iff.1 (yM hx)).1; rw [List.length_append] at h9; have h8:l.length=sl * C.P.cellsOf elem:=o2; omega) (fun k x hx=>by
                  have hy:=yM hx
                  simp only [List.getElem?_toArray,Nat.zero_add]
                  have hln:l.length=sl * C.P.cellsOf elem:=o2
                  by_cases hk:k < l.length
                  ·
                    rw [List.getElem?_append_left hk] at hy
                    have hgk:=t2 k (by omega)
                    rw [Nat.zero_add,hy] at hgk
                    obtain ⟨v,hv,hr⟩:=g5 k x hgk
                    refine ⟨v,?_,hr⟩
                    rw [List.getElem?_append_left (by simp; omega),List.getElem?_append_left (by simp; omega),List.getElem?_take,if_pos (by omega)]
                    simpa using hv
                  ·
                    rw [List.getElem?_append_right (by omega)] at hy
                    have hk2:=(List.getElem?_eq_some_iff.1 hy).1
                    obtain ⟨v,hv⟩:∃ v,news[k - l.length]? = some v:=⟨_,List.getElem?_eq_getElem (by omega)⟩
                    refine ⟨v,?_,n3 _ _ _ hy hv⟩
                    rw [List.getElem?_append_left (by simp; omega),List.getElem?_append_right (by simp; omega)]
                    rw [show (List.take (sl * C.P.cellsOf elem) arr.toList).length=l.length by simp; omega]
                    exact hv)
              exact ⟨_,_,_,rfl,m1,.hs J.upd_eq (Nat.le_refl _) hroom (fun h=>by cases h) (fun _=>⟨rfl,hS⟩),m2,fun b hb=>J.upd_ne hb⟩
            ·
              replace h:=zi.1 h; obtain ⟨hz,h⟩:=h
              rw [zZ,zr] at h
              cases h
              obtain ⟨v',w',e1,e2,_⟩:=grow (by omega) (z5 new.2 [b]) (r2:=⟨.hs nb 0 (sl + n) (C.P.cellsOf elem) (sl + n) false,[(nb,.cells (zu 0 T.nil (z5 l new.1)) ((sl + n) * C.P.cellsOf elem))],some (z5 new.2 [b])⟩)
                (by unfold xG; rw [hz,yt,zZ,zr]; rfl)
              rw [e1]
              exact e2.gone
    ·
      rename_i t off len es' lo ex
      cases hsl
      replace h:=zi.1 h; obtain ⟨hge,h⟩:=h
      rw [zl,zq] at hge
      cases hs with
      |
        vs f hB hlt k1 k2 k3 hc hr' =>
        obtain ⟨v',w',e1,e2,_⟩:=grow (by have:=k3 hge.1; have h2:lo + 1≤sl + n:=hge.2; omega) _ h
        rw [e1]; exact e2
end
end Go.Abs
