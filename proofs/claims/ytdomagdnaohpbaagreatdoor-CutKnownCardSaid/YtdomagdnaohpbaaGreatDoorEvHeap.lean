/- A NEW BLOCK, A BLOCK WRITTEN, A BLOCK LEFT: the heap still reads. -/
import Derived.Test.YtdomagdnaohpbaaGreatDoorEvRel
import Derived.Laws.MakeOwn
set_option linter.unusedVariables false
set_option linter.unusedSimpArgs false
namespace Go.Abs
theorem Rel.oneCell {X:Nat→Prop} {j:J} {w:World} {x:AV} {v:Value} (h:Rel X j w x v) (h1:Go.Abs.oneCell x=true):v.oneCell'=true:=by
  cases h with
  | v hp=>cases v <;> first | rfl | cases hp
  | agg _ _=>cases h1
  | tuple _ _=>cases h1
  | _=>rfl
def J.upd (j:J) (nb:Nat) (p:Nat×Nat):J:=fun b=>if b=nb then some p else j b
theorem J.upd_ne {j:J} {nb b:Nat} {p:Nat×Nat} (h:b≠nb):j.upd nb p b=j b:=if_neg h
theorem J.upd_eq {j:J} {nb:Nat} {p:Nat×Nat}:j.upd nb p nb=some p:=if_pos rfl
section
variable {F:Nat→Prop} {j:J} {w w':World} {H:T Blk} {nb:Nat}
theorem zcY {k:Blk} {S:Nat} (hj:j nb=none) {B:Nat} (h:Own (j.upd nb (w.heap.size,S)) (T.set nb k H) B):B=w.heap.size∨Own j H B:=by
  obtain ⟨b,k',S',hb,hl,hjb⟩:=h
  rw [T.get_set] at hb
  by_cases e:b=nb
  · subst e; rw [J.upd_eq] at hjb; cases hjb; exact .inl rfl
  · rw [if_neg e] at hb; rw [J.upd_ne e] at hjb; exact .inr ⟨b,k',S',hb,hl,hjb⟩
theorem vH {k:Blk} {S:Nat} {o:Obj} (hj:j nb=none) (hw:w'.heap=w.heap.push o) (hst:Still w w'):Trans j H w (j.upd nb (w.heap.size,S)) (T.set nb k H) w' where
  still:=hst
  size:=by rw [hw]; simp
  keep B hB _:=by rw [hw,Array.getElem?_push,if_neg (by omega)]
  own B hB h:=(zcY (w:=w) hj h).resolve_left (by omega)
  j b p h:=by rw [J.upd_ne (by rintro rfl; rw [hj] at h; cases h)]; exact h
theorem WN {t:T AV} {n:Nat} {arr:Array Value} {e:TypeId} (ho:HeapOk (XX F j H) j w H) (hj:j nb=none) (hw:w'.heap=w.heap.push (.cells arr e (0,0))) (hst:Still w w') (hn:n≤arr.size)
    (hf:∀ (i:Nat) (x:AV),t.get i=some x→i < n) (ht:∀ (i:Nat) (x:AV),t.get i=some x→∃ v,arr[i]? = some v∧Rel (XX F j H) j w x v) :
    HeapOk (XX F (j.upd nb (w.heap.size,arr.size)) (T.set nb (.cells t n) H)) (j.upd nb (w.heap.size,arr.size)) w' (T.set nb (.cells t n) H):=by
  have htr:Trans j H w (j.upd nb (w.heap.size,arr.size)) (T.set nb (.cells t n) H) w':=vH hj hw hst
  have hlt:∀ b B S,j b=some (B,S)→b≠nb:=fun b B S h e=>by rw [e,hj] at h; cases h
  refine ⟨fun b kk t' n' hb hk => ?_,fun b l hb => ?_,fun b b' k k' B S S' hb hl hb' hl' h1 h2 => ?_,ho.full.set fun t' n' e=>by cases e; exact hf⟩
  ·
    rw [T.get_set] at hb
    by_cases e':b=nb
    ·
      subst e'; rw [if_pos rfl] at hb; cases hb; cases hk
      refine ⟨w.heap.size,arr.size,arr,e,J.upd_eq,by rw [hw]; simp,rfl,hn,fun i x hx => ?_⟩
      obtain ⟨v,hv,hr⟩:=ht i x hx
      exact ⟨v,hv,hr.trans htr⟩
    ·
      rw [if_neg e'] at hb
      obtain ⟨B,S,arr',e2,h1,h2,h3,h4,h5⟩:=ho.body b kk t' n' hb hk
      refine ⟨B,S,arr',e2,by rw [J.upd_ne e']; exact h1,?_,h3,h4,fun i x hx => ?_⟩
      · rw [hw,Array.getElem?_push,if_neg (by have:=(Array.getElem?_eq_some_iff.1 h2).1; omega)]; exact h2
      ·
        obtain ⟨v,hv,hr⟩:=h5 i x hx
        exact ⟨v,hv,hr.trans htr⟩
  ·
    rw [T.get_set] at hb
    by_cases e':b=nb
    · rw [if_pos e'] at hb; cases hb
    ·
      rw [if_neg e'] at hb
      obtain ⟨B,S,es,cl,h1,h2,h3,h4,h5⟩:=ho.maps b l hb
      refine ⟨B,S,es,cl,by rw [J.upd_ne e']; exact h1,?_,h3,h4,fun i k x e hx he=>(h5 i k x e hx he).trans htr⟩
      rw [hw,Array.getElem?_push,if_neg (by have:=(Array.getElem?_eq_some_iff.1 h2).1; omega)]; exact h2
  ·
    rw [T.get_set] at hb hb'
    by_cases e1:b=nb <;> by_cases e2:b'=nb
    · exact .inl (by rw [e1,e2])
    ·
      rw [e1,J.upd_eq] at h1; cases h1
      rw [if_neg e2] at hb'; rw [J.upd_ne e2] at h2
      obtain ⟨B',S2,hB',hlt'⟩:=ho.block hb' hl'
      rw [h2] at hB'; cases hB'; omega
    ·
      rw [e2,J.upd_eq] at h2; cases h2
      rw [if_neg e1] at hb; rw [J.upd_ne e1] at h1
      obtain ⟨B',S2,hB',hlt'⟩:=ho.block hb hl
      rw [h1] at hB'; cases hB'; omega
    ·
      rw [if_neg e1] at hb; rw [if_neg e2] at hb'
      rw [J.upd_ne e1] at h1; rw [J.upd_ne e2] at h2
      exact ho.inj b b' k k' B S S' hb hl hb' hl' h1 h2
theorem Y2 (ho:HeapOk (XX F j H) j w H) (hj:j nb=none) (hw:w'.heap=w.heap.push (.map #[] 0)) (hst:Still w w') :
    HeapOk (XX F (j.upd nb (w.heap.size,0)) (T.set nb (.map []) H)) (j.upd nb (w.heap.size,0)) w' (T.set nb (.map []) H):=by
  have htr:Trans j H w (j.upd nb (w.heap.size,0)) (T.set nb (.map []) H) w':=vH hj hw hst
  refine ⟨fun b kk t' n' hb hk => ?_,fun b l hb => ?_,fun b b' k k' B S S' hb hl hb' hl' h1 h2 => ?_,ho.full.set fun t' n' e=>by cases e⟩
  ·
    rw [T.get_set] at hb
    by_cases e':b=nb
    · rw [if_pos e'] at hb; cases hb; cases hk
    ·
      rw [if_neg e'] at hb
      obtain ⟨B,S,arr',e2,h1,h2,h3,h4,h5⟩:=ho.body b kk t' n' hb hk
      refine ⟨B,S,arr',e2,by rw [J.upd_ne e']; exact h1,?_,h3,h4,fun i x hx => ?_⟩
      · rw [hw,Array.getElem?_push,if_neg (by have:=(Array.getElem?_eq_some_iff.1 h2).1; omega)]; exact h2
      ·
        obtain ⟨v,hv,hr⟩:=h5 i x hx
        exact ⟨v,hv,hr.trans htr⟩
  ·
    rw [T.get_set] at hb
    by_cases e':b=nb
    ·
      subst e'; rw [if_pos rfl] at hb; cases hb
      exact ⟨w.heap.size,0,#[],0,J.upd_eq,by rw [hw]; simp,rfl,fun i k x e hx=>by simp at hx,fun i k x e hx=>by simp at hx⟩
    ·
      rw [if_neg e'] at hb
      obtain ⟨B,S,es,cl,h1,h2,h3,h4,h5⟩:=ho.maps b l hb
      refine ⟨B,S,es,cl,by rw [J.upd_ne e']; exact h1,?_,h3,h4,fun i k x e hx he=>(h5 i k x e hx he).trans htr⟩
      rw [hw,Array.getElem?_push,if_neg (by have:=(Array.getElem?_eq_some_iff.1 h2).1; omega)]; exact h2
  ·
    rw [T.get_set] at hb hb'
    by_cases e1:b=nb <;> by_cases e2:b'=nb
    · exact .inl (by rw [e1,e2])
    ·
      rw [e1,J.upd_eq] at h1; cases h1
      rw [if_neg e2] at hb'; rw [J.upd_ne e2] at h2
      obtain ⟨B',S2,hB',hlt'⟩:=ho.block hb' hl'
      rw [h2] at hB'; cases hB'; omega
    ·
      rw [e2,J.upd_eq] at h2; cases h2
      rw [if_neg e1] at hb; rw [J.upd_ne e1] at h1
      obtain ⟨B',S2,hB',hlt'⟩:=ho.block hb hl
      rw [h1] at hB'; cases hB'; omega
    ·
      rw [if_neg e1] at hb; rw [if_neg e2] at hb'
      rw [J.upd_ne e1] at h1; rw [J.upd_ne e2] at h2
      exact ho.inj b b' k k' B S S' hb hl hb' hl' h1 h2
theorem zcZ {b:Nat} {k0 k:Blk} (hb:H.get b=some k0) (hl:k0.live=true) {B:Nat} (h:Own j (T.set b k H) B):Own j H B:=by
  obtain ⟨b',k',S',hb',hl',hjb⟩:=h
  rw [T.get_set] at hb'
  by_cases e:b'=b
  · subst e; exact ⟨b',k0,S',hb,hl,hjb⟩
  · rw [if_neg e] at hb'; exact ⟨b',k',S',hb',hl',hjb⟩
theorem uK {b B S:Nat} {k0 k:Blk} (hb:H.get b=some k0) (hl:k0.live=true) (hj:j b=some (B,S)) (hs:w'.heap.size=w.heap.size)
    (hk:∀ B',B'≠B→w'.heap[B']? = w.heap[B']?) (hst:Still w w'):Trans j H w j (T.set b k H) w' where
  still:=hst
  size:=by omega
  keep B' _ hn:=hk B' (fun e=>hn (e ▸ ⟨b,k0,S,hb,hl,hj⟩))
  own B' _ h:=zcZ hb hl h
  j _ _ h:=h
theorem zaN {b B S:Nat} {k0:Blk} {t:T AV} {n:Nat} {arr:Array Value} {e:TypeId} (ho:HeapOk (XX F j H) j w H) (hb:H.get b=some k0) (hl:k0.own=true) (hj:j b=some (B,S))
    (hs:w'.heap.size=w.heap.size) (hk:∀ B',B'≠B→w'.heap[B']? = w.heap[B']?) (hst:Still w w') (hB:w'.heap[B]? = some (.cells arr e (0,0))) (hS:arr.size=S) (hn:n≤S)
    (hf:∀ (i:Nat) (x:AV),t.get i=some x→i < n) (ht:∀ (i:Nat) (x:AV),t.get i=some x→∃ v,arr[i]? = some v∧Rel (XX F j H) j w x v) :
    HeapOk (XX F j (T.set b (.cells t n) H)) j w' (T.set b (.cells t n) H):=by
  have htr:Trans j H w j (T.set b (.cells t n) H) w':=uK hb (Blk.own_live hl) hj hs hk hst
  refine ⟨fun b2 kk t' n' hb' hkk => ?_,fun b2 l hb' => ?_,fun b1 b2 k k' B1 S1 S2 hb1 hl1 hb2 hl2 h1 h2 => ?_,ho.full.set fun t' n' e=>by cases e; exact hf⟩
  ·
    rw [T.get_set] at hb'
    by_cases e':b2=b
    ·
      subst e'; rw [if_pos rfl] at hb'; cases hb'; cases hkk
      refine ⟨B,S,arr,e,hj,hB,hS,hn,fun i x hx => ?_⟩
      obtain ⟨v,hv,hr⟩:=ht i x hx
      exact ⟨v,hv,hr.trans htr⟩
    ·
      rw [if_neg e'] at hb'
      obtain ⟨B2,S2,arr',e2,h1,h2,h3,h4,h5⟩:=ho.body b2 kk t' n' hb' hkk
      have hne:B2≠B:=by rintro rfl; exact e' (ho.sole hb' (Blk.body_live hkk) hb hl h1 hj)
      refine ⟨B2,S2,arr',e2,h1,by rw [hk _ hne]; exact h2,h3,h4,fun i x hx => ?_⟩
      obtain ⟨v,hv,hr⟩:=h5 i x hx
      exact ⟨v,hv,hr.trans htr⟩
  ·
    rw [T.get_set] at hb'
    by_cases e':b2=b
    · rw [if_pos e'] at hb'; cases hb'
    ·
      rw [if_neg e'] at hb'
      obtain ⟨B2,S2,es,cl,h1,h2,h3,h4,h5⟩:=ho.maps b2 l hb'
      have hne:B2≠B:=by rintro rfl; exact e' (ho.sole hb' rfl hb hl h1 hj)
      exact ⟨B2,S2,es,cl,h1,by rw [hk _ hne]; exact h2,h3,h4,fun i k x e hx he=>(h5 i k x e hx he).trans htr⟩
  ·
    rw [T.get_set] at hb1 hb2
    by_cases e1:b1=b <;> by_cases e2:b2=b
    · exact .inl (by rw [e1,e2])
    ·
      rw [if_neg e2] at hb2; rw [e1,hj] at h1; cases h1
      exact absurd (ho.sole hb2 hl2 hb hl h2 hj) e2
    ·
      rw [if_neg e1] at hb1; rw [e2,hj] at h2; cases h2
      exact absurd (ho.sole hb1 hl1 hb hl h1 hj) e1
    ·
      rw [if_neg e1] at hb1; rw [if_neg e2] at hb2
      exact ho.inj b1 b2 _ _ _ _ _ hb1 hl1 hb2 hl2 h1 h2
theorem Y3 {b B S:Nat} {k0:Blk} {l:List (AV×AV)} {es:Array MapEntry} {cl:Nat} (ho:HeapOk (XX F j H) j w H) (hb:H.get b=some k0) (hl:k0.own=true) (hj:j b=some (B,S))
    (hs:w'.heap.size=w.heap.size) (hk:∀ B',B'≠B→w'.heap[B']? = w.heap[B']?) (hst:Still w w') (hB:w'.heap[B]? = some (.map es cl)) (hlen:l.length=es.size)
    (h4':∀ (i:Nat) (k x:AV) (e:MapEntry),l[i]? = some (k,x)→es[i]? = some e→plain e.key=true∧k=.v e.key)
    (h5':∀ (i:Nat) (k x:AV) (e:MapEntry),l[i]? = some (k,x)→es[i]? = some e→Rel (XX F j H) j w x e.val) :
    HeapOk (XX F j (T.set b (.map l) H)) j w' (T.set b (.map l) H):=by
  have htr:Trans j H w j (T.set b (.map l) H) w':=uK hb (Blk.own_live hl) hj hs hk hst
  refine ⟨fun b2 kk t' n' hb' hkk => ?_,fun b2 l2 hb' => ?_,fun b1 b2 k k' B1 S1 S2 hb1 hl1 hb2 hl2 h1 h2 => ?_,ho.full.set fun t' n' e=>by cases e⟩
  ·
    rw [T.get_set] at hb'
    by_cases e':b2=b
    · rw [if_pos e'] at hb'; cases hb'; cases hkk
    ·
      rw [if_neg e'] at hb'
      obtain ⟨B2,S2,arr',e2,h1,h2,h3,h4,h5⟩:=ho.body b2 kk t' n' hb' hkk
      have hne:B2≠B:=by rintro rfl; exact e' (ho.sole hb' (Blk.body_live hkk) hb hl h1 hj)
      refine ⟨B2,S2,arr',e2,h1,by rw [hk _ hne]; exact h2,h3,h4,fun i x hx => ?_⟩
      obtain ⟨v,hv,hr⟩:=h5 i x hx
      exact ⟨v,hv,hr.trans htr⟩
  ·
    rw [T.get_set] at hb'
    by_cases e':b2=b
    ·
      subst e'; rw [if_pos rfl] at hb'; cases hb'
      exact ⟨B,S,es,cl,hj,hB,hlen,h4',fun i k x e hx he=>(h5' i k x e hx he).trans htr⟩
    ·
      rw [if_neg e'] at hb'
      obtain ⟨B2,S2,es2,cl2,h1,h2,h3,h4,h5⟩:=ho.maps b2 l2 hb'
      have hne:B2≠B:=by rintro rfl; exact e' (ho.sole hb' rfl hb hl h1 hj)
      exact ⟨B2,S2,es2,cl2,h1,by rw [hk _ hne]; exact h2,h3,h4,fun i k x e hx he=>(h5 i k x e hx he).trans htr⟩
  ·
    rw [T.get_set] at hb1 hb2
    by_cases e1:b1=b <;> by_cases e2:b2=b
    · exact .inl (by rw [e1,e2])
    ·
      rw [if_neg e2] at hb2; rw [e1,hj] at h1; cases h1
      exact absurd (ho.sole hb2 hl2 hb hl h2 hj) e2
    ·
      rw [if_neg e1] at hb1; rw [e2,hj] at h2; cases h2
      exact absurd (ho.sole hb1 hl1 hb hl h1 hj) e1
    ·
      rw [if_neg e1] at hb1; rw [if_neg e2] at hb2
      exact ho.inj b1 b2 _ _ _ _ _ hb1 hl1 hb2 hl2 h1 h2
theorem zaO {b:Nat} {B:Nat} (h:Own j (T.set b .gone H) B):Own j H B:=by
  obtain ⟨b',k',S',hb',hl',hjb⟩:=h
  rw [T.get_set] at hb'
  by_cases e:b'=b
  · rw [if_pos e] at hb'; cases hb'; cases hl'
  · rw [if_neg e] at hb'; exact ⟨b',k',S',hb',hl',hjb⟩
theorem kH {b:Nat} (ho:HeapOk (XX F j H) j w H) :
    Trans j H w j (T.set b .gone H) w∧HeapOk (XX F j (T.set b .gone H)) j w (T.set b .gone H):=by
  have htr:Trans j H w j (T.set b .gone H) w:=⟨Still.refl _,Nat.le_refl _,fun _ _ _=>rfl,fun B _ h=>zaO h,fun _ _ h=>h⟩
  refine ⟨htr,fun b2 kk t' n' hb' hkk => ?_,fun b2 l2 hb' => ?_,fun b1 b2 k k' B1 S1 S2 hb1 hl1 hb2 hl2 h1 h2 => ?_,ho.full.set fun t' n' e=>by cases e⟩
  ·
    rw [T.get_set] at hb'
    by_cases e':b2=b
    · rw [if_pos e'] at hb'; cases hb'; cases hkk
    ·
      rw [if_neg e'] at hb'
      obtain ⟨B2,S2,arr',e2,h1,h2,h3,h4,h5⟩:=ho.body b2 kk t' n' hb' hkk
      refine ⟨B2,S2,arr',e2,h1,h2,h3,h4,fun i x hx => ?_⟩
      obtain ⟨v,hv,hr⟩:=h5 i x hx
      exact ⟨v,hv,hr.trans htr⟩
  ·
    rw [T.get_set] at hb'
    by_cases e':b2=b
    · rw [if_pos e'] at hb'; cases hb'
    ·
      rw [if_neg e'] at hb'
      obtain ⟨B2,S2,es2,cl2,h1,h2,h3,h4,h5⟩:=ho.maps b2 l2 hb'
      exact ⟨B2,S2,es2,cl2,h1,h2,h3,h4,fun i k x e hx he=>(h5 i k x e hx he).trans htr⟩
  ·
    rw [T.get_set] at hb1 hb2
    by_cases e1:b1=b
    · rw [if_pos e1] at hb1; cases hb1; cases hl1
    ·
      by_cases e2:b2=b
      · rw [if_pos e2] at hb2; cases hb2; cases hl2
      ·
        rw [if_neg e1] at hb1; rw [if_neg e2] at hb2
        exact ho.inj b1 b2 _ _ _ _ _ hb1 hl1 hb2 hl2 h1 h2
end
end Go.Abs
