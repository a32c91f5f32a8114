/- WHAT THE EVALUATOR SAYS OF AN OPERATION, THE MACHINE DOES: literals, maps. -/
import Derived.Test.YtdomagdnaohpbaaGreatDoorEvOps4
set_option linter.unusedSimpArgs false
set_option linter.unusedVariables false
namespace Go.Abs
section
variable {C:Cx} {F:Nat→Prop} {j:J} {env:T AV} {H:T Blk} {ρ:Operand→Value} {w:World} {nb:Nat} {ty:TypeId} {r:R} {X:Nat→Prop}
theorem zaT (off:Nat) (vs:List Value):∀ (k:Nat) (cs:Array Value),off + k + vs.length≤cs.size →
    ((vs.zipIdx k).foldl (fun (cs:Array Value) (q:Value×Nat)=>cs.setIfInBounds (off + q.2) q.1) cs).size=cs.size ∧
    ∀ i,((vs.zipIdx k).foldl (fun (cs:Array Value) (q:Value×Nat)=>cs.setIfInBounds (off + q.2) q.1) cs)[i]? = if off + k≤i∧i < off + k + vs.length then vs[i - (off + k)]? else cs[i]?:=by
  induction vs with
  | nil=>intro k cs h; refine ⟨rfl,fun i => ?_⟩; simp; omega
  |
    cons v vs ih =>
    intro k cs h
    simp only [List.length_cons] at h
    obtain ⟨h1,h2⟩:=ih (k + 1) (cs.setIfInBounds (off + k) v) (by simp; omega)
    simp only [List.zipIdx_cons,List.foldl_cons]
    refine ⟨by rw [h1]; simp,fun i => ?_⟩
    rw [h2]
    by_cases e:i=off + k
    ·
      subst e
      rw [if_neg (by omega),if_pos (by simp)]
      simp [show off + k < cs.size by omega]
    ·
      by_cases e2:off + (k + 1)≤i∧i < off + (k + 1) + vs.length
      ·
        rw [if_pos e2,if_pos (by simp; omega)]
        obtain ⟨m,rfl⟩:∃ m,i=off + (k + 1) + m:=⟨i - (off + (k + 1)),by omega⟩
        rw [show off + (k + 1) + m - (off + (k + 1))=m by omega,show off + (k + 1) + m - (off + k)=m + 1 by omega]; rfl
      · rw [if_neg e2,if_neg (by simp; omega),Array.getElem?_setIfInBounds_ne (Ne.symm e)]
theorem UV (l new:List AV) (off i:Nat) (h:off + new.length≤l.length):(vR l off new)[i]? = if off≤i∧i < off + new.length then new[i - off]? else l[i]?:=by
  unfold vR
  rw [yg,yg,qQ,vG,yb]
  by_cases h1:i < off
  · rw [if_neg (by omega),List.getElem?_append_left (by simp; omega),List.getElem?_take,if_pos h1]
  ·
    rw [List.getElem?_append_right (by simp; omega)]
    have e:(List.take off l).length=off:=by simp; omega
    rw [e]
    by_cases h2:i < off + new.length
    · rw [if_pos (by omega),List.getElem?_append_left (by omega)]
    ·
      rw [if_neg (by omega),List.getElem?_append_right (by omega),List.getElem?_drop]
      congr 1
      show off + new.length + (i - off - new.length)=i
      omega
theorem Z0 (l new:List AV) (off:Nat) (h:off + new.length≤l.length):(vR l off new).length=l.length:=by
  unfold vR
  rw [yg,yg,qQ,vG,yb]
  show (List.take off l++(new++List.drop (off + new.length) l)).length=_
  simp; omega
theorem uO (p:Pre F j env H ρ w) (place place':Nat→Option (Nat×Nat)) (hp:∀ i q,place i=some q→place' i=some q):∀ (ps:List (Nat×Operand)) (l l':List AV) (cs:Array Value),
    parts env place ps l=some l'→l.length=cs.size→(∀ (i:Nat) (x:AV) (y:Value),l[i]? = some x→cs[i]? = some y→Rel (XX F j H) j w x y) →
    ∃ cs',Instr.fill place' cs (ps.map fun (i,x)=>(i,ρ x))=some cs'∧l'.length=cs'.size∧(∀ (i:Nat) (x:AV) (y:Value),l'[i]? = some x→cs'[i]? = some y→Rel (XX F j H) j w x y)∧l'.length=l.length
  | [],l,l',cs,h,hl,hr=>by cases h; exact ⟨cs,rfl,hl,hr,rfl⟩
  |
    (k,o)::ps,l,l',cs,h,hl,hr=>by
    change zf (place k) (fun q=>zf (opd env o) fun x=>zm (andB (Nat.beq (lenL x.cells) q.2) (Nat.ble (Nat.add q.1 q.2) (lenL l))) (xg (vR l q.1 x.cells) fun l=>parts env place ps l))=some l' at h
    replace h:=za.1 h; obtain ⟨q,hq,h⟩:=h
    replace h:=za.1 h; obtain ⟨x,hx,h⟩:=h
    replace h:=zi.1 h; obtain ⟨hg,h⟩:=h
    rw [zl,beq_true,zq,yb,yb] at hg
    rw [y_] at h
    obtain ⟨g1,g2⟩:=hg
    have g2:q.1 + q.2≤l.length:=g2
    obtain ⟨c1,c2⟩:=xy (p.opd _ _ hx)
    have hfit:q.1 + (ρ o).cells.toList.length≤cs.size:=by simp; omega
    obtain ⟨f1,f2⟩:=zaT q.1 (ρ o).cells.toList 0 cs (by omega)
    have efold:((ρ o).cells.zipIdx.foldl (fun (cs:Array Value) (q':Value×Nat)=>cs.setIfInBounds (q.1 + q'.2) q'.1) cs)=(((ρ o).cells.toList.zipIdx 0).foldl (fun (cs:Array Value) (q':Value×Nat)=>cs.setIfInBounds (q.1 + q'.2) q'.1) cs):=by
      rw [← Array.foldl_toList,Array.toList_zipIdx]
    have hsp:=Z0 l x.cells q.1 (by omega)
    obtain ⟨cs',e1,e2,e3,e4⟩:=uO p place place' hp ps (vR l q.1 x.cells) l' _ h (by rw [hsp,f1,hl]) (fun i y u hy hu=>by
      rw [UV l x.cells q.1 i (by omega)] at hy
      rw [f2] at hu
      simp only [Nat.add_zero,Array.length_toList] at hu
      by_cases hin:q.1≤i∧i < q.1 + x.cells.length
      ·
        rw [if_pos hin] at hy; rw [if_pos (by omega)] at hu
        exact c2 _ y u hy (by simpa using hu)
      ·
        rw [if_neg hin] at hy; rw [if_neg (by omega)] at hu
        exact hr i y u hy hu)
    refine ⟨cs',?_,e2,e3,by rw [e4,hsp]⟩
    simp only [List.map_cons,Instr.fill,hp k q hq]
    rw [if_neg (by simp; omega)]
    rw [show ((ρ o).cells.zipIdx.foldl (fun cs (x:Value×Nat)=>match x with | (c,j)=>cs.setIfInBounds (q.1 + j) c) cs)=(((ρ o).cells.toList.zipIdx 0).foldl (fun (cs:Array Value) (q':Value×Nat)=>cs.setIfInBounds (q.1 + q'.2) q'.1) cs) from efold]
    exact e1
theorem u6 {α β:Type} {P:Program} (f:α→Sem β) (g:α→β):∀ (l:List α) (w:World),(∀ a ∈ l,∀ w,(f a).run P w=.ok (g a) w)→(l.mapM f).run P w=.ok (l.map g) w
  | [],w,h=>by simp
  |
    a::l,w,h=>by
    simp only [List.mapM_cons,Sem.run_bind,h a (List.mem_cons_self ..),Result.andThen_ok,u6 f g l w (fun b hb=>h b (List.mem_cons_of_mem _ hb)),Sem.run_pure,List.map_cons]
theorem WX (p:Pre F j env H ρ w) {t:TypeId} {ps:Array (Nat×Operand)} (h:jS t ps C env H nb ty=some r) :
    GoodV F j H w nb r ((Instr.build t (ps.map fun (i,x)=>(i,ρ x))).run C.P w):=by
  replace h:=za.1 h; obtain ⟨z,hz,h⟩:=h
  replace h:=zi.1 h; obtain ⟨hok,h⟩:=h
  replace h:=za.1 h; obtain ⟨l,hl,h⟩:=h
  cases h
  obtain ⟨i,zv,hi,hzv,hof⟩:=xj hz
  obtain ⟨h1,h2⟩:=xy (X:=XX F j H) (j:=j) (w:=w) (yJ hof)
  have hzero:(zeroValue t).run C.P w=.ok zv w:=by simp [zeroValue,typeInfo,hi,hzv]
  unfold Ka at hok
  split at hok
  ·
    rename_i fs hu
    have hm:(fs.mapM fun f=>do pure (f.offset,← sizeOf f.type):Sem (Array (Nat×Nat))).run C.P w=.ok ((fs.toList.map fun f=>(f.offset,C.P.cellsOf f.type)).toArray) w:=by
      rw [Array.mapM_eq_mapM_toList,Sem.run_map,u6 _ (fun f=>(f.offset,C.P.cellsOf f.type)) fs.toList w (fun f hf w=>by
        simp [z7 (List.all_eq_true.1 hok f hf)])]
      rfl
    obtain ⟨cs',e1,e2,e3,_⟩:=uO p (qM C t) (((fs.toList.map fun f=>(f.offset,C.P.cellsOf f.type)).toArray)[·]?) (fun i q hq=>by
      unfold qM at hq
      rw [hu] at hq
      simp only at hq
      cases hf:fs[i]? with
      | none=>rw [hf] at hq; cases hq
      | some f=>rw [hf] at hq; cases hq; simp [hf]) ps.toList z.cells l zv.cells hl h1 h2
    have e:(Instr.build t (ps.map fun (i,x)=>(i,ρ x))).run C.P w=.ok (.agg cs') w:=by
      simp only [Instr.build,Sem.run_bind,hzero,Result.andThen_ok,run_underlying hu,hm,Array.toList_map,e1,Sem.run_pure]
    rw [e]; exact GoodV.pure p.heap (.agg e2 e3)
  ·
    rename_i n e' hu
    obtain ⟨cs',e1,e2,e3,_⟩:=uO p (qM C t) (fun i=>some (i * C.P.cellsOf e',C.P.cellsOf e')) (fun i q hq=>by
      unfold qM at hq; rw [hu] at hq; exact hq) ps.toList z.cells l zv.cells hl h1 h2
    have e:(Instr.build t (ps.map fun (i,x)=>(i,ρ x))).run C.P w=.ok (.agg cs') w:=by
      simp only [Instr.build,Sem.run_bind,hzero,Result.andThen_ok,run_underlying hu,z7 hok,Array.toList_map,e1,Sem.run_pure]
    rw [e]; exact GoodV.pure p.heap (.agg e2 e3)
  · cases hok
theorem GoodV.data (p:Pre F j env H ρ w) {x:AV} {rd:Option (List Nat)} {w':World} {o:Obj} {v':Value} (hw:w'.heap=w.heap.push o) (hst:Still w w') (hv:Rel (XX F j H) j w' x v'):GoodV F j H w nb ⟨x,[],rd⟩ (.ok v' w'):=by
  have hk:∀ B,B < w.heap.size→w'.heap[B]? = w.heap[B]?:=fun B hB=>by rw [hw,Array.getElem?_push,if_neg (by omega)]
  have hs:w.heap.size≤w'.heap.size:=by rw [hw]; simp
  have mono:∀ {x:AV} {v:Value},Rel (XX F j H) j w x v→Rel (XX F j H) j w' x v:=fun hr=>hr.mono_w (fun _ _ h=>h) (fun B hB _=>hk B hB) hs
  refine ⟨v',w',j,rfl,⟨hst,hs,fun B hB _=>hk B hB,fun _ _ h=>h,fun _ _ h=>h⟩,hv,⟨fun b k t n hb hkb => ?_,fun b l hb => ?_,p.heap.inj,p.heap.full⟩,fun _ _=>rfl⟩
  ·
    obtain ⟨B,S,arr,e,h1,h2,h3,h4,h5⟩:=p.heap.body b k t n hb hkb
    exact ⟨B,S,arr,e,h1,by rw [hk _ (Array.getElem?_eq_some_iff.1 h2).1]; exact h2,h3,h4,fun i x hx=>by obtain ⟨v,hv,hr⟩:=h5 i x hx; exact ⟨v,hv,mono hr⟩⟩
  ·
    obtain ⟨B,S,es,cl,h1,h2,h3,h4,h5⟩:=p.heap.maps b l hb
    exact ⟨B,S,es,cl,h1,by rw [hk _ (Array.getElem?_eq_some_iff.1 h2).1]; exact h2,h3,h4,fun i k x e hx he=>mono (h5 i k x e hx he)⟩
theorem Z1 (p:Pre F j env H ρ w) : ¬ XX F j H w.heap.size:=by
  rintro (h | h)
  · have:=p.frame _ h; omega
  · have:=p.heap.own_lt h; omega
theorem kL (p:Pre F j env H ρ w) (hj:j nb=none) {t:TypeId} {len:Nat} {ps:Array (Nat×Operand)} (h:wz t len ps C env H nb ty=some r) :
    GoodV F j H w nb r ((Instr.buildSlice t len (ps.map fun (i,x)=>(i,ρ x))).run C.P w):=by
  replace h:=za.1 h; obtain ⟨e,he,h⟩:=h
  replace h:=zi.1 h; obtain ⟨hle,h⟩:=h
  replace h:=za.1 h; obtain ⟨z,hz,h⟩:=h
  replace h:=zi.1 h; obtain ⟨hzl,h⟩:=h
  replace h:=za.1 h; obtain ⟨l,hl,h⟩:=h
  rw [zZ,zr] at h
  have hle:len * C.P.cellsOf e≤16777216:=zq.1 hle
  rw [beq_true,yb] at hzl
  obtain ⟨hu,hk⟩:=ya he
  obtain ⟨i,zv,hi,hzv,hof⟩:=xj hz
  obtain ⟨h1,h2⟩:=xy (X:=XX F j H) (j:=j) (w:=w) (yJ hof)
  have hzs:zv.cells.size=C.P.cellsOf e:=by omega
  obtain ⟨cs',e1,e2,e3,e4⟩:=uO p (fun i=>some (Nat.mul i (C.P.cellsOf e),C.P.cellsOf e)) (fun i=>some (i * C.P.cellsOf e,C.P.cellsOf e)) (fun i q hq=>hq) ps.toList (vB z.cells len) l (madeCells zv.cells (len * zv.cells.size)) hl
    (by rw [y5,size_madeCells,h1]) (kK h1 h2 len)
  have hlen:l.length=len * C.P.cellsOf e:=by rw [e4,y5,h1,hzs]
  have hrun:(Instr.buildSlice t len (ps.map fun (i,x)=>(i,ρ x))).run C.P w=.ok (.slice (some ⟨w.heap.size,0,none⟩) len len) (w.alloc (.cells cs' e)):=by
    rw [hzs] at e1
    simp only [Instr.buildSlice,Sem.run_bind,run_underlying hu,Result.andThen_ok,z7 hk]
    rw [if_neg (by omega)]
    by_cases hz0:len * C.P.cellsOf e=0
    ·
      rw [if_pos hz0]
      have e1':Instr.fill (fun i=>some (i * C.P.cellsOf e,C.P.cellsOf e)) ((Array.range (len * C.P.cellsOf e)).map ((#[]:Array Value)[· % (#[]:Array Value).size]!)) (ps.map fun (i,x)=>(i,ρ x)).toList=some cs':=by
        rw [Array.toList_map]
        rw [← e1]
        congr 1
        rw [hz0]
        simp [madeCells]
      simp only [Sem.run_bind,Sem.run_pure,Result.andThen_ok,e1']
      rfl
    ·
      rw [if_neg hz0]
      have hzero:(zeroValue e).run C.P w=.ok zv w:=by simp [zeroValue,typeInfo,hi,hzv]
      have e1':Instr.fill (fun i=>some (i * C.P.cellsOf e,C.P.cellsOf e)) ((Array.range (len * C.P.cellsOf e)).map (zv.cells[· % zv.cells.size]!)) (ps.map fun (i,x)=>(i,ρ x)).toList=some cs':=by
        rw [Array.toList_map]; exact e1
      simp only [Sem.run_bind,hzero,Sem.run_pure,Result.andThen_ok,e1']
      rfl
  rw [hrun]
  cases hf':andB (allB (flat 4) l) (notB (C.hb t)) with
  |
    true =>
    have hf:=(zl.1 hf').1
    rw [hf',ifB_true] at h
    cases h
    have hx:=Z1 p
    have hmono:∀ {x:AV} {v:Value},Rel (XX F j H) J0 w x v→Rel (XX F j H) J0 (w.alloc (.cells cs' e)) x v:=fun hr=>hr.mono_w (fun _ _ h=>h)
      (fun B hB _=>by show (w.heap.push _)[B]? = _; rw [Array.getElem?_push,if_neg (by omega)]) (by show w.heap.size≤(w.heap.push _).size; simp)
    refine GoodV.data p rfl (Still.push rfl (fun _ _ _ h=>by cases h; rfl) rfl rfl) (.vs (fun i=>cs'.getD i undef) hx (by show w.heap.size < (w.heap.push _).size; simp) (Nat.le_refl _) (Nat.le_refl _) (fun _=>rfl) (fun i x hx' => ?_) (fun i x hx' => ?_))
    ·
      rw [Nat.zero_add] at hx' ⊢
      have hy:=yM hx'
      have hlt:i < cs'.size:=by have:=(List.getElem?_eq_some_iff.1 hy).1; omega
      rw [cell_of_row _ _ _ cs' e (0,0) (heap_alloc_new w _)]
      simp [hlt]
    ·
      rw [Nat.zero_add] at hx'
      have hy:=yM hx'
      have hlt:i < cs'.size:=by have:=(List.getElem?_eq_some_iff.1 hy).1; omega
      have hr:=e3 i x cs'[i] hy (by simp [hlt])
      have:cs'.getD i undef=cs'[i]:=by simp [hlt]
      rw [this]
      exact hmono (hr.flat 4 (z6.1 hf x (List.mem_of_getElem? hy)))
  |
    false =>
    rw [hf',zj,zr] at h
    cases h
    refine GoodV.new p.heap hj (by omega) e3 (by show len * C.P.cellsOf e≤cs'.size; omega) (by show _≤len * C.P.cellsOf e; omega) rfl (Still.push rfl (fun _ _ _ h=>by cases h; rfl) rfl rfl) (fun X' j' hj'=>.hs hj' (Nat.le_refl _) (Nat.le_refl _) (fun _=>rfl) (fun _=>⟨rfl,?_⟩))
    show 0 + len * C.P.cellsOf e≤cs'.size
    omega
theorem qo:∀ (a b:List UInt8),vS a b=(a == b)
  | [],[]=>rfl
  | [],_::_=>rfl
  | _::_,[]=>rfl
  |
    x::a,y::b=>by
    show ifB (Nat.beq x.toNat y.toNat) (vS a b) false=_
    rw [qo a b]
    cases h:Nat.beq x.toNat y.toNat with
    | true=>have:=UInt8.toNat_inj.1 (beq_true.1 h); subst this; simp
    |
      false =>
      have:x≠y:=by rintro rfl; rw [beq_true.2 rfl] at h; cases h
      simp [this]
theorem kM (a b:ByteArray):(a == b)=(a.data.toList == b.data.toList):=by
  rcases a with ⟨⟨a⟩⟩; rcases b with ⟨⟨b⟩⟩
  show ((⟨a⟩:Array UInt8) == ⟨b⟩)=(a == b)
  simp
theorem Y_ {a b:ByteArray} (h:(a == b)=true):a=b:=by
  rw [kM] at h
  rcases a with ⟨⟨a⟩⟩; rcases b with ⟨⟨b⟩⟩
  simp at h; rw [h]
theorem vW {t:TypeId} {q:TypeId×TypeId} (h:Yi C t=some q):C.P.underlying t=some (.map q.1 q.2)∧∃ d,C.P.underlying q.1=some d∧((∃ k,d=.int k)∨d=.string):=by
  unfold Yi at h
  split at h
  ·
    rename_i k e hu
    split at h
    · rename_i kk hk; cases h; exact ⟨hu,_,hk,.inl ⟨kk,rfl⟩⟩
    · rename_i hk; cases h; exact ⟨hu,_,hk,.inr rfl⟩
    · cases h
  · cases h
theorem qU {kt:TypeId} {key:Value} (h:vT C kt key=true):(∃ k n k',key=.int k n∧C.P.underlying kt=some (.int k'))∨(∃ s,key=.string s∧C.P.underlying kt=some .string):=by
  cases key with
  |
    int k n =>
    change qi (x8 C kt)=true at h
    cases hk:x8 C kt with
    | none=>rw [hk] at h; cases h
    | some k'=>exact .inl ⟨k,n,k',rfl,wP hk⟩
  | string s=>exact .inr ⟨s,rfl,yL h⟩
  | _=>cases h
theorem Yn {kt:TypeId} {key k:Value} {d:TypeDesc} {b:Bool} (hf:vT C kt key=true) (hd:C.P.underlying kt=some d) (h:WD key k=some b):Instr.sameNow d key k=some b∧(b=true→key=k):=by
  rcases qU hf with ⟨kk,n,k',rfl,hu⟩ | ⟨s,rfl,hu⟩
  ·
    rw [hd] at hu; cases hu
    cases k with
    |
      int k2 m =>
      change zm (eqK kk k2) (some (eqI n m))=some b at h
      replace h:=zi.1 h; obtain ⟨hk,h⟩:=h
      obtain rfl:=vI hk
      rw [Y6] at h
      replace h:(n == m)=b:=by injection h
      subst h
      exact ⟨by simp [Instr.sameNow],fun hb=>by rw [beq_iff_eq.1 hb]⟩
    | _=>cases h
  ·
    rw [hd] at hu; cases hu
    cases k with
    |
      string s2 =>
      change some (vS s.data.toList s2.data.toList)=some b at h
      have h:vS s.data.toList s2.data.toList=b:=by injection h
      rw [qo,← kM] at h
      subst h
      exact ⟨rfl,fun hb=>by rw [Y_ hb]⟩
    | _=>cases h
def PairsOk (X:Nat→Prop) (j:J) (w:World) (l:List (AV×AV)) (es:List MapEntry):Prop:=l.length=es.length ∧
  (∀ (i:Nat) (k x:AV) (e:MapEntry),l[i]? = some (k,x)→es[i]? = some e→plain e.key=true∧k=.v e.key)∧(∀ (i:Nat) (k x:AV) (e:MapEntry),l[i]? = some (k,x)→es[i]? = some e→Rel X j w x e.val)
theorem PairsOk.tail {p:AV×AV} {l:List (AV×AV)} {e:MapEntry} {es:List MapEntry} (h:PairsOk X j w (p::l) (e::es)):PairsOk X j w l es:=
  ⟨by have:=h.1; simp at this; exact this,fun i k x e' hx he=>h.2.1 (i + 1) k x e' (by simpa using hx) (by simpa using he),fun i k x e' hx he=>h.2.2 (i + 1) k x e' (by simpa using hx) (by simpa using he)⟩
theorem Zf {kt:TypeId} {key:Value} {d:TypeDesc} (hf:vT C kt key=true) (hd:C.P.underlying kt=some d):∀ (l:List (AV×AV)) (es:List MapEntry) (k0:Nat) (q:Option AV),PairsOk X j w l es→zaF key l=some q →
    (q=none∧Instr.findNow d key es k0=some none)∨∃ x i e,q=some x∧Instr.findNow d key es k0=some (some (k0 + i,e.val))∧es[i]? = some e∧e.key=key∧Rel X j w x e.val
  |
    [],es,k0,q,hp,h=>by
    cases h
    have:es=[]:=by have:=hp.1; cases es with
      | nil=>rfl
      | cons _ _=>simp at this
    subst this
    exact .inl ⟨rfl,rfl⟩
  |
    (pk,px)::l,es,k0,q,hp,h=>by
    cases es with
    | nil=>have:=hp.1; simp at this
    |
      cons e es =>
      obtain ⟨hpk,rfl⟩:=hp.2.1 0 pk px e rfl rfl
      have hpx:=hp.2.2 0 _ px e rfl rfl
      change zf (WD key e.key) (fun b=>ifB b (some (some px)) (zaF key l))=some q at h
      obtain ⟨b,hb,h⟩:=za.1 h
      obtain ⟨hs,hkey⟩:=Yn hf hd hb
      cases b with
      |
        true =>
        cases h
        exact .inr ⟨px,0,e,rfl,by simp [Instr.findNow,hs],rfl,(hkey rfl).symm,hpx⟩
      |
        false =>
        rcases Zf hf hd l es (k0 + 1) q hp.tail h with ⟨rfl,e1⟩ | ⟨x,i,e',rfl,e1,e2,e3,e4⟩
        · exact .inl ⟨rfl,by simp [Instr.findNow,hs,e1]⟩
        · exact .inr ⟨x,i + 1,e',rfl,by simp [Instr.findNow,hs,e1]; omega,by simpa using e2,e3,e4⟩
theorem qV {kt:TypeId} {d:TypeDesc} (e:Bool) (n:Nat) (v:Value) (hd:C.P.underlying kt=some d) (hk:(∃ k,d=.int k)∨d=.string) (w:World):(Instr.checkKey e (n + 1) kt v).run C.P w=.ok () w:=by
  rcases hk with ⟨k,rfl⟩ | rfl <;> simp [Instr.checkKey,run_underlying hd]
theorem Xa (ho:HeapOk (XX F j H) j w H) {m:AV} {v:Value} {q:List (AV×AV)×List Nat} (hr:Rel (XX F j H) j w m v) (h:entries H m=some q) :
    (v=.map none∧q.1=[])∨∃ B es cl,v=.map (some B)∧w.heap[B]? = some (.map es cl)∧PairsOk (XX F j H) j w q.1 es.toList:=by
  cases m <;> try (cases h; done)
  ·
    rename_i z
    obtain ⟨rfl,hz⟩:=hr.v_eq
    cases v <;> try (cases h; done)
    rename_i a
    cases a with
    | none=>cases h; exact .inl ⟨rfl,rfl⟩
    | some _=>cases h
  ·
    rename_i b
    replace h:=za.1 h; obtain ⟨l,hl,h⟩:=h
    cases h
    cases hr with
    |
      hm hb =>
      obtain ⟨B,S,es,cl,h1,h2,h3,h4,h5⟩:=ho.maps b l (vV hl)
      rw [hb] at h1; cases h1
      exact .inr ⟨_,es,cl,rfl,h2,by simpa using h3,fun i k x e hx he=>h4 i k x e hx (by simpa using he),fun i k x e hx he=>h5 i k x e hx (by simpa using he)⟩
  ·
    rename_i l
    cases h
    cases hr with
    |
      vm hB hlt hm hl hk hr' =>
      rename_i B es cl
      exact .inr ⟨B,es,cl,rfl,hm,by simpa using hl,fun i k x e hx he=>hk i k x e hx (by simpa using he),fun i k x e hx he=>(hr' i k x e hx (by simpa using he)).lift⟩
theorem wk {B:Nat} {es:Array MapEntry} {cl:Nat} (h:w.heap[B]? = some (.map es cl)):(getObj B).run C.P w=.ok (.map es cl) w:=by
  simp [getObj,Sem.run,h]
theorem Xb (p:Pre F j env H ρ w) {t:TypeId} {x i:Operand} {ok:Bool} (h:qO t x i ok C env H nb ty=some r):GoodV F j H w nb r ((Instr.lookup t (ρ x) (ρ i) ok).run C.P w):=by
  replace h:=za.1 h; obtain ⟨ke,hke,h⟩:=h
  replace h:=za.1 h; obtain ⟨m,hm,h⟩:=h
  replace h:=za.1 h; obtain ⟨jj,hjj,h⟩:=h
  replace h:=za.1 h; obtain ⟨key,hkey,h⟩:=h
  replace h:=zi.1 h; obtain ⟨hf,h⟩:=h
  replace h:=za.1 h; obtain ⟨es,hes,h⟩:=h
  replace h:=za.1 h; obtain ⟨q,hq,h⟩:=h
  have e1:=p.opd _ _ hjj
  rw [vJ hkey] at e1
  rw [e1.v_eq.1]
  have hr:=p.opd _ _ hm
  generalize ρ x=v at hr
  obtain ⟨hu,d,hd,hkd⟩:=vW hke
  have hck:=fun b (w:World)=>qV (C:=C) b 9999 key hd hkd w
  have fin:∀ {x:AV} {u:Value} {b:Bool},Rel (XX F j H) j w x u→Rel (XX F j H) j w (UM ok b x) (if ok then .tuple #[u,.bool b] else u):=by
    intro x u b hxu
    cases ok with
    | false=>exact hxu
    |
      true =>
      refine .tuple rfl (fun i y z hy hz => ?_)
      match i with
      | 0=>simp at hy hz; subst hy; subst hz; exact hxu
      | 1=>simp at hy hz; subst hy; subst hz; exact .v rfl
      | i + 2=>simp at hy
  have main:∀ (es':Array MapEntry),PairsOk (XX F j H) j w es.1 es'.toList →
      (∀ zv,Instr.findNow d key es'.toList 0=some none→(zeroValue ke.2).run C.P w=.ok zv w→(Instr.lookup t v key ok).run C.P w=.ok (if ok then .tuple #[zv,.bool false] else zv) w) →
      (∀ k u,Instr.findNow d key es'.toList 0=some (some (k,u))→(Instr.lookup t v key ok).run C.P w=.ok (if ok then .tuple #[u,.bool true] else u) w) →
      GoodV F j H w nb r ((Instr.lookup t v key ok).run C.P w):=by
    intro es' hp hn hs
    rcases Zf hf hd es.1 es'.toList 0 q hp hq with ⟨rfl,hfn⟩ | ⟨y,i,e,rfl,hfn,_,_,hy⟩
    ·
      rw [elimO_none] at h
      replace h:=za.1 h; obtain ⟨z,hz,h⟩:=h
      cases h
      obtain ⟨ii,zv,hi,hzv,hof⟩:=xj hz
      rw [hn zv hfn (by simp [zeroValue,typeInfo,hi,hzv])]; exact GoodV.pure p.heap (fin (yJ hof))
    ·
      rw [elimO_some] at h
      cases h
      rw [hs _ _ hfn]; exact GoodV.pure p.heap (fin hy)
  rcases Xa p.heap hr hes with ⟨rfl,hnil⟩ | ⟨B,es',cl,rfl,hB,hp⟩
  ·
    refine main #[] (by rw [hnil]; exact ⟨rfl,fun i k x e hx=>by simp at hx,fun i k x e hx=>by simp at hx⟩) (fun zv hfn hzv => ?_) (fun k u hfn => ?_)
    · simp [Instr.lookup,run_underlying hu,hck,Instr.findKey,run_underlying hd,Instr.findNow,hzv]
    · cases hfn
  ·
    refine main es' hp (fun zv hfn hzv => ?_) (fun k u hfn => ?_)
    · simp [Instr.lookup,run_underlying hu,wk hB,hck,Instr.findKey,run_underlying hd,hfn,hzv]
    · simp [Instr.lookup,run_underlying hu,wk hB,hck,Instr.findKey,run_underlying hd,hfn]
theorem Yo {kt:TypeId} {key:Value} {d:TypeDesc} {y:AV} {u:Value} {cl:Nat} (hf:vT C kt key=true) (hpk:plain key=true) (hd:C.P.underlying kt=some d) (hy:Rel X j w y u) :
    ∀ (l l':List (AV×AV)) (es:List MapEntry) (k0:Nat),PairsOk X j w l es→zfE key y l=some l' →
    (Instr.findNow d key es k0=some none∧PairsOk X j w l' (es++[{ key,val:=u,born:=cl }])) ∨
    ∃ i e,Instr.findNow d key es k0=some (some (k0 + i,e.val))∧es[i]? = some e∧e.key=key∧PairsOk X j w l' (es.set i { e with key,val:=u })
  |
    [],l',es,k0,hp,h=>by
    cases h
    have:es=[]:=by have:=hp.1; cases es with
      | nil=>rfl
      | cons _ _=>simp at this
    subst this
    refine .inl ⟨rfl,rfl,fun i k x e hx he => ?_,fun i k x e hx he => ?_⟩
    ·
      cases i with
      | zero=>simp at hx he; obtain ⟨rfl,rfl⟩:=hx; subst he; exact ⟨hpk,rfl⟩
      | succ i=>simp at hx
    ·
      cases i with
      | zero=>simp at hx he; obtain ⟨rfl,rfl⟩:=hx; subst he; exact hy
      | succ i=>simp at hx
  |
    (pk,px)::l,l',es,k0,hp,h=>by
    cases es with
    | nil=>have:=hp.1; simp at this
    |
      cons e es =>
      obtain ⟨hpke,rfl⟩:=hp.2.1 0 pk px e rfl rfl
      have hpx:=hp.2.2 0 _ px e rfl rfl
      change zf (WD key e.key) (fun b=>ifB b (some ((AV.v key,y)::l)) (zf (zfE key y l) fun r=>some ((AV.v e.key,px)::r)))=some l' at h
      obtain ⟨b,hb,h⟩:=za.1 h
      obtain ⟨hs,hkey⟩:=Yn hf hd hb
      cases b with
      |
        true =>
        cases h
        refine .inr ⟨0,e,by simp [Instr.findNow,hs],rfl,(hkey rfl).symm,?_,fun i k x e' hx he => ?_,fun i k x e' hx he => ?_⟩
        · have:=hp.1; simp at this ⊢; exact this
        ·
          cases i with
          | zero=>simp at hx he; obtain ⟨rfl,rfl⟩:=hx; subst he; exact ⟨hpk,rfl⟩
          | succ i=>simp at hx he; exact hp.2.1 (i + 1) k x e' (by simpa using hx) (by simpa using he)
        ·
          cases i with
          | zero=>simp at hx he; obtain ⟨rfl,rfl⟩:=hx; subst he; exact hy
          | succ i=>simp at hx he; exact hp.2.2 (i + 1) k x e' (by simpa using hx) (by simpa using he)
      |
        false =>
        obtain ⟨l2,hl2,h⟩:=za.1 h
        cases h
        have cons:∀ {es2:List MapEntry},PairsOk X j w l2 es2→PairsOk X j w ((AV.v e.key,px)::l2) (e::es2):=by
          intro es2 h2
          refine ⟨by simp [h2.1],fun i k x e' hx he => ?_,fun i k x e' hx he => ?_⟩
          ·
            cases i with
            | zero=>simp at hx he; obtain ⟨rfl,rfl⟩:=hx; subst he; exact ⟨hpke,rfl⟩
            | succ i=>simp at hx he; exact h2.2.1 i k x e' hx he
          ·
            cases i with
            | zero=>simp at hx he; obtain ⟨rfl,rfl⟩:=hx; subst he; exact hpx
            | succ i=>simp at hx he; exact h2.2.2 i k x e' hx he
        rcases Yo hf hpk hd hy l l2 es (k0 + 1) hp.tail hl2 with ⟨e1,e2⟩ | ⟨i,e',e1,e2,e3,e4⟩
        · exact .inl ⟨by simp [Instr.findNow,hs,e1],cons e2⟩
        · exact .inr ⟨i + 1,e',by simp [Instr.findNow,hs,e1]; omega,by simpa using e2,e3,by simpa using cons e4⟩
theorem Xc {kt:TypeId} {key:Value} (hf:vT C kt key=true):Instr.sameBits 10000 key key=true:=by
  rcases qU hf with ⟨k,n,k',rfl,_⟩ | ⟨s,rfl,_⟩ <;> simp [Instr.sameBits,kM]
theorem jx (p:Pre F j env H ρ w) {t:TypeId} {m k x:Operand} {o:Oper} (ho:o.op=.mapUpdate t m k x) (h:wZ t m k x C env H nb ty=some r):Good F j H w nb r ((execOp ρ o).run C.P w):=by
  replace h:=za.1 h; obtain ⟨ke,hke,h⟩:=h
  replace h:=za.1 h; obtain ⟨mm,hm,h⟩:=h
  replace h:=za.1 h; obtain ⟨jj,hjj,h⟩:=h
  replace h:=za.1 h; obtain ⟨key,hkey,h⟩:=h
  replace h:=za.1 h; obtain ⟨y,hy,h⟩:=h
  replace h:=zi.1 h; obtain ⟨hf,h⟩:=h
  have e1:=p.opd _ _ hjj
  rw [vJ hkey] at e1
  obtain ⟨e1,hpk⟩:=e1.v_eq
  have hr:=p.opd _ _ hm
  have hyr:=p.opd _ _ hy
  simp only [execOp,ho,e1]
  generalize ρ m=v at hr
  generalize ρ x=u at hyr
  obtain ⟨hu,d,hd,hkd⟩:=vW hke
  have hck:=fun b (w:World)=>qV (C:=C) b 9999 key hd hkd w
  cases mm <;> try (cases h; done)
  rename_i b
  replace h:=za.1 h; obtain ⟨l,hl,h⟩:=h
  replace h:=za.1 h; obtain ⟨l',hl',h⟩:=h
  cases h
  have hget:=vV hl
  cases hr with
  |
    hm hb =>
    rename_i B S
    obtain ⟨B',S',es,cl,h1,h2,h3,h4,h5⟩:=p.heap.maps b l hget
    rw [hb] at h1; cases h1
    have hp:PairsOk (XX F j H) j w l es.toList:=⟨by simpa using h3,fun i k x e hx he=>h4 i k x e hx (by simpa using he),fun i k x e hx he=>h5 i k x e hx (by simpa using he)⟩
    have hBlt:=(Array.getElem?_eq_some_iff.1 h2).1
    have fin:∀ (es2:Array MapEntry) (cl2:Nat),PairsOk (XX F j H) j w l' es2.toList→(Instr.mapUpdate t (.map (some B)) key u).run C.P w=.ok () { w with heap:=w.heap.setIfInBounds B (.map es2 cl2) } →
        Good F j H w nb ⟨.tuple [],[(b,.map l')],some [b]⟩ ((do Instr.mapUpdate t (.map (some B)) key u; Pure.pure Next.skip:Sem Next).run C.P w):=by
      intro es2 cl2 hp2 hrun
      have hs:({ w with heap:=w.heap.setIfInBounds B (.map es2 cl2) }:World).heap.size=w.heap.size:=by simp
      have hk:∀ B',B'≠B→({ w with heap:=w.heap.setIfInBounds B (.map es2 cl2) }:World).heap[B']? = w.heap[B']?:=fun B' hne=>by
        show (w.heap.setIfInBounds B _)[B']? = _
        rw [Array.getElem?_setIfInBounds_ne (Ne.symm hne)]
      have hB2:({ w with heap:=w.heap.setIfInBounds B (.map es2 cl2) }:World).heap[B]? = some (.map es2 cl2):=by
        show (w.heap.setIfInBounds B _)[B]? = _
        simp [hBlt]
      have hst:Still w { w with heap:=w.heap.setIfInBounds B (.map es2 cl2) }:=Still.put hk (fun c t fr h=>by rw [h2] at h; cases h) (fun c t fr h=>by rw [hB2] at h; cases h) rfl rfl
      refine ⟨.skip,undef,_,j,by simp [hrun],.inr ⟨rfl,rfl⟩,uK hget rfl hb hs hk hst,.tuple rfl (fun i x y hx=>by simp at hx),
        Y3 p.heap hget rfl hb hs hk hst hB2 (by simpa using hp2.1) (fun i k x e hx he=>hp2.2.1 i k x e hx (by simpa using he)) (fun i k x e hx he=>hp2.2.2 i k x e hx (by simpa using he)),fun _ _=>rfl⟩
    have hset:∀ (es2:Array MapEntry) (cl2:Nat),(setObj B (.map es2 cl2)).run C.P w=.ok () { w with heap:=w.heap.setIfInBounds B (.map es2 cl2) }:=fun es2 cl2=>by simp [setObj,Sem.run,h2]
    rcases Yo (cl:=cl) hf hpk hd hyr l l' es.toList 0 hp hl' with ⟨e2,e3⟩ | ⟨i,e,e2,e3,e4,e5⟩
    ·
      refine fin (es.push { key,val:=u,born:=cl }) (cl + 1) (by simpa using e3) ?_
      simp [Instr.mapUpdate,run_underlying hu,wk h2,hck,Instr.findKey,run_underlying hd,e2,hset]
    ·
      have e3':es[i]? = some e:=by simpa using e3
      have hilt:i < es.size:=(Array.getElem?_eq_some_iff.1 e3').1
      refine fin (es.modify i fun e=>{ e with key,val:=u }) cl ?_ ?_
      · have:(es.modify i fun e=>{ e with key,val:=u }).toList=es.toList.set i { e with key,val:=u }:=by
          rw [Array.toList_modify]
          apply List.ext_getElem?
          intro n
          rw [List.getElem?_modify,List.getElem?_set]
          by_cases hn:i=n
          · subst hn; have e6:es[i]=e:=(Array.getElem?_eq_some_iff.1 e3').2; simp [e3',hilt,e6]
          · simp [hn]
        rw [this]; exact e5
      ·
        have hsb:=Xc (C:=C) hf
        simp [Instr.mapUpdate,run_underlying hu,wk h2,hck,Instr.findKey,run_underlying hd,e2,e3',e4,Instr.keyThatStays,hsb,hset]
end
end Go.Abs
