/- WHAT THE EVALUATOR SAYS OF AN OPERATION, THE MACHINE DOES: memory. -/
import Derived.Test.YtdomagdnaohpbaaGreatDoorEvOps2
set_option linter.unusedSimpArgs false
set_option linter.unusedVariables false
namespace Go.Abs
section
variable {C:Cx} {F:Nat→Prop} {j:J} {env:T AV} {H:T Blk} {ρ:Operand→Value} {w:World} {nb:Nat} {ty:TypeId} {r:R} {X:Nat→Prop}
def Y8 (X:Nat→Prop) (j:J) (w:World) (t:T AV) (off B o:Nat):Prop:=∀ (i:Nat) (x:AV),t.get (off + i)=some x→∃ v,w.cell? ⟨B,o + i,none⟩=some v∧Rel X j w x v
theorem HeapOk.at {b:Nat} {t:T AV} {n:Nat} (ho:HeapOk X j w H) (h:∃ k,H.get b=some k∧k.body=some (t,n)) {B S:Nat} (hj:j b=some (B,S)) (off:Nat):Y8 X j w t off B off:=by
  intro i x hx
  obtain ⟨k,hk,hk2⟩:=h
  obtain ⟨B',S',arr,e,h1,h2,h3,h4,h5⟩:=ho.body b k t n hk hk2
  rw [hj] at h1; cases h1
  obtain ⟨v,hv,hr⟩:=h5 _ x hx
  exact ⟨v,by rw [cell_of_row w B (off + i) arr e (0,0) h2]; exact hv,hr⟩
theorem wc {b:Nat} {q:T AV×Nat} (h:cellsOf H b=some q):∃ k,H.get b=some k∧k.body=some (q.1,q.2):=by
  obtain ⟨k,hk,h⟩:=za.1 h
  rw [T.getB_eq] at hk
  cases k with
  | cells t n=>cases h; exact ⟨_,hk,rfl⟩
  | ro t p=>cases h; exact ⟨_,hk,rfl⟩
  | _=>cases h
theorem wj {b:Nat} {q:T AV×Nat} (h:yD H b=some q):H.get b=some (.cells q.1 q.2):=by
  obtain ⟨k,hk,h⟩:=za.1 h
  cases k with
  | cells t n=>cases h; exact hk
  | _=>cases h
theorem Zc {n b:Nat} {t:T AV} (h:Yf H n b=some t):∃ k m,H.get b=some k∧k.body=some (t,m)∧∀ t' p,k=.ro t' p→n≤p:=by
  obtain ⟨k,hk,h⟩:=za.1 h
  rw [T.getB_eq] at hk
  cases k with
  | cells t n=>cases h; exact ⟨_,_,hk,rfl,fun _ _ e=>by cases e⟩
  | ro t p=>obtain ⟨h1,h2⟩:=zi.1 h; cases h2; exact ⟨_,_,hk,rfl,fun _ _ e=>by cases e; exact zq.1 h1⟩
  | _=>cases h
theorem vV {b:Nat} {l:List (AV×AV)} (h:vA H b=some l):H.get b=some (.map l):=by
  obtain ⟨k,hk,h⟩:=za.1 h
  cases k with
  | map l=>cases h; exact hk
  | _=>cases h
theorem qm {t:T AV} {off B o n:Nat} {l:List AV} (hc:Y8 X j w t off B o) (h:take t off n=some l) :
    ∃ vs:List Value,vs.length=n∧l.length=n∧(∀ k v,vs[k]? = some v→w.cell? ((⟨B,o,none⟩:Addr).add k)=some v)∧∀ (k:Nat) (x:AV) (v:Value),l[k]? = some x→vs[k]? = some v→Rel X j w x v:=by
  obtain ⟨h1,h2⟩:=kG t n off l h
  refine ⟨(List.range n).map fun k=>(w.cell? ⟨B,o + k,none⟩).getD undef,by simp,h1,fun k v hv => ?_,fun k x v hx hv => ?_⟩
  ·
    have hk:k < n:=by have:=(List.getElem?_eq_some_iff.1 hv).1; simpa using this
    obtain ⟨x,hx⟩:∃ x,l[k]? = some x:=⟨_,List.getElem?_eq_getElem (by omega)⟩
    obtain ⟨u,hu,_⟩:=hc k x (by rw [h2 k hk]; exact hx)
    simp [hk,hu] at hv
    subst hv
    rw [Addr.add_eq]; exact hu
  ·
    have hk:k < n:=by have:=(List.getElem?_eq_some_iff.1 hv).1; simpa using this
    obtain ⟨u,hu,hr⟩:=hc k x (by rw [h2 k hk]; exact hx)
    simp [hk,hu] at hv
    subst hv; exact hr
theorem kJ {t:T AV} {off B o:Nat} {y:AV} (hc:Y8 X j w t off B o) (h:loadT C ty t off=some y):∃ v,(loadVar ty ⟨B,o,none⟩).run C.P w=.ok v w∧Rel X j w y v:=by
  unfold loadT at h
  cases ha:ub C ty with
  |
    true =>
    rw [ha,ifB_true] at h
    replace h:=za.1 h; obtain ⟨l,hl,h⟩:=h
    cases h
    obtain ⟨i,hi,hs⟩:=jc ha
    obtain ⟨vs,h1,h2,h3,h4⟩:=qm hc hl
    have e:(loadCells ⟨B,o,none⟩ (C.P.cellsOf ty)).run C.P w=.ok vs.toArray w:=by
      rw [← h1]; exact run_loadCells_list w _ vs h3
    refine ⟨.agg vs.toArray,by simp [loadVar,uM w (.inr ha),ha,sizeOf,typeInfo,hi,← hs,e],.agg (by simp; omega) (fun i x v hx hv=>h4 i x v hx (by simpa using hv))⟩
  |
    false =>
    rw [ha,zj] at h
    replace h:=zi.1 h; obtain ⟨hk,h⟩:=h
    rw [T.getA_eq] at h
    obtain ⟨v,hv,hr⟩:=hc 0 y (by simpa using h)
    exact ⟨v,by simp [loadVar,uM w (.inl hk),ha,show w.cell? ⟨B,o,none⟩=some v by simpa using hv],hr⟩
theorem UT (p:Pre F j env H ρ w) {t:TypeId} {x:Operand} (h:Wz t x C env H nb ty=some r):GoodV F j H w nb r ((Instr.loadAt t (ρ x)).run C.P w):=by
  replace h:=za.1 h; obtain ⟨y,hy,h⟩:=h
  have h1:=p.opd _ _ hy
  generalize ρ x=v at h1
  cases y <;> try (cases h; done)
  ·
    rename_i b off
    replace h:=za.1 h; obtain ⟨q,hq,h⟩:=h
    replace h:=za.1 h; obtain ⟨z,hz,h⟩:=h
    cases h
    cases h1 with
    |
      hp hb =>
      rename_i B S
      obtain ⟨v,hv,hr⟩:=kJ (p.heap.at (wc hq) hb off) hz
      have e:(Instr.loadAt t (.pointer (some ⟨B,off,none⟩))).run C.P w=.ok v w:=by simpa [Instr.loadAt,Instr.sureAddr] using hv
      rw [e]; exact GoodV.pure p.heap hr
  ·
    rename_i tt off
    replace h:=za.1 h; obtain ⟨z,hz,h⟩:=h
    cases h
    cases h1 with
    |
      vp f hB hlt hc hr =>
      rename_i B o
      obtain ⟨v,hv,hr'⟩:=kJ (C:=C) (ty:=t) (fun i x hx=>⟨f i,hc i x hx,(hr i x hx).lift⟩) hz
      have e:(Instr.loadAt t (.pointer (some ⟨B,o,none⟩))).run C.P w=.ok v w:=by simpa [Instr.loadAt,Instr.sureAddr] using hv
      rw [e]; exact GoodV.pure p.heap hr'
theorem xy {x:AV} {v:Value} (h:Rel X j w x v):x.cells.length=v.cells.size∧∀ (i:Nat) (y:AV) (u:Value),x.cells[i]? = some y→v.cells[i]? = some u→Rel X j w y u:=by
  have one:∀ {x:AV} {v:Value},Rel X j w x v→x.cells=[x]→v.cells = #[v]→x.cells.length=v.cells.size∧∀ (i:Nat) (y:AV) (u:Value),x.cells[i]? = some y→v.cells[i]? = some u→Rel X j w y u:=by
    intro x v h e1 e2
    rw [e1,e2]
    refine ⟨rfl,fun i y u hy hu => ?_⟩
    cases i with
    | zero=>simp at hy hu; subst hy; subst hu; exact h
    | succ i=>simp at hy
  cases h with
  | agg h1 h2=>exact ⟨h1,h2⟩
  | v hp=>exact one (.v hp) rfl (by cases v <;> first | rfl | cases hp)
  | hp h=>exact one (.hp h) rfl rfl
  | hs a b c d e=>exact one (.hs a b c d e) rfl rfl
  | vp f a b c d=>exact one (.vp f a b c d) rfl rfl
  | vs f a b c d e g h=>exact one (.vs f a b c d e g h) rfl rfl
  | fn a b c d=>exact one (.fn a b c d) rfl rfl
  | tuple a b=>exact one (.tuple a b) rfl rfl
  | hm a=>exact one (.hm a) rfl rfl
  | vm a b c d e g=>exact one (.vm a b c d e g) rfl rfl
theorem yM {l:List AV} {i:Nat} {x:AV} (h:(zu 0 T.nil l).get i=some x):l[i]? = some x:=by
  rw [wT] at h
  split at h
  · simpa using h
  · simp at h
theorem GoodV.new (ho:HeapOk (XX F j H) j w H) (hj:j nb=none) {x:AV} {l:List AV} {n:Nat} {arr:Array Value} {e:TypeId} {w':World} {v':Value} {rd:Option (List Nat)}
    (hlen:l.length≤arr.size) (hr:∀ (i:Nat) (y:AV) (u:Value),l[i]? = some y→arr[i]? = some u→Rel (XX F j H) j w y u) (hn:n≤arr.size) (hln:l.length≤n)
    (hw:w'.heap=w.heap.push (.cells arr e (0,0))) (hst:Still w w') (hv:∀ (X':Nat→Prop) (j':J),j' nb=some (w.heap.size,arr.size)→Rel X' j' w' x v') :
    GoodV F j H w nb ⟨x,[(nb,.cells (zu 0 T.nil l) n)],rd⟩ (.ok v' w'):=by
  refine ⟨v',w',j.upd nb (w.heap.size,arr.size),rfl,vH hj hw hst,hv _ _ J.upd_eq,WN ho hj hw hst hn (fun i y hy=>Nat.lt_of_lt_of_le (List.getElem?_eq_some_iff.1 (yM hy)).1 hln) (fun i y hy => ?_),fun b hb=>J.upd_ne hb⟩
  have hy':=yM hy
  obtain ⟨u,hu⟩:∃ u,arr[i]? = some u:=⟨_,Array.getElem?_eq_getElem (by have:=(List.getElem?_eq_some_iff.1 hy').1; omega)⟩
  exact ⟨u,hu,hr i y u hy' hu⟩
theorem xj {t:TypeId} {z:AV} (h:vw C t=some z):∃ i zv,C.P.info? t=some i∧i.zero=some zv∧ofValue zv=some z:=by
  unfold vw at h
  split at h
  ·
    rename_i i hi
    split at h
    · rename_i zv hz; exact ⟨i,zv,hi,hz,h⟩
    · cases h
  · cases h
theorem Zd {e:TypeId} {v:Value} (w:World):(newVar e v).run C.P w=.ok ⟨w.heap.size,0,none⟩ (w.alloc (.cells v.cells e)):=rfl
theorem WU (p:Pre F j env H ρ w) (hj:j nb=none) {t:TypeId} (h:zaB t C env H nb ty=some r):GoodV F j H w nb r ((Instr.alloc t true (.tuple #[])).run C.P w):=by
  replace h:=za.1 h; obtain ⟨z,hz,h⟩:=h
  rw [zZ,zr] at h
  cases h
  obtain ⟨i,zv,hi,hzv,hof⟩:=xj hz
  obtain ⟨h1,h2⟩:=xy (X:=XX F j H) (j:=j) (w:=w) (yJ hof)
  have e:(Instr.alloc t true (.tuple #[])).run C.P w=.ok (.pointer (some ⟨w.heap.size,0,none⟩)) (w.alloc (.cells zv.cells t)):=by
    simp [Instr.alloc,zeroValue,typeInfo,hi,hzv,Zd]
  rw [e,yb]
  exact GoodV.new p.heap hj (by omega) h2 (by omega) (by omega) rfl (Still.push rfl (fun _ _ _ h=>by cases h; rfl) rfl rfl) (fun X' j' hj'=>.hp hj')
theorem JB (p:Pre F j env H ρ w) (hj:j nb=none) {t:TypeId} {x:Operand} (h:zaC t x C env H nb ty=some r):GoodV F j H w nb r ((Instr.box t (ρ x)).run C.P w):=by
  replace h:=za.1 h; obtain ⟨z,hz,h⟩:=h
  rw [zZ,zr] at h
  cases h
  obtain ⟨h1,h2⟩:=xy (p.opd _ _ hz)
  have e:(Instr.box t (ρ x)).run C.P w=.ok (.pointer (some ⟨w.heap.size,0,none⟩)) (w.alloc (.cells (ρ x).cells t)):=by
    simp [Instr.box,Zd]
  rw [e,yb]
  exact GoodV.new p.heap hj (by omega) h2 (by omega) (by omega) rfl (Still.push rfl (fun _ _ _ h=>by cases h; rfl) rfl rfl) (fun X' j' hj'=>.hp hj')
theorem ZY (p:Pre F j env H ρ w) (hj:j nb=none) {t:TypeId} {q:Option Operand} (h:WA t q C env H nb ty=some r):GoodV F j H w nb r ((Instr.makeMap t (q.map ρ)).run C.P w):=by
  cases q with
  | some _=>cases h
  |
    none =>
    cases h
    exact ⟨.map (some w.heap.size),w.alloc (.map #[] 0),j.upd nb (w.heap.size,0),rfl,vH hj rfl (Still.push rfl (fun _ _ _ h=>by cases h) rfl rfl),.hm J.upd_eq,Y2 p.heap hj rfl (Still.push rfl (fun _ _ _ h=>by cases h) rfl rfl),fun b hb=>J.upd_ne hb⟩
theorem wB (w:World) (g:Nat) (cs:Array Value):(w.setRow g cs).heap.size=w.heap.size:=by simp [World.setRow]
theorem w7 (ho:HeapOk (XX F j H) j w H) {b B S n off:Nat} {t:T AV} {arr:Array Value} {e:TypeId} {l:List AV} {vs:List Value} (hb:H.get b=some (.cells t n)) (hj:j b=some (B,S))
    (hB:w.heap[B]? = some (.cells arr e (0,0))) (hS:arr.size=S) (hn:n≤S) (hold:∀ (i:Nat) (x:AV),t.get i=some x→∃ v,arr[i]? = some v∧Rel (XX F j H) j w x v)
    (hl:l.length=vs.length) (hr:∀ (i:Nat) (x:AV) (v:Value),l[i]? = some x→vs[i]? = some v→Rel (XX F j H) j w x v) (hoff:off + l.length≤n) :
    Trans j H w j (T.set b (.cells (zu off t l) n) H) (w.setRow B (arr.toList.take off++vs++arr.toList.drop (off + vs.length)).toArray) ∧
    HeapOk (XX F j (T.set b (.cells (zu off t l) n) H)) j (w.setRow B (arr.toList.take off++vs++arr.toList.drop (off + vs.length)).toArray) (T.set b (.cells (zu off t l) n) H):=by
  have hs:=wB w B (arr.toList.take off++vs++arr.toList.drop (off + vs.length)).toArray
  have hk:∀ B',B'≠B→(w.setRow B (arr.toList.take off++vs++arr.toList.drop (off + vs.length)).toArray).heap[B']? = w.heap[B']?:=fun B' h=>setRow_other w B B' _ h
  have hst:Still w (w.setRow B (arr.toList.take off++vs++arr.toList.drop (off + vs.length)).toArray):=Still.put hk (fun c t fr h=>by rw [hB] at h; cases h; rfl) (fun c t fr h=>by rw [setRow_heap w B arr _ e _ hB] at h; cases h; rfl) rfl rfl
  refine ⟨uK hb rfl hj hs hk hst,zaN ho hb rfl hj hs hk hst (setRow_heap w B arr _ e _ hB) (by simp; omega) hn (fun i x hx=>by
    rw [wT] at hx
    split at hx
    · omega
    · exact ho.full b t n hb i x hx) (fun i x hx => ?_)⟩
  rw [wT] at hx
  simp only [List.getElem?_toArray]
  split at hx
  ·
    rename_i hi
    obtain ⟨v,hv⟩:∃ v,vs[i - off]? = some v:=⟨_,List.getElem?_eq_getElem (by omega)⟩
    refine ⟨v,?_,hr _ _ _ hx hv⟩
    rw [List.getElem?_append_left (by simp; omega),List.getElem?_append_right (by simp; omega)]
    simpa [show min off arr.size=off by omega] using hv
  ·
    rename_i hi
    obtain ⟨v,hv,hr'⟩:=hold i x hx
    refine ⟨v,?_,hr'⟩
    by_cases hlt:i < off
    · rw [List.getElem?_append_left (by simp; omega),List.getElem?_append_left (by simp; omega),List.getElem?_take,if_pos hlt]; simpa using hv
    ·
      rw [List.getElem?_append_right (by simp; omega),List.getElem?_drop]
      have e:off + vs.length + (i - (List.take off arr.toList++vs).length)=i:=by simp; omega
      rw [e]; simpa using hv
theorem Y9 {l:List AV} {vs:List Value} (hl:l.length=vs.length) (hr:∀ (i:Nat) (x:AV) (v:Value),l[i]? = some x→vs[i]? = some v→Rel X j w x v) (h:allB oneCell l=true):∀ v ∈ vs,v.oneCell'=true:=by
  intro v hv
  obtain ⟨i,hi⟩:=List.getElem?_of_mem hv
  obtain ⟨x,hx⟩:∃ x,l[i]? = some x:=⟨_,List.getElem?_eq_getElem (by have:=(List.getElem?_eq_some_iff.1 hi).1; omega)⟩
  exact (hr i x v hx hi).oneCell (z6.1 h x (List.mem_of_getElem? hx))
theorem WV (p:Pre F j env H ρ w) {t:TypeId} {x y:Operand} {o:Oper} (ho:o.op=.store t x y) (h:jT t x y C env H nb ty=some r):Good F j H w nb r ((execOp ρ o).run C.P w):=by
  replace h:=za.1 h; obtain ⟨a,ha,h⟩:=h
  replace h:=za.1 h; obtain ⟨z,hz,h⟩:=h
  have h1:=p.opd _ _ ha
  have h2:=p.opd _ _ hz
  simp only [execOp,ho]
  generalize ρ x=v at h1
  generalize ρ y=u at h2
  cases a <;> try (cases h; done)
  rename_i b off
  replace h:=za.1 h; obtain ⟨q,hq,h⟩:=h
  replace h:=zi.1 h; obtain ⟨hg,h⟩:=h
  rw [zl,zl,zl,beq_true,zq,yb] at hg
  obtain ⟨hk,hlen,hle,hone⟩:=hg
  rw [zZ] at h
  cases h
  cases h1 with
  |
    hp hb =>
    rename_i B S
    have hget:=wj hq
    obtain ⟨B',S',arr,e,g1,g2,g3,g4,g5⟩:=p.heap.cells _ _ _ hget
    rw [hb] at g1; cases g1
    obtain ⟨c1,c2⟩:=xy h2
    have hle:off + z.cells.length≤q.2:=hle
    have c1':z.cells.length=u.cells.toList.length:=by simpa using c1
    have c2':∀ (i:Nat) (x:AV) (v:Value),z.cells[i]? = some x→u.cells.toList[i]? = some v→Rel (XX F j H) j w x v:=fun i x v hx hv=>c2 i x v hx (by simpa using hv)
    have hst:=run_storeCells_at C.P B off e u.cells.toList 0 arr w g2 (by omega) (Y9 c1' c2' hone)
    obtain ⟨w1,w2⟩:=w7 p.heap hget hb g2 g3 g4 g5 c1' c2' hle
    simp only [Nat.add_zero] at hst
    obtain ⟨i,zz,i1,_,i2,_⟩:=j_ hk
    have e:(do Instr.storeAt t (.pointer (some ⟨B,off,none⟩)) u; Pure.pure Next.skip:Sem Next).run C.P w=.ok .skip (w.setRow B (arr.toList.take off++u.cells.toList++arr.toList.drop (off + u.cells.toList.length)).toArray):=by
      simp only [Instr.storeAt,Instr.sureAddr,storeVar,Sem.run_bind,Sem.run_pure,Result.andThen_ok,z7 hk]
      rw [show u.cells.size=C.P.cellsOf t by omega]
      simp [hst]
    refine ⟨.skip,undef,_,j,e,.inr ⟨rfl,rfl⟩,w1,.tuple rfl (fun i x y hx=>by simp at hx),w2,fun _ _=>rfl⟩
theorem y5 (z:List AV) (n:Nat):(vB z n).length=n * z.length:=by
  induction n with
  | zero=>show ([]:List AV).length=_; simp
  | succ n ih=>show (z5 z (vB z n)).length=_; rw [yg,List.length_append,ih,Nat.succ_mul]; omega
theorem Yk (z:List AV) (n:Nat):∀ i,i < n * z.length→(vB z n)[i]? = z[i % z.length]?:=by
  induction n with
  | zero=>intro i h; simp at h
  |
    succ n ih =>
    intro i h
    show (z5 z (vB z n))[i]? = _
    rw [yg]
    by_cases hi:i < z.length
    · rw [List.getElem?_append_left hi,Nat.mod_eq_of_lt hi]
    ·
      rw [List.getElem?_append_right (by omega),ih (i - z.length) (by rw [Nat.succ_mul] at h; omega)]
      rw [Nat.mod_eq_sub_mod (by omega:i ≥ z.length)]
theorem kK {z:List AV} {zc:Array Value} (h1:z.length=zc.size) (h2:∀ (i:Nat) (y:AV) (u:Value),z[i]? = some y→zc[i]? = some u→Rel X j w y u) (m:Nat) :
    ∀ (i:Nat) (y:AV) (u:Value),(vB z m)[i]? = some y→(madeCells zc (m * zc.size))[i]? = some u→Rel X j w y u:=by
  intro i y u hy hu
  have hlt:i < m * z.length:=by have:=(List.getElem?_eq_some_iff.1 hy).1; rwa [y5] at this
  rw [Yk z m i hlt] at hy
  have hlt':i < m * zc.size:=by rw [← h1]; exact hlt
  have hu':zc[i % zc.size]! = u:=by
    unfold madeCells at hu
    rw [Array.getElem?_map,Array.getElem?_range] at hu
    simpa [hlt'] using hu
  have hpos:0 < zc.size:=by
    rcases Nat.eq_zero_or_pos zc.size with h | h
    · rw [h] at hlt'; simp at hlt'
    · exact h
  have hm:i % zc.size < zc.size:=Nat.mod_lt _ hpos
  rw [h1] at hy
  refine h2 _ _ _ hy ?_
  rw [← hu']
  simp [hm]
theorem UU (a b:Nat) (h:a≤b):(a:Int)≤b:=by omega
theorem jw (p:Pre F j env H ρ w) (hj:j nb=none) {t:TypeId} {l c:Operand} (h:wW t l c C env H nb ty=some r):GoodV F j H w nb r ((Instr.makeSlice t (ρ l) (ρ c)).run C.P w):=by
  replace h:=za.1 h; obtain ⟨e,he,h⟩:=h
  replace h:=za.1 h; obtain ⟨a,ha,h⟩:=h
  replace h:=za.1 h; obtain ⟨b,hb,h⟩:=h
  replace h:=za.1 h; obtain ⟨n,hn,h⟩:=h
  replace h:=za.1 h; obtain ⟨m,hm,h⟩:=h
  replace h:=za.1 h; obtain ⟨z,hz,h⟩:=h
  replace h:=zi.1 h; obtain ⟨hg,h⟩:=h
  rw [zl,zl,zl,zq,zq,zq,beq_true,yb] at hg
  obtain ⟨hnm,hby,hmm,hzl⟩:=hg
  rw [zZ,zr,zr] at h
  cases h
  obtain ⟨k,rfl⟩:=w6 hn
  obtain ⟨k',rfl⟩:=w6 hm
  rw [(p.opd _ _ ha).v_eq.1,(p.opd _ _ hb).v_eq.1]
  obtain ⟨hu,hk⟩:=ya he
  obtain ⟨i,zv,hi,hzv,hof⟩:=xj hz
  obtain ⟨i',z',hi',hz',hc1,hc2⟩:=j_ hk
  rw [hi] at hi'; cases hi'
  obtain ⟨h1,h2⟩:=xy (X:=XX F j H) (j:=j) (w:=w) (yJ hof)
  have hby':m * C.P.bytesOf e≤140737488355328:=hby
  have hcast:(i.bytes:Int) * (m:Int)≤281474976710656:=by
    have:i.bytes * m≤140737488355328:=by rw [← hc2,Nat.mul_comm]; exact hby'
    have h3:((i.bytes * m:Nat):Int)≤((140737488355328:Nat):Int):=UU _ _ this
    rw [Int.natCast_mul] at h3; omega
  have hrun:=run_make (P:=C.P) w t e i zv hu hi hzv k k' (n:Int) (m:Int) (by omega) (by omega) hcast (by omega)
  simp only [Int.toNat_natCast] at hrun
  rw [Int.ofNat_eq_natCast,Int.ofNat_eq_natCast,hrun]
  have hsz:C.P.cellsOf e=zv.cells.size:=by omega
  have hsz':i.size=zv.cells.size:=by omega
  rw [hsz,hsz']
  refine GoodV.new p.heap hj (by rw [y5,size_madeCells,h1]; exact Nat.le_refl _) (kK h1 h2 m) (by rw [size_madeCells]; exact Nat.le_refl _) (by rw [y5]; exact Nat.le_of_eq (by rw [h1]; rfl)) rfl (Still.push rfl (fun _ _ _ h=>by cases h; rfl) rfl rfl) (fun X' j' hj' => ?_)
  rw [size_madeCells] at hj'
  exact .hs hj' hnm (Nat.le_refl _) (fun _=>rfl) (fun _=>⟨rfl,by omega⟩)
end
end Go.Abs
