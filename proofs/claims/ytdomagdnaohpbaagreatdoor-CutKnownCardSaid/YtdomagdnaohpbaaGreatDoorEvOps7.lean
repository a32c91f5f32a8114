/- WHAT THE EVALUATOR SAYS OF AN OPERATION, THE MACHINE DOES: the other builtins; all operations. -/
import Derived.Test.YtdomagdnaohpbaaGreatDoorEvOps6
import Derived.BigFrame
set_option linter.unusedSimpArgs false
set_option linter.unusedVariables false
namespace Go.Abs
section
variable {C:Cx} {F:Nat→Prop} {j:J} {env:T AV} {H:T Blk} {ρ:Operand→Value} {w w':World} {nb:Nat} {ty:TypeId} {r:R} {X:Nat→Prop}
theorem W1 {e:TypeId} (hk:okT C e=true) (w:World):∃ i,C.P.info? e=some i:=by
  have:=z7 hk w
  cases hq:C.P.info? e with
  | some i=>exact ⟨i,rfl⟩
  | none=>simp [sizeOf,typeInfo,hq] at this
theorem UX {x:AV} {v:Value} {n:Nat} (hr:Rel X j w x v) (h:qN x=some n) (w':World):(Builtin.lenOf v).run C.P w'=.ok n w':=by
  rcases yF hr h with ⟨rfl,rfl⟩ | ⟨B,o,c,rfl,_⟩ <;> rfl
theorem UY (p:Pre F j env H ρ w) {dt xt:TypeId} {d x:AV} {dv xv:Value} (hd:Rel (XX F j H) j w d dv) (hx:Rel (XX F j H) j w x xv) (h:zaG C H dt d x=some r) :
    GoodV F j H w nb r ((Builtin.copy_ #[dt,xt] ty #[dv,xv]).run C.P w):=by
  replace h:=za.1 h; obtain ⟨elem,he,h⟩:=h
  replace h:=za.1 h; obtain ⟨dl,hdl,h⟩:=h
  replace h:=za.1 h; obtain ⟨xl,hxl,h⟩:=h
  rw [zr] at h
  obtain ⟨hu,hk⟩:=ya he
  obtain ⟨i,hi⟩:=W1 hk w
  have hsz:=xz hi
  have hmin:ifB (Nat.ble xl dl) xl dl=Nat.min xl dl:=by
    rw [jB]; show _=min xl dl; split <;> omega
  rw [hmin] at h
  have hlen:=fun w'=>UX (C:=C) hx hxl w'
  have hle1:Nat.min xl dl≤xl:=Nat.min_le_left ..
  have hle2:Nat.min xl dl≤dl:=Nat.min_le_right ..
  generalize hm:Nat.min xl dl=n at h
  cases hn0:Nat.beq n 0 with
  |
    true =>
    rw [hn0,ifB_true] at h
    cases h
    obtain rfl:=beq_true.1 hn0
    have hfc:(Builtin.firstCells i.size 0 xv).run C.P w=.ok #[] w:=by
      rcases yF hx hxl with ⟨rfl,_⟩ | ⟨B,o,c,rfl,_⟩
      · rfl
      · simp [Builtin.firstCells,loadCells,loadCellsFrom]
    have e:(Builtin.copy_ #[dt,xt] ty #[dv,xv]).run C.P w=.ok (.int .i64 (.ofNat 0)) w:=by
      rcases yF hd hdl with ⟨rfl,rfl⟩ | ⟨B,o,c,rfl,hle⟩
      · simp [Builtin.copy_,run_underlying hu,sizeOf,typeInfo,hi,hlen,hfc,hm,goInt]
      · simp [Builtin.copy_,run_underlying hu,sizeOf,typeInfo,hi,hlen,hfc,hm,goInt,storeCells]
    rw [e]; exact GoodV.pure p.heap (.v rfl)
  |
    false =>
    have hn1:n≠0:=by rintro rfl; cases hn0
    rw [hn0,zj] at h
    replace h:=za.1 h; obtain ⟨q,hq,h⟩:=h
    replace h:=zi.1 h; obtain ⟨hone,h⟩:=h
    obtain ⟨vs,e1,e2,e3,e4⟩:=wt p.heap hx hxl hq
    have e1:vs.length=n * C.P.cellsOf elem:=e1
    have e2:q.1.length=n * C.P.cellsOf elem:=e2
    obtain ⟨B,o,c,rfl,hxle⟩:∃ B o c,xv=.slice (some ⟨B,o,none⟩) xl c∧xl≤c:=by
      rcases yF hx hxl with ⟨_,rfl⟩ | ⟨B,o,c,e,hle⟩
      ·
        have:Nat.min 0 dl=0:=Nat.zero_min dl
        omega
      · exact ⟨B,o,c,e,hle⟩
    have hcells:∀ (j:Nat) (v:Value),vs[j]? = some v→w.cell? ((⟨B,o,none⟩:Addr).add j)=some v:=by
      rcases e4 with ⟨e,_⟩ | ⟨B',o',c',e,hc⟩
      · cases e
      · cases e; exact hc (by omega)
    have hfc:(Builtin.firstCells i.size n (.slice (some ⟨B,o,none⟩) xl c)).run C.P w=.ok vs.toArray w:=run_firstCells_some w i.size n _ xl c vs (by rw [← hsz]; exact e1) hcells
    cases d <;> try (cases h; done)
    rename_i b off dlen es lo ex
    cases hdl
    replace h:=za.1 h; obtain ⟨cb,hcb,h⟩:=h
    replace h:=zi.1 h; obtain ⟨hfit,h⟩:=h
    rw [zZ] at h
    cases h
    have hfit:off + n * C.P.cellsOf elem≤cb.2:=zq.1 hfit
    have hget:=wj hcb
    obtain ⟨B2,S2,arr,e,g1,g2,g3,g4,g5⟩:=p.heap.cells b cb.1 cb.2 hget
    cases hd with
    |
      hs hb k1 k2 k3 k4 =>
      rw [hb] at g1; cases g1
      rename_i od cd
      have hcd:cd≠0:=fun h0=>hn1 (Nat.le_zero.1 (h0 ▸ Nat.le_trans (hm ▸ hle2:n≤dl) (Nat.le_trans k1 k2)))
      obtain ⟨rfl,hS⟩:=k4 hcd
      have a1:q.1.length=vs.length:=e2.trans e1.symm
      have a2:od + q.1.length≤cb.2:=by rw [e2]; exact hfit
      have a3:od + 0 + vs.length≤arr.size:=by rw [e1,g3]; exact Nat.le_trans hfit g4
      obtain ⟨w1,w2⟩:=w7 p.heap hget hb g2 g3 g4 g5 (l:=q.1) (vs:=vs) (off:=od) a1 e3 a2
      have hst:=run_storeCells_at C.P B2 od e vs 0 arr w g2 a3 (Y9 a1 e3 hone)
      have e:(Builtin.copy_ #[dt,xt] ty #[.slice (some ⟨B2,od,none⟩) dl cd,.slice (some ⟨B,o,none⟩) xl c]).run C.P w=.ok (.int .i64 (.ofNat n)) (w.setRow B2 (arr.toList.take od++vs++arr.toList.drop (od + vs.length)).toArray):=by
        simp only [Nat.add_zero] at hst
        simp [Builtin.copy_,run_underlying hu,sizeOf,typeInfo,hi,hlen,hfc,hm,goInt,hst]
      rw [e]
      exact ⟨_,_,j,rfl,w1,.v rfl,w2,fun _ _=>rfl⟩
theorem W4 (p:Pre F j env H ρ w) {dt:TypeId} {d:AV} {dv:Value} (hd:Rel (XX F j H) j w d dv) (h:UN C H dt d=some r) :
    GoodV F j H w nb r ((Builtin.clear_ #[dt] ty #[dv]).run C.P w):=by
  replace h:=za.1 h; obtain ⟨elem,he,h⟩:=h
  replace h:=za.1 h; obtain ⟨n,hn,h⟩:=h
  obtain ⟨hu,hk⟩:=ya he
  cases hn0:Nat.beq n 0 with
  |
    true =>
    rw [hn0,ifB_true] at h
    cases h
    obtain rfl:=beq_true.1 hn0
    have e:(Builtin.clear_ #[dt] ty #[dv]).run C.P w=.ok (.tuple #[]) w:=by
      rcases yF hd hn with ⟨rfl,_⟩ | ⟨B,o,c,rfl,hle⟩ <;> simp [Builtin.clear_,run_underlying hu]
    rw [e]; exact GoodV.pure p.heap (.tuple rfl (fun i x y hx=>by simp at hx))
  |
    false =>
    have hn1:n≠0:=by rintro rfl; cases hn0
    rw [hn0,zj] at h
    replace h:=za.1 h; obtain ⟨z,hz,h⟩:=h
    replace h:=zi.1 h; obtain ⟨hg,h⟩:=h
    rw [zl,beq_true,yb] at hg
    obtain ⟨hone,hzl⟩:=hg
    obtain ⟨i,zv,hi,hzv,hof⟩:=xj hz
    obtain ⟨h1,h2⟩:=xy (X:=XX F j H) (j:=j) (w:=w) (yJ hof)
    have hzeros:=kK h1 h2 n
    cases d <;> try (cases h; done)
    rename_i b off dlen es lo ex
    cases hn
    replace h:=za.1 h; obtain ⟨cb,hcb,h⟩:=h
    replace h:=zi.1 h; obtain ⟨hfit,h⟩:=h
    rw [zZ] at h
    cases h
    have hfit:off + n * C.P.cellsOf elem≤cb.2:=zq.1 hfit
    have hget:=wj hcb
    obtain ⟨B2,S2,arr,e,g1,g2,g3,g4,g5⟩:=p.heap.cells b cb.1 cb.2 hget
    have hzs:zv.cells.size=C.P.cellsOf elem:=by omega
    have hvs:(Builtin.zeroCells zv.cells n).toList.length=n * C.P.cellsOf elem:=by rw [Array.length_toList,size_zeroCells,hzs]
    have hlz:(vB z.cells n).length=n * C.P.cellsOf elem:=by rw [y5,hzl]
    have hrz:∀ (i:Nat) (x:AV) (v:Value),(vB z.cells n)[i]? = some x→(Builtin.zeroCells zv.cells n).toList[i]? = some v→Rel (XX F j H) j w x v:=fun i x v hx hv =>
      hzeros i x v hx (by rw [← Array.getElem?_toList]; exact hv)
    cases hd with
    |
      hs hb k1 k2 k3 k4 =>
      rw [hb] at g1; cases g1
      rename_i od cd
      obtain ⟨rfl,hS⟩:=k4 (by omega)
      obtain ⟨w1,w2⟩:=w7 p.heap hget hb g2 g3 g4 g5 (l:=vB z.cells n) (vs:=(Builtin.zeroCells zv.cells n).toList) (off:=od) (by omega) hrz (by omega)
      have hone':allB oneCell (vB z.cells n)=true:=by
        rw [z6] at hone ⊢
        intro x hx
        obtain ⟨k,hk⟩:=List.getElem?_of_mem hx
        have hlt:=(List.getElem?_eq_some_iff.1 hk).1
        rw [y5] at hlt
        rw [Yk _ _ _ hlt] at hk
        exact hone x (List.mem_of_getElem? hk)
      have hst:=run_storeCells_at C.P B2 od e _ 0 arr w g2 (by omega) (Y9 (by omega) hrz hone')
      simp only [Nat.add_zero] at hst
      have hzero:(zeroValue elem).run C.P w=.ok zv w:=by simp [zeroValue,typeInfo,hi,hzv]
      have e:(Builtin.clear_ #[dt] ty #[.slice (some ⟨B2,od,none⟩) n cd]).run C.P w=.ok (.tuple #[]) (w.setRow B2 (arr.toList.take od++(Builtin.zeroCells zv.cells n).toList++arr.toList.drop (od + (Builtin.zeroCells zv.cells n).toList.length)).toArray):=by
        obtain ⟨m,rfl⟩:∃ m,n=m + 1:=⟨n - 1,by omega⟩
        simp only [Builtin.clear_,Sem.run_bind,run_underlying hu,Result.andThen_ok,List.getElem?_toArray,List.getElem?_cons_zero,hzero,hst,Sem.run_pure]
      rw [e]
      exact ⟨_,_,j,rfl,w1,.tuple rfl (fun i x y hx=>by simp at hx),w2,fun _ _=>rfl⟩
theorem JC (p:Pre F j env H ρ w) {t:TypeId} {x:AV} {v:Value} (hx:Rel (XX F j H) j w x v) (h:zfF C H t x=some r) :
    GoodV F j H w nb r ((Builtin.len_ #[t] ty #[v]).run C.P w):=by
  cases x <;> try (cases h; done)
  ·
    rename_i z
    obtain ⟨rfl,hz⟩:=hx.v_eq
    cases v <;> try (cases h; done)
    case string s =>
      replace h:=zi.1 h; obtain ⟨ht,h⟩:=h
      rw [zr,yb] at h
      cases h
      have hu:=yL ht
      have e:(Builtin.len_ #[t] ty #[.string s]).run C.P w=.ok (.int .i64 (.ofNat s.data.toList.length)) w:=by
        simp [Builtin.len_,run_underlying hu,goInt]
      rw [e]; exact GoodV.pure p.heap (.v rfl)
    case slice a n c =>
      replace h:=zi.1 h; obtain ⟨hg,h⟩:=h
      rw [zl] at hg
      obtain ⟨e,hu⟩:=wQ hg.2
      have e1:=uN (v:=.nilFunc) hg.1 hz
      cases e1
      cases h
      have e:(Builtin.len_ #[t] ty #[.slice none 0 0]).run C.P w=.ok (.int .i64 (.ofNat 0)) w:=by
        simp [Builtin.len_,run_underlying hu,goInt]
      rw [e]; exact GoodV.pure p.heap (.v rfl)
    all_goals (replace h:=zi.1 h; obtain ⟨hg,h⟩:=h; rw [zl] at hg; cases hg.1)
  ·
    rename_i b off len es lo ex
    replace h:=zi.1 h; obtain ⟨ht,h⟩:=h
    obtain ⟨e',hu⟩:=wQ ht
    cases h
    cases hx with
    |
      hs hb k1 k2 k3 k4 =>
      rename_i B S o c
      have e:(Builtin.len_ #[t] ty #[.slice (some ⟨B,o,none⟩) len c]).run C.P w=.ok (.int .i64 (.ofNat len)) w:=by
        simp [Builtin.len_,run_underlying hu,goInt]
      rw [e]; exact GoodV.pure p.heap (.v rfl)
  ·
    rename_i tt off len es lo ex
    replace h:=zi.1 h; obtain ⟨ht,h⟩:=h
    obtain ⟨e',hu⟩:=wQ ht
    cases h
    cases hx with
    |
      vs f hB hlt k1 k2 k3 hc hr' =>
      rename_i B o c
      have e:(Builtin.len_ #[t] ty #[.slice (some ⟨B,o,none⟩) len c]).run C.P w=.ok (.int .i64 (.ofNat len)) w:=by
        simp [Builtin.len_,run_underlying hu,goInt]
      rw [e]; exact GoodV.pure p.heap (.v rfl)
  ·
    replace h:=za.1 h; obtain ⟨q,hq,h⟩:=h
    obtain ⟨hu,hk⟩:=yE hq
    cases h
    have e:(Builtin.len_ #[t] ty #[v]).run C.P w=.ok (.int .i64 (.ofNat q.1)) w:=by
      simp [Builtin.len_,run_underlying hu,goInt]
    rw [e]; exact GoodV.pure p.heap (.v rfl)
  ·
    rename_i b
    replace h:=za.1 h; obtain ⟨q,hq,h⟩:=h
    replace h:=za.1 h; obtain ⟨l,hl,h⟩:=h
    rw [zr,yb] at h
    cases h
    obtain ⟨hu,_⟩:=vW hq
    cases hx with
    |
      hm hb =>
      rename_i B S
      obtain ⟨B2,S2,es,cl,h1,h2,h3,h4,h5⟩:=p.heap.maps b l (vV hl)
      rw [hb] at h1; cases h1
      have e:(Builtin.len_ #[t] ty #[.map (some B)]).run C.P w=.ok (.int .i64 (.ofNat l.length)) w:=by
        simp [Builtin.len_,run_underlying hu,goInt,wk h2,h3]
      rw [e]; exact GoodV.pure p.heap (.v rfl)
  ·
    rename_i l
    replace h:=za.1 h; obtain ⟨q,hq,h⟩:=h
    rw [zr,yb] at h
    cases h
    obtain ⟨hu,_⟩:=vW hq
    cases hx with
    |
      vm hB hlt hm hl hk hr' =>
      rename_i B es cl
      have e:(Builtin.len_ #[t] ty #[.map (some B)]).run C.P w=.ok (.int .i64 (.ofNat l.length)) w:=by
        simp [Builtin.len_,run_underlying hu,goInt,wk hm,hl]
      rw [e]; exact GoodV.pure p.heap (.v rfl)
theorem vY {β:Type} {x:AV} {f:IntKind→Int→Option β} {y:β} (h:xi x none f=some y):∃ k n,x=.v (.int k n)∧f k n=some y:=by
  rcases wA x with ⟨k,n,rfl⟩ | hq
  · exact ⟨k,n,rfl,h⟩
  · rw [hq] at h; cases h
theorem JD (p:Pre F j env H ρ w) {ts:Array TypeId} {x y:AV} {xv yv:Value} (hx:Rel (XX F j H) j w x xv) (hy:Rel (XX F j H) j w y yv) (h:bMax x y=some r) :
    GoodV F j H w nb r ((Builtin.max_ ts ty #[xv,yv]).run C.P w):=by
  replace h:=vY h; obtain ⟨k,a,rfl,h⟩:=h
  replace h:=vY h; obtain ⟨k',b,rfl,h⟩:=h
  replace h:=zi.1 h; obtain ⟨hk,h⟩:=h
  obtain rfl:=vI hk
  rw [hx.v_eq.1,hy.v_eq.1]
  rw [kI] at h
  have e:(Builtin.max_ ts ty #[.int k a,.int k b]).run C.P w=.ok (.int k (if b > a then b else a)) w:=by
    simp [Builtin.max_,Builtin.max2]
  rw [e]
  by_cases hlt:a < b
  · rw [if_pos hlt]; rw [decide_eq_true hlt] at h; cases h; exact GoodV.pure p.heap (.v rfl)
  · rw [if_neg hlt]; rw [decide_eq_false hlt] at h; cases h; exact GoodV.pure p.heap (.v rfl)
theorem JE (p:Pre F j env H ρ w) {ts:Array TypeId} {x y:AV} {xv yv:Value} (hx:Rel (XX F j H) j w x xv) (hy:Rel (XX F j H) j w y yv) (h:bMin x y=some r) :
    GoodV F j H w nb r ((Builtin.min_ ts ty #[xv,yv]).run C.P w):=by
  replace h:=vY h; obtain ⟨k,a,rfl,h⟩:=h
  replace h:=vY h; obtain ⟨k',b,rfl,h⟩:=h
  replace h:=zi.1 h; obtain ⟨hk,h⟩:=h
  obtain rfl:=vI hk
  rw [hx.v_eq.1,hy.v_eq.1]
  rw [kI] at h
  have e:(Builtin.min_ ts ty #[.int k a,.int k b]).run C.P w=.ok (.int k (if b < a then b else a)) w:=by
    simp [Builtin.min_,Builtin.min2]
  rw [e]
  by_cases hlt:b < a
  · rw [if_pos hlt]; rw [decide_eq_true hlt] at h; cases h; exact GoodV.pure p.heap (.v rfl)
  · rw [if_neg hlt]; rw [decide_eq_false hlt] at h; cases h; exact GoodV.pure p.heap (.v rfl)
theorem vK {α:Type} {l:List α} {f:α→α→Option R} (h:two l f=some r):∃ x y,l=[x,y]∧f x y=some r:=by
  replace h:=za.1 h; obtain ⟨x,hx,h⟩:=h
  replace h:=za.1 h; obtain ⟨y,hy,h⟩:=h
  replace h:=zi.1 h; obtain ⟨hl,h⟩:=h
  rw [ws] at hx hy
  rw [beq_true,yb] at hl
  match l,hl with
  | [a,b],_=>cases hx; cases hy; exact ⟨x,y,rfl,h⟩
theorem qX {α:Type} {l:List α} {f:α→Option R} (h:one l f=some r):∃ x,l=[x]∧f x=some r:=by
  replace h:=za.1 h; obtain ⟨x,hx,h⟩:=h
  replace h:=zi.1 h; obtain ⟨hl,h⟩:=h
  rw [ws] at hx
  rw [beq_true,yb] at hl
  match l,hl with
  | [a],_=>cases hx; exact ⟨x,rfl,h⟩
theorem qY {vs:Array Value} {x y:AV} (hl:[x,y].length=vs.size) (hr:∀ (i:Nat) (a:AV) (v:Value),[x,y][i]? = some a→vs[i]? = some v→Rel X j w a v) :
    ∃ a b,vs = #[a,b]∧Rel X j w x a∧Rel X j w y b:=by
  rcases vs with ⟨vs⟩
  cases vs with
  | nil=>cases hl
  |
    cons a vs=>cases vs with
    | nil=>cases hl
    |
      cons b vs=>cases vs with
      | cons c vs=>cases hl
      | nil=>exact ⟨a,b,rfl,hr 0 x a rfl rfl,hr 1 y b rfl rfl⟩
theorem W5 {vs:Array Value} {x:AV} (hl:[x].length=vs.size) (hr:∀ (i:Nat) (a:AV) (v:Value),[x][i]? = some a→vs[i]? = some v→Rel X j w a v) :
    ∃ a,vs = #[a]∧Rel X j w x a:=by
  rcases vs with ⟨vs⟩
  cases vs with
  | nil=>cases hl
  |
    cons a vs=>cases vs with
    | cons c vs=>cases hl
    | nil=>exact ⟨a,rfl,hr 0 x a rfl rfl⟩
theorem Kf {α:Type} {ts:Array α} {a b:α} (h:ts.toList=[a,b]):ts = #[a,b]:=by rcases ts with ⟨ts⟩; cases h; rfl
theorem Kg {α:Type} {ts:Array α} {a:α} (h:ts.toList=[a]):ts = #[a]:=by rcases ts with ⟨ts⟩; cases h; rfl
theorem Z2 (p:Pre F j env H ρ w) (hj:j nb=none) {b:Builtin} {args:Array Operand} {ts:Array TypeId} {cs:Array Bool} (h:vE b args ts C env H nb ty=some r) :
    Good F j H w nb r ((builtin b ts ty cs (args.map ρ)).run C.P w):=by
  replace h:=za.1 h; obtain ⟨l,hl,h⟩:=h
  obtain ⟨hlen,hrel⟩:=um p hl
  cases b <;> try (cases h; done)
  case append =>
    replace h:=vK h; obtain ⟨x,y,rfl,h⟩:=h
    replace h:=vK h; obtain ⟨t,u,ht,h⟩:=h
    obtain ⟨a,b,hv,ha,hb⟩:=qY hlen hrel
    rw [hv,Kf ht]
    exact Good.ofV (Xe p hj ha hb h)
  case copy =>
    replace h:=vK h; obtain ⟨x,y,rfl,h⟩:=h
    replace h:=vK h; obtain ⟨t,u,ht,h⟩:=h
    obtain ⟨a,b,hv,ha,hb⟩:=qY hlen hrel
    rw [hv,Kf ht]
    exact Good.ofV (UY p ha hb h)
  case clear =>
    replace h:=qX h; obtain ⟨x,rfl,h⟩:=h
    replace h:=qX h; obtain ⟨t,ht,h⟩:=h
    obtain ⟨a,hv,ha⟩:=W5 hlen hrel
    rw [hv,Kg ht]
    exact Good.ofV (W4 p ha h)
  case len =>
    replace h:=qX h; obtain ⟨x,rfl,h⟩:=h
    replace h:=qX h; obtain ⟨t,ht,h⟩:=h
    obtain ⟨a,hv,ha⟩:=W5 hlen hrel
    rw [hv,Kg ht]
    exact Good.ofV (JC p ha h)
  case max =>
    replace h:=vK h; obtain ⟨x,y,rfl,h⟩:=h
    obtain ⟨a,b,hv,ha,hb⟩:=qY hlen hrel
    rw [hv]
    exact Good.ofV (JD p ha hb h)
  case min =>
    replace h:=vK h; obtain ⟨x,y,rfl,h⟩:=h
    obtain ⟨a,b,hv,ha,hb⟩:=qY hlen hrel
    rw [hv]
    exact Good.ofV (JE p ha hb h)
theorem W6 (p:Pre F j env H ρ w) (hj:j nb=none) {o:Oper} (h:zY o.op C env H nb o.type=some r):Good F j H w nb r ((execOp ρ o).run C.P w):=by
  cases ho:o.op <;> rw [ho] at h <;> try (cases h; done)
  case move x=>simp only [execOp,ho]; exact j8 (C:=C) (ty:=o.type) p h
  case assign x=>simp only [execOp,ho]; exact j8 (C:=C) (ty:=o.type) p h
  case pick c a b=>simp only [execOp,ho]; exact UP (C:=C) (ty:=o.type) p h
  case alloc t=>simp only [execOp,ho]; exact Good.ofV (WU (C:=C) (ty:=o.type) p hj h)
  case box t x=>simp only [execOp,ho]; exact Good.ofV (JB (C:=C) (ty:=o.type) p hj h)
  case build t ps=>simp only [execOp,ho]; exact Good.ofV (WX (C:=C) (ty:=o.type) p h)
  case buildSlice t n ps=>simp only [execOp,ho]; exact Good.ofV (kL (C:=C) (ty:=o.type) p hj h)
  case load t a=>simp only [execOp,ho]; exact Good.ofV (UT (C:=C) (ty:=o.type) p h)
  case store t a x=>exact WV (C:=C) (ty:=o.type) p ho h
  case nilCheck x=>exact Zb (C:=C) (ty:=o.type) p ho h
  case binOp op t x y u=>simp only [execOp,ho]; exact Good.ofV (JA (C:=C) (ty:=o.type) (u:=u) p h)
  case unOp op t x=>simp only [execOp,ho]; exact Good.ofV (zaS (C:=C) (ty:=o.type) (t:=t) p h)
  case convert s d x=>simp only [execOp,ho]; exact Good.ofV (ZZ (C:=C) (ty:=o.type) p h)
  case sliceToArrayPointer t x=>simp only [execOp,ho]; exact Good.ofV (ZX (C:=C) (ty:=o.type) p h)
  case makeFunc f a b=>simp only [execOp,ho]; exact Good.ofV (j9 (C:=C) (ty:=o.type) p h)
  case makeMap t q=>simp only [execOp,ho]; exact Good.ofV (ZY (C:=C) (ty:=o.type) p hj h)
  case makeSlice t l c=>simp only [execOp,ho]; exact Good.ofV (jw (C:=C) (ty:=o.type) p hj h)
  case slice t x l hh m=>simp only [execOp,ho]; exact Good.ofV (WW (C:=C) (ty:=o.type) p h)
  case fieldAddr t x f=>simp only [execOp,ho]; exact Good.ofV (ju (C:=C) (ty:=o.type) p h)
  case field t x f=>simp only [execOp,ho]; exact Good.ofV (WS (C:=C) (ty:=o.type) p h)
  case indexAddr t x i=>simp only [execOp,ho]; exact Good.ofV (jv (C:=C) (ty:=o.type) p h)
  case index t x i=>simp only [execOp,ho]; exact Good.ofV (WT (C:=C) (ty:=o.type) p h)
  case extract x i=>simp only [execOp,ho]; exact Good.ofV (ZW (C:=C) (ty:=o.type) p h)
  case lookup t x i ok=>simp only [execOp,ho]; exact Good.ofV (Xb (C:=C) (ty:=o.type) p h)
  case mapUpdate t m k x=>exact jx (C:=C) (ty:=o.type) p ho h
  case call c =>
    change u0 c C env H nb o.type=some r at h
    cases hc:c.callee with
    |
      builtin b =>
      unfold u0 at h
      rw [hc] at h
      have e:execOp ρ o=builtin b c.argTypes o.type (c.args.map fun | .const _=>true | _=>false) (c.args.map ρ):=by
        simp only [execOp,ho,resolve,hc]; rfl
      rw [e]
      exact Z2 (C:=C) (ty:=o.type) p hj h
    | _=>unfold u0 at h; rw [hc] at h; cases h
end
end Go.Abs
