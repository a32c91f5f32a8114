/- WHAT THE EVALUATOR SAYS OF AN OPERATION, THE MACHINE DOES: numbers, addresses, parts. -/
import Derived.Test.YtdomagdnaohpbaaGreatDoorEvHeap
import Derived.Deep.AppendSrc
set_option linter.unusedSimpArgs false
set_option linter.unusedVariables false
namespace Go.Abs
structure Pre (F:Nat→Prop) (j:J) (env:T AV) (H:T Blk) (ρ:Operand→Value) (w:World):Prop where
  opd:∀ o x,opd env o=some x→Rel (XX F j H) j w x (ρ o)
  heap:HeapOk (XX F j H) j w H
  frame:∀ B,F B→B < w.heap.size
def GoodV (F:Nat→Prop) (j:J) (H:T Blk) (w:World) (nb:Nat) (r:R) (res:Result Value):Prop:=
  ∃ v' w' j',res=.ok v' w'∧Trans j H w j' (z_ H r.ups) w'∧Rel (XX F j' (z_ H r.ups)) j' w' r.v v'∧HeapOk (XX F j' (z_ H r.ups)) j' w' (z_ H r.ups)∧(∀ b,b≠nb→j' b=j b)
def Good (F:Nat→Prop) (j:J) (H:T Blk) (w:World) (nb:Nat) (r:R) (res:Result Next):Prop:=
  ∃
    nx v' w' j',res=.ok nx w'∧(nx=.value v'∨(nx=.skip∧v'=undef))∧Trans j H w j' (z_ H r.ups) w'∧Rel (XX F j' (z_ H r.ups)) j' w' r.v v' ∧
    HeapOk (XX F j' (z_ H r.ups)) j' w' (z_ H r.ups)∧(∀ b,b≠nb→j' b=j b)
theorem Good.ofV {F:Nat→Prop} {j:J} {H:T Blk} {w:World} {nb:Nat} {r:R} {P:Program} {s:Sem Value} (h:GoodV F j H w nb r (s.run P w)) :
    Good F j H w nb r ((do pure (Next.value (← s)):Sem Next).run P w):=by
  obtain ⟨v',w',j',h1,h2⟩:=h
  exact ⟨.value v',v',w',j',by simp [h1],.inl rfl,h2⟩
theorem GoodV.pure {F:Nat→Prop} {j:J} {H:T Blk} {w:World} {nb:Nat} {x:AV} {rd:Option (List Nat)} {v':Value} (ho:HeapOk (XX F j H) j w H) (hr:Rel (XX F j H) j w x v') :
    GoodV F j H w nb ⟨x,[],rd⟩ (.ok v' w):=⟨v',w,j,rfl,Trans.refl _ _ _,hr,ho,fun _ _=>rfl⟩
theorem Good.pure {F:Nat→Prop} {j:J} {H:T Blk} {w:World} {nb:Nat} {x:AV} {rd:Option (List Nat)} {v':Value} (ho:HeapOk (XX F j H) j w H) (hr:Rel (XX F j H) j w x v') :
    Good F j H w nb ⟨x,[],rd⟩ (.ok (.value v') w):=⟨.value v',v',w,j,rfl,.inl rfl,Trans.refl _ _ _,hr,ho,fun _ _=>rfl⟩
theorem vI {k k':IntKind} (h:eqK k k'=true):k=k':=by
  have h':=beq_true.1 h
  cases k <;> cases k' <;> first | rfl | (exact absurd h' (by decide))
theorem WO (m n:Nat):Yh m n=(m:Int) - n:=by
  unfold Yh
  cases h:Nat.ble n m with
  | true=>have:=zq.1 h; simp only [ifB_true]; show Int.ofNat (m - n)=_; simp; omega
  |
    false =>
    have h' : ¬ n≤m:=fun e=>by rw [zq.2 e] at h; cases h
    simp only [zj]; show Int.negSucc (n - m - 1)=_; omega
theorem Y4 (a b:Int):zcQ a b=a + b:=by
  cases a with
  |
    ofNat x=>cases b with
    | ofNat y=>rfl
    | negSucc y=>show Yh x (y + 1)=_; rw [WO]; simp only [Int.ofNat_eq_natCast]; omega
  |
    negSucc x=>cases b with
    | ofNat y=>show Yh y (x + 1)=_; rw [WO]; simp only [Int.ofNat_eq_natCast]; omega
    | negSucc y=>show Int.negSucc (x + y + 1)=_; omega
theorem Y5 (n:Nat):UK n = -(n:Int):=by cases n <;> rfl
theorem Kd (a:Int):zfD a = -a:=by
  cases a with
  | ofNat x=>show UK x=_; rw [Y5]; rfl
  | negSucc x=>rfl
theorem zc0 (a b:Int):mulI a b=a * b:=by
  cases a with
  |
    ofNat x=>cases b with
    | ofNat y=>rfl
    | negSucc y=>show UK (x * (y + 1))=_; rw [Y5,Int.negSucc_eq]; simp only [Int.ofNat_eq_natCast]; push_cast; rw [Int.mul_neg]
  |
    negSucc x=>cases b with
    | ofNat y=>show UK ((x + 1) * y)=_; rw [Y5,Int.negSucc_eq]; simp only [Int.ofNat_eq_natCast]; push_cast; rw [Int.neg_mul]
    | negSucc y=>show Int.ofNat ((x + 1) * (y + 1))=_; rw [Int.negSucc_eq,Int.negSucc_eq,Int.neg_mul_neg]; simp
theorem kI (a b:Int):ltI a b=decide (a < b):=by
  cases a with
  |
    ofNat x=>cases b with
    | ofNat y=>show Nat.ble (x + 1) y=_; rw [Bool.eq_iff_iff,zq]; simp; omega
    | negSucc y=>show false=_; symm; simp only [decide_eq_false_iff_not,Int.ofNat_eq_natCast]; omega
  |
    negSucc x=>cases b with
    | ofNat y=>show true=_; symm; simp only [decide_eq_true_eq,Int.ofNat_eq_natCast]; omega
    | negSucc y=>show Nat.ble (y + 1) x=_; rw [Bool.eq_iff_iff,zq]; simp only [decide_eq_true_eq]; omega
theorem Y6 (a b:Int):eqI a b=(a == b):=by
  rw [Bool.eq_iff_iff,beq_iff_eq]
  cases a with
  |
    ofNat x=>cases b with
    | ofNat y=>show Nat.beq x y=true↔_; rw [beq_true]; simp only [Int.ofNat_eq_natCast]; omega
    | negSucc y=>show false=true↔_; simp only [Int.ofNat_eq_natCast]; constructor <;> intro h <;> first | cases h | omega
  |
    negSucc x=>cases b with
    | ofNat y=>show false=true↔_; simp only [Int.ofNat_eq_natCast]; constructor <;> intro h <;> first | cases h | omega
    | negSucc y=>show Nat.beq x y=true↔_; rw [beq_true]; constructor <;> intro h <;> omega
theorem jB {β:Type} (a K:Nat) (x y:β):ifB (Nat.ble a K) x y=if a≤K then x else y:=by
  cases h:Nat.ble a K with
  | true=>rw [if_pos (zq.1 h)]; rfl
  | false=>rw [if_neg (fun e=>by rw [zq.2 e] at h; cases h)]; rfl
theorem Y7 (a:Nat):IntKind.wrap .u64 (a:Int)=((a % 18446744073709551616:Nat):Int):=by
  simp only [IntKind.wrap,IntKind.signed,IntKind.bits,Bool.false_and,Bool.false_eq_true,if_false]
  omega
theorem Jw (n:Int):Q9 .i64 n=ifB (Int.rec (fun a=>Nat.ble a 9223372036854775807) (fun a=>Nat.ble a 9223372036854775807) n) n (IntKind.wrap .i64 n):=rfl
theorem Jx (n:Int):Q9 .u64 n=Int.rec (fun a=>.ofNat (Nat.mod a 18446744073709551616)) (fun _=>IntKind.wrap .u64 n) n:=rfl
theorem WP (k:IntKind) (n:Int):Q9 k n=k.wrap n:=by
  cases k
  case i64 =>
    rw [Jw]
    cases n with
    |
      ofNat a =>
      dsimp only
      rw [jB]
      split
      · rw [IntKind.wrap_i64]; simp only [Int.ofNat_eq_natCast]; omega
      · rfl
    |
      negSucc a =>
      dsimp only
      rw [jB]
      split
      · rw [IntKind.wrap_i64]; omega
      · rfl
  case u64 =>
    rw [Jx]
    cases n with
    | ofNat a=>dsimp only; rw [Int.ofNat_eq_natCast,Int.ofNat_eq_natCast,Y7]; rfl
    | negSucc a=>rfl
  all_goals rfl
theorem uL {k:IntKind} {n:Int} {z:AV} (h:Wx k n=some z):z=.v (.int k (k.wrap n)):=by
  unfold Wx at h; rw [xx,WP] at h; cases h; rfl
theorem xM {b:Bool} {z:AV} (h:v9 b=some z):z=.v (.bool b):=by
  unfold v9 at h; rw [forceB_eq] at h; cases h; rfl
theorem wA (x:AV):(∃ k n,x=.v (.int k n))∨(∀ (β:Type) (d:β) (f:IntKind→Int→β),xi x d f=d):=by
  cases x with
  |
    v x=>cases x with
    | int k n=>exact .inl ⟨k,n,rfl⟩
    | _=>exact .inr fun _ _ _=>rfl
  | _=>exact .inr fun _ _ _=>rfl
theorem w6 {x:AV} {n:Nat} (h:natOf x=some n):∃ k,x=.v (.int k (.ofNat n)):=by
  cases x with
  |
    v x=>cases x with
    |
      int k m=>cases m with
      | ofNat a=>exact ⟨k,by cases h; rfl⟩
      | negSucc a=>cases h
    | _=>cases h
  | _=>cases h
theorem WQ {x:AV} {b:Bool} (h:z9 x=some b):x=.v (.bool b):=by
  cases x with
  |
    v x=>cases x with
    | bool c=>cases h; rfl
    | _=>cases h
  | _=>cases h
theorem vJ {x:AV} {v:Value} (h:asV x=some v):x=.v v:=by
  cases x with
  | v x=>cases h; rfl
  | _=>cases h
theorem Rel.v_eq {X:Nat→Prop} {j:J} {w:World} {x v:Value} (h:Rel X j w (.v x) v):v=x∧plain x=true:=by cases h with | v hp=>exact ⟨rfl,hp⟩
theorem qS {X:Nat→Prop} {j:J} {w:World} {l:List AV} {l':Array Value} {r:List Value} (hl:l.length=l'.size)
    (h:∀ (i:Nat) (x:AV) (y:Value),l[i]? = some x→l'[i]? = some y→Rel X j w x y) (hr:xE asV l=some r):l'=r.toArray:=by
  obtain ⟨h1,h2⟩:=wi hr
  apply Array.ext'
  apply List.ext_getElem?
  intro i
  by_cases hi:i < l.length
  ·
    have e1:l[i]? = some l[i]:=List.getElem?_eq_getElem hi
    have e2:r[i]? = some r[i]:=List.getElem?_eq_getElem (by omega)
    have e3:l'[i]? = some l'[i]:=Array.getElem?_eq_getElem (by omega)
    have g:=h i _ _ e1 e3
    rw [vJ (h2 i _ _ e1 e2)] at g
    simp only [Array.getElem?_toList,List.toList_toArray] at *
    rw [e3,e2,g.v_eq.1]
  · rw [List.getElem?_eq_none (by simp; omega),List.getElem?_eq_none (by simp; omega)]
theorem uj {X:Nat→Prop} {j:J} {w:World} {x:AV} {v a:Value} (h:Rel X j w x v) (ha:uI x=some a):v=a:=by
  cases h with
  | v hp=>cases ha; rfl
  | agg h1 h2=>obtain ⟨r,hr,ha⟩:=za.1 ha; cases ha; rw [qS h1 h2 hr]
  | tuple h1 h2=>obtain ⟨r,hr,ha⟩:=za.1 ha; cases ha; rw [qS h1 h2 hr]
  | _=>cases ha
theorem ul {α:Type} {P:Program} {s:Sem α}:∀ {a:α},xZ P s=some a→∀ w,s.run P w=.ok a w:=by
  induction s with
  | pure a=>intro a h w; cases h; rfl
  | program k ih=>intro a h w; exact ih P h w
  | mark m k ih=>intro a h w; exact ih h w
  | _=>intro a h; cases h
theorem yJ {X:Nat→Prop} {j:J} {w:World} {v:Value} {x:AV} (h:ofValue v=some x):Rel X j w x v:=by
  have list:∀ (cs:Array Value),cs.toList.all plain=true→∀ (i:Nat) (x:AV) (y:Value),(cs.toList.map AV.v)[i]? = some x→cs[i]? = some y→Rel X j w x y:=by
    intro cs hall i x y hx hy
    rw [List.getElem?_map,Array.getElem?_toList,hy] at hx
    cases hx
    exact .v (List.all_eq_true.1 hall y (by rw [Array.mem_toList_iff]; exact Array.mem_of_getElem? hy))
  unfold ofValue at h
  split at h
  ·
    split at h
    · rename_i cs hall; cases h; exact .agg (by simp) (list _ hall)
    · cases h
  ·
    split at h
    · rename_i cs hall; cases h; exact .tuple (by simp) (list _ hall)
    · cases h
  ·
    split at h
    · rename_i hp; cases h; exact .v hp
    · cases h
theorem opd_rel {F:Nat→Prop} {j:J} {env:T AV} {H:T Blk} {a:Act} {w:World} (henv:∀ t,Rel (XX F j H) j w ((env.get t).getD (.tuple [])) (a.tmps.getD t undef))
    (o:Operand) (x:AV) (h:opd env o=some x):Rel (XX F j H) j w x (a.eval o):=by
  cases o with
  |
    tmp t =>
    have:=henv t
    change elimO (env.get t) (some (.tuple [])) some=some x at h
    cases hg:env.get t with
    | none=>rw [hg] at h this; cases h; exact this
    | some y=>rw [hg] at h this; cases h; exact this
  | const v=>exact yJ h
  | global g=>cases h
  | func f=>cases h; exact .fn rfl (fun i x y hx=>by simp at hx) rfl (fun i x y hx=>by simp at hx)
theorem um {F:Nat→Prop} {j:J} {env:T AV} {H:T Blk} {ρ:Operand→Value} {w:World} (p:Pre F j env H ρ w) {l:Array Operand} {r:List AV} (h:vP env l.toList=some r) :
    r.length=(l.map ρ).size∧∀ (i:Nat) (x:AV) (y:Value),r[i]? = some x→(l.map ρ)[i]? = some y→Rel (XX F j H) j w x y:=by
  obtain ⟨h1,h2⟩:=wi h
  refine ⟨by simp at h1 ⊢; omega,fun i x y hx hy => ?_⟩
  rw [Array.getElem?_map] at hy
  cases ho:l[i]? with
  | none=>rw [ho] at hy; cases hy
  | some o=>rw [ho] at hy; cases hy; exact p.opd _ _ (h2 i o x (by simpa using ho) hx)
section
variable {C:Cx} {F:Nat→Prop} {j:J} {env:T AV} {H:T Blk} {ρ:Operand→Value} {w:World} {nb:Nat} {ty:TypeId} {r:R}
theorem j8 (p:Pre F j env H ρ w) {x:Operand} (h:qL x C env H nb ty=some r):Good F j H w nb r (.ok (.value (ρ x)) w):=by
  replace h:=za.1 h; obtain ⟨y,hy,h⟩:=h; cases h; exact Good.pure p.heap (p.opd _ _ hy)
theorem UP (p:Pre F j env H ρ w) {c a b:Operand} (h:Wy c a b C env H nb ty=some r) :
    Good F j H w nb r ((do pure (Next.value (if ← asBool (ρ c) then ρ a else ρ b)):Sem Next).run C.P w):=by
  replace h:=za.1 h; obtain ⟨y,hy,h⟩:=h
  replace h:=za.1 h; obtain ⟨t,ht,h⟩:=h
  replace h:=za.1 h; obtain ⟨z,hz,h⟩:=h
  cases h
  have h1:=p.opd _ _ hy
  rw [WQ ht] at h1
  have e:ρ c=.bool t:=h1.v_eq.1
  have h2:=p.opd _ _ hz
  rw [e]
  cases t
  · exact Good.pure p.heap h2
  · exact Good.pure p.heap h2
theorem ZW (p:Pre F j env H ρ w) {x:Operand} {i:Nat} (h:ue x i C env H nb ty=some r):GoodV F j H w nb r ((Instr.extract (ρ x) i).run C.P w):=by
  replace h:=za.1 h; obtain ⟨y,hy,h⟩:=h
  have h1:=p.opd _ _ hy
  cases y <;> try (cases h; done)
  rename_i l
  replace h:=za.1 h; obtain ⟨z,hz,h⟩:=h
  cases h
  rw [ws] at hz
  generalize ρ x=v at h1
  cases h1 with
  |
    tuple hl hr =>
    obtain ⟨u,hu⟩:=ql hl hz
    simp only [Instr.extract,hu]
    exact GoodV.pure p.heap (hr i z u hz hu)
theorem j9 (p:Pre F j env H ρ w) {f:Fn} {a b:Array Operand} (h:vD f a b C env H nb ty=some r):GoodV F j H w nb r ((Instr.makeFunc f (a.map ρ) (b.map ρ)).run C.P w):=by
  replace h:=za.1 h; obtain ⟨x,hx,h⟩:=h
  replace h:=za.1 h; obtain ⟨y,hy,h⟩:=h
  cases h
  obtain ⟨h1,h2⟩:=um p hx
  obtain ⟨h3,h4⟩:=um p hy
  exact GoodV.pure p.heap (.fn h1 h2 h3 h4)
theorem j_ {t:TypeId} (h:okT C t=true):∃ i z,C.P.info? t=some i∧i.zero=some z∧C.P.cellsOf t=i.size∧C.P.bytesOf t=i.bytes:=by
  unfold okT at h
  cases hi:C.P.info? t with
  | none=>rw [hi] at h; cases h
  |
    some i =>
    rw [hi] at h
    cases hz:i.zero with
    | none=>simp [hz] at h
    | some z=>exact ⟨i,z,rfl,hz,by simp [Program.cellsOf,hi],by simp [Program.bytesOf,hi]⟩
theorem ya {t e:TypeId} (h:yk C t=some e):C.P.underlying t=some (.slice e)∧okT C e=true:=by
  unfold yk at h
  split at h
  ·
    rename_i e' he; split at h
    · rename_i hk; cases h; exact ⟨he,hk⟩
    · cases h
  · cases h
theorem yE {t:TypeId} {q:Nat×TypeId} (h:xu C t=some q):C.P.underlying t=some (.array q.1 q.2)∧okT C q.2=true:=by
  unfold xu at h
  split at h
  ·
    rename_i n e' he; split at h
    · rename_i hk; cases h; exact ⟨he,hk⟩
    · cases h
  · cases h
theorem qT {t:TypeId} {f:Nat} {fd:Field} (h:jz C t f=some fd):∃ fs,C.P.underlying t=some (.struct fs)∧fs[f]? = some fd∧okT C fd.type=true:=by
  unfold jz at h
  split at h
  ·
    rename_i fs he
    split at h
    ·
      rename_i fd' hf
      split at h
      · rename_i hk; cases h; exact ⟨fs,he,hf,hk⟩
      · cases h
    · cases h
  · cases h
theorem z7 {t:TypeId} (h:okT C t=true) (w:World):(sizeOf t).run C.P w=.ok (C.P.cellsOf t) w:=by
  obtain ⟨i,z,h1,_,h2,_⟩:=j_ h
  simp [sizeOf,typeInfo,h1,h2]
theorem Addr.add_eq (B off n:Nat):(⟨B,off,none⟩:Addr).add n=⟨B,off + n,none⟩:=by
  unfold Addr.add; split
  · rename_i h; subst h; rfl
  · rfl
theorem Rel.vp_add {X:Nat→Prop} {t:T AV} {off n:Nat} {v:Value} (h:Rel X j w (.vp t off) v):∃ B o,v=.pointer (some ⟨B,o,none⟩)∧Rel X j w (.vp t (off + n)) (.pointer (some ⟨B,o + n,none⟩)):=by
  cases h with
  |
    vp f hB hlt hc hr =>
    refine ⟨_,_,rfl,.vp (fun i=>f (n + i)) hB hlt (fun i x hx => ?_) (fun i x hx => ?_)⟩
    · rw [Nat.add_assoc] at hx ⊢; exact hc _ _ hx
    · rw [Nat.add_assoc] at hx; exact hr _ _ hx
theorem ju (p:Pre F j env H ρ w) {t:TypeId} {x:Operand} {f:Nat} (h:wX t x f C env H nb ty=some r):GoodV F j H w nb r ((Instr.fieldAt t (ρ x) f).run C.P w):=by
  replace h:=za.1 h; obtain ⟨fd,hf,h⟩:=h
  replace h:=zi.1 h; obtain ⟨hs,h⟩:=h
  replace h:=za.1 h; obtain ⟨y,hy,h⟩:=h
  obtain ⟨fs,hu,hfs,hk⟩:=qT hf
  have hpos:C.P.cellsOf fd.type≠0:=by have:=zq.1 hs; omega
  have h1:=p.opd _ _ hy
  generalize ρ x=v at h1
  cases y <;> try (cases h; done)
  ·
    rename_i b off
    cases h1 with
    |
      hp hb =>
      rename_i B S
      have e:(Instr.fieldAt t (.pointer (some ⟨B,off,none⟩)) f).run C.P w=.ok (.pointer (some ⟨B,off + fd.offset,none⟩)) w:=by
        simp [Instr.fieldAt,run_underlying hu,hfs,Instr.sureAddr,fieldPlace,z7 hk,hpos,Addr.add_eq]
      rw [e]; cases h; exact GoodV.pure p.heap (.hp hb)
  ·
    rename_i tt off
    obtain ⟨B,o,rfl,h2⟩:=h1.vp_add (n:=fd.offset)
    have e:(Instr.fieldAt t (.pointer (some ⟨B,o,none⟩)) f).run C.P w=.ok (.pointer (some ⟨B,o + fd.offset,none⟩)) w:=by
      simp [Instr.fieldAt,run_underlying hu,hfs,Instr.sureAddr,fieldPlace,z7 hk,hpos,Addr.add_eq]
    rw [e]; cases h; exact GoodV.pure p.heap h2
theorem jv (p:Pre F j env H ρ w) {t:TypeId} {x i:Operand} (h:wY t x i C env H nb ty=some r):GoodV F j H w nb r ((Instr.indexAt t (ρ x) (ρ i)).run C.P w):=by
  replace h:=za.1 h; obtain ⟨y,hy,h⟩:=h
  replace h:=za.1 h; obtain ⟨z,hz,h⟩:=h
  replace h:=za.1 h; obtain ⟨n,hn,h⟩:=h
  obtain ⟨k,rfl⟩:=w6 hn
  have hi:=(p.opd _ _ hz).v_eq.1
  rw [hi]
  have h1:=p.opd _ _ hy
  generalize ρ x=v at h1
  cases y <;> try (cases h; done)
  ·
    rename_i b off
    replace h:=za.1 h; obtain ⟨q,hq,h⟩:=h
    replace h:=zi.1 h; obtain ⟨hlt,h⟩:=h
    have hlt:n < q.1:=zq.1 hlt
    obtain ⟨hu,hk⟩:=yE hq
    cases h1 with
    |
      hp hb =>
      rename_i B S
      have e:(Instr.indexAt t (.pointer (some ⟨B,off,none⟩)) (.int k (.ofNat n))).run C.P w=.ok (.pointer (some ⟨B,off + n * C.P.cellsOf q.2,none⟩)) w:=by
        simp [Instr.indexAt,asIntOf,run_underlying hu,Instr.sureAddr,z7 hk,Addr.add_eq,hlt]
      rw [e]; cases h; exact GoodV.pure p.heap (.hp hb)
  ·
    rename_i tt off
    replace h:=za.1 h; obtain ⟨q,hq,h⟩:=h
    replace h:=zi.1 h; obtain ⟨hlt,h⟩:=h
    have hlt:n < q.1:=zq.1 hlt
    obtain ⟨hu,hk⟩:=yE hq
    obtain ⟨B,o,rfl,h2⟩:=h1.vp_add (n:=n * C.P.cellsOf q.2)
    have e:(Instr.indexAt t (.pointer (some ⟨B,o,none⟩)) (.int k (.ofNat n))).run C.P w=.ok (.pointer (some ⟨B,o + n * C.P.cellsOf q.2,none⟩)) w:=by
      simp [Instr.indexAt,asIntOf,run_underlying hu,Instr.sureAddr,z7 hk,Addr.add_eq,hlt]
    rw [e]; cases h; exact GoodV.pure p.heap h2
  ·
    rename_i b off len es lo ex
    replace h:=za.1 h; obtain ⟨q,hq,h⟩:=h
    replace h:=zi.1 h; obtain ⟨hlt,h⟩:=h
    have hlt:n < len:=zq.1 hlt
    obtain ⟨hu,hk⟩:=ya hq
    cases h1 with
    |
      hs hb g1 g2 g3 g4 =>
      rename_i B S o c
      obtain ⟨rfl,_⟩:=g4 (by omega)
      have e:(Instr.indexAt t (.slice (some ⟨B,o,none⟩) len c) (.int k (.ofNat n))).run C.P w=.ok (.pointer (some ⟨B,o + n * C.P.cellsOf q,none⟩)) w:=by
        simp [Instr.indexAt,asIntOf,run_underlying hu,Instr.sureAddr,z7 hk,Addr.add_eq,hlt]
      rw [e]; cases h; exact GoodV.pure p.heap (.hp hb)
  ·
    rename_i tt off len es lo ex
    replace h:=za.1 h; obtain ⟨q,hq,h⟩:=h
    replace h:=zi.1 h; obtain ⟨hlt,h⟩:=h
    have hlt:n < len:=zq.1 hlt
    obtain ⟨hu,hk⟩:=ya hq
    cases h1 with
    |
      vs f hB hB' g1 g2 g3 hc hr =>
      rename_i B o c
      have e:(Instr.indexAt t (.slice (some ⟨B,o,none⟩) len c) (.int k (.ofNat n))).run C.P w=.ok (.pointer (some ⟨B,o + n * C.P.cellsOf q,none⟩)) w:=by
        simp [Instr.indexAt,asIntOf,run_underlying hu,Instr.sureAddr,z7 hk,Addr.add_eq,hlt]
      rw [e]; cases h
      refine GoodV.pure p.heap (.vp (fun i=>f (n * C.P.cellsOf q + i)) hB hB' (fun i x hx => ?_) (fun i x hx => ?_))
      ·
        have hx':tt.get (off + (n * C.P.cellsOf q + i))=some x:=by rw [← Nat.add_assoc]; exact hx
        rw [Nat.add_assoc]; exact hc _ _ hx'
      ·
        have hx':tt.get (off + (n * C.P.cellsOf q + i))=some x:=by rw [← Nat.add_assoc]; exact hx
        exact hr _ _ hx'
end
end Go.Abs
