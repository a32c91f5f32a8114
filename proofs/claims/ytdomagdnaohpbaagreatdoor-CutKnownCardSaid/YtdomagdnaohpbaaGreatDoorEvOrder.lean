/- A REGION IN ANY ORDER: what comes of it is what comes of it in the order of the list. -/
import Derived.Test.YtdomagdnaohpbaaGreatDoorEvSwap
set_option linter.unusedSimpArgs false
set_option linter.unusedVariables false
namespace Go.Abs
section
variable {C:Cx} {run:Code→S→Out} {ops:Array Oper} {nx0:Nat} {ft:Nat→Foot}
def U4 (C:Cx) (run:Code→S→Out) (ops:Array Oper) (nx0:Nat) (ft:Nat→Foot):List Nat→S→S→Prop
  | [],s,s'=>s=s'
  | i::l,s,s'=>∃ o s1,ops[i]? = some o∧stepOp C run ops (nx0 + i) o s=.ok s1 (ft i)∧U4 C run ops nx0 ft l s1 s'
theorem Zl {i:Nat} {l2:List Nat} {s':S}:∀ {l1:List Nat} {s:S},U4 C run ops nx0 ft (l1++i::l2) s s' →
    (∀ k ∈ l1,∀ ok oi,ops[k]? = some ok→ops[i]? = some oi→Oper.apart ops ok oi=true∧clear2 (ft k) (ft i)=true)→U4 C run ops nx0 ft (i::(l1++l2)) s s'
  | [],s,h,_=>h
  |
    k::l1,s,h,hp=>by
    obtain ⟨ok,s1,ho,hk,h⟩:=h
    obtain ⟨oi,s2,hoi,hi,h⟩:=Zl h (fun m hm=>hp m (List.mem_cons_of_mem _ hm))
    obtain ⟨h1,h2⟩:=hp k (List.mem_cons_self ..) ok oi ho hoi
    obtain ⟨s1',g1,g2⟩:=swap hk hi h1 h2
    exact ⟨oi,s1',hoi,g1,ok,s2,ho,g2,h⟩
theorem Zm {base:Nat}:∀ {l:List Oper} {i:Nat} {s s':S} {fs fs':List Foot},(∀ k,l[k]? = ops[i + k]? ∨ l.length≤k)→steps C run ops base l i s fs=.ok s' fs' →
    ∃ g:List Foot,fs'=g.reverse++fs∧g.length=l.length∧∀ ft:Nat→Foot,(∀ k x,g[k]? = some x→ft (i + k)=x)→U4 C run ops base ft (List.range' i l.length) s s'
  | [],i,s,s',fs,fs',_,h=>by cases h; exact ⟨[],rfl,rfl,fun _ _=>rfl⟩
  |
    o::l,i,s,s',fs,fs',hl,h=>by
    have ho:ops[i]? = some o:=by
      rcases hl 0 with e | e
      · simpa using e.symm
      · simp at e
    cases hs:stepOp C run ops (Nat.add base i) o s with
    |
      bad w =>
      change StepR.rec (motive:=fun _=>StepsR) _ _ (stepOp C run ops (Nat.add base i) o s)=_ at h
      rw [hs] at h; cases h
    |
      ok s1 f =>
      change StepR.rec (motive:=fun _=>StepsR) _ _ (stepOp C run ops (Nat.add base i) o s)=_ at h
      rw [hs] at h
      replace h:steps C run ops base l (i + 1) s1 (f::fs)=.ok s' fs':=h
      obtain ⟨g,e1,e2,e3⟩:=Zm (i:=i + 1) (fun k=>by
        rcases hl (k + 1) with e | e
        ·
          refine .inl ?_
          rw [show i + 1 + k=i + (k + 1) by omega,← e]; rfl
        · exact .inr (by simpa using e)) h
      refine ⟨f::g,by rw [e1]; simp,by simp [e2],fun ft hft => ?_⟩
      rw [List.length_cons,List.range'_succ]
      refine ⟨o,s1,ho,?_,e3 ft (fun k x hk=>by rw [show i + 1 + k=i + (k + 1) by omega]; exact hft (k + 1) x (by simpa using hk))⟩
      rw [show ft i=f from hft 0 f rfl]; exact hs
def zaY (ops:Array Oper):Prop:=∀ (i:Nat) (o:Oper),ops[i]? = some o→∀ e ∈ o.after,Region.binds .any e=true→e.on < i
theorem Vc (b:Array Nat) (k:Nat):∀ (l:List Edge) (s:Nat),(l.foldl (fun s e=>if Region.binds .any e then s ||| 2 ^ e.on ||| b.getD e.on 0 else s) s).testBit k=true →
    s.testBit k=true∨∃ e ∈ l,Region.binds .any e=true∧(e.on=k∨(b.getD e.on 0).testBit k=true)
  | [],s,h=>.inl h
  |
    e::l,s,h=>by
    simp only [List.foldl_cons] at h
    rcases Vc b k l _ h with h | ⟨e',he,h1,h2⟩
    ·
      by_cases hb:Region.binds .any e=true
      ·
        rw [if_pos hb,Nat.testBit_or,Nat.testBit_or] at h
        simp only [Bool.or_eq_true] at h
        rcases h with (h | h) | h
        · exact .inl h
        ·
          rw [Nat.testBit_two_pow] at h
          exact .inr ⟨e,List.mem_cons_self ..,hb,.inl (by simpa using h)⟩
        · exact .inr ⟨e,List.mem_cons_self ..,hb,.inr h⟩
      · rw [if_neg hb] at h; exact .inl h
    · exact .inr ⟨e',List.mem_cons_of_mem _ he,h1,h2⟩
theorem jl (ops:Array Oper):(Region.before ops).size=ops.size∧∀ i o,ops[i]? = some o →
    ∀ k,((Region.before ops).getD i 0).testBit k=true→∃ e ∈ o.after,Region.binds .any e=true∧(e.on=k∨(e.on < i∧((Region.before ops).getD e.on 0).testBit k=true)):=by
  have key:∀ (l:List Oper) (acc:Array Nat) (pre:List Oper),acc.size=pre.length →
      (∀ i o,pre[i]? = some o→∀ k,(acc.getD i 0).testBit k=true→∃ e ∈ o.after,Region.binds .any e=true∧(e.on=k∨(e.on < i∧(acc.getD e.on 0).testBit k=true))) →
      (l.foldl (fun (acc:Array Nat) (o:Oper)=>acc.push (o.after.foldl (fun s e=>if Region.binds .any e then s ||| 2 ^ e.on ||| acc.getD e.on 0 else s) 0)) acc).size=pre.length + l.length ∧
      ∀
        i o,(pre++l)[i]? = some o→∀ k,((l.foldl (fun (acc:Array Nat) (o:Oper)=>acc.push (o.after.foldl (fun s e=>if Region.binds .any e then s ||| 2 ^ e.on ||| acc.getD e.on 0 else s) 0)) acc).getD i 0).testBit k=true →
        ∃ e ∈ o.after,Region.binds .any e=true∧(e.on=k∨(e.on < i∧((l.foldl (fun (acc:Array Nat) (o:Oper)=>acc.push (o.after.foldl (fun s e=>if Region.binds .any e then s ||| 2 ^ e.on ||| acc.getD e.on 0 else s) 0)) acc).getD e.on 0).testBit k=true)):=by
    intro l
    induction l with
    | nil=>intro acc pre hs hp; exact ⟨by simpa using hs,by simpa using hp⟩
    |
      cons o l ih =>
      intro acc pre hs hp
      have hpush:∀ (x:Nat) (i:Nat),i < acc.size→(acc.push x).getD i 0=acc.getD i 0:=fun x i hi=>by
        simp only [Array.getD_eq_getD_getElem?,Array.getElem?_push,if_neg (by omega : ¬ i=acc.size)]
      obtain ⟨h1,h2⟩:=ih (acc.push (o.after.foldl (fun s e=>if Region.binds .any e then s ||| 2 ^ e.on ||| acc.getD e.on 0 else s) 0)) (pre++[o]) (by simp [hs]) (by
        intro i o' ho' k hk
        by_cases hi:i < pre.length
        ·
          rw [List.getElem?_append_left hi] at ho'
          rw [hpush _ _ (by omega)] at hk
          obtain ⟨e,he,hb,hc⟩:=hp i o' ho' k hk
          refine ⟨e,he,hb,hc.imp id fun ⟨hl,ht⟩=>⟨hl,?_⟩⟩
          rw [hpush _ _ (by omega)]; exact ht
        ·
          have hlen:=(List.getElem?_eq_some_iff.1 ho').1
          simp at hlen
          have:i=pre.length:=by omega
          subst this
          rw [List.getElem?_append_right (by omega)] at ho'
          simp at ho'
          subst ho'
          have e0:(acc.push (o.after.foldl (fun s e=>if Region.binds .any e then s ||| 2 ^ e.on ||| acc.getD e.on 0 else s) 0)).getD pre.length 0=o.after.foldl (fun s e=>if Region.binds .any e then s ||| 2 ^ e.on ||| acc.getD e.on 0 else s) 0:=by
            rw [← hs]; simp
          rw [e0,← Array.foldl_toList] at hk
          rcases Vc acc k o.after.toList 0 hk with h | ⟨e,he,hb,hc⟩
          · simp at h
          ·
            refine ⟨e,by simpa using he,hb,hc.imp id fun ht => ?_⟩
            have hlt:e.on < acc.size:=by
              apply Nat.lt_of_not_le; intro hge
              simp [Array.getD_eq_getD_getElem?,Array.getElem?_eq_none hge] at ht
            exact ⟨by omega,by rw [hpush _ _ hlt]; exact ht⟩)
      simp only [List.foldl_cons]
      exact ⟨by rw [h1]; simp; omega,by simpa using h2⟩
  obtain ⟨h1,h2⟩:=key ops.toList #[] [] rfl (by intro i o h; simp at h)
  have e:Region.before ops=ops.toList.foldl (fun (acc:Array Nat) (o:Oper)=>acc.push (o.after.foldl (fun s e=>if Region.binds .any e then s ||| 2 ^ e.on ||| acc.getD e.on 0 else s) 0)) #[]:=by
    unfold Region.before
    rw [← Array.foldl_toList]
  rw [e]
  exact ⟨by rw [h1]; simp,fun i o ho=>h2 i o (by simpa using ho)⟩
def zaZ (ops:Array Oper) (listed:Nat→Bool):Prop:=∀ i o,ops[i]? = some o→listed i=true→∀ e ∈ o.after,Region.binds .any e=true→listed e.on=true
theorem Z6 {listed:Nat→Bool} (hc:zaZ ops listed):∀ (n i:Nat),i≤n→∀ o,ops[i]? = some o→(∀ e ∈ o.after,Region.binds .any e=true→listed e.on=true) →
    ∀ k,((Region.before ops).getD i 0).testBit k=true→listed k=true:=by
  intro n
  induction n with
  |
    zero =>
    intro i hi o ho hl k hk
    obtain ⟨e,he,hb,h⟩:=(jl ops).2 i o ho k hk
    rcases h with rfl | ⟨hlt,_⟩
    · exact hl e he hb
    · omega
  |
    succ n ih =>
    intro i hi o ho hl k hk
    obtain ⟨e,he,hb,h⟩:=(jl ops).2 i o ho k hk
    rcases h with rfl | ⟨hlt,ht⟩
    · exact hl e he hb
    · have hsz:e.on < ops.size:=by
        have:=(Array.getElem?_eq_some_iff.1 ho).1; omega
      exact ih e.on (by omega) ops[e.on] (by simp [hsz]) (fun e' he' hb'=>hc e.on _ (by simp [hsz]) (hl e he hb) e' he' hb') k ht
theorem JI {P:Program} {Q:Exit→Act→World→Prop} {Inv:List Nat→S→Act→World→Prop} {s':S} (hback:zaY ops)
    (hpair:∀ k i ok oi,k < i→ops[k]? = some ok→ops[i]? = some oi→((Region.before ops).getD i 0).testBit k=false→Oper.apart ops ok oi=true∧clear2 (ft k) (ft i)=true)
    (step:∀ (i:Nat) (l:List Nat) (s s1:S) (a:Act) (w:World) (o:Oper) (K:Act→World→Prop),ops[i]? = some o→i ∉ l→Inv (i::l) s a w→stepOp C run ops (nx0 + i) o s=.ok s1 (ft i) →
      (∀ a' w',Inv l s1 a' w'→K a' w')→wpOp P ops Q i K a w)
    (perm:∀ (l l':List Nat) (s:S) (a:Act) (w:World),(∀ x ∈ l',x ∈ l)→Inv l s a w→Inv l' s a w)
    (fin:∀ a w,Inv [] s' a w→Q .normal a w) :
    ∀
      (fuel:Nat) (listed:Array Bool) (l:List Nat) (s:S) (a:Act) (w:World),listed.size=ops.size→l.length=fuel→(∀ k,k ∈ l↔(k < ops.size∧listed.getD k true=false))→l.Pairwise (· < ·) →
      zaZ ops (listed.getD · false)→U4 C run ops nx0 ft l s s'→Inv l s a w→wpAny P .any ops Q fuel listed a w:=by
  intro fuel
  have ready_mem:∀ (listed:Array Bool) (i:Nat),i ∈ Region.ready .any ops listed↔(i < ops.size∧listed.getD i true=false∧∀ o,ops[i]? = some o→∀ e ∈ o.after,Region.binds .any e=true→listed.getD e.on false=true):=by
    intro listed i
    unfold Region.ready
    rw [List.mem_filter,List.mem_range]
    constructor
    ·
      rintro ⟨h1,h2⟩
      rw [Bool.and_eq_true] at h2
      refine ⟨h1,by simpa using h2.1,fun o ho e he hb => ?_⟩
      have h3:=h2.2
      rw [ho] at h3
      simp only [Option.map_some,Option.getD_some,Array.all_eq_true'] at h3
      have:=h3 e he
      rw [hb] at this
      simpa using this
    ·
      rintro ⟨h1,h2,h3⟩
      refine ⟨h1,?_⟩
      rw [Bool.and_eq_true]
      refine ⟨by simp [h2],?_⟩
      have ho:ops[i]? = some ops[i]:=by simp [h1]
      rw [ho]
      simp only [Option.map_some,Option.getD_some,Array.all_eq_true']
      intro e he
      cases hb:Region.binds .any e with
      | false=>rfl
      | true=>simpa using h3 _ ho e he hb
  have getD_iff:∀ (listed:Array Bool) (k:Nat),k < listed.size→(listed.getD k false=true ↔ ¬ listed.getD k true=false):=by
    intro listed k hk
    simp [Array.getD_eq_getD_getElem?,hk]
  induction fuel with
  |
    zero =>
    intro listed l s a w hs hlen hl hsort hcl hr hi
    have hnil:l=[]:=List.length_eq_zero_iff.1 hlen
    subst hnil
    refine ⟨List.eq_nil_iff_forall_not_mem.2 fun i hi' => ?_,?_⟩
    ·
      have:=(ready_mem listed i).1 hi'
      have:=(hl i).2 ⟨this.1,this.2.1⟩
      cases this
    ·
      have:s=s':=hr
      subst this
      exact fin a w hi
  |
    succ fuel ih =>
    intro listed l s a w hs hlen hl hsort hcl hr hi
    refine ⟨fun hnone => ?_,fun i hready => ?_⟩
    ·
      exfalso
      have all:∀ n i,i≤n→i < ops.size → ¬ listed.getD i true=false:=by
        intro n
        induction n with
        |
          zero =>
          intro i hin hlt hf
          have:i ∈ Region.ready .any ops listed:=(ready_mem listed i).2 ⟨hlt,hf,fun o ho e he hb=>by have:=hback i o ho e he hb; omega⟩
          rw [hnone] at this; cases this
        |
          succ n ihn =>
          intro i hin hlt hf
          have:i ∈ Region.ready .any ops listed:=(ready_mem listed i).2 ⟨hlt,hf,fun o ho e he hb=>by
            have hlt':=hback i o ho e he hb
            exact (getD_iff listed e.on (by omega)).2 (ihn e.on (by omega) (by omega))⟩
          rw [hnone] at this; cases this
      cases l with
      | nil=>simp at hlen
      |
        cons x l =>
        obtain ⟨h1,h2⟩:=(hl x).1 (List.mem_cons_self ..)
        exact all x x (Nat.le_refl _) h1 h2
    ·
      obtain ⟨hlt,hun,hdep⟩:=(ready_mem listed i).1 hready
      obtain ⟨l1,l2,rfl⟩:=List.append_of_mem ((hl i).2 ⟨hlt,hun⟩)
      have hsp:=List.pairwise_append.1 hsort
      have hlo:∀ k ∈ l1,k < i:=fun k hk=>hsp.2.2 k hk i (List.mem_cons_self ..)
      have hhi:∀ k ∈ l2,i < k:=fun k hk=>(List.pairwise_cons.1 hsp.2.1).1 k hk
      have hi0:ops[i]? = some ops[i]:=by simp [hlt]
      have hfront:=Zl hr (fun k hk ok oi hok hoi=>hpair k i ok oi (hlo k hk) hok hoi (by
        cases hb:((Region.before ops).getD i 0).testBit k with
        | false=>rfl
        |
          true =>
          have hlk:=Z6 hcl i i (Nat.le_refl _) oi hoi (fun e he hbd=>hdep oi hoi e he hbd) k hb
          have hkm:=(hl k).1 (List.mem_append_left _ hk)
          exact absurd hkm.2 ((getD_iff listed k (by omega)).1 hlk)))
      obtain ⟨o,s1,ho,hstep,hrest⟩:=hfront
      have hni:i ∉ l1++l2:=by
        intro h
        rcases List.mem_append.1 h with h | h
        · exact absurd (hlo i h) (Nat.lt_irrefl _)
        · exact absurd (hhi i h) (Nat.lt_irrefl _)
      refine step i (l1++l2) s s1 a w o _ ho hni (perm _ _ s a w (fun x hx => ?_) hi) hstep (fun a' w' hinv => ?_)
      ·
        rcases List.mem_cons.1 hx with rfl | hx
        · simp
        · rcases List.mem_append.1 hx with h | h <;> simp [h]
      · have hget:∀ (k:Nat) (d:Bool),(listed.setIfInBounds i true).getD k d=if k=i then true else listed.getD k d:=by
          intro k d
          simp only [Array.getD_eq_getD_getElem?]
          by_cases hk:k=i
          · subst hk; simp [hs,hlt]
          · rw [if_neg hk,Array.getElem?_setIfInBounds_ne (Ne.symm hk)]
        refine ih (listed.setIfInBounds i true) (l1++l2) s1 a' w' (by simpa using hs) (by simp at hlen ⊢; omega) (fun k => ?_) ?_ ?_ hrest hinv
        ·
          rw [hget]
          by_cases hk:k=i
          ·
            subst hk; simp only [if_true]; constructor
            · intro h; exact absurd h hni
            · rintro ⟨_,h⟩; cases h
          ·
            rw [if_neg hk,← hl k]
            simp [hk]
        ·
          refine List.pairwise_append.2 ⟨hsp.1,(List.pairwise_cons.1 hsp.2.1).2,fun x hx y hy => ?_⟩
          exact hsp.2.2 x hx y (List.mem_cons_of_mem _ hy)
        ·
          intro k o' ho' hlk e he hb
          simp only [hget] at hlk ⊢
          by_cases hki:k=i
          ·
            subst hki
            split
            · rfl
            · exact hdep o' ho' e he hb
          ·
            rw [if_neg hki] at hlk
            split
            · rfl
            · exact hcl k o' ho' hlk e he hb
end
end Go.Abs
