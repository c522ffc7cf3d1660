/-
  Parts of the proof, joined.
-/
import Derived.Test.YtgdhinjhbjolgaaGreatBda
import Derived.BigRegion
import Derived.ArgAppend
import Derived.Lib.SmallJoins
namespace Go.Proofs.YtgdhinjhbjolgaaGreat
open Go.RowKit
set_option linter.unusedVariables false
theorem eval_put_ne {d t:Tmp} (h:d≠t) (a:Act) (u:Value):(a.put (some d) u).eval (.tmp t)=a.eval (.tmp t):=by
 simp only[Act.put,Act.eval,Array.getD_eq_getD_getElem?]
 rw[Array.getElem?_setIfInBounds_ne h]
section
variable {P:Program} {Q:Exit→Act→World→Prop} {w0:World} {A:Act→Prop}
def Mono (R:Value→World→Prop):Prop:=∀v W W',R v W→Below W.heap.size W W'→R v W'
end
def invB (ops:Array Oper) (n:Nat) (listed:Array Bool):Bool:=
 listed.size==ops.size&&(List.range ops.size).all (fun j=>match ops[j]? with
  | some oj=>!listed.getD j false||oj.after.toList.all (fun e=>!Region.binds .any e||listed.getD e.on false)
  | none=>true)&&(List.range ops.size).all fun t=>decide (t<n) || !listed.getD t true
theorem inv_of {ops:Array Oper} {n:Nat} {listed:Array Bool} (h:invB ops n listed=true):HeadInv .any ops n listed:=by
 simp only[invB,Bool.and_eq_true,beq_iff_eq,List.all_eq_true,List.mem_range] at h
 obtain⟨⟨h1,h2⟩,h3⟩:=h
 refine⟨h1,fun j oj hj hl e he hb=>?_,fun t ht ht'=>?_⟩
 · have hjs:j<ops.size:=by
    rcases Nat.lt_or_ge j ops.size with h' | h'
    · exact h'
    · rw[Array.getElem?_eq_none h'] at hj;cases hj
   have:=h2 j hjs
   rw[hj] at this
   simp only[hl,Bool.not_true,Bool.false_or,List.all_eq_true] at this
   have:=this e (by simpa using he)
   simpa[hb] using this
 · have:=h3 t ht'
   simpa[show ¬t<n by omega] using this
def IsR (u:Value) (v:Value) (_:World):Prop:=v=u
theorem IsR.mono (u:Value):Mono (IsR u):=fun v W W' h _=>h
def Agree (D:List Tmp) (a b:Act):Prop:=b.defers=a.defers∧b.tmps.size=a.tmps.size∧∀t:Nat,t∉D→b.tmps[t]? = a.tmps[t]?
theorem Agree.refl (D:List Tmp) (a:Act):Agree D a a:=⟨rfl,rfl,fun _ _=>rfl⟩
theorem Agree.put {D:List Tmp} {a b:Act} (h:Agree D a b) {d:Tmp} (hd:d∈D) (v:Value):Agree D a (b.put (some d) v):=by
 refine⟨h.1,by simpa[Act.put] using h.2.1,fun t ht=>?_⟩
 have hne:d≠t:=fun e=>ht (by rw[←e];exact hd)
 simp only[Act.put]
 rw[Array.getElem?_setIfInBounds_ne hne]
 exact h.2.2 t ht
theorem Agree.eval {D:List Tmp} {a b:Act} (h:Agree D a b) {t:Nat} (ht:t∉D):b.eval (.tmp t)=a.eval (.tmp t):=by
 simp only[Act.eval,Array.getD_eq_getD_getElem?]
 rw[h.2.2 t ht]
theorem Agree.rebuild {a:Act}:∀(D:List Tmp) (b:Act),Agree D b a→a=D.foldl (fun x d=>x.put (some d) (a.eval (.tmp d))) b
 | [],b,h=>by
   cases a;cases b
   simp only[List.foldl_nil,Act.mk.injEq]
   refine⟨?_,h.1⟩
   apply Array.ext_getElem?
   intro t
   exact h.2.2 t (by simp)
 | d :: D,b,h=>by
   rw[List.foldl_cons]
   refine Agree.rebuild D _ ⟨h.1,by simpa[Act.put] using h.2.1,fun t ht=>?_⟩
   simp only[Act.put]
   by_cases e:d=t
   · subst e
     by_cases hs:d<b.tmps.size
     · rw[Array.getElem?_setIfInBounds_self_of_lt hs]
       have:d<a.tmps.size:=by rw[h.2.1];exact hs
       simp[Act.eval,this]
     · have hs':b.tmps.size≤d:=Nat.le_of_not_lt hs
       rw[Array.getElem?_eq_none (by rw[h.2.1];exact hs'),Array.getElem?_eq_none (by simpa using hs')]
   · rw[Array.getElem?_setIfInBounds_ne e]
     exact h.2.2 t (by simp[ht,Ne.symm e])
section
variable {P:Program} {Q:Exit→Act→World→Prop}
def blk:Value→Option Nat
 | .pointer (some a)=>some a.block
 | .slice (some a) _ _=>some a.block
 | .map (some b)=>some b
 | _=>none
def Fresh (fr:Bool) (v:Value) (W W':World):Prop:=fr=true→∃g,blk v=some g∧W.heap.size≤g∧g<W'.heap.size
theorem fresh_no (v:Value) (W W':World):Fresh false v W W':=fun h=>by cases h
def Yields (P:Program) (o:Oper) (a:Act) (W:World) (fr:Bool) (R:Value→World→Prop):Prop:=
 (∃v W',(execOp a.eval o).run P W = .ok (.value v) W'∧R v W'∧Below W.heap.size W W'∧Fresh fr v W W')∨
 (∃f args,(execOp a.eval o).run P W = .ok (.enter f args) W∧Calls P f args W fun e W'=>∃v,e = .returned v∧R v W'∧Below W.heap.size W W'∧Fresh fr v W W')
structure Head where
 dst:Tmp
 R:Value→World→Prop
 deps:List Nat
 fresh:Bool
def FreeInv (hs:List Head) (a0:Act) (w0:World) (listed:Array Bool) (a:Act) (W:World):Prop:=
 Agree (hs.map (·.dst)) a0 a∧Below w0.heap.size w0 W∧(∀(i:Nat) (h:Head),hs[i]? = some h→listed.getD i false=true→h.R (a.eval (.tmp h.dst)) W)∧
  (∀(i:Nat) (h:Head),hs[i]? = some h→listed.getD i false=true→h.fresh=true→∃g,blk (a.eval (.tmp h.dst))=some g∧w0.heap.size≤g∧g<W.heap.size)∧
  (∀(i j:Nat) (h k:Head),hs[i]? = some h→hs[j]? = some k→i≠j→listed.getD i false=true→listed.getD j false=true→h.fresh=true→k.fresh=true→blk (a.eval (.tmp h.dst))≠blk (a.eval (.tmp k.dst)))
def freeB (ops:Array Oper) (n:Nat) (deps:Array (List Nat)) (g:Nat):Nat→Array Bool→Bool
 | 0,listed=>Region.seqB .any ops g n listed&&(List.range n).all fun i=>listed.getD i false
 | f + 1,listed=>!(Region.ready .any ops listed).isEmpty&&(Region.ready .any ops listed).all fun i=>
     decide (i<n)&&decide (i<listed.size)&&(deps.getD i []).all (fun j=>decide (j<n)&&listed.getD j false)&&freeB ops n deps g f (listed.setIfInBounds i true)
theorem lt_of_some {hs:List Head} {i:Nat} {h:Head} (hi:hs[i]? = some h):i<hs.length:=by
 rcases Nat.lt_or_ge i hs.length with h' | h'
 · exact h'
 · rw[List.getElem?_eq_none h'] at hi;cases hi
theorem free_any {l:List Oper} {hs:List Head} {a0:Act} {w0:World} {g:Nat} (hg:(l.drop hs.length).length=g)
 (hdst:∀(i:Nat) (h:Head) (o:Oper),hs[i]? = some h→l[i]? = some o→o.guard=none∧o.dst=some h.dst) (hlen:hs.length≤l.length) (hin:∀h∈hs,h.dst<a0.tmps.size) (hdis:(hs.map (·.dst)).Nodup)
 (hm:∀h∈hs,Mono h.R)
 (hy:∀(i:Nat) (h:Head) (o:Oper),hs[i]? = some h→l[i]? = some o→∀a W,Agree (hs.map (·.dst)) a0 a→Below w0.heap.size w0 W→(∀j∈h.deps,∀(hj:Head),hs[j]? = some hj→hj.R (a.eval (.tmp hj.dst)) W)→Yields P o a W h.fresh h.R)
 (hk:∀a W,Agree (hs.map (·.dst)) a0 a→Below w0.heap.size w0 W→(∀(i:Nat) (h:Head),hs[i]? = some h→h.R (a.eval (.tmp h.dst)) W)→(∀(i j:Nat) (h k:Head),hs[i]? = some h→hs[j]? = some k→i≠j→h.fresh=true→k.fresh=true→blk (a.eval (.tmp h.dst))≠blk (a.eval (.tmp k.dst)))→wpList P l.toArray Q (l.drop hs.length) a W):
 ∀(f:Nat) (listed:Array Bool) (a:Act) (W:World),freeB l.toArray hs.length (hs.map (·.deps)).toArray g f listed=true→FreeInv hs a0 w0 listed a W→wpAny P .any l.toArray Q (f+g) listed a W
 | 0,listed,a,W,hB,hI=>by
   simp only[freeB,Bool.and_eq_true,List.all_eq_true,List.mem_range] at hB
   rw[Nat.zero_add]
   have:=wpAny_of_seq (md:=.any) (Q':=Q) (P:=P) (l.drop hs.length) hs.length listed a W (fun j=>by simp[List.getElem?_drop]) (by rw[hg];exact hB.1) (hk a W hI.1 hI.2.1 (fun i h hi=>hI.2.2.1 i h hi (hB.2 i (lt_of_some hi))) (fun i j h k hi hj hij=>hI.2.2.2.2 i j h k hi hj hij (hB.2 i (lt_of_some hi)) (hB.2 j (lt_of_some hj))))
   rwa [hg] at this
 | f + 1,listed,a,W,hB,hI=>by
   simp only[freeB,Bool.and_eq_true,List.all_eq_true,decide_eq_true_eq,Bool.not_eq_true',List.isEmpty_eq_false_iff] at hB
   obtain⟨hne,hall⟩:=hB
   rw[show f+1+g=(f+g)+1 by omega]
   refine⟨fun e=>absurd e hne,fun i hi=>?_⟩
   obtain⟨⟨⟨hin2,his⟩,hdep⟩,hrec⟩:=hall i hi
   have hil:i<l.length:=by omega
   obtain⟨h,hh⟩:∃h,hs[i]? = some h:=⟨_,List.getElem?_eq_getElem hin2⟩
   obtain⟨o,ho⟩:∃o,l[i]? = some o:=⟨_,List.getElem?_eq_getElem hil⟩
   obtain⟨hgd,hd⟩:=hdst i h o hh ho
   have hmem:h∈hs:=List.mem_of_getElem? hh
   have hdep2:∀j∈h.deps,∀(hj:Head),hs[j]? = some hj→hj.R (a.eval (.tmp hj.dst)) W:=fun j hj hj' hjj=>by
    have hd1:((hs.map (·.deps)).toArray.getD i [])=h.deps:=by simp[hh]
    have:=hdep j (by rw[hd1];exact hj)
    exact hI.2.2.1 j hj' hjj this.2
   have hself:∀v,(a.put (some h.dst) v).eval (.tmp h.dst)=v:=fun v=>by
    have hs1:h.dst<a.tmps.size:=by rw[hI.1.2.1];exact hin h hmem
    simp[Act.put,Act.eval,hs1]
   have hoth:∀v (j:Nat) (hj:Head),hs[j]? = some hj→j≠i→(a.put (some h.dst) v).eval (.tmp hj.dst)=a.eval (.tmp hj.dst):=fun v j hj hjj hij=>by
    refine eval_put_ne (fun e=>hij ?_) _ _
    have hjl:=lt_of_some hjj
    have e1:(hs.map (·.dst))[j]'(by simpa using hjl)=(hs.map (·.dst))[i]'(by simpa using hin2):=by
     rw[List.getElem?_eq_getElem hjl] at hjj
     rw[List.getElem?_eq_getElem hin2] at hh
     injection hjj with hjj
     injection hh with hh
     simp only[List.getElem_map,hjj,hh]
     exact e.symm
    exact (List.getElem_inj hdis).1 e1
   have hlis:∀(j:Nat),j≠i→(listed.setIfInBounds i true).getD j false=true→listed.getD j false=true:=fun j hij h'=>by
    rw[Array.getD_eq_getD_getElem?,Array.getElem?_setIfInBounds_ne (Ne.symm hij)] at h'
    rw[Array.getD_eq_getD_getElem?]
    exact h'
   have key:∀v W',h.R v W'→Below W.heap.size W W'→Fresh h.fresh v W W'→wpAny P .any l.toArray Q (f+g) (listed.setIfInBounds i true) (a.put (some h.dst) v) W':=fun v W' hR hb hfr=>by
    refine free_any hg hdst hlen hin hdis hm hy hk f _ _ _ hrec ⟨hI.1.put (List.mem_map.2 ⟨h,hmem,rfl⟩) v,below_tr hI.2.1 hb hI.2.1.size,fun j hj hjj hlj=>?_,fun j hj hjj hlj hf=>?_,fun j k hj hk' hjj hkk hjk hlj hlk hfj hfk=>?_⟩
    · by_cases hij:j=i
      · subst hij
        rw[hh] at hjj
        injection hjj with hjj
        subst hjj
        rw[hself]
        exact hR
      · rw[hoth v j hj hjj hij]
        exact hm hj (List.mem_of_getElem? hjj) _ _ _ (hI.2.2.1 j hj hjj (hlis j hij hlj)) hb
    · by_cases hij:j=i
      · subst hij
        rw[hh] at hjj
        injection hjj with hjj
        subst hjj
        rw[hself]
        obtain⟨g',e1,e2,e3⟩:=hfr hf
        exact⟨g',e1,Nat.le_trans hI.2.1.size e2,e3⟩
      · rw[hoth v j hj hjj hij]
        obtain⟨g',e1,e2,e3⟩:=hI.2.2.2.1 j hj hjj (hlis j hij hlj) hf
        exact⟨g',e1,e2,Nat.lt_of_lt_of_le e3 hb.size⟩
    · by_cases hij:j=i
      · subst hij
        have hki:k≠j:=Ne.symm hjk
        rw[hh] at hjj
        injection hjj with hjj
        subst hjj
        rw[hself,hoth v k hk' hkk hki]
        obtain⟨g',e1,e2,e3⟩:=hfr hfj
        obtain⟨g2,f1,f2,f3⟩:=hI.2.2.2.1 k hk' hkk (hlis k hki hlk) hfk
        rw[e1,f1]
        intro e
        injection e with e
        omega
      · by_cases hik:k=i
        · subst hik
          rw[hh] at hkk
          injection hkk with hkk
          subst hkk
          rw[hself,hoth v j hj hjj hij]
          obtain⟨g',e1,e2,e3⟩:=hfr hfk
          obtain⟨g2,f1,f2,f3⟩:=hI.2.2.2.1 j hj hjj (hlis j hij hlj) hfj
          rw[e1,f1]
          intro e
          injection e with e
          omega
        · rw[hoth v j hj hjj hij,hoth v k hk' hkk hik]
          exact hI.2.2.2.2 j k hj hk' hjj hkk hjk (hlis j hij hlj) (hlis k hik hlk) hfj hfk
   unfold wpOp
   rw[show l.toArray[i]? = some o by simpa using ho]
   simp only
   rw[if_pos (by simp[Region.wanted,hgd])]
   refine .inl ?_
   unfold Oper.wp
   rcases hy i h o hh ho a W hI.1 hI.2.1 hdep2 with ⟨v,W',hr,hR,hb,hfr⟩ | ⟨fn,args,hr,hc⟩
   · rw[hr]
     simp only[Oper.upon,hd]
     exact key v W' hR hb hfr
   · rw[hr]
     simp only[Oper.upon,hd]
     exact hc.mono fun e W' ⟨v,he,hR,hb,hfr⟩=>by subst he;exact key v W' hR hb hfr
def AllHeads (p:Head→Oper→Prop):List Head→List Oper→Prop
 | [],_=>True
 | h::hs,o::ol=>p h o∧AllHeads p hs ol
 | _::_,[]=>False
theorem AllHeads.at {p:Head→Oper→Prop}:∀{hs:List Head} {l:List Oper},AllHeads p hs l→∀(i:Nat) (h:Head) (o:Oper),hs[i]? = some h→l[i]? = some o→p h o
 | [],_,_,i,h,o,hh,_=>by simp at hh
 | h0::hs,o0::l,ha,0,h,o,hh,ho=>by
   simp only[List.getElem?_cons_zero,Option.some.injEq] at hh ho
   rw[←hh,←ho]
   exact ha.1
 | h0::hs,o0::l,ha,i+1,h,o,hh,ho=>AllHeads.at ha.2 i h o (by simpa using hh) (by simpa using ho)
 | _::_,[],ha,_,_,_,_,_=>ha.elim
theorem yields_value {o:Oper} {a:Act} {W:World} {R:Value→World→Prop} (v:Value) (h:(execOp a.eval o).run P W = .ok (.value v) W) (hR:R v W):Yields P o a W false R:=.inl ⟨v,W,h,hR,Below.refl _ _,fresh_no _ _ _⟩
theorem yields_call {o:Oper} {a:Act} {W:World} {R:Value→World→Prop} (f:FuncId) (args:Array Value) (h:(execOp a.eval o).run P W = .ok (.enter f args) W) (hc:Calls P f args W fun e W'=>∃v,e = .returned v∧R v W'∧Below W.heap.size W W'):Yields P o a W false R:=
 .inr ⟨f,args,h,hc.mono fun e W' ⟨v,h1,h2,h3⟩=>⟨v,h1,h2,h3,fresh_no _ _ _⟩⟩
end
section
variable {P:Program} {Q:Exit→Act→World→Prop}
def unl (listed:Array Bool):Nat→Nat
 | 0=>0
 | n+1=>unl listed n+(if listed.getD n false=true then 0 else 1)
theorem unl_same (listed:Array Bool) (i:Nat):∀n,n≤i→unl (listed.setIfInBounds i true) n=unl listed n
 | 0,_=>rfl
 | n+1,h=>by
   rw[unl,unl,unl_same listed i n (by omega),getD_set_ne false (by omega)]
theorem unl_set {listed:Array Bool} {i:Nat} (hs:i<listed.size) (hi:listed.getD i false=false):∀n,i<n→unl (listed.setIfInBounds i true) n+1=unl listed n
 | 0,h=>by omega
 | n + 1,h=>by
   rw[unl,unl]
   by_cases e:i=n
   · subst e
     rw[unl_same listed i i (Nat.le_refl _),hi]
     have:(listed.setIfInBounds i true).getD i false=true:=by simp[hs]
     rw[this]
     simp
   · rw[getD_set_ne false e,←unl_set hs hi n (by omega)]
     omega
theorem unl_zero {listed:Array Bool}:∀n,unl listed n=0→∀i,i<n→listed.getD i false=true
 | 0,_,i,h=>by omega
 | n + 1,h0,i,h=>by
   rw[unl] at h0
   by_cases e:i=n
   · subst e
     by_cases hl:listed.getD i false=true
     · exact hl
     · rw[if_neg hl] at h0;omega
   · exact unl_zero n (by omega) i (by omega)
theorem unl_pos {listed:Array Bool}:∀n,0<unl listed n→∃i,i<n∧listed.getD i false=false∧∀j,j<i→listed.getD j false=true
 | 0,h=>by simp[unl] at h
 | n + 1,h=>by
   by_cases h0:0<unl listed n
   · obtain⟨i,hi,h1,h2⟩:=unl_pos n h0
     exact⟨i,by omega,h1,h2⟩
   · rw[unl] at h
     by_cases hl:listed.getD n false=true
     · rw[if_pos hl] at h;omega
     · exact⟨n,by omega,by simpa using hl,fun j hj=>unl_zero n (by omega) j hj⟩
def allL (m n:Nat):Array Bool:=((List.range m).map fun i=>decide (i<n)).toArray
def wideB (ops:Array Oper) (n:Nat) (deps:Array (List Nat)):Bool:=
 decide (n<ops.size)&&Region.sinkB .any ops n&&Region.chainB .any ops n&&Region.seqB .any ops (ops.size-n) n (allL ops.size n) &&
  (List.range n).all (fun j=>(deps.getD j []).all fun d=>decide (d<n)&&Region.waitsFor .any ops j d) &&
  (List.range n).all (fun j=>match ops[j]? with
    | some o=>o.after.toList.all fun e=>!Region.binds .any e||decide (e.on<j)
    | none=>false)
structure Wide (ops:Array Oper) (n:Nat) (deps:Array (List Nat)):Prop where
 lt:n<ops.size
 sink:Region.sinkB .any ops n=true
 chain:Region.chainB .any ops n=true
 seq:Region.seqB .any ops (ops.size-n) n (allL ops.size n)=true
 dep:∀j,j<n→∀d∈deps.getD j [],d<n∧Region.waitsFor .any ops j d=true
 low:∀j,j<n→∃o,ops[j]? = some o∧∀e∈o.after,Region.binds .any e=true→e.on<j
theorem wide_of {ops:Array Oper} {n:Nat} {deps:Array (List Nat)} (h:wideB ops n deps=true):Wide ops n deps:=by
 simp only[wideB,Bool.and_eq_true,decide_eq_true_eq,List.all_eq_true,List.mem_range] at h
 obtain⟨⟨⟨⟨⟨h1,h2⟩,h3⟩,h4⟩,h5⟩,h6⟩:=h
 refine⟨h1,h2,h3,h4,fun j hj d hd=>h5 j hj d hd,fun j hj=>?_⟩
 have:=h6 j hj
 cases ho:ops[j]? with
 | none=>rw[ho] at this;cases this
 | some o=>
   rw[ho] at this
   refine⟨o,rfl,fun e he hb=>?_⟩
   simp only[List.all_eq_true] at this
   have:=this e (by simpa using he)
   simpa[hb] using this
theorem all_listed {ops:Array Oper} {n:Nat} {listed:Array Bool} (inv:HeadInv .any ops n listed) (hn:n<ops.size) (h:∀i,i<n→listed.getD i false=true):listed=allL ops.size n:=by
 apply Array.ext
 · simp[allL,inv.size]
 · intro i h1 h2
   have h3:i<ops.size:=by rw[←inv.size];exact h1
   simp only[allL,List.getElem_toArray,List.getElem_map,List.getElem_range]
   by_cases hi:i<n
   · rw[decide_eq_true hi]
     have:=h i hi
     simpa[h1] using this
   · rw[decide_eq_false hi]
     have:=inv.tail i (by omega) h3
     simpa[h1] using this
theorem wide_any {l:List Oper} {hs:List Head} {a0:Act} {w0:World} {g:Nat} (hW:wideB l.toArray hs.length (hs.map (·.deps)).toArray=true) (hg:(l.drop hs.length).length=g)
 (hdst:∀(i:Nat) (h:Head) (o:Oper),hs[i]? = some h→l[i]? = some o→o.guard=none∧o.dst=some h.dst) (hlen:hs.length≤l.length) (hin:∀h∈hs,h.dst<a0.tmps.size) (hdis:(hs.map (·.dst)).Nodup)
 (hm:∀h∈hs,Mono h.R)
 (hy:∀(i:Nat) (h:Head) (o:Oper),hs[i]? = some h→l[i]? = some o→∀a W,Agree (hs.map (·.dst)) a0 a→Below w0.heap.size w0 W→(∀j∈h.deps,∀(hj:Head),hs[j]? = some hj→hj.R (a.eval (.tmp hj.dst)) W)→Yields P o a W h.fresh h.R)
 (hk:∀a W,Agree (hs.map (·.dst)) a0 a→Below w0.heap.size w0 W→(∀(i:Nat) (h:Head),hs[i]? = some h→h.R (a.eval (.tmp h.dst)) W)→(∀(i j:Nat) (h k:Head),hs[i]? = some h→hs[j]? = some k→i≠j→h.fresh=true→k.fresh=true→blk (a.eval (.tmp h.dst))≠blk (a.eval (.tmp k.dst)))→wpList P l.toArray Q (l.drop hs.length) a W):
 ∀(f:Nat) (listed:Array Bool) (a:Act) (W:World),HeadInv .any l.toArray hs.length listed→unl listed hs.length=f→FreeInv hs a0 w0 listed a W→wpAny P .any l.toArray Q (f+g) listed a W
 | 0,listed,a,W,inv,hu,hI=>by
   have hWd:=wide_of hW
   have hall:=unl_zero _ hu
   rw[Nat.zero_add]
   have hsq:=hWd.seq
   rw[←all_listed inv hWd.lt hall,show l.toArray.size-hs.length=g by rw[←hg];simp] at hsq
   have:=wpAny_of_seq (md:=.any) (Q':=Q) (P:=P) (l.drop hs.length) hs.length listed a W (fun j=>by simp[List.getElem?_drop]) (by rw[hg];exact hsq) (hk a W hI.1 hI.2.1 (fun i h hi=>hI.2.2.1 i h hi (hall i (lt_of_some hi))) (fun i j h k hi hj hij=>hI.2.2.2.2 i j h k hi hj hij (hall i (lt_of_some hi)) (hall j (lt_of_some hj))))
   rwa [hg] at this
 | f + 1,listed,a,W,inv,hu,hI=>by
   have hWd:=wide_of hW
   obtain⟨i0,hi0,hun0,hlow0⟩:=unl_pos (listed:=listed) hs.length (by omega)
   have hsz:=inv.size
   have hun0':listed.getD i0 true=false:=getD_in (by have:=hWd.lt;omega) hun0
   rw[show f+1+g=(f+g)+1 by omega]
   have hne:i0∈Region.ready .any l.toArray listed:=by
    obtain⟨o,ho,hb⟩:=hWd.low i0 hi0
    exact mem_ready.2 ⟨hun0',o,ho,fun e he hbd=>hlow0 _ (hb e he hbd)⟩
   refine⟨fun e=>(by rw[e] at hne;cases hne),fun i hi=>?_⟩
   have hin2:i<hs.length:=by
    rcases Nat.lt_or_ge i hs.length with h | h
    · exact h
    · exact absurd hi (tail_waits hWd.sink hWd.chain hWd.lt inv _ i0 rfl hi0 hun0' i h)
   have hdep:∀d∈((hs.map (·.deps)).toArray.getD i []),listed.getD d false=true:=fun d hd=>by
    obtain⟨_,oi,hoi,hall⟩:=mem_ready.1 hi
    obtain⟨oj,hoj,e,he,hb,hon⟩:=Region.waitsFor_spec (hWd.dep i hin2 d hd).2
    have:oj=oi:=Option.some.inj (hoj.symm.trans hoi)
    subst this
    rw[←hon]
    exact hall e he hb
   have hrec:unl (listed.setIfInBounds i true) hs.length=f:=by
    have:=unl_set (listed:=listed) (i:=i) (by have:=hWd.lt;omega) (getD_both (mem_ready.1 hi).1) hs.length hin2
    omega
   have hil:i<l.length:=by omega
   obtain⟨h,hh⟩:∃h,hs[i]? = some h:=⟨_,List.getElem?_eq_getElem hin2⟩
   obtain⟨o,ho⟩:∃o,l[i]? = some o:=⟨_,List.getElem?_eq_getElem hil⟩
   obtain⟨hgd,hd⟩:=hdst i h o hh ho
   have hmem:h∈hs:=List.mem_of_getElem? hh
   have hdep2:∀j∈h.deps,∀(hj:Head),hs[j]? = some hj→hj.R (a.eval (.tmp hj.dst)) W:=fun j hj hj' hjj=>by
    have hd1:((hs.map (·.deps)).toArray.getD i [])=h.deps:=by simp[hh]
    exact hI.2.2.1 j hj' hjj (hdep j (by rw[hd1];exact hj))
   have hself:∀v,(a.put (some h.dst) v).eval (.tmp h.dst)=v:=fun v=>by
    have hs1:h.dst<a.tmps.size:=by rw[hI.1.2.1];exact hin h hmem
    simp[Act.put,Act.eval,hs1]
   have hoth:∀v (j:Nat) (hj:Head),hs[j]? = some hj→j≠i→(a.put (some h.dst) v).eval (.tmp hj.dst)=a.eval (.tmp hj.dst):=fun v j hj hjj hij=>by
    refine eval_put_ne (fun e=>hij ?_) _ _
    have hjl:=lt_of_some hjj
    have e1:(hs.map (·.dst))[j]'(by simpa using hjl)=(hs.map (·.dst))[i]'(by simpa using hin2):=by
     rw[List.getElem?_eq_getElem hjl] at hjj
     rw[List.getElem?_eq_getElem hin2] at hh
     injection hjj with hjj
     injection hh with hh
     simp only[List.getElem_map,hjj,hh]
     exact e.symm
    exact (List.getElem_inj hdis).1 e1
   have hlis:∀(j:Nat),j≠i→(listed.setIfInBounds i true).getD j false=true→listed.getD j false=true:=fun j hij h'=>by
    rw[Array.getD_eq_getD_getElem?,Array.getElem?_setIfInBounds_ne (Ne.symm hij)] at h'
    rw[Array.getD_eq_getD_getElem?]
    exact h'
   have key:∀v W',h.R v W'→Below W.heap.size W W'→Fresh h.fresh v W W'→wpAny P .any l.toArray Q (f+g) (listed.setIfInBounds i true) (a.put (some h.dst) v) W':=fun v W' hR hb hfr=>by
    refine wide_any hW hg hdst hlen hin hdis hm hy hk f _ _ _ (inv.set hi hin2) hrec ⟨hI.1.put (List.mem_map.2 ⟨h,hmem,rfl⟩) v,below_tr hI.2.1 hb hI.2.1.size,fun j hj hjj hlj=>?_,fun j hj hjj hlj hf=>?_,fun j k hj hk' hjj hkk hjk hlj hlk hfj hfk=>?_⟩
    · by_cases hij:j=i
      · subst hij
        rw[hh] at hjj
        injection hjj with hjj
        subst hjj
        rw[hself]
        exact hR
      · rw[hoth v j hj hjj hij]
        exact hm hj (List.mem_of_getElem? hjj) _ _ _ (hI.2.2.1 j hj hjj (hlis j hij hlj)) hb
    · by_cases hij:j=i
      · subst hij
        rw[hh] at hjj
        injection hjj with hjj
        subst hjj
        rw[hself]
        obtain⟨g',e1,e2,e3⟩:=hfr hf
        exact⟨g',e1,Nat.le_trans hI.2.1.size e2,e3⟩
      · rw[hoth v j hj hjj hij]
        obtain⟨g',e1,e2,e3⟩:=hI.2.2.2.1 j hj hjj (hlis j hij hlj) hf
        exact⟨g',e1,e2,Nat.lt_of_lt_of_le e3 hb.size⟩
    · by_cases hij:j=i
      · subst hij
        have hki:k≠j:=Ne.symm hjk
        rw[hh] at hjj
        injection hjj with hjj
        subst hjj
        rw[hself,hoth v k hk' hkk hki]
        obtain⟨g',e1,e2,e3⟩:=hfr hfj
        obtain⟨g2,f1,f2,f3⟩:=hI.2.2.2.1 k hk' hkk (hlis k hki hlk) hfk
        rw[e1,f1]
        intro e
        injection e with e
        omega
      · by_cases hik:k=i
        · subst hik
          rw[hh] at hkk
          injection hkk with hkk
          subst hkk
          rw[hself,hoth v j hj hjj hij]
          obtain⟨g',e1,e2,e3⟩:=hfr hfk
          obtain⟨g2,f1,f2,f3⟩:=hI.2.2.2.1 j hj hjj (hlis j hij hlj) hfj
          rw[e1,f1]
          intro e
          injection e with e
          omega
        · rw[hoth v j hj hjj hij,hoth v k hk' hkk hik]
          exact hI.2.2.2.2 j k hj hk' hjj hkk hjk (hlis j hij hlj) (hlis k hik hlk) hfj hfk
   unfold wpOp
   rw[show l.toArray[i]? = some o by simpa using ho]
   simp only
   rw[if_pos (by simp[Region.wanted,hgd])]
   refine .inl ?_
   unfold Oper.wp
   rcases hy i h o hh ho a W hI.1 hI.2.1 hdep2 with ⟨v,W',hr,hR,hb,hfr⟩ | ⟨fn,args,hr,hc⟩
   · rw[hr]
     simp only[Oper.upon,hd]
     exact key v W' hR hb hfr
   · rw[hr]
     simp only[Oper.upon,hd]
     exact hc.mono fun e W' ⟨v,he,hR,hb,hfr⟩=>by subst he;exact key v W' hR hb hfr
end
section
variable {P:Program} {Q:Exit→Act→World→Prop}
def Takes (P:Program) (ops:Array Oper) (o:Oper) (a:Act) (W:World) (fr:Bool) (R:Value→World→Prop):Prop:=
 (Region.wanted o (yielded ops a.tmps)=true∧Yields P o a W fr R)∨(Region.wanted o (yielded ops a.tmps)=false∧R undef W∧fr=false)
theorem takes_plain {ops:Array Oper} {o:Oper} {a:Act} {W:World} {fr:Bool} {R:Value→World→Prop} (hg:o.guard=none) (h:Yields P o a W fr R):Takes P ops o a W fr R:=.inl ⟨by simp[Region.wanted,hg],h⟩
theorem wide3_any {l:List Oper} {hs:List Head} {a0:Act} {w0:World} {g:Nat} (hW:wideB l.toArray hs.length (hs.map (·.deps)).toArray=true) (hg:(l.drop hs.length).length=g)
 (hdst:∀(i:Nat) (h:Head) (o:Oper),hs[i]? = some h→l[i]? = some o→o.dst=some h.dst) (hlen:hs.length≤l.length) (hin:∀h∈hs,h.dst<a0.tmps.size) (hdis:(hs.map (·.dst)).Nodup)
 (hm:∀h∈hs,Mono h.R)
 (hy:∀(i:Nat) (h:Head) (o:Oper),hs[i]? = some h→l[i]? = some o→∀a W,Agree (hs.map (·.dst)) a0 a→Below w0.heap.size w0 W→(∀j∈h.deps,∀(hj:Head),hs[j]? = some hj→hj.R (a.eval (.tmp hj.dst)) W)→Takes P l.toArray o a W h.fresh h.R)
 (hk:∀a W,Agree (hs.map (·.dst)) a0 a→Below w0.heap.size w0 W→(∀(i:Nat) (h:Head),hs[i]? = some h→h.R (a.eval (.tmp h.dst)) W)→(∀(i j:Nat) (h k:Head),hs[i]? = some h→hs[j]? = some k→i≠j→h.fresh=true→k.fresh=true→blk (a.eval (.tmp h.dst))≠blk (a.eval (.tmp k.dst)))→wpList P l.toArray Q (l.drop hs.length) a W):
 ∀(f:Nat) (listed:Array Bool) (a:Act) (W:World),HeadInv .any l.toArray hs.length listed→unl listed hs.length=f→FreeInv hs a0 w0 listed a W→wpAny P .any l.toArray Q (f+g) listed a W
 | 0,listed,a,W,inv,hu,hI=>by
   have hWd:=wide_of hW
   have hall:=unl_zero _ hu
   rw[Nat.zero_add]
   have hsq:=hWd.seq
   rw[←all_listed inv hWd.lt hall,show l.toArray.size-hs.length=g by rw[←hg];simp] at hsq
   have:=wpAny_of_seq (md:=.any) (Q':=Q) (P:=P) (l.drop hs.length) hs.length listed a W (fun j=>by simp[List.getElem?_drop]) (by rw[hg];exact hsq) (hk a W hI.1 hI.2.1 (fun i h hi=>hI.2.2.1 i h hi (hall i (lt_of_some hi))) (fun i j h k hi hj hij=>hI.2.2.2.2 i j h k hi hj hij (hall i (lt_of_some hi)) (hall j (lt_of_some hj))))
   rwa [hg] at this
 | f + 1,listed,a,W,inv,hu,hI=>by
   have hWd:=wide_of hW
   obtain⟨i0,hi0,hun0,hlow0⟩:=unl_pos (listed:=listed) hs.length (by omega)
   have hsz:=inv.size
   have hun0':listed.getD i0 true=false:=getD_in (by have:=hWd.lt;omega) hun0
   rw[show f+1+g=(f+g)+1 by omega]
   have hne:i0∈Region.ready .any l.toArray listed:=by
    obtain⟨o,ho,hb⟩:=hWd.low i0 hi0
    exact mem_ready.2 ⟨hun0',o,ho,fun e he hbd=>hlow0 _ (hb e he hbd)⟩
   refine⟨fun e=>(by rw[e] at hne;cases hne),fun i hi=>?_⟩
   have hin2:i<hs.length:=by
    rcases Nat.lt_or_ge i hs.length with h | h
    · exact h
    · exact absurd hi (tail_waits hWd.sink hWd.chain hWd.lt inv _ i0 rfl hi0 hun0' i h)
   have hdep:∀d∈((hs.map (·.deps)).toArray.getD i []),listed.getD d false=true:=fun d hd=>by
    obtain⟨_,oi,hoi,hall⟩:=mem_ready.1 hi
    obtain⟨oj,hoj,e,he,hb,hon⟩:=Region.waitsFor_spec (hWd.dep i hin2 d hd).2
    have:oj=oi:=Option.some.inj (hoj.symm.trans hoi)
    subst this
    rw[←hon]
    exact hall e he hb
   have hrec:unl (listed.setIfInBounds i true) hs.length=f:=by
    have:=unl_set (listed:=listed) (i:=i) (by have:=hWd.lt;omega) (getD_both (mem_ready.1 hi).1) hs.length hin2
    omega
   have hil:i<l.length:=by omega
   obtain⟨h,hh⟩:∃h,hs[i]? = some h:=⟨_,List.getElem?_eq_getElem hin2⟩
   obtain⟨o,ho⟩:∃o,l[i]? = some o:=⟨_,List.getElem?_eq_getElem hil⟩
   have hd:=hdst i h o hh ho
   have hmem:h∈hs:=List.mem_of_getElem? hh
   have hdep2:∀j∈h.deps,∀(hj:Head),hs[j]? = some hj→hj.R (a.eval (.tmp hj.dst)) W:=fun j hj hj' hjj=>by
    have hd1:((hs.map (·.deps)).toArray.getD i [])=h.deps:=by simp[hh]
    exact hI.2.2.1 j hj' hjj (hdep j (by rw[hd1];exact hj))
   have hself:∀v,(a.put (some h.dst) v).eval (.tmp h.dst)=v:=fun v=>by
    have hs1:h.dst<a.tmps.size:=by rw[hI.1.2.1];exact hin h hmem
    simp[Act.put,Act.eval,hs1]
   have hoth:∀v (j:Nat) (hj:Head),hs[j]? = some hj→j≠i→(a.put (some h.dst) v).eval (.tmp hj.dst)=a.eval (.tmp hj.dst):=fun v j hj hjj hij=>by
    refine eval_put_ne (fun e=>hij ?_) _ _
    have hjl:=lt_of_some hjj
    have e1:(hs.map (·.dst))[j]'(by simpa using hjl)=(hs.map (·.dst))[i]'(by simpa using hin2):=by
     rw[List.getElem?_eq_getElem hjl] at hjj
     rw[List.getElem?_eq_getElem hin2] at hh
     injection hjj with hjj
     injection hh with hh
     simp only[List.getElem_map,hjj,hh]
     exact e.symm
    exact (List.getElem_inj hdis).1 e1
   have hlis:∀(j:Nat),j≠i→(listed.setIfInBounds i true).getD j false=true→listed.getD j false=true:=fun j hij h'=>by
    rw[Array.getD_eq_getD_getElem?,Array.getElem?_setIfInBounds_ne (Ne.symm hij)] at h'
    rw[Array.getD_eq_getD_getElem?]
    exact h'
   have key:∀v W',h.R v W'→Below W.heap.size W W'→Fresh h.fresh v W W'→wpAny P .any l.toArray Q (f+g) (listed.setIfInBounds i true) (a.put (some h.dst) v) W':=fun v W' hR hb hfr=>by
    refine wide3_any hW hg hdst hlen hin hdis hm hy hk f _ _ _ (inv.set hi hin2) hrec ⟨hI.1.put (List.mem_map.2 ⟨h,hmem,rfl⟩) v,below_tr hI.2.1 hb hI.2.1.size,fun j hj hjj hlj=>?_,fun j hj hjj hlj hf=>?_,fun j k hj hk' hjj hkk hjk hlj hlk hfj hfk=>?_⟩
    · by_cases hij:j=i
      · subst hij
        rw[hh] at hjj
        injection hjj with hjj
        subst hjj
        rw[hself]
        exact hR
      · rw[hoth v j hj hjj hij]
        exact hm hj (List.mem_of_getElem? hjj) _ _ _ (hI.2.2.1 j hj hjj (hlis j hij hlj)) hb
    · by_cases hij:j=i
      · subst hij
        rw[hh] at hjj
        injection hjj with hjj
        subst hjj
        rw[hself]
        obtain⟨g',e1,e2,e3⟩:=hfr hf
        exact⟨g',e1,Nat.le_trans hI.2.1.size e2,e3⟩
      · rw[hoth v j hj hjj hij]
        obtain⟨g',e1,e2,e3⟩:=hI.2.2.2.1 j hj hjj (hlis j hij hlj) hf
        exact⟨g',e1,e2,Nat.lt_of_lt_of_le e3 hb.size⟩
    · by_cases hij:j=i
      · subst hij
        have hki:k≠j:=Ne.symm hjk
        rw[hh] at hjj
        injection hjj with hjj
        subst hjj
        rw[hself,hoth v k hk' hkk hki]
        obtain⟨g',e1,e2,e3⟩:=hfr hfj
        obtain⟨g2,f1,f2,f3⟩:=hI.2.2.2.1 k hk' hkk (hlis k hki hlk) hfk
        rw[e1,f1]
        intro e
        injection e with e
        omega
      · by_cases hik:k=i
        · subst hik
          rw[hh] at hkk
          injection hkk with hkk
          subst hkk
          rw[hself,hoth v j hj hjj hij]
          obtain⟨g',e1,e2,e3⟩:=hfr hfk
          obtain⟨g2,f1,f2,f3⟩:=hI.2.2.2.1 j hj hjj (hlis j hij hlj) hfj
          rw[e1,f1]
          intro e
          injection e with e
          omega
        · rw[hoth v j hj hjj hij,hoth v k hk' hkk hik]
          exact hI.2.2.2.2 j k hj hk' hjj hkk hjk (hlis j hij hlj) (hlis k hik hlk) hfj hfk
   unfold wpOp
   rw[show l.toArray[i]? = some o by simpa using ho]
   simp only
   rcases hy i h o hh ho a W hI.1 hI.2.1 hdep2 with ⟨hwt,hyl⟩ | ⟨hwt,hR,hfr⟩
   · rw[if_pos hwt]
     refine .inl ?_
     unfold Oper.wp
     rcases hyl with ⟨v,W',hr,hR,hb,hfr⟩ | ⟨fn,args,hr,hc⟩
     · rw[hr]
       simp only[Oper.upon,hd]
       exact key v W' hR hb hfr
     · rw[hr]
       simp only[Oper.upon,hd]
       exact hc.mono fun e W' ⟨v,he,hR,hb,hfr⟩=>by subst he;exact key v W' hR hb hfr
   · rw[if_neg (by rw[hwt];exact Bool.false_ne_true)]
     rw[hd]
     exact key undef W hR (Below.refl _ _) (by rw[hfr];exact fresh_no _ _ _)
def Head.ok3 (P:Program) (ops:Array Oper) (hs:List Head) (a0:Act) (w0:World) (h:Head) (o:Oper):Prop:=
 o.dst=some h.dst∧Mono h.R∧(∀a W,Agree (hs.map (·.dst)) a0 a→Below w0.heap.size w0 W→(∀j∈h.deps,∀(hj:Head),hs[j]? = some hj→hj.R (a.eval (.tmp hj.dst)) W)→Takes P ops o a W h.fresh h.R)
theorem wp_wide3a {id:Nat} {a0:Act} {w0:World} {l:List Oper} (hs:List Head) (hmx:P.follows .mixedOrders=true) (hlen:hs.length≤l.length)
 (hB:wideB l.toArray hs.length (hs.map (·.deps)).toArray=true)
 (hdst:∀(i:Nat) (h:Head) (o:Oper),hs[i]? = some h→l[i]? = some o→o.dst=some h.dst) (hin:∀h∈hs,h.dst<a0.tmps.size) (hdis:(hs.map (·.dst)).Nodup) (hm:∀h∈hs,Mono h.R)
 (hy:∀(i:Nat) (h:Head) (o:Oper),hs[i]? = some h→l[i]? = some o→∀a W,Agree (hs.map (·.dst)) a0 a→Below w0.heap.size w0 W→(∀j∈h.deps,∀(hj:Head),hs[j]? = some hj→hj.R (a.eval (.tmp hj.dst)) W)→Takes P l.toArray o a W h.fresh h.R)
 (hk:∀(vs:Tmp→Value) W,(∀(i:Nat) (h:Head),hs[i]? = some h→h.R (vs h.dst) W)→(∀(i j:Nat) (h k:Head),hs[i]? = some h→hs[j]? = some k→i≠j→h.fresh=true→k.fresh=true→blk (vs h.dst)≠blk (vs k.dst))→Below w0.heap.size w0 W→wpList P l.toArray Q (l.drop hs.length) ((hs.map (·.dst)).foldl (fun x d=>x.put (some d) (vs d)) a0) W):
 (Code.region id l.toArray true).wp P Q a0 w0:=by
 refine wp_region_any hmx ?_
 have hinv:HeadInv .any l.toArray hs.length (Array.replicate l.toArray.size false):=⟨by simp,fun j oj hj hl=>(by rw[getD_replicate_false] at hl;cases hl),fun t ht ht'=>getD_in (by simpa using ht') (getD_replicate_false _ _)⟩
 have hunl:∀n,unl (Array.replicate l.toArray.size false) n=n:=fun n=>by
  induction n with
  | zero=>rfl
  | succ n ih=>rw[unl,ih,getD_replicate_false];simp
 have h1:=wide3_any (P:=P) (Q:=Q) (l:=l) (hs:=hs) (a0:=a0) (w0:=w0) (g:=l.length-hs.length) hB (by simp) hdst hlen hin hdis hm hy
  (fun a W hA hb hR hF=>by
    have:=hk (fun d=>a.eval (.tmp d)) W hR hF hb
    rw[←Agree.rebuild _ _ hA] at this
    exact this) hs.length (Array.replicate l.toArray.size false) a0 { w0 with drawn:=w0.drawn+1 } hinv (hunl _)
  ⟨Agree.refl _ _,(Below.refl _ w0).drew,fun i h hi hl=>(by rw[getD_replicate_false] at hl;cases hl),fun i h hi hl=>(by rw[getD_replicate_false] at hl;cases hl),fun i j h k hi hj hij hl=>(by rw[getD_replicate_false] at hl;cases hl)⟩
 have hsz:l.toArray.size=hs.length+(l.length-hs.length):=by rw[List.size_toArray];omega
 have e:wpAny P .any l.toArray Q l.toArray.size=wpAny P .any l.toArray Q (hs.length+(l.length-hs.length)):=congrArg _ hsz
 rw[e]
 exact h1
theorem wp_wide3 {id:Nat} {a0:Act} {w0:World} {l:List Oper} (hs:List Head) (hmx:P.follows .mixedOrders=true)
 (hB:wideB l.toArray hs.length (hs.map (·.deps)).toArray=true)
 (hlen:decide (hs.length≤l.length)=true) (hin:(hs.map (·.dst)).all (fun d=>decide (d<a0.tmps.size))=true) (hdis:decide ((hs.map (·.dst)).Nodup)=true)
 (hok:AllHeads (Head.ok3 P l.toArray hs a0 w0) hs l)
 (hk:∀(vs:Tmp→Value) W,(∀(i:Nat) (h:Head),hs[i]? = some h→h.R (vs h.dst) W)→(∀(i j:Nat) (h k:Head),hs[i]? = some h→hs[j]? = some k→i≠j→h.fresh=true→k.fresh=true→blk (vs h.dst)≠blk (vs k.dst))→Below w0.heap.size w0 W→wpList P l.toArray Q (l.drop hs.length) ((hs.map (·.dst)).foldl (fun x d=>x.put (some d) (vs d)) a0) W):
 (Code.region id l.toArray true).wp P Q a0 w0:=by
 have hlen':=of_decide_eq_true hlen
 have hmem:∀h∈hs,∃(i:Nat) (o:Oper),hs[i]? = some h∧l[i]? = some o:=fun h hh=>by
  obtain⟨i,hi,rfl⟩:=List.getElem_of_mem hh
  exact⟨i,_,List.getElem?_eq_getElem hi,List.getElem?_eq_getElem (by omega)⟩
 refine wp_wide3a hs hmx hlen' hB (fun i h o hi ho=>(hok.at i h o hi ho).1) (fun h hh=>?_) (of_decide_eq_true hdis) (fun h hh=>?_) (fun i h o hi ho=>(hok.at i h o hi ho).2.2) hk
 · have:=List.all_eq_true.1 hin h.dst (List.mem_map.2 ⟨h,hh,rfl⟩)
   exact of_decide_eq_true this
 · obtain⟨i,o,hi,ho⟩:=hmem h hh
   exact (hok.at i h o hi ho).2.1
end
theorem eval_get (a:Act) (t:Nat):a.tmps[t]?.getD undef=a.eval (.tmp t):=by simp[Act.eval]
def OwR (B:Nat) (l:List Nat) (v:Value) (W:World):Prop:=OwB W B v l
theorem OwR.mono (B:Nat) (l:List Nat):Mono (OwR B l):=fun v W W' h hb=>h.ab hb
theorem OwB.lower {w:World} {B B':Nat} {v:Value} {l:List Nat} (h:OwB w B v l) (hb:B'≤B):OwB w B' v l:=by
 refine⟨⟨h.own.1,?_⟩,h.byt⟩
 rcases h.own.2 with hn | ⟨g,cap,cur,e,hb',rest⟩
 · exact .inl hn
 · exact .inr ⟨g,cap,cur,e,Nat.le_trans hb hb',rest⟩
theorem add_zero' (A:Option Addr):A.map (·.add 0)=A:=by
 cases A with
 | none=>rfl
 | some x=>simp[Addr.add]
theorem IsB.none {w:World} {n c:Nat} {l:List Nat} (h:IsB w none n c l):n=0∧c=0:=by
 rcases h.1.2.2.2.2 with ⟨h1,h2⟩ | ⟨x,h1,_⟩
 · exact⟨by have:=h.1.2.1;omega,h2⟩
 · cases h1
theorem wide_u64 (n:Nat) (h:n<18446744073709551616):IntKind.u64.wrap (n:Int)=(n:Int):=wrap_u64' (n:=n) (by omega) _ (by omega) (by omega)
theorem isB_marked {w:World} {g n:Nat} {t:TypeId} {fr:Nat×Nat} {l:List Nat} (h:w.heap[g]? = some (.cells (bts l) t fr)) (hb:Byt l) (hl:l.length=n) (hn:n≤9223372036854775807):IsB w (some ⟨g,0,none⟩) n n l:=by
 refine⟨⟨by simp[hl],Nat.le_refl _,hn,byt_wf hb,.inr ⟨⟨g,0,none⟩,rfl,fun _=>lt_of_block h,fun i hi=>?_⟩⟩,hb⟩
 have hc:w.cell? ⟨g,i,none⟩=(bts l)[i]?:=Joins.cell_of_block h i
 have e:(⟨g,0,none⟩:Addr).add i=⟨g,i,none⟩:=by rw[Addr.add_mid,Nat.zero_add]
 rw[e,hc]
 simp[bts,List.getD_eq_getElem?_getD,List.getElem?_eq_getElem (show i<l.length by omega)]
theorem empty_own (w:World):OwB (w.alloc (.cells #[] 5)) w.heap.size (.slice (some ⟨w.heap.size,0,none⟩) 0 0) []:=
 OwB.ofBk (l':=[]) (show Bk (w.alloc (.cells (bts []) 5)) w.heap.size 5 [] from Bk.newAt _ [] rfl) (Nat.le_refl _) rfl (Nat.le_refl _) rfl (by decide) rfl (fun x hx=>by cases hx)
theorem isB_empty (w:World) (X:Addr):IsB w (some X) 0 0 []:=⟨⟨rfl,Nat.le_refl _,Nat.zero_le _,by simp,.inr ⟨X,rfl,fun h=>absurd h (Nat.lt_irrefl 0),fun i hi=>absurd hi (Nat.not_lt_zero i)⟩⟩,fun x hx=>by cases hx⟩
theorem cell_isB0 {w:World} {b:Addr} {n c:Nat} {l:List Nat} (h:IsB w (some b) n c l):∀j u,(bvals l)[j]? = some u→w.cell? (b.add j)=some u:=fun j u hj=>by
 have l1:=h.len
 have hj':j<n:=by
  rcases Nat.lt_or_ge j n with h | h
  · exact h
  · rw[List.getElem?_eq_none (by simp[bvals];omega)] at hj;cases hj
 obtain⟨y,e,_,hy⟩:=h.cell (by omega)
 injection e with e
 subst e
 rw[hy j hj',←hj]
 simp[bvals,at',List.getElem?_eq_getElem (show j<l.length by omega)]
theorem yields_appG {o:Oper} {a:Act} {W:World} {R:Value→World→Prop} (s x:Operand) (ho:o.op = .call { callee:=.builtin .append,args:=#[s,x],argTypes:=#[32,32] })
 {b:Addr} {n c:Nat} {la:List Nat} (ha:IsB W (some b) n c la) (hs:a.eval s = .slice (some b) n c) {X:Addr} {m d:Nat} {lx:List Nat} (hx:IsB W (some X) m d lx) (he:a.eval x = .slice (some X) m d)
 (hfull:c<n+m) (hm:n+m≤140737488355328) (hR:∀v' W',OwB W' W.heap.size v' (la++lx)→Below W.heap.size W W'→R v' W'):Yields Tryz.prog o a W false R:=by
 obtain⟨i0,hi0,hz0,hz1,hz2⟩:=info_parts infoU8
 have l1:=ha.len
 have l2:=hx.len
 obtain⟨v',w',hrun,r1,r2⟩:=run_append_arg_grows (P:=Tryz.prog) W 32 o.type 5 i0 _ 1 1 Tryz.underlying32 hi0 hz0 hz1 hz2 rfl (by decide) b n c (bvals la) (by simp[bvals,l1]) (cell_isB0 ha) X m d (bvals lx) (by simp[bvals,l2]) (cell_isB0 hx) hfull (by simp only[maxLen];omega) (by omega)
 have hb:Below W.heap.size W w':=⟨r2.os,r2.tape,r2.output,r2.size,fun k hk=>r2.block k hk (by simp)⟩
 have hw:OwB w' W.heap.size v' (la++lx):=by
  refine⟨?_,byt_app ha.2 hx.2⟩
  rw[List.length_append,l1,l2]
  have e:bvals la++bvals lx=bvals (la++lx):=by simp[bvals]
  rw[←e]
  exact r1
 refine .inl ⟨v',w',?_,hR _ _ hw hb,hb,fresh_no _ _ _⟩
 unfold execOp
 simp only[ho,resolve,invoke,builtin,Sem.run_bind,Sem.run_pure,Result.andThen_ok,List.map_toArray,List.map_cons,List.map_nil,hs,he,hrun]
def CbB (w:World) (g:Nat) (T:TypeId) (cs:Array Value):Prop:=w.heap[g]? = some (.cells cs T (0,0))
section
variable {w w':World} {g:Nat} {T:TypeId} {cs:Array Value}
theorem CbB.lt (h:CbB w g T cs):g<w.heap.size:=lt_of_block h
theorem CbB.low {C:Nat} (h:CbB w g T cs) (hb:Below C w w') (hC:g<C):CbB w' g T cs:=(hb.block g hC).trans h
theorem CbB.ab (h:CbB w g T cs) (hb:Below w.heap.size w w'):CbB w' g T cs:=(hb.block g h.lt).trans h
theorem CbB.grown {r:Nat} (h:CbB w g T cs) (hg:w.grownBy w' (some r)) (hr:g≠r):CbB w' g T cs:=(hg.block g h.lt (by simp[hr])).trans h
theorem CbB.new (w:World) (T:TypeId) (cs:Array Value):CbB (w.alloc (.cells cs T)) w.heap.size T cs:=heap_alloc_new w _
theorem CbB.cell (h:CbB w g T cs) {k:Nat} {v:Value} (hk:cs[k]? = some v):w.cell? ⟨g,k,none⟩=some v:=by rw[cell_of_row w g k _ _ (0,0) h];exact hk
theorem CbB.free (h:CbB w g T cs) (k:Nat):w.frozen? ⟨g,k,none⟩=false:=frozen_of_row w g k _ _ h
theorem CbB.set (h:CbB w g T cs) (k:Nat) (v:Value):CbB (w.setCell ⟨g,k,none⟩ v) g T (cs.setIfInBounds k v):=heap_setCell_same w g k _ _ v h
theorem CbB.far (h:CbB w g T cs) {c k:Nat} (hne:g≠c) (u:Value):CbB (w.setCell ⟨c,k,none⟩ u) g T cs:=(Below.heap_setCell w ⟨c,k,none⟩ u g hne).trans h
end
theorem wpList_storeC {P:Program} {ops:Array Oper} {rest:List Oper} {o:Oper} {a:Act} {w:World} {Q:Exit→Act→World→Prop} (hgd:o.guard=none) (T:TypeId) (x y:Operand) (ho:o.op = .store T x y)
 (g:Nat) (hx:a.eval x = .pointer (some ⟨g,0,none⟩)) (cs':Array Value) (hy:a.eval y = .agg cs') {cs:Array Value} {t:TypeId} (hg:CbB w g t cs) (hi:(P.info? T).map (·.size)=some cs'.size) (h0:cs.size=cs'.size) (h1:cs'.all (·.oneCell')=true)
 (h:∀w2,w2=w.setRow g cs'→wpList P ops Q rest (a.put o.dst undef) w2):wpList P ops Q (o::rest) a w:=by
 have hrun:=run_storeVar_row (P:=P) w g t T cs cs' hg hi h0 h1
 refine wpList_plain hgd fun K hK=>?_
 have hK:=hK _ _ (h _ rfl)
 unfold Oper.wp execOp
 simp only[ho,hx,hy,Instr.storeAt,Instr.sureAddr,Sem.run_bind,Sem.run_pure,Result.andThen_ok,hrun]
 exact hK
theorem CbB.row {w:World} {g:Nat} {T:TypeId} {cs:Array Value} (h:CbB w g T cs) (cs':Array Value):CbB (w.setRow g cs') g T cs':=setRow_heap w g _ _ _ _ h
section
variable {P:Program} {Q:Exit→Act→World→Prop}
structure Fr (w w':World) (F:Nat→Prop):Prop where
 os:w'.os=w.os
 tape:w'.tape=w.tape
 output:w'.output=w.output
 size:w.heap.size≤w'.heap.size
 block:∀k,k<w.heap.size→¬F k→w'.heap[k]? = w.heap[k]?
theorem Fr.of {w w':World} (hb:Below w.heap.size w w') (F:Nat→Prop):Fr w w' F:=⟨hb.os,hb.tape,hb.output,hb.size,fun i hi _=>hb.block i hi⟩
theorem Fr.tr {a b c:World} {F:Nat→Prop} (h:Fr a b F) (k:Fr b c F):Fr a c F:=⟨k.os.trans h.os,k.tape.trans h.tape,k.output.trans h.output,Nat.le_trans h.size k.size,fun i hi hn=>(k.block i (Nat.lt_of_lt_of_le hi h.size) hn).trans (h.block i hi hn)⟩
theorem Fr.imp {w w':World} {F G:Nat→Prop} (h:Fr w w' F) (hi:∀k,F k→G k):Fr w w' G:=⟨h.os,h.tape,h.output,h.size,fun k hk hn=>h.block k hk fun hf=>hn (hi k hf)⟩
theorem Fr.grown {w w':World} {row:Option Nat} (h:w.grownBy w' row):Fr w w' (fun k=>row=some k):=⟨h.os,h.tape,h.output,h.size,fun k hk hn=>h.block k hk fun e=>hn e.symm⟩
theorem Fr.below {w w':World} {F:Nat→Prop} {B:Nat} {a:World} (h:Fr w w' F) (hF:∀k,F k→B≤k) (hb:Below B a w) (hs:B≤w.heap.size):Below B a w':=
 hb.trans ⟨h.os,h.tape,h.output,h.size,fun k hk=>h.block k (by omega) fun hf=>by have:=hF k hf;omega⟩
def othF (F:Nat→Nat→Prop) (i k:Nat):Prop:=∃j,j≠i∧F j k
def allF (F:Nat→Nat→Prop) (k:Nat):Prop:=∃j,F j k
def Inv5 (hs:List Head) (a0:Act) (w0:World) (F:Nat→Nat→Prop) (listed:Array Bool) (a:Act) (W:World):Prop:=
 Agree (hs.map (·.dst)) a0 a∧Fr w0 W (allF F)∧(∀j,listed.getD j false=false→Fr w0 W (othF F j))∧∀(i:Nat) (h:Head),hs[i]? = some h→listed.getD i false=true→h.R (a.eval (.tmp h.dst)) W
def Yields5 (P:Program) (o:Oper) (a:Act) (W:World) (F:Nat→Prop) (R:Value→World→Prop):Prop:=
 (∃v W',(execOp a.eval o).run P W = .ok (.value v) W'∧R v W'∧Fr W W' F)∨(∃f args,(execOp a.eval o).run P W = .ok (.enter f args) W∧Calls P f args W fun e W'=>∃v,e = .returned v∧R v W'∧Fr W W' F)
theorem Yields.to5 {o:Oper} {a:Act} {W:World} {fr:Bool} {R:Value→World→Prop} (h:Yields P o a W fr R) (F:Nat→Prop):Yields5 P o a W F R:=by
 rcases h with ⟨v,W',h1,h2,h3,_⟩ | ⟨f,args,h1,h2⟩
 · exact .inl ⟨v,W',h1,h2,Fr.of h3 F⟩
 · exact .inr ⟨f,args,h1,h2.mono fun e W' ⟨v,he,hR,hb,_⟩=>⟨v,he,hR,Fr.of hb F⟩⟩
def Takes5 (P:Program) (ops:Array Oper) (o:Oper) (a:Act) (W:World) (F:Nat→Prop) (R:Value→World→Prop):Prop:=
 (Region.wanted o (yielded ops a.tmps)=true∧Yields5 P o a W F R)∨(Region.wanted o (yielded ops a.tmps)=false∧R undef W)
theorem Takes.to5 {ops:Array Oper} {o:Oper} {a:Act} {W:World} {fr:Bool} {R:Value→World→Prop} (h:Takes P ops o a W fr R) (F:Nat→Prop):Takes5 P ops o a W F R:=by
 rcases h with ⟨h1,h2⟩ | ⟨h1,h2,_⟩
 · exact .inl ⟨h1,h2.to5 F⟩
 · exact .inr ⟨h1,h2⟩
theorem takes5_plain {ops:Array Oper} {o:Oper} {a:Act} {W:World} {F:Nat→Prop} {R:Value→World→Prop} (hg:o.guard=none) (h:Yields5 P o a W F R):Takes5 P ops o a W F R:=.inl ⟨by simp[Region.wanted,hg],h⟩
def MonoF (F:Nat→Prop) (R:Value→World→Prop):Prop:=∀v W W',R v W→Fr W W' F→R v W'
theorem IsR.monoF (F:Nat→Prop) (u:Value):MonoF F (IsR u):=fun v W W' h _=>h
theorem wide5_any {l:List Oper} {hs:List Head} {a0:Act} {w0:World} {g:Nat} {F:Nat→Nat→Prop} (hW:wideB l.toArray hs.length (hs.map (·.deps)).toArray=true) (hg:(l.drop hs.length).length=g)
 (hdst:∀(i:Nat) (h:Head) (o:Oper),hs[i]? = some h→l[i]? = some o→o.dst=some h.dst) (hlen:hs.length≤l.length) (hin:∀h∈hs,h.dst<a0.tmps.size) (hdis:(hs.map (·.dst)).Nodup)
 (hm:∀(i:Nat) (h:Head),hs[i]? = some h→MonoF (othF F i) h.R)
 (hy:∀(i:Nat) (h:Head) (o:Oper),hs[i]? = some h→l[i]? = some o→∀a W,Agree (hs.map (·.dst)) a0 a→Fr w0 W (othF F i)→(∀j∈h.deps,∀(hj:Head),hs[j]? = some hj→hj.R (a.eval (.tmp hj.dst)) W)→Takes5 P l.toArray o a W (F i) h.R)
 (hk:∀a W,Agree (hs.map (·.dst)) a0 a→Fr w0 W (allF F)→(∀(i:Nat) (h:Head),hs[i]? = some h→h.R (a.eval (.tmp h.dst)) W)→wpList P l.toArray Q (l.drop hs.length) a W):
 ∀(f:Nat) (listed:Array Bool) (a:Act) (W:World),HeadInv .any l.toArray hs.length listed→unl listed hs.length=f→Inv5 hs a0 w0 F listed a W→wpAny P .any l.toArray Q (f+g) listed a W
 | 0,listed,a,W,inv,hu,hI=>by
   have hWd:=wide_of hW
   have hall:=unl_zero _ hu
   rw[Nat.zero_add]
   have hsq:=hWd.seq
   rw[←all_listed inv hWd.lt hall,show l.toArray.size-hs.length=g by rw[←hg];simp] at hsq
   have:=wpAny_of_seq (md:=.any) (Q':=Q) (P:=P) (l.drop hs.length) hs.length listed a W (fun j=>by simp[List.getElem?_drop]) (by rw[hg];exact hsq) (hk a W hI.1 hI.2.1 (fun i h hi=>hI.2.2.2 i h hi (hall i (lt_of_some hi))))
   rwa [hg] at this
 | f + 1,listed,a,W,inv,hu,hI=>by
   have hWd:=wide_of hW
   obtain⟨i0,hi0,hun0,hlow0⟩:=unl_pos (listed:=listed) hs.length (by omega)
   have hsz:=inv.size
   have hun0':listed.getD i0 true=false:=getD_in (by have:=hWd.lt;omega) hun0
   rw[show f+1+g=(f+g)+1 by omega]
   have hne:i0∈Region.ready .any l.toArray listed:=by
    obtain⟨o,ho,hb⟩:=hWd.low i0 hi0
    exact mem_ready.2 ⟨hun0',o,ho,fun e he hbd=>hlow0 _ (hb e he hbd)⟩
   refine⟨fun e=>(by rw[e] at hne;cases hne),fun i hi=>?_⟩
   have hin2:i<hs.length:=by
    rcases Nat.lt_or_ge i hs.length with h | h
    · exact h
    · exact absurd hi (tail_waits hWd.sink hWd.chain hWd.lt inv _ i0 rfl hi0 hun0' i h)
   have hdep:∀d∈((hs.map (·.deps)).toArray.getD i []),listed.getD d false=true:=fun d hd=>by
    obtain⟨_,oi,hoi,hall⟩:=mem_ready.1 hi
    obtain⟨oj,hoj,e,he,hb,hon⟩:=Region.waitsFor_spec (hWd.dep i hin2 d hd).2
    have:oj=oi:=Option.some.inj (hoj.symm.trans hoi)
    subst this
    rw[←hon]
    exact hall e he hb
   have hrec:unl (listed.setIfInBounds i true) hs.length=f:=by
    have:=unl_set (listed:=listed) (i:=i) (by have:=hWd.lt;omega) (getD_both (mem_ready.1 hi).1) hs.length hin2
    omega
   have hiun:listed.getD i false=false:=getD_both (mem_ready.1 hi).1
   have hil:i<l.length:=by omega
   obtain⟨h,hh⟩:∃h,hs[i]? = some h:=⟨_,List.getElem?_eq_getElem hin2⟩
   obtain⟨o,ho⟩:∃o,l[i]? = some o:=⟨_,List.getElem?_eq_getElem hil⟩
   have hd:=hdst i h o hh ho
   have hmem:h∈hs:=List.mem_of_getElem? hh
   have hdep2:∀j∈h.deps,∀(hj:Head),hs[j]? = some hj→hj.R (a.eval (.tmp hj.dst)) W:=fun j hj hj' hjj=>by
    have hd1:((hs.map (·.deps)).toArray.getD i [])=h.deps:=by simp[hh]
    exact hI.2.2.2 j hj' hjj (hdep j (by rw[hd1];exact hj))
   have hself:∀v,(a.put (some h.dst) v).eval (.tmp h.dst)=v:=fun v=>by
    have hs1:h.dst<a.tmps.size:=by rw[hI.1.2.1];exact hin h hmem
    simp[Act.put,Act.eval,hs1]
   have hoth:∀v (j:Nat) (hj:Head),hs[j]? = some hj→j≠i→(a.put (some h.dst) v).eval (.tmp hj.dst)=a.eval (.tmp hj.dst):=fun v j hj hjj hij=>by
    refine eval_put_ne (fun e=>hij ?_) _ _
    have hjl:=lt_of_some hjj
    have e1:(hs.map (·.dst))[j]'(by simpa using hjl)=(hs.map (·.dst))[i]'(by simpa using hin2):=by
     rw[List.getElem?_eq_getElem hjl] at hjj
     rw[List.getElem?_eq_getElem hin2] at hh
     injection hjj with hjj
     injection hh with hh
     simp only[List.getElem_map,hjj,hh]
     exact e.symm
    exact (List.getElem_inj hdis).1 e1
   have hlis:∀(j:Nat),j≠i→(listed.setIfInBounds i true).getD j false=listed.getD j false:=fun j hij=>by
    rw[Array.getD_eq_getD_getElem?,Array.getElem?_setIfInBounds_ne (Ne.symm hij),Array.getD_eq_getD_getElem?]
   have key:∀v W',h.R v W'→Fr W W' (F i)→wpAny P .any l.toArray Q (f+g) (listed.setIfInBounds i true) (a.put (some h.dst) v) W':=fun v W' hR hfr=>by
    refine wide5_any hW hg hdst hlen hin hdis hm hy hk f _ _ _ (inv.set hi hin2) hrec ⟨hI.1.put (List.mem_map.2 ⟨h,hmem,rfl⟩) v,hI.2.1.tr (hfr.imp fun k hk=>⟨i,hk⟩),fun j hj=>?_,fun j hj hjj hlj=>?_⟩
    · have hji:j≠i:=fun e=>by
       subst e
       rw[Array.getD_eq_getD_getElem?,Array.getElem?_setIfInBounds_self_of_lt (by have:=hWd.lt;omega)] at hj
       cases hj
      rw[hlis j hji] at hj
      exact (hI.2.2.1 j hj).tr (hfr.imp fun k hk=>⟨i,Ne.symm hji,hk⟩)
    · by_cases hij:j=i
      · subst hij
        rw[hh] at hjj
        injection hjj with hjj
        subst hjj
        rw[hself]
        exact hR
      · rw[hoth v j hj hjj hij]
        rw[hlis j hij] at hlj
        exact hm j hj hjj _ _ _ (hI.2.2.2 j hj hjj hlj) (hfr.imp fun k hk=>⟨i,Ne.symm hij,hk⟩)
   unfold wpOp
   rw[show l.toArray[i]? = some o by simpa using ho]
   simp only
   rcases hy i h o hh ho a W hI.1 (hI.2.2.1 i hiun) hdep2 with ⟨hwt,hyl⟩ | ⟨hwt,hR⟩
   · rw[if_pos hwt]
     refine .inl ?_
     unfold Oper.wp
     rcases hyl with ⟨v,W',hr,hR,hb⟩ | ⟨fn,args,hr,hc⟩
     · rw[hr]
       simp only[Oper.upon,hd]
       exact key v W' hR hb
     · rw[hr]
       simp only[Oper.upon,hd]
       exact hc.mono fun e W' ⟨v,he,hR,hb⟩=>by subst he;exact key v W' hR hb
   · rw[if_neg (by rw[hwt];exact Bool.false_ne_true)]
     rw[hd]
     exact key undef W hR (Fr.of (Below.refl _ _) _)
def Head.ok5 (P:Program) (ops:Array Oper) (hs:List Head) (a0:Act) (w0:World) (F:Nat→Nat→Prop) (i:Nat) (h:Head) (o:Oper):Prop:=
 o.dst=some h.dst∧MonoF (othF F i) h.R∧∀a W,Agree (hs.map (·.dst)) a0 a→Fr w0 W (othF F i)→(∀j∈h.deps,∀(hj:Head),hs[j]? = some hj→hj.R (a.eval (.tmp hj.dst)) W)→Takes5 P ops o a W (F i) h.R
def All5 (q:Nat→Head→Oper→Prop):Nat→List Head→List Oper→Prop
 | _,[],_=>True
 | k,h::hs,o::l=>q k h o∧All5 q (k+1) hs l
 | _,_::_,[]=>False
theorem All5.at {q:Nat→Head→Oper→Prop}:∀{k:Nat} {hs:List Head} {l:List Oper},All5 q k hs l→∀(i:Nat) (h:Head) (o:Oper),hs[i]? = some h→l[i]? = some o→q (k+i) h o
 | k,h::hs,o::l,hA,0,h',o',e1,e2=>by
   simp only[List.getElem?_cons_zero,Option.some.injEq] at e1 e2
   subst e1 e2
   exact hA.1
 | k,h::hs,o::l,hA,i+1,h',o',e1,e2=>by
   have:=All5.at hA.2 i h' o' (by simpa using e1) (by simpa using e2)
   rw[show k+(i+1)=k+1+i by omega]
   exact this
 | _,[],_,_,i,_,_,e1,_=>by simp at e1
 | _,_::_,[],hA,_,_,_,_,_=>hA.elim
theorem wp_wide5 {id:Nat} {a0:Act} {w0:World} {l:List Oper} (F:Nat→Nat→Prop) (hs:List Head) (hmx:P.follows .mixedOrders=true)
 (hB:wideB l.toArray hs.length (hs.map (·.deps)).toArray=true)
 (hlen:decide (hs.length≤l.length)=true) (hin:(hs.map (·.dst)).all (fun d=>decide (d<a0.tmps.size))=true) (hdis:decide ((hs.map (·.dst)).Nodup)=true)
 (hok:All5 (Head.ok5 P l.toArray hs a0 w0 F) 0 hs l)
 (hk:∀(vs:Tmp→Value) W,(∀(i:Nat) (h:Head),hs[i]? = some h→h.R (vs h.dst) W)→Fr w0 W (allF F)→wpList P l.toArray Q (l.drop hs.length) ((hs.map (·.dst)).foldl (fun x d=>x.put (some d) (vs d)) a0) W):
 (Code.region id l.toArray true).wp P Q a0 w0:=by
 have hlen':=of_decide_eq_true hlen
 have hat:∀(i:Nat) (h:Head) (o:Oper),hs[i]? = some h→l[i]? = some o→Head.ok5 P l.toArray hs a0 w0 F i h o:=fun i h o hi ho=>by
  have:=hok.at i h o hi ho
  rwa [Nat.zero_add] at this
 have hunl:∀n,unl (Array.replicate l.toArray.size false) n=n:=fun n=>by
  induction n with
  | zero=>rfl
  | succ n ih=>rw[unl,ih,getD_replicate_false];simp
 refine wp_region_any hmx ?_
 have hinv:HeadInv .any l.toArray hs.length (Array.replicate l.toArray.size false):=⟨by simp,fun j oj hj hl=>(by rw[getD_replicate_false] at hl;cases hl),fun t ht ht'=>getD_in (by simpa using ht') (getD_replicate_false _ _)⟩
 have h1:=wide5_any (P:=P) (Q:=Q) (l:=l) (hs:=hs) (a0:=a0) (w0:=w0) (g:=l.length-hs.length) (F:=F) hB (by simp)
  (fun i h o hi ho=>(hat i h o hi ho).1) hlen'
  (fun h hh=>by
    have:=List.all_eq_true.1 hin h.dst (List.mem_map.2 ⟨h,hh,rfl⟩)
    exact of_decide_eq_true this) (of_decide_eq_true hdis)
  (fun i h hi=>by
    have hil:=lt_of_some hi
    exact (hat i h _ hi (List.getElem?_eq_getElem (by omega))).2.1)
  (fun i h o hi ho=>(hat i h o hi ho).2.2)
  (fun a W hA hgr hR=>by
    have:=hk (fun d=>a.eval (.tmp d)) W hR hgr
    rw[←Agree.rebuild _ _ hA] at this
    exact this) hs.length (Array.replicate l.toArray.size false) a0 { w0 with drawn:=w0.drawn+1 } hinv (hunl _)
  ⟨Agree.refl _ _,Fr.of (Below.refl _ w0).drew _,fun j _=>Fr.of (Below.refl _ w0).drew _,fun i h hi hl=>(by rw[getD_replicate_false] at hl;cases hl)⟩
 have hsz:l.toArray.size=hs.length+(l.length-hs.length):=by rw[List.size_toArray];omega
 have e:wpAny P .any l.toArray Q l.toArray.size=wpAny P .any l.toArray Q (hs.length+(l.length-hs.length)):=congrArg _ hsz
 rw[e]
 exact h1
end
section
variable {P:Program} {Q:Exit→Act→World→Prop}
def Inv6 (hs:List Head) (a0:Act) (G:World→Prop) (Pre:Nat→World→Prop) (listed:Array Bool) (a:Act) (W:World):Prop:=
 Agree (hs.map (·.dst)) a0 a∧G W∧(∀j,listed.getD j false=false→Pre j W)∧∀(i:Nat) (h:Head),hs[i]? = some h→listed.getD i false=true→h.R (a.eval (.tmp h.dst)) W
def Yields6 (P:Program) (o:Oper) (a:Act) (W:World) (S:World→World→Prop) (R:Value→World→Prop):Prop:=
 (∃v W',(execOp a.eval o).run P W = .ok (.value v) W'∧R v W'∧S W W')∨(∃f args,(execOp a.eval o).run P W = .ok (.enter f args) W∧Calls P f args W fun e W'=>∃v,e = .returned v∧R v W'∧S W W')
theorem Yields.to6 {o:Oper} {a:Act} {W:World} {fr:Bool} {R:Value→World→Prop} {S:World→World→Prop} (h:Yields P o a W fr R) (hs:∀W',Below W.heap.size W W'→S W W'):Yields6 P o a W S R:=by
 rcases h with ⟨v,W',h1,h2,h3,_⟩ | ⟨f,args,h1,h2⟩
 · exact .inl ⟨v,W',h1,h2,hs _ h3⟩
 · exact .inr ⟨f,args,h1,h2.mono fun e W' ⟨v,he,hR,hb,_⟩=>⟨v,he,hR,hs _ hb⟩⟩
def Takes6 (P:Program) (ops:Array Oper) (o:Oper) (a:Act) (W:World) (S:World→World→Prop) (R:Value→World→Prop):Prop:=
 (Region.wanted o (yielded ops a.tmps)=true∧Yields6 P o a W S R)∨(Region.wanted o (yielded ops a.tmps)=false∧R undef W)
theorem Takes.to6 {ops:Array Oper} {o:Oper} {a:Act} {W:World} {fr:Bool} {R:Value→World→Prop} {S:World→World→Prop} (h:Takes P ops o a W fr R) (hs:∀W',Below W.heap.size W W'→S W W'):Takes6 P ops o a W S R:=by
 rcases h with ⟨h1,h2⟩ | ⟨h1,h2,_⟩
 · exact .inl ⟨h1,h2.to6 hs⟩
 · exact .inr ⟨h1,h2⟩
theorem wide6_any {l:List Oper} {hs:List Head} {a0:Act} {g:Nat} {G:World→Prop} {Pre:Nat→World→Prop} {S:Nat→World→World→Prop} (hW:wideB l.toArray hs.length (hs.map (·.deps)).toArray=true) (hg:(l.drop hs.length).length=g)
 (hdst:∀(i:Nat) (h:Head) (o:Oper),hs[i]? = some h→l[i]? = some o→o.dst=some h.dst) (hlen:hs.length≤l.length) (hin:∀h∈hs,h.dst<a0.tmps.size) (hdis:(hs.map (·.dst)).Nodup)
 (hS:∀i j,i≠j→∀W W',S i W W'→Pre j W→Pre j W') (hG:∀i W W',S i W W'→G W→G W') (h0:∀i W,S i W W)
 (hm:∀(i:Nat) (h:Head),hs[i]? = some h→∀j,j≠i→∀v W W',h.R v W→S j W W'→h.R v W')
 (hy:∀(i:Nat) (h:Head) (o:Oper),hs[i]? = some h→l[i]? = some o→∀a W,Agree (hs.map (·.dst)) a0 a→G W→Pre i W→(∀j∈h.deps,∀(hj:Head),hs[j]? = some hj→hj.R (a.eval (.tmp hj.dst)) W)→Takes6 P l.toArray o a W (S i) h.R)
 (hk:∀a W,Agree (hs.map (·.dst)) a0 a→G W→(∀(i:Nat) (h:Head),hs[i]? = some h→h.R (a.eval (.tmp h.dst)) W)→wpList P l.toArray Q (l.drop hs.length) a W):
 ∀(f:Nat) (listed:Array Bool) (a:Act) (W:World),HeadInv .any l.toArray hs.length listed→unl listed hs.length=f→Inv6 hs a0 G Pre listed a W→wpAny P .any l.toArray Q (f+g) listed a W
 | 0,listed,a,W,inv,hu,hI=>by
   have hWd:=wide_of hW
   have hall:=unl_zero _ hu
   rw[Nat.zero_add]
   have hsq:=hWd.seq
   rw[←all_listed inv hWd.lt hall,show l.toArray.size-hs.length=g by rw[←hg];simp] at hsq
   have:=wpAny_of_seq (md:=.any) (Q':=Q) (P:=P) (l.drop hs.length) hs.length listed a W (fun j=>by simp[List.getElem?_drop]) (by rw[hg];exact hsq) (hk a W hI.1 hI.2.1 (fun i h hi=>hI.2.2.2 i h hi (hall i (lt_of_some hi))))
   rwa [hg] at this
 | f + 1,listed,a,W,inv,hu,hI=>by
   have hWd:=wide_of hW
   obtain⟨i0,hi0,hun0,hlow0⟩:=unl_pos (listed:=listed) hs.length (by omega)
   have hsz:=inv.size
   have hun0':listed.getD i0 true=false:=getD_in (by have:=hWd.lt;omega) hun0
   rw[show f+1+g=(f+g)+1 by omega]
   have hne:i0∈Region.ready .any l.toArray listed:=by
    obtain⟨o,ho,hb⟩:=hWd.low i0 hi0
    exact mem_ready.2 ⟨hun0',o,ho,fun e he hbd=>hlow0 _ (hb e he hbd)⟩
   refine⟨fun e=>(by rw[e] at hne;cases hne),fun i hi=>?_⟩
   have hin2:i<hs.length:=by
    rcases Nat.lt_or_ge i hs.length with h | h
    · exact h
    · exact absurd hi (tail_waits hWd.sink hWd.chain hWd.lt inv _ i0 rfl hi0 hun0' i h)
   have hdep:∀d∈((hs.map (·.deps)).toArray.getD i []),listed.getD d false=true:=fun d hd=>by
    obtain⟨_,oi,hoi,hall⟩:=mem_ready.1 hi
    obtain⟨oj,hoj,e,he,hb,hon⟩:=Region.waitsFor_spec (hWd.dep i hin2 d hd).2
    have:oj=oi:=Option.some.inj (hoj.symm.trans hoi)
    subst this
    rw[←hon]
    exact hall e he hb
   have hrec:unl (listed.setIfInBounds i true) hs.length=f:=by
    have:=unl_set (listed:=listed) (i:=i) (by have:=hWd.lt;omega) (getD_both (mem_ready.1 hi).1) hs.length hin2
    omega
   have hiun:listed.getD i false=false:=getD_both (mem_ready.1 hi).1
   have hil:i<l.length:=by omega
   obtain⟨h,hh⟩:∃h,hs[i]? = some h:=⟨_,List.getElem?_eq_getElem hin2⟩
   obtain⟨o,ho⟩:∃o,l[i]? = some o:=⟨_,List.getElem?_eq_getElem hil⟩
   have hd:=hdst i h o hh ho
   have hmem:h∈hs:=List.mem_of_getElem? hh
   have hdep2:∀j∈h.deps,∀(hj:Head),hs[j]? = some hj→hj.R (a.eval (.tmp hj.dst)) W:=fun j hj hj' hjj=>by
    have hd1:((hs.map (·.deps)).toArray.getD i [])=h.deps:=by simp[hh]
    exact hI.2.2.2 j hj' hjj (hdep j (by rw[hd1];exact hj))
   have hself:∀v,(a.put (some h.dst) v).eval (.tmp h.dst)=v:=fun v=>by
    have hs1:h.dst<a.tmps.size:=by rw[hI.1.2.1];exact hin h hmem
    simp[Act.put,Act.eval,hs1]
   have hoth:∀v (j:Nat) (hj:Head),hs[j]? = some hj→j≠i→(a.put (some h.dst) v).eval (.tmp hj.dst)=a.eval (.tmp hj.dst):=fun v j hj hjj hij=>by
    refine eval_put_ne (fun e=>hij ?_) _ _
    have hjl:=lt_of_some hjj
    have e1:(hs.map (·.dst))[j]'(by simpa using hjl)=(hs.map (·.dst))[i]'(by simpa using hin2):=by
     rw[List.getElem?_eq_getElem hjl] at hjj
     rw[List.getElem?_eq_getElem hin2] at hh
     injection hjj with hjj
     injection hh with hh
     simp only[List.getElem_map,hjj,hh]
     exact e.symm
    exact (List.getElem_inj hdis).1 e1
   have hlis:∀(j:Nat),j≠i→(listed.setIfInBounds i true).getD j false=listed.getD j false:=fun j hij=>by
    rw[Array.getD_eq_getD_getElem?,Array.getElem?_setIfInBounds_ne (Ne.symm hij),Array.getD_eq_getD_getElem?]
   have key:∀v W',h.R v W'→S i W W'→wpAny P .any l.toArray Q (f+g) (listed.setIfInBounds i true) (a.put (some h.dst) v) W':=fun v W' hR hfr=>by
    refine wide6_any hW hg hdst hlen hin hdis hS hG h0 hm hy hk f _ _ _ (inv.set hi hin2) hrec ⟨hI.1.put (List.mem_map.2 ⟨h,hmem,rfl⟩) v,hG i _ _ hfr hI.2.1,fun j hj=>?_,fun j hj hjj hlj=>?_⟩
    · have hji:j≠i:=fun e=>by
       subst e
       rw[Array.getD_eq_getD_getElem?,Array.getElem?_setIfInBounds_self_of_lt (by have:=hWd.lt;omega)] at hj
       cases hj
      rw[hlis j hji] at hj
      exact hS i j (Ne.symm hji) _ _ hfr (hI.2.2.1 j hj)
    · by_cases hij:j=i
      · subst hij
        rw[hh] at hjj
        injection hjj with hjj
        subst hjj
        rw[hself]
        exact hR
      · rw[hoth v j hj hjj hij]
        rw[hlis j hij] at hlj
        exact hm j hj hjj i (Ne.symm hij) _ _ _ (hI.2.2.2 j hj hjj hlj) hfr
   unfold wpOp
   rw[show l.toArray[i]? = some o by simpa using ho]
   simp only
   rcases hy i h o hh ho a W hI.1 hI.2.1 (hI.2.2.1 i hiun) hdep2 with ⟨hwt,hyl⟩ | ⟨hwt,hR⟩
   · rw[if_pos hwt]
     refine .inl ?_
     unfold Oper.wp
     rcases hyl with ⟨v,W',hr,hR,hb⟩ | ⟨fn,args,hr,hc⟩
     · rw[hr]
       simp only[Oper.upon,hd]
       exact key v W' hR hb
     · rw[hr]
       simp only[Oper.upon,hd]
       exact hc.mono fun e W' ⟨v,he,hR,hb⟩=>by subst he;exact key v W' hR hb
   · rw[if_neg (by rw[hwt];exact Bool.false_ne_true)]
     rw[hd]
     exact key undef W hR (h0 i W)
end
end Go.Proofs.YtgdhinjhbjolgaaGreat
