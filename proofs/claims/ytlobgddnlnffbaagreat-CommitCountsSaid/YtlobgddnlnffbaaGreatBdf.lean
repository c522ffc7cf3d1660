/-
  Parts of the proof, joined.
-/
import Derived.Test.YtlobgddnlnffbaaGreatBde
import Derived.Test.YtlobgddnlnffbaaGreatBdc
import Derived.BigRegion
namespace Go.Proofs.YtlobgddnlnffbaaGreat
set_option maxHeartbeats 2000000
open Go.RowKit
set_option linter.unusedVariables false
theorem eval_put_ne {d t:Tmp} (h:d≠t) (a:Act) (u:Value):(a.put (some d) u).eval (.tmp t)=a.eval (.tmp t):=by
 simp only[Act.put,Act.eval,Array.getD_eq_getD_getElem?]
 rw[Array.getElem?_setIfInBounds_ne h]
section
variable {P:Program} {Q:Exit→Act→World→Prop} {w0:World} {A:Act→Prop}
def Mono (R:Value→World→Prop):Prop:=∀v W W',R v W→Below W.heap.size W W'→R v W'
end
def invB (ops:Array Oper) (n:Nat) (listed:Array Bool):Bool:=
 listed.size==ops.size&&(List.range ops.size).all (fun j=>match ops[j]? with
  | some oj=>!listed.getD j false||oj.after.toList.all (fun e=>!Region.binds .any e||listed.getD e.on false)
  | none=>true)&&(List.range ops.size).all fun t=>decide (t<n) || !listed.getD t true
theorem inv_of {ops:Array Oper} {n:Nat} {listed:Array Bool} (h:invB ops n listed=true):HeadInv .any ops n listed:=by
 simp only[invB,Bool.and_eq_true,beq_iff_eq,List.all_eq_true,List.mem_range] at h
 obtain⟨⟨h1,h2⟩,h3⟩:=h
 refine⟨h1,fun j oj hj hl e he hb=>?_,fun t ht ht'=>?_⟩
 · have hjs:j<ops.size:=by
    rcases Nat.lt_or_ge j ops.size with h' | h'
    · exact h'
    · rw[Array.getElem?_eq_none h'] at hj;cases hj
   have:=h2 j hjs
   rw[hj] at this
   simp only[hl,Bool.not_true,Bool.false_or,List.all_eq_true] at this
   have:=this e (by simpa using he)
   simpa[hb] using this
 · have:=h3 t ht'
   simpa[show ¬t<n by omega] using this
def MadeR (w0:World) (n:Nat) (v:Value) (W:World):Prop:=∃g,v = .slice (some ⟨g,0,none⟩) n n∧IsB W (some ⟨g,0,none⟩) n n (zeros n)∧w0.heap.size≤g
def IsR (u:Value) (v:Value) (_:World):Prop:=v=u
theorem IsR.mono (u:Value):Mono (IsR u):=fun v W W' h _=>h
def Agree (D:List Tmp) (a b:Act):Prop:=b.defers=a.defers∧b.tmps.size=a.tmps.size∧∀t:Nat,t∉D→b.tmps[t]? = a.tmps[t]?
theorem Agree.refl (D:List Tmp) (a:Act):Agree D a a:=⟨rfl,rfl,fun _ _=>rfl⟩
theorem Agree.put {D:List Tmp} {a b:Act} (h:Agree D a b) {d:Tmp} (hd:d∈D) (v:Value):Agree D a (b.put (some d) v):=by
 refine⟨h.1,by simpa[Act.put] using h.2.1,fun t ht=>?_⟩
 have hne:d≠t:=fun e=>ht (by rw[←e];exact hd)
 simp only[Act.put]
 rw[Array.getElem?_setIfInBounds_ne hne]
 exact h.2.2 t ht
theorem Agree.eval {D:List Tmp} {a b:Act} (h:Agree D a b) {t:Nat} (ht:t∉D):b.eval (.tmp t)=a.eval (.tmp t):=by
 simp only[Act.eval,Array.getD_eq_getD_getElem?]
 rw[h.2.2 t ht]
theorem Agree.rebuild {a:Act}:∀(D:List Tmp) (b:Act),Agree D b a→a=D.foldl (fun x d=>x.put (some d) (a.eval (.tmp d))) b
 | [],b,h=>by
   cases a;cases b
   simp only[List.foldl_nil,Act.mk.injEq]
   refine⟨?_,h.1⟩
   apply Array.ext_getElem?
   intro t
   exact h.2.2 t (by simp)
 | d :: D,b,h=>by
   rw[List.foldl_cons]
   refine Agree.rebuild D _ ⟨h.1,by simpa[Act.put] using h.2.1,fun t ht=>?_⟩
   simp only[Act.put]
   by_cases e:d=t
   · subst e
     by_cases hs:d<b.tmps.size
     · rw[Array.getElem?_setIfInBounds_self_of_lt hs]
       have:d<a.tmps.size:=by rw[h.2.1];exact hs
       simp[Act.eval,this]
     · have hs':b.tmps.size≤d:=Nat.le_of_not_lt hs
       rw[Array.getElem?_eq_none (by rw[h.2.1];exact hs'),Array.getElem?_eq_none (by simpa using hs')]
   · rw[Array.getElem?_setIfInBounds_ne e]
     exact h.2.2 t (by simp[ht,Ne.symm e])
section
variable {P:Program} {Q:Exit→Act→World→Prop}
def blk:Value→Option Nat
 | .pointer (some a)=>some a.block
 | .slice (some a) _ _=>some a.block
 | .map (some b)=>some b
 | _=>none
def Fresh (fr:Bool) (v:Value) (W W':World):Prop:=fr=true→∃g,blk v=some g∧W.heap.size≤g∧g<W'.heap.size
theorem fresh_no (v:Value) (W W':World):Fresh false v W W':=fun h=>by cases h
def Yields (P:Program) (o:Oper) (a:Act) (W:World) (fr:Bool) (R:Value→World→Prop):Prop:=
 (∃v W',(execOp a.eval o).run P W = .ok (.value v) W'∧R v W'∧Below W.heap.size W W'∧Fresh fr v W W')∨
 (∃f args,(execOp a.eval o).run P W = .ok (.enter f args) W∧Calls P f args W fun e W'=>∃v,e = .returned v∧R v W'∧Below W.heap.size W W'∧Fresh fr v W W')
structure Head where
 dst:Tmp
 R:Value→World→Prop
 deps:List Nat
 fresh:Bool
def FreeInv (hs:List Head) (a0:Act) (w0:World) (listed:Array Bool) (a:Act) (W:World):Prop:=
 Agree (hs.map (·.dst)) a0 a∧Below w0.heap.size w0 W∧(∀(i:Nat) (h:Head),hs[i]? = some h→listed.getD i false=true→h.R (a.eval (.tmp h.dst)) W)∧
  (∀(i:Nat) (h:Head),hs[i]? = some h→listed.getD i false=true→h.fresh=true→∃g,blk (a.eval (.tmp h.dst))=some g∧w0.heap.size≤g∧g<W.heap.size)∧
  (∀(i j:Nat) (h k:Head),hs[i]? = some h→hs[j]? = some k→i≠j→listed.getD i false=true→listed.getD j false=true→h.fresh=true→k.fresh=true→blk (a.eval (.tmp h.dst))≠blk (a.eval (.tmp k.dst)))
def freeB (ops:Array Oper) (n:Nat) (deps:Array (List Nat)) (g:Nat):Nat→Array Bool→Bool
 | 0,listed=>Region.seqB .any ops g n listed&&(List.range n).all fun i=>listed.getD i false
 | f + 1,listed=>!(Region.ready .any ops listed).isEmpty&&(Region.ready .any ops listed).all fun i=>
     decide (i<n)&&decide (i<listed.size)&&(deps.getD i []).all (fun j=>decide (j<n)&&listed.getD j false)&&freeB ops n deps g f (listed.setIfInBounds i true)
theorem lt_of_some {hs:List Head} {i:Nat} {h:Head} (hi:hs[i]? = some h):i<hs.length:=by
 rcases Nat.lt_or_ge i hs.length with h' | h'
 · exact h'
 · rw[List.getElem?_eq_none h'] at hi;cases hi
theorem free_any {l:List Oper} {hs:List Head} {a0:Act} {w0:World} {g:Nat} (hg:(l.drop hs.length).length=g)
 (hdst:∀(i:Nat) (h:Head) (o:Oper),hs[i]? = some h→l[i]? = some o→o.guard=none∧o.dst=some h.dst) (hlen:hs.length≤l.length) (hin:∀h∈hs,h.dst<a0.tmps.size) (hdis:(hs.map (·.dst)).Nodup)
 (hm:∀h∈hs,Mono h.R)
 (hy:∀(i:Nat) (h:Head) (o:Oper),hs[i]? = some h→l[i]? = some o→∀a W,Agree (hs.map (·.dst)) a0 a→Below w0.heap.size w0 W→(∀j∈h.deps,∀(hj:Head),hs[j]? = some hj→hj.R (a.eval (.tmp hj.dst)) W)→Yields P o a W h.fresh h.R)
 (hk:∀a W,Agree (hs.map (·.dst)) a0 a→Below w0.heap.size w0 W→(∀(i:Nat) (h:Head),hs[i]? = some h→h.R (a.eval (.tmp h.dst)) W)→(∀(i j:Nat) (h k:Head),hs[i]? = some h→hs[j]? = some k→i≠j→h.fresh=true→k.fresh=true→blk (a.eval (.tmp h.dst))≠blk (a.eval (.tmp k.dst)))→wpList P l.toArray Q (l.drop hs.length) a W):
 ∀(f:Nat) (listed:Array Bool) (a:Act) (W:World),freeB l.toArray hs.length (hs.map (·.deps)).toArray g f listed=true→FreeInv hs a0 w0 listed a W→wpAny P .any l.toArray Q (f+g) listed a W
 | 0,listed,a,W,hB,hI=>by
   simp only[freeB,Bool.and_eq_true,List.all_eq_true,List.mem_range] at hB
   rw[Nat.zero_add]
   have:=wpAny_of_seq (md:=.any) (Q':=Q) (P:=P) (l.drop hs.length) hs.length listed a W (fun j=>by simp[List.getElem?_drop]) (by rw[hg];exact hB.1) (hk a W hI.1 hI.2.1 (fun i h hi=>hI.2.2.1 i h hi (hB.2 i (lt_of_some hi))) (fun i j h k hi hj hij=>hI.2.2.2.2 i j h k hi hj hij (hB.2 i (lt_of_some hi)) (hB.2 j (lt_of_some hj))))
   rwa [hg] at this
 | f + 1,listed,a,W,hB,hI=>by
   simp only[freeB,Bool.and_eq_true,List.all_eq_true,decide_eq_true_eq,Bool.not_eq_true',List.isEmpty_eq_false_iff] at hB
   obtain⟨hne,hall⟩:=hB
   rw[show f+1+g=(f+g)+1 by omega]
   refine⟨fun e=>absurd e hne,fun i hi=>?_⟩
   obtain⟨⟨⟨hin2,his⟩,hdep⟩,hrec⟩:=hall i hi
   have hil:i<l.length:=by omega
   obtain⟨h,hh⟩:∃h,hs[i]? = some h:=⟨_,List.getElem?_eq_getElem hin2⟩
   obtain⟨o,ho⟩:∃o,l[i]? = some o:=⟨_,List.getElem?_eq_getElem hil⟩
   obtain⟨hgd,hd⟩:=hdst i h o hh ho
   have hmem:h∈hs:=List.mem_of_getElem? hh
   have hdep2:∀j∈h.deps,∀(hj:Head),hs[j]? = some hj→hj.R (a.eval (.tmp hj.dst)) W:=fun j hj hj' hjj=>by
    have hd1:((hs.map (·.deps)).toArray.getD i [])=h.deps:=by simp[hh]
    have:=hdep j (by rw[hd1];exact hj)
    exact hI.2.2.1 j hj' hjj this.2
   have hself:∀v,(a.put (some h.dst) v).eval (.tmp h.dst)=v:=fun v=>by
    have hs1:h.dst<a.tmps.size:=by rw[hI.1.2.1];exact hin h hmem
    simp[Act.put,Act.eval,hs1]
   have hoth:∀v (j:Nat) (hj:Head),hs[j]? = some hj→j≠i→(a.put (some h.dst) v).eval (.tmp hj.dst)=a.eval (.tmp hj.dst):=fun v j hj hjj hij=>by
    refine eval_put_ne (fun e=>hij ?_) _ _
    have hjl:=lt_of_some hjj
    have e1:(hs.map (·.dst))[j]'(by simpa using hjl)=(hs.map (·.dst))[i]'(by simpa using hin2):=by
     rw[List.getElem?_eq_getElem hjl] at hjj
     rw[List.getElem?_eq_getElem hin2] at hh
     injection hjj with hjj
     injection hh with hh
     simp only[List.getElem_map,hjj,hh]
     exact e.symm
    exact (List.getElem_inj hdis).1 e1
   have hlis:∀(j:Nat),j≠i→(listed.setIfInBounds i true).getD j false=true→listed.getD j false=true:=fun j hij h'=>by
    rw[Array.getD_eq_getD_getElem?,Array.getElem?_setIfInBounds_ne (Ne.symm hij)] at h'
    rw[Array.getD_eq_getD_getElem?]
    exact h'
   have key:∀v W',h.R v W'→Below W.heap.size W W'→Fresh h.fresh v W W'→wpAny P .any l.toArray Q (f+g) (listed.setIfInBounds i true) (a.put (some h.dst) v) W':=fun v W' hR hb hfr=>by
    refine free_any hg hdst hlen hin hdis hm hy hk f _ _ _ hrec ⟨hI.1.put (List.mem_map.2 ⟨h,hmem,rfl⟩) v,below_tr hI.2.1 hb hI.2.1.size,fun j hj hjj hlj=>?_,fun j hj hjj hlj hf=>?_,fun j k hj hk' hjj hkk hjk hlj hlk hfj hfk=>?_⟩
    · by_cases hij:j=i
      · subst hij
        rw[hh] at hjj
        injection hjj with hjj
        subst hjj
        rw[hself]
        exact hR
      · rw[hoth v j hj hjj hij]
        exact hm hj (List.mem_of_getElem? hjj) _ _ _ (hI.2.2.1 j hj hjj (hlis j hij hlj)) hb
    · by_cases hij:j=i
      · subst hij
        rw[hh] at hjj
        injection hjj with hjj
        subst hjj
        rw[hself]
        obtain⟨g',e1,e2,e3⟩:=hfr hf
        exact⟨g',e1,Nat.le_trans hI.2.1.size e2,e3⟩
      · rw[hoth v j hj hjj hij]
        obtain⟨g',e1,e2,e3⟩:=hI.2.2.2.1 j hj hjj (hlis j hij hlj) hf
        exact⟨g',e1,e2,Nat.lt_of_lt_of_le e3 hb.size⟩
    · by_cases hij:j=i
      · subst hij
        have hki:k≠j:=Ne.symm hjk
        rw[hh] at hjj
        injection hjj with hjj
        subst hjj
        rw[hself,hoth v k hk' hkk hki]
        obtain⟨g',e1,e2,e3⟩:=hfr hfj
        obtain⟨g2,f1,f2,f3⟩:=hI.2.2.2.1 k hk' hkk (hlis k hki hlk) hfk
        rw[e1,f1]
        intro e
        injection e with e
        omega
      · by_cases hik:k=i
        · subst hik
          rw[hh] at hkk
          injection hkk with hkk
          subst hkk
          rw[hself,hoth v j hj hjj hij]
          obtain⟨g',e1,e2,e3⟩:=hfr hfk
          obtain⟨g2,f1,f2,f3⟩:=hI.2.2.2.1 j hj hjj (hlis j hij hlj) hfj
          rw[e1,f1]
          intro e
          injection e with e
          omega
        · rw[hoth v j hj hjj hij,hoth v k hk' hkk hik]
          exact hI.2.2.2.2 j k hj hk' hjj hkk hjk (hlis j hij hlj) (hlis k hik hlk) hfj hfk
   unfold wpOp
   rw[show l.toArray[i]? = some o by simpa using ho]
   simp only
   rw[if_pos (by simp[Region.wanted,hgd])]
   refine .inl ?_
   unfold Oper.wp
   rcases hy i h o hh ho a W hI.1 hI.2.1 hdep2 with ⟨v,W',hr,hR,hb,hfr⟩ | ⟨fn,args,hr,hc⟩
   · rw[hr]
     simp only[Oper.upon,hd]
     exact key v W' hR hb hfr
   · rw[hr]
     simp only[Oper.upon,hd]
     exact hc.mono fun e W' ⟨v,he,hR,hb,hfr⟩=>by subst he;exact key v W' hR hb hfr
theorem wp_free {id:Nat} {a0:Act} {w0:World} {l:List Oper} (hs:List Head) (hmx:P.follows .mixedOrders=true) (hlen:hs.length≤l.length)
 (hB:freeB l.toArray hs.length (hs.map (·.deps)).toArray (l.length-hs.length) hs.length (Array.replicate l.toArray.size false)=true)
 (hdst:∀(i:Nat) (h:Head) (o:Oper),hs[i]? = some h→l[i]? = some o→o.guard=none∧o.dst=some h.dst) (hin:∀h∈hs,h.dst<a0.tmps.size) (hdis:(hs.map (·.dst)).Nodup) (hm:∀h∈hs,Mono h.R)
 (hy:∀(i:Nat) (h:Head) (o:Oper),hs[i]? = some h→l[i]? = some o→∀a W,Agree (hs.map (·.dst)) a0 a→Below w0.heap.size w0 W→(∀j∈h.deps,∀(hj:Head),hs[j]? = some hj→hj.R (a.eval (.tmp hj.dst)) W)→Yields P o a W h.fresh h.R)
 (hk:∀(vs:Tmp→Value) W,(∀(i:Nat) (h:Head),hs[i]? = some h→h.R (vs h.dst) W)→(∀(i j:Nat) (h k:Head),hs[i]? = some h→hs[j]? = some k→i≠j→h.fresh=true→k.fresh=true→blk (vs h.dst)≠blk (vs k.dst))→Below w0.heap.size w0 W→wpList P l.toArray Q (l.drop hs.length) ((hs.map (·.dst)).foldl (fun x d=>x.put (some d) (vs d)) a0) W):
 (Code.region id l.toArray true).wp P Q a0 w0:=by
 refine wp_region_any hmx ?_
 have h1:=free_any (P:=P) (Q:=Q) (l:=l) (hs:=hs) (a0:=a0) (w0:=w0) (g:=l.length-hs.length) (by simp) hdst hlen hin hdis hm hy
  (fun a W hA hb hR hF=>by
    have:=hk (fun d=>a.eval (.tmp d)) W hR hF hb
    rw[←Agree.rebuild _ _ hA] at this
    exact this) hs.length (Array.replicate l.toArray.size false) a0 { w0 with drawn:=w0.drawn+1 } hB
  ⟨Agree.refl _ _,(Below.refl _ w0).drew,fun i h hi hl=>(by rw[getD_replicate_false] at hl;cases hl),fun i h hi hl=>(by rw[getD_replicate_false] at hl;cases hl),fun i j h k hi hj hij hl=>(by rw[getD_replicate_false] at hl;cases hl)⟩
 have hsz:l.toArray.size=hs.length+(l.length-hs.length):=by rw[List.size_toArray];omega
 have e:wpAny P .any l.toArray Q l.toArray.size=wpAny P .any l.toArray Q (hs.length+(l.length-hs.length)):=congrArg _ hsz
 rw[e]
 exact h1
def AllHeads (p:Head→Oper→Prop):List Head→List Oper→Prop
 | [],_=>True
 | h::hs,o::ol=>p h o∧AllHeads p hs ol
 | _::_,[]=>False
theorem AllHeads.at {p:Head→Oper→Prop}:∀{hs:List Head} {l:List Oper},AllHeads p hs l→∀(i:Nat) (h:Head) (o:Oper),hs[i]? = some h→l[i]? = some o→p h o
 | [],_,_,i,h,o,hh,_=>by simp at hh
 | h0::hs,o0::l,ha,0,h,o,hh,ho=>by
   simp only[List.getElem?_cons_zero,Option.some.injEq] at hh ho
   rw[←hh,←ho]
   exact ha.1
 | h0::hs,o0::l,ha,i+1,h,o,hh,ho=>AllHeads.at ha.2 i h o (by simpa using hh) (by simpa using ho)
 | _::_,[],ha,_,_,_,_,_=>ha.elim
def Head.ok (P:Program) (hs:List Head) (a0:Act) (w0:World) (h:Head) (o:Oper):Prop:=
 o.guard=none∧o.dst=some h.dst∧Mono h.R∧(∀a W,Agree (hs.map (·.dst)) a0 a→Below w0.heap.size w0 W→(∀j∈h.deps,∀(hj:Head),hs[j]? = some hj→hj.R (a.eval (.tmp hj.dst)) W)→Yields P o a W h.fresh h.R)
theorem wp_free2 {id:Nat} {a0:Act} {w0:World} {l:List Oper} (hs:List Head) (hmx:P.follows .mixedOrders=true)
 (hB:freeB l.toArray hs.length (hs.map (·.deps)).toArray (l.length-hs.length) hs.length (Array.replicate l.toArray.size false)=true)
 (hlen:decide (hs.length≤l.length)=true) (hin:(hs.map (·.dst)).all (fun d=>decide (d<a0.tmps.size))=true) (hdis:decide ((hs.map (·.dst)).Nodup)=true)
 (hok:AllHeads (Head.ok P hs a0 w0) hs l)
 (hk:∀(vs:Tmp→Value) W,(∀(i:Nat) (h:Head),hs[i]? = some h→h.R (vs h.dst) W)→(∀(i j:Nat) (h k:Head),hs[i]? = some h→hs[j]? = some k→i≠j→h.fresh=true→k.fresh=true→blk (vs h.dst)≠blk (vs k.dst))→Below w0.heap.size w0 W→wpList P l.toArray Q (l.drop hs.length) ((hs.map (·.dst)).foldl (fun x d=>x.put (some d) (vs d)) a0) W):
 (Code.region id l.toArray true).wp P Q a0 w0:=by
 have hlen':=of_decide_eq_true hlen
 have hmem:∀h∈hs,∃(i:Nat) (o:Oper),hs[i]? = some h∧l[i]? = some o:=fun h hh=>by
  obtain⟨i,hi,rfl⟩:=List.getElem_of_mem hh
  exact⟨i,_,List.getElem?_eq_getElem hi,List.getElem?_eq_getElem (by omega)⟩
 refine wp_free hs hmx hlen' hB (fun i h o hi ho=>⟨(hok.at i h o hi ho).1,(hok.at i h o hi ho).2.1⟩) (fun h hh=>?_) (of_decide_eq_true hdis) (fun h hh=>?_) (fun i h o hi ho=>(hok.at i h o hi ho).2.2.2) hk
 · have:=List.all_eq_true.1 hin h.dst (List.mem_map.2 ⟨h,hh,rfl⟩)
   exact of_decide_eq_true this
 · obtain⟨i,o,hi,ho⟩:=hmem h hh
   exact (hok.at i h o hi ho).2.2.1
theorem yields_value {o:Oper} {a:Act} {W:World} {R:Value→World→Prop} (v:Value) (h:(execOp a.eval o).run P W = .ok (.value v) W) (hR:R v W):Yields P o a W false R:=.inl ⟨v,W,h,hR,Below.refl _ _,fresh_no _ _ _⟩
theorem yields_call {o:Oper} {a:Act} {W:World} {R:Value→World→Prop} (f:FuncId) (args:Array Value) (h:(execOp a.eval o).run P W = .ok (.enter f args) W) (hc:Calls P f args W fun e W'=>∃v,e = .returned v∧R v W'∧Below W.heap.size W W'):Yields P o a W false R:=
 .inr ⟨f,args,h,hc.mono fun e W' ⟨v,h1,h2,h3⟩=>⟨v,h1,h2,h3,fresh_no _ _ _⟩⟩
end
section
variable {P:Program} {Q:Exit→Act→World→Prop}
def unl (listed:Array Bool):Nat→Nat
 | 0=>0
 | n+1=>unl listed n+(if listed.getD n false=true then 0 else 1)
theorem unl_same (listed:Array Bool) (i:Nat):∀n,n≤i→unl (listed.setIfInBounds i true) n=unl listed n
 | 0,_=>rfl
 | n+1,h=>by
   rw[unl,unl,unl_same listed i n (by omega),getD_set_ne false (by omega)]
theorem unl_set {listed:Array Bool} {i:Nat} (hs:i<listed.size) (hi:listed.getD i false=false):∀n,i<n→unl (listed.setIfInBounds i true) n+1=unl listed n
 | 0,h=>by omega
 | n + 1,h=>by
   rw[unl,unl]
   by_cases e:i=n
   · subst e
     rw[unl_same listed i i (Nat.le_refl _),hi]
     have:(listed.setIfInBounds i true).getD i false=true:=by simp[hs]
     rw[this]
     simp
   · rw[getD_set_ne false e,←unl_set hs hi n (by omega)]
     omega
theorem unl_zero {listed:Array Bool}:∀n,unl listed n=0→∀i,i<n→listed.getD i false=true
 | 0,_,i,h=>by omega
 | n + 1,h0,i,h=>by
   rw[unl] at h0
   by_cases e:i=n
   · subst e
     by_cases hl:listed.getD i false=true
     · exact hl
     · rw[if_neg hl] at h0;omega
   · exact unl_zero n (by omega) i (by omega)
theorem unl_pos {listed:Array Bool}:∀n,0<unl listed n→∃i,i<n∧listed.getD i false=false∧∀j,j<i→listed.getD j false=true
 | 0,h=>by simp[unl] at h
 | n + 1,h=>by
   by_cases h0:0<unl listed n
   · obtain⟨i,hi,h1,h2⟩:=unl_pos n h0
     exact⟨i,by omega,h1,h2⟩
   · rw[unl] at h
     by_cases hl:listed.getD n false=true
     · rw[if_pos hl] at h;omega
     · exact⟨n,by omega,by simpa using hl,fun j hj=>unl_zero n (by omega) j hj⟩
def allL (m n:Nat):Array Bool:=((List.range m).map fun i=>decide (i<n)).toArray
def wideB (ops:Array Oper) (n:Nat) (deps:Array (List Nat)):Bool:=
 decide (n<ops.size)&&Region.sinkB .any ops n&&Region.chainB .any ops n&&Region.seqB .any ops (ops.size-n) n (allL ops.size n) &&
  (List.range n).all (fun j=>(deps.getD j []).all fun d=>decide (d<n)&&Region.waitsFor .any ops j d) &&
  (List.range n).all (fun j=>match ops[j]? with
    | some o=>o.after.toList.all fun e=>!Region.binds .any e||decide (e.on<j)
    | none=>false)
structure Wide (ops:Array Oper) (n:Nat) (deps:Array (List Nat)):Prop where
 lt:n<ops.size
 sink:Region.sinkB .any ops n=true
 chain:Region.chainB .any ops n=true
 seq:Region.seqB .any ops (ops.size-n) n (allL ops.size n)=true
 dep:∀j,j<n→∀d∈deps.getD j [],d<n∧Region.waitsFor .any ops j d=true
 low:∀j,j<n→∃o,ops[j]? = some o∧∀e∈o.after,Region.binds .any e=true→e.on<j
theorem wide_of {ops:Array Oper} {n:Nat} {deps:Array (List Nat)} (h:wideB ops n deps=true):Wide ops n deps:=by
 simp only[wideB,Bool.and_eq_true,decide_eq_true_eq,List.all_eq_true,List.mem_range] at h
 obtain⟨⟨⟨⟨⟨h1,h2⟩,h3⟩,h4⟩,h5⟩,h6⟩:=h
 refine⟨h1,h2,h3,h4,fun j hj d hd=>h5 j hj d hd,fun j hj=>?_⟩
 have:=h6 j hj
 cases ho:ops[j]? with
 | none=>rw[ho] at this;cases this
 | some o=>
   rw[ho] at this
   refine⟨o,rfl,fun e he hb=>?_⟩
   simp only[List.all_eq_true] at this
   have:=this e (by simpa using he)
   simpa[hb] using this
theorem all_listed {ops:Array Oper} {n:Nat} {listed:Array Bool} (inv:HeadInv .any ops n listed) (hn:n<ops.size) (h:∀i,i<n→listed.getD i false=true):listed=allL ops.size n:=by
 apply Array.ext
 · simp[allL,inv.size]
 · intro i h1 h2
   have h3:i<ops.size:=by rw[←inv.size];exact h1
   simp only[allL,List.getElem_toArray,List.getElem_map,List.getElem_range]
   by_cases hi:i<n
   · rw[decide_eq_true hi]
     have:=h i hi
     simpa[h1] using this
   · rw[decide_eq_false hi]
     have:=inv.tail i (by omega) h3
     simpa[h1] using this
theorem wide_any {l:List Oper} {hs:List Head} {a0:Act} {w0:World} {g:Nat} (hW:wideB l.toArray hs.length (hs.map (·.deps)).toArray=true) (hg:(l.drop hs.length).length=g)
 (hdst:∀(i:Nat) (h:Head) (o:Oper),hs[i]? = some h→l[i]? = some o→o.guard=none∧o.dst=some h.dst) (hlen:hs.length≤l.length) (hin:∀h∈hs,h.dst<a0.tmps.size) (hdis:(hs.map (·.dst)).Nodup)
 (hm:∀h∈hs,Mono h.R)
 (hy:∀(i:Nat) (h:Head) (o:Oper),hs[i]? = some h→l[i]? = some o→∀a W,Agree (hs.map (·.dst)) a0 a→Below w0.heap.size w0 W→(∀j∈h.deps,∀(hj:Head),hs[j]? = some hj→hj.R (a.eval (.tmp hj.dst)) W)→Yields P o a W h.fresh h.R)
 (hk:∀a W,Agree (hs.map (·.dst)) a0 a→Below w0.heap.size w0 W→(∀(i:Nat) (h:Head),hs[i]? = some h→h.R (a.eval (.tmp h.dst)) W)→(∀(i j:Nat) (h k:Head),hs[i]? = some h→hs[j]? = some k→i≠j→h.fresh=true→k.fresh=true→blk (a.eval (.tmp h.dst))≠blk (a.eval (.tmp k.dst)))→wpList P l.toArray Q (l.drop hs.length) a W):
 ∀(f:Nat) (listed:Array Bool) (a:Act) (W:World),HeadInv .any l.toArray hs.length listed→unl listed hs.length=f→FreeInv hs a0 w0 listed a W→wpAny P .any l.toArray Q (f+g) listed a W
 | 0,listed,a,W,inv,hu,hI=>by
   have hWd:=wide_of hW
   have hall:=unl_zero _ hu
   rw[Nat.zero_add]
   have hsq:=hWd.seq
   rw[←all_listed inv hWd.lt hall,show l.toArray.size-hs.length=g by rw[←hg];simp] at hsq
   have:=wpAny_of_seq (md:=.any) (Q':=Q) (P:=P) (l.drop hs.length) hs.length listed a W (fun j=>by simp[List.getElem?_drop]) (by rw[hg];exact hsq) (hk a W hI.1 hI.2.1 (fun i h hi=>hI.2.2.1 i h hi (hall i (lt_of_some hi))) (fun i j h k hi hj hij=>hI.2.2.2.2 i j h k hi hj hij (hall i (lt_of_some hi)) (hall j (lt_of_some hj))))
   rwa [hg] at this
 | f + 1,listed,a,W,inv,hu,hI=>by
   have hWd:=wide_of hW
   obtain⟨i0,hi0,hun0,hlow0⟩:=unl_pos (listed:=listed) hs.length (by omega)
   have hsz:=inv.size
   have hun0':listed.getD i0 true=false:=getD_in (by have:=hWd.lt;omega) hun0
   rw[show f+1+g=(f+g)+1 by omega]
   have hne:i0∈Region.ready .any l.toArray listed:=by
    obtain⟨o,ho,hb⟩:=hWd.low i0 hi0
    exact mem_ready.2 ⟨hun0',o,ho,fun e he hbd=>hlow0 _ (hb e he hbd)⟩
   refine⟨fun e=>(by rw[e] at hne;cases hne),fun i hi=>?_⟩
   have hin2:i<hs.length:=by
    rcases Nat.lt_or_ge i hs.length with h | h
    · exact h
    · exact absurd hi (tail_waits hWd.sink hWd.chain hWd.lt inv _ i0 rfl hi0 hun0' i h)
   have hdep:∀d∈((hs.map (·.deps)).toArray.getD i []),listed.getD d false=true:=fun d hd=>by
    obtain⟨_,oi,hoi,hall⟩:=mem_ready.1 hi
    obtain⟨oj,hoj,e,he,hb,hon⟩:=Region.waitsFor_spec (hWd.dep i hin2 d hd).2
    have:oj=oi:=Option.some.inj (hoj.symm.trans hoi)
    subst this
    rw[←hon]
    exact hall e he hb
   have hrec:unl (listed.setIfInBounds i true) hs.length=f:=by
    have:=unl_set (listed:=listed) (i:=i) (by have:=hWd.lt;omega) (getD_both (mem_ready.1 hi).1) hs.length hin2
    omega
   have hil:i<l.length:=by omega
   obtain⟨h,hh⟩:∃h,hs[i]? = some h:=⟨_,List.getElem?_eq_getElem hin2⟩
   obtain⟨o,ho⟩:∃o,l[i]? = some o:=⟨_,List.getElem?_eq_getElem hil⟩
   obtain⟨hgd,hd⟩:=hdst i h o hh ho
   have hmem:h∈hs:=List.mem_of_getElem? hh
   have hdep2:∀j∈h.deps,∀(hj:Head),hs[j]? = some hj→hj.R (a.eval (.tmp hj.dst)) W:=fun j hj hj' hjj=>by
    have hd1:((hs.map (·.deps)).toArray.getD i [])=h.deps:=by simp[hh]
    exact hI.2.2.1 j hj' hjj (hdep j (by rw[hd1];exact hj))
   have hself:∀v,(a.put (some h.dst) v).eval (.tmp h.dst)=v:=fun v=>by
    have hs1:h.dst<a.tmps.size:=by rw[hI.1.2.1];exact hin h hmem
    simp[Act.put,Act.eval,hs1]
   have hoth:∀v (j:Nat) (hj:Head),hs[j]? = some hj→j≠i→(a.put (some h.dst) v).eval (.tmp hj.dst)=a.eval (.tmp hj.dst):=fun v j hj hjj hij=>by
    refine eval_put_ne (fun e=>hij ?_) _ _
    have hjl:=lt_of_some hjj
    have e1:(hs.map (·.dst))[j]'(by simpa using hjl)=(hs.map (·.dst))[i]'(by simpa using hin2):=by
     rw[List.getElem?_eq_getElem hjl] at hjj
     rw[List.getElem?_eq_getElem hin2] at hh
     injection hjj with hjj
     injection hh with hh
     simp only[List.getElem_map,hjj,hh]
     exact e.symm
    exact (List.getElem_inj hdis).1 e1
   have hlis:∀(j:Nat),j≠i→(listed.setIfInBounds i true).getD j false=true→listed.getD j false=true:=fun j hij h'=>by
    rw[Array.getD_eq_getD_getElem?,Array.getElem?_setIfInBounds_ne (Ne.symm hij)] at h'
    rw[Array.getD_eq_getD_getElem?]
    exact h'
   have key:∀v W',h.R v W'→Below W.heap.size W W'→Fresh h.fresh v W W'→wpAny P .any l.toArray Q (f+g) (listed.setIfInBounds i true) (a.put (some h.dst) v) W':=fun v W' hR hb hfr=>by
    refine wide_any hW hg hdst hlen hin hdis hm hy hk f _ _ _ (inv.set hi hin2) hrec ⟨hI.1.put (List.mem_map.2 ⟨h,hmem,rfl⟩) v,below_tr hI.2.1 hb hI.2.1.size,fun j hj hjj hlj=>?_,fun j hj hjj hlj hf=>?_,fun j k hj hk' hjj hkk hjk hlj hlk hfj hfk=>?_⟩
    · by_cases hij:j=i
      · subst hij
        rw[hh] at hjj
        injection hjj with hjj
        subst hjj
        rw[hself]
        exact hR
      · rw[hoth v j hj hjj hij]
        exact hm hj (List.mem_of_getElem? hjj) _ _ _ (hI.2.2.1 j hj hjj (hlis j hij hlj)) hb
    · by_cases hij:j=i
      · subst hij
        rw[hh] at hjj
        injection hjj with hjj
        subst hjj
        rw[hself]
        obtain⟨g',e1,e2,e3⟩:=hfr hf
        exact⟨g',e1,Nat.le_trans hI.2.1.size e2,e3⟩
      · rw[hoth v j hj hjj hij]
        obtain⟨g',e1,e2,e3⟩:=hI.2.2.2.1 j hj hjj (hlis j hij hlj) hf
        exact⟨g',e1,e2,Nat.lt_of_lt_of_le e3 hb.size⟩
    · by_cases hij:j=i
      · subst hij
        have hki:k≠j:=Ne.symm hjk
        rw[hh] at hjj
        injection hjj with hjj
        subst hjj
        rw[hself,hoth v k hk' hkk hki]
        obtain⟨g',e1,e2,e3⟩:=hfr hfj
        obtain⟨g2,f1,f2,f3⟩:=hI.2.2.2.1 k hk' hkk (hlis k hki hlk) hfk
        rw[e1,f1]
        intro e
        injection e with e
        omega
      · by_cases hik:k=i
        · subst hik
          rw[hh] at hkk
          injection hkk with hkk
          subst hkk
          rw[hself,hoth v j hj hjj hij]
          obtain⟨g',e1,e2,e3⟩:=hfr hfk
          obtain⟨g2,f1,f2,f3⟩:=hI.2.2.2.1 j hj hjj (hlis j hij hlj) hfj
          rw[e1,f1]
          intro e
          injection e with e
          omega
        · rw[hoth v j hj hjj hij,hoth v k hk' hkk hik]
          exact hI.2.2.2.2 j k hj hk' hjj hkk hjk (hlis j hij hlj) (hlis k hik hlk) hfj hfk
   unfold wpOp
   rw[show l.toArray[i]? = some o by simpa using ho]
   simp only
   rw[if_pos (by simp[Region.wanted,hgd])]
   refine .inl ?_
   unfold Oper.wp
   rcases hy i h o hh ho a W hI.1 hI.2.1 hdep2 with ⟨v,W',hr,hR,hb,hfr⟩ | ⟨fn,args,hr,hc⟩
   · rw[hr]
     simp only[Oper.upon,hd]
     exact key v W' hR hb hfr
   · rw[hr]
     simp only[Oper.upon,hd]
     exact hc.mono fun e W' ⟨v,he,hR,hb,hfr⟩=>by subst he;exact key v W' hR hb hfr
end
section
variable {P:Program} {Q:Exit→Act→World→Prop}
def Takes (P:Program) (ops:Array Oper) (o:Oper) (a:Act) (W:World) (fr:Bool) (R:Value→World→Prop):Prop:=
 (Region.wanted o (yielded ops a.tmps)=true∧Yields P o a W fr R)∨(Region.wanted o (yielded ops a.tmps)=false∧R undef W∧fr=false)
theorem takes_plain {ops:Array Oper} {o:Oper} {a:Act} {W:World} {fr:Bool} {R:Value→World→Prop} (hg:o.guard=none) (h:Yields P o a W fr R):Takes P ops o a W fr R:=.inl ⟨by simp[Region.wanted,hg],h⟩
theorem yielded_eval {ops:Array Oper} {a:Act} {i:Nat} {o:Oper} {d:Tmp} {b:Bool} (ho:ops[i]? = some o) (hd:o.dst=some d) (he:a.eval (.tmp d) = .bool b):yielded ops a.tmps i=some b:=by
 have h2:a.tmps[d]?.getD undef = .bool b:=by simpa[Act.eval] using he
 unfold yielded
 rw[ho]
 simp only[Option.bind_some,hd]
 cases hq:a.tmps[d]? with
 | none=>rw[hq] at h2;cases h2
 | some v=>
   rw[hq] at h2
   simp only[Option.getD_some] at h2
   subst h2
   rfl
theorem takes_on {ops:Array Oper} {o oi:Oper} {a:Act} {W:World} {fr:Bool} {R:Value→World→Prop} {i:Nat} {d:Tmp} {b:Bool} (hg:o.guard=some (i,b)) (ho:ops[i]? = some oi) (hd:oi.dst=some d) (he:a.eval (.tmp d) = .bool b) (h:Yields P o a W fr R):Takes P ops o a W fr R:=
 .inl ⟨by simp[Region.wanted,hg,yielded_eval ho hd he],h⟩
theorem takes_off {ops:Array Oper} {o oi:Oper} {a:Act} {W:World} {R:Value→World→Prop} {i:Nat} {d:Tmp} {b:Bool} (hg:o.guard=some (i,b)) (ho:ops[i]? = some oi) (hd:oi.dst=some d) (he:a.eval (.tmp d) = .bool (!b)) (h:R undef W):Takes P ops o a W false R:=
 .inr ⟨by cases b <;> simp[Region.wanted,hg,yielded_eval ho hd he],h,rfl⟩
theorem wide3_any {l:List Oper} {hs:List Head} {a0:Act} {w0:World} {g:Nat} (hW:wideB l.toArray hs.length (hs.map (·.deps)).toArray=true) (hg:(l.drop hs.length).length=g)
 (hdst:∀(i:Nat) (h:Head) (o:Oper),hs[i]? = some h→l[i]? = some o→o.dst=some h.dst) (hlen:hs.length≤l.length) (hin:∀h∈hs,h.dst<a0.tmps.size) (hdis:(hs.map (·.dst)).Nodup)
 (hm:∀h∈hs,Mono h.R)
 (hy:∀(i:Nat) (h:Head) (o:Oper),hs[i]? = some h→l[i]? = some o→∀a W,Agree (hs.map (·.dst)) a0 a→Below w0.heap.size w0 W→(∀j∈h.deps,∀(hj:Head),hs[j]? = some hj→hj.R (a.eval (.tmp hj.dst)) W)→Takes P l.toArray o a W h.fresh h.R)
 (hk:∀a W,Agree (hs.map (·.dst)) a0 a→Below w0.heap.size w0 W→(∀(i:Nat) (h:Head),hs[i]? = some h→h.R (a.eval (.tmp h.dst)) W)→(∀(i j:Nat) (h k:Head),hs[i]? = some h→hs[j]? = some k→i≠j→h.fresh=true→k.fresh=true→blk (a.eval (.tmp h.dst))≠blk (a.eval (.tmp k.dst)))→wpList P l.toArray Q (l.drop hs.length) a W):
 ∀(f:Nat) (listed:Array Bool) (a:Act) (W:World),HeadInv .any l.toArray hs.length listed→unl listed hs.length=f→FreeInv hs a0 w0 listed a W→wpAny P .any l.toArray Q (f+g) listed a W
 | 0,listed,a,W,inv,hu,hI=>by
   have hWd:=wide_of hW
   have hall:=unl_zero _ hu
   rw[Nat.zero_add]
   have hsq:=hWd.seq
   rw[←all_listed inv hWd.lt hall,show l.toArray.size-hs.length=g by rw[←hg];simp] at hsq
   have:=wpAny_of_seq (md:=.any) (Q':=Q) (P:=P) (l.drop hs.length) hs.length listed a W (fun j=>by simp[List.getElem?_drop]) (by rw[hg];exact hsq) (hk a W hI.1 hI.2.1 (fun i h hi=>hI.2.2.1 i h hi (hall i (lt_of_some hi))) (fun i j h k hi hj hij=>hI.2.2.2.2 i j h k hi hj hij (hall i (lt_of_some hi)) (hall j (lt_of_some hj))))
   rwa [hg] at this
 | f + 1,listed,a,W,inv,hu,hI=>by
   have hWd:=wide_of hW
   obtain⟨i0,hi0,hun0,hlow0⟩:=unl_pos (listed:=listed) hs.length (by omega)
   have hsz:=inv.size
   have hun0':listed.getD i0 true=false:=getD_in (by have:=hWd.lt;omega) hun0
   rw[show f+1+g=(f+g)+1 by omega]
   have hne:i0∈Region.ready .any l.toArray listed:=by
    obtain⟨o,ho,hb⟩:=hWd.low i0 hi0
    exact mem_ready.2 ⟨hun0',o,ho,fun e he hbd=>hlow0 _ (hb e he hbd)⟩
   refine⟨fun e=>(by rw[e] at hne;cases hne),fun i hi=>?_⟩
   have hin2:i<hs.length:=by
    rcases Nat.lt_or_ge i hs.length with h | h
    · exact h
    · exact absurd hi (tail_waits hWd.sink hWd.chain hWd.lt inv _ i0 rfl hi0 hun0' i h)
   have hdep:∀d∈((hs.map (·.deps)).toArray.getD i []),listed.getD d false=true:=fun d hd=>by
    obtain⟨_,oi,hoi,hall⟩:=mem_ready.1 hi
    obtain⟨oj,hoj,e,he,hb,hon⟩:=Region.waitsFor_spec (hWd.dep i hin2 d hd).2
    have:oj=oi:=Option.some.inj (hoj.symm.trans hoi)
    subst this
    rw[←hon]
    exact hall e he hb
   have hrec:unl (listed.setIfInBounds i true) hs.length=f:=by
    have:=unl_set (listed:=listed) (i:=i) (by have:=hWd.lt;omega) (getD_both (mem_ready.1 hi).1) hs.length hin2
    omega
   have hil:i<l.length:=by omega
   obtain⟨h,hh⟩:∃h,hs[i]? = some h:=⟨_,List.getElem?_eq_getElem hin2⟩
   obtain⟨o,ho⟩:∃o,l[i]? = some o:=⟨_,List.getElem?_eq_getElem hil⟩
   have hd:=hdst i h o hh ho
   have hmem:h∈hs:=List.mem_of_getElem? hh
   have hdep2:∀j∈h.deps,∀(hj:Head),hs[j]? = some hj→hj.R (a.eval (.tmp hj.dst)) W:=fun j hj hj' hjj=>by
    have hd1:((hs.map (·.deps)).toArray.getD i [])=h.deps:=by simp[hh]
    exact hI.2.2.1 j hj' hjj (hdep j (by rw[hd1];exact hj))
   have hself:∀v,(a.put (some h.dst) v).eval (.tmp h.dst)=v:=fun v=>by
    have hs1:h.dst<a.tmps.size:=by rw[hI.1.2.1];exact hin h hmem
    simp[Act.put,Act.eval,hs1]
   have hoth:∀v (j:Nat) (hj:Head),hs[j]? = some hj→j≠i→(a.put (some h.dst) v).eval (.tmp hj.dst)=a.eval (.tmp hj.dst):=fun v j hj hjj hij=>by
    refine eval_put_ne (fun e=>hij ?_) _ _
    have hjl:=lt_of_some hjj
    have e1:(hs.map (·.dst))[j]'(by simpa using hjl)=(hs.map (·.dst))[i]'(by simpa using hin2):=by
     rw[List.getElem?_eq_getElem hjl] at hjj
     rw[List.getElem?_eq_getElem hin2] at hh
     injection hjj with hjj
     injection hh with hh
     simp only[List.getElem_map,hjj,hh]
     exact e.symm
    exact (List.getElem_inj hdis).1 e1
   have hlis:∀(j:Nat),j≠i→(listed.setIfInBounds i true).getD j false=true→listed.getD j false=true:=fun j hij h'=>by
    rw[Array.getD_eq_getD_getElem?,Array.getElem?_setIfInBounds_ne (Ne.symm hij)] at h'
    rw[Array.getD_eq_getD_getElem?]
    exact h'
   have key:∀v W',h.R v W'→Below W.heap.size W W'→Fresh h.fresh v W W'→wpAny P .any l.toArray Q (f+g) (listed.setIfInBounds i true) (a.put (some h.dst) v) W':=fun v W' hR hb hfr=>by
    refine wide3_any hW hg hdst hlen hin hdis hm hy hk f _ _ _ (inv.set hi hin2) hrec ⟨hI.1.put (List.mem_map.2 ⟨h,hmem,rfl⟩) v,below_tr hI.2.1 hb hI.2.1.size,fun j hj hjj hlj=>?_,fun j hj hjj hlj hf=>?_,fun j k hj hk' hjj hkk hjk hlj hlk hfj hfk=>?_⟩
    · by_cases hij:j=i
      · subst hij
        rw[hh] at hjj
        injection hjj with hjj
        subst hjj
        rw[hself]
        exact hR
      · rw[hoth v j hj hjj hij]
        exact hm hj (List.mem_of_getElem? hjj) _ _ _ (hI.2.2.1 j hj hjj (hlis j hij hlj)) hb
    · by_cases hij:j=i
      · subst hij
        rw[hh] at hjj
        injection hjj with hjj
        subst hjj
        rw[hself]
        obtain⟨g',e1,e2,e3⟩:=hfr hf
        exact⟨g',e1,Nat.le_trans hI.2.1.size e2,e3⟩
      · rw[hoth v j hj hjj hij]
        obtain⟨g',e1,e2,e3⟩:=hI.2.2.2.1 j hj hjj (hlis j hij hlj) hf
        exact⟨g',e1,e2,Nat.lt_of_lt_of_le e3 hb.size⟩
    · by_cases hij:j=i
      · subst hij
        have hki:k≠j:=Ne.symm hjk
        rw[hh] at hjj
        injection hjj with hjj
        subst hjj
        rw[hself,hoth v k hk' hkk hki]
        obtain⟨g',e1,e2,e3⟩:=hfr hfj
        obtain⟨g2,f1,f2,f3⟩:=hI.2.2.2.1 k hk' hkk (hlis k hki hlk) hfk
        rw[e1,f1]
        intro e
        injection e with e
        omega
      · by_cases hik:k=i
        · subst hik
          rw[hh] at hkk
          injection hkk with hkk
          subst hkk
          rw[hself,hoth v j hj hjj hij]
          obtain⟨g',e1,e2,e3⟩:=hfr hfk
          obtain⟨g2,f1,f2,f3⟩:=hI.2.2.2.1 j hj hjj (hlis j hij hlj) hfj
          rw[e1,f1]
          intro e
          injection e with e
          omega
        · rw[hoth v j hj hjj hij,hoth v k hk' hkk hik]
          exact hI.2.2.2.2 j k hj hk' hjj hkk hjk (hlis j hij hlj) (hlis k hik hlk) hfj hfk
   unfold wpOp
   rw[show l.toArray[i]? = some o by simpa using ho]
   simp only
   rcases hy i h o hh ho a W hI.1 hI.2.1 hdep2 with ⟨hwt,hyl⟩ | ⟨hwt,hR,hfr⟩
   · rw[if_pos hwt]
     refine .inl ?_
     unfold Oper.wp
     rcases hyl with ⟨v,W',hr,hR,hb,hfr⟩ | ⟨fn,args,hr,hc⟩
     · rw[hr]
       simp only[Oper.upon,hd]
       exact key v W' hR hb hfr
     · rw[hr]
       simp only[Oper.upon,hd]
       exact hc.mono fun e W' ⟨v,he,hR,hb,hfr⟩=>by subst he;exact key v W' hR hb hfr
   · rw[if_neg (by rw[hwt];exact Bool.false_ne_true)]
     rw[hd]
     exact key undef W hR (Below.refl _ _) (by rw[hfr];exact fresh_no _ _ _)
def Head.ok3 (P:Program) (ops:Array Oper) (hs:List Head) (a0:Act) (w0:World) (h:Head) (o:Oper):Prop:=
 o.dst=some h.dst∧Mono h.R∧(∀a W,Agree (hs.map (·.dst)) a0 a→Below w0.heap.size w0 W→(∀j∈h.deps,∀(hj:Head),hs[j]? = some hj→hj.R (a.eval (.tmp hj.dst)) W)→Takes P ops o a W h.fresh h.R)
theorem wp_wide3a {id:Nat} {a0:Act} {w0:World} {l:List Oper} (hs:List Head) (hmx:P.follows .mixedOrders=true) (hlen:hs.length≤l.length)
 (hB:wideB l.toArray hs.length (hs.map (·.deps)).toArray=true)
 (hdst:∀(i:Nat) (h:Head) (o:Oper),hs[i]? = some h→l[i]? = some o→o.dst=some h.dst) (hin:∀h∈hs,h.dst<a0.tmps.size) (hdis:(hs.map (·.dst)).Nodup) (hm:∀h∈hs,Mono h.R)
 (hy:∀(i:Nat) (h:Head) (o:Oper),hs[i]? = some h→l[i]? = some o→∀a W,Agree (hs.map (·.dst)) a0 a→Below w0.heap.size w0 W→(∀j∈h.deps,∀(hj:Head),hs[j]? = some hj→hj.R (a.eval (.tmp hj.dst)) W)→Takes P l.toArray o a W h.fresh h.R)
 (hk:∀(vs:Tmp→Value) W,(∀(i:Nat) (h:Head),hs[i]? = some h→h.R (vs h.dst) W)→(∀(i j:Nat) (h k:Head),hs[i]? = some h→hs[j]? = some k→i≠j→h.fresh=true→k.fresh=true→blk (vs h.dst)≠blk (vs k.dst))→Below w0.heap.size w0 W→wpList P l.toArray Q (l.drop hs.length) ((hs.map (·.dst)).foldl (fun x d=>x.put (some d) (vs d)) a0) W):
 (Code.region id l.toArray true).wp P Q a0 w0:=by
 refine wp_region_any hmx ?_
 have hinv:HeadInv .any l.toArray hs.length (Array.replicate l.toArray.size false):=⟨by simp,fun j oj hj hl=>(by rw[getD_replicate_false] at hl;cases hl),fun t ht ht'=>getD_in (by simpa using ht') (getD_replicate_false _ _)⟩
 have hunl:∀n,unl (Array.replicate l.toArray.size false) n=n:=fun n=>by
  induction n with
  | zero=>rfl
  | succ n ih=>rw[unl,ih,getD_replicate_false];simp
 have h1:=wide3_any (P:=P) (Q:=Q) (l:=l) (hs:=hs) (a0:=a0) (w0:=w0) (g:=l.length-hs.length) hB (by simp) hdst hlen hin hdis hm hy
  (fun a W hA hb hR hF=>by
    have:=hk (fun d=>a.eval (.tmp d)) W hR hF hb
    rw[←Agree.rebuild _ _ hA] at this
    exact this) hs.length (Array.replicate l.toArray.size false) a0 { w0 with drawn:=w0.drawn+1 } hinv (hunl _)
  ⟨Agree.refl _ _,(Below.refl _ w0).drew,fun i h hi hl=>(by rw[getD_replicate_false] at hl;cases hl),fun i h hi hl=>(by rw[getD_replicate_false] at hl;cases hl),fun i j h k hi hj hij hl=>(by rw[getD_replicate_false] at hl;cases hl)⟩
 have hsz:l.toArray.size=hs.length+(l.length-hs.length):=by rw[List.size_toArray];omega
 have e:wpAny P .any l.toArray Q l.toArray.size=wpAny P .any l.toArray Q (hs.length+(l.length-hs.length)):=congrArg _ hsz
 rw[e]
 exact h1
theorem wp_wide3 {id:Nat} {a0:Act} {w0:World} {l:List Oper} (hs:List Head) (hmx:P.follows .mixedOrders=true)
 (hB:wideB l.toArray hs.length (hs.map (·.deps)).toArray=true)
 (hlen:decide (hs.length≤l.length)=true) (hin:(hs.map (·.dst)).all (fun d=>decide (d<a0.tmps.size))=true) (hdis:decide ((hs.map (·.dst)).Nodup)=true)
 (hok:AllHeads (Head.ok3 P l.toArray hs a0 w0) hs l)
 (hk:∀(vs:Tmp→Value) W,(∀(i:Nat) (h:Head),hs[i]? = some h→h.R (vs h.dst) W)→(∀(i j:Nat) (h k:Head),hs[i]? = some h→hs[j]? = some k→i≠j→h.fresh=true→k.fresh=true→blk (vs h.dst)≠blk (vs k.dst))→Below w0.heap.size w0 W→wpList P l.toArray Q (l.drop hs.length) ((hs.map (·.dst)).foldl (fun x d=>x.put (some d) (vs d)) a0) W):
 (Code.region id l.toArray true).wp P Q a0 w0:=by
 have hlen':=of_decide_eq_true hlen
 have hmem:∀h∈hs,∃(i:Nat) (o:Oper),hs[i]? = some h∧l[i]? = some o:=fun h hh=>by
  obtain⟨i,hi,rfl⟩:=List.getElem_of_mem hh
  exact⟨i,_,List.getElem?_eq_getElem hi,List.getElem?_eq_getElem (by omega)⟩
 refine wp_wide3a hs hmx hlen' hB (fun i h o hi ho=>(hok.at i h o hi ho).1) (fun h hh=>?_) (of_decide_eq_true hdis) (fun h hh=>?_) (fun i h o hi ho=>(hok.at i h o hi ho).2.2) hk
 · have:=List.all_eq_true.1 hin h.dst (List.mem_map.2 ⟨h,hh,rfl⟩)
   exact of_decide_eq_true this
 · obtain⟨i,o,hi,ho⟩:=hmem h hh
   exact (hok.at i h o hi ho).2.1
end
def Ek (w:World) (g h l:Nat):Prop:=w.heap[g]? = some (.cells (e2 h l) 305 (0,0))
section
variable {w w':World} {g h l:Nat}
theorem Ek.c0 (k:Ek w g h l):w.cell? ⟨g,0,none⟩=some (.int .u64 (h:Int)):=by rw[cell_of_row w g 0 _ _ (0,0) k];rfl
theorem Ek.c1 (k:Ek w g h l):w.cell? ⟨g,1,none⟩=some (.int .u64 (l:Int)):=by rw[cell_of_row w g 1 _ _ (0,0) k];rfl
theorem Ek.free (k:Ek w g h l) (j:Nat):w.frozen? ⟨g,j,none⟩=false:=frozen_of_row w g j _ _ k
theorem Ek.s0 (k:Ek w g h l) (x:Nat):Ek (w.setCell ⟨g,0,none⟩ (.int .u64 (x:Int))) g x l:=heap_setCell_same w g 0 _ _ (.int .u64 (x:Int)) k
theorem Ek.s1 (k:Ek w g h l) (x:Nat):Ek (w.setCell ⟨g,1,none⟩ (.int .u64 (x:Int))) g h x:=heap_setCell_same w g 1 _ _ (.int .u64 (x:Int)) k
theorem Ek.far (k:Ek w g h l) {c j:Nat} (hne:g≠c) (u:Value):Ek (w.setCell ⟨c,j,none⟩ u) g h l:=(Below.heap_setCell w ⟨c,j,none⟩ u g hne).trans k
theorem Ek.lt (k:Ek w g h l):g<w.heap.size:=lt_of_block k
theorem Ek.alloc (k:Ek w g h l) (o:Obj):Ek (w.alloc o) g h l:=(Below.heap_alloc w o g k.lt).trans k
theorem Ek.below {B:Nat} (k:Ek w g h l) (hb:Below B w w') (hB:g<B):Ek w' g h l:=(hb.block g hB).trans k
theorem Ek.ab (k:Ek w g h l) (hb:Below w.heap.size w w'):Ek w' g h l:=k.below hb k.lt
end
theorem Ek.new (w:World) (h l:Nat):Ek (w.alloc (.cells (e2 h l) 305)) w.heap.size h l:=heap_alloc_new w _
structure TmSt (B:Nat) (w0 w:World) (xh xl yh yl zh zl:Nat):Prop where
 xb:Ek w B xh xl
 yb:Ek w (B+1) yh yl
 rb:Ek w (B+1+1) 0 0
 zb:Ek w (B+1+1+1) zh zl
 below:Below B w0 w
def TmRel (B:Nat) (w0:World) (xh xl yh yl:Nat) (i:Nat) (w:World):Prop:=
 ∃ a b c d:Nat,a<18446744073709551616∧b<18446744073709551616∧c<18446744073709551616∧d<18446744073709551616∧
   N2 a b=pw i (N2 yh yl)∧N2 c d=mid (N2 xh xl) (N2 yh yl) i∧TmSt B w0 w xh xl a b c d
theorem and_one (m:Nat) (hm:m<18446744073709551616):bits .and .u64 (m:Int) 1=((m%2:Nat):Int):=by
 show IntKind.u64.wrap ((BitVec.ofInt 64 (m:Int) &&& BitVec.ofInt 64 1).toNat:Int)=_
 rw[BitVec.toNat_and,BitVec.ofInt_natCast,BitVec.toNat_ofNat,Nat.mod_eq_of_lt (by omega)]
 have e:(BitVec.ofInt 64 1).toNat=1:=rfl
 rw[e,Nat.and_one_is_mod]
 exact wrap_u64' (n:=2) (by decide) _ (by omega) (by omega)
theorem xor_u64 (a b:Nat) (ha:a<18446744073709551616) (hb:b<18446744073709551616):bits .xor .u64 (a:Int) (b:Int)=((a ^^^ b:Nat):Int):=by
 have h:a ^^^ b<2 ^ 64:=Nat.xor_lt_two_pow ha hb
 show IntKind.u64.wrap ((BitVec.ofInt 64 (a:Int) ^^^ BitVec.ofInt 64 (b:Int)).toNat:Int)=_
 rw[BitVec.toNat_xor,BitVec.ofInt_natCast,BitVec.ofInt_natCast,BitVec.toNat_ofNat,BitVec.toNat_ofNat,Nat.mod_eq_of_lt (by omega),Nat.mod_eq_of_lt (by omega)]
 exact wrap_u64' h _ (Int.natCast_nonneg _) (Int.le_refl _)
theorem bit_test (m s:Nat) (hm:m<18446744073709551616):(bits .and .u64 ((m:Int)/2 ^ s) 1 != 0)=m.testBit s:=by
 have e:(m:Int)/2 ^ s=((m/2 ^ s:Nat):Int):=by simp
 have hl:m/2 ^ s≤m:=Nat.div_le_self _ _
 rw[e,and_one _ (by omega),Nat.testBit,Nat.shiftRight_eq_div_pow,Nat.one_and_eq_mod_two]
 rcases Nat.mod_two_eq_zero_or_one (m/2 ^ s) with h | h <;> rw[h] <;> rfl
theorem odd_test (m:Nat) (hm:m<18446744073709551616):(bits .and .u64 (m:Int) 1 != 0)=decide (m%2=1):=by
 rw[and_one _ hm]
 rcases Nat.mod_two_eq_zero_or_one m with h | h <;> rw[h] <;> rfl
theorem low_word (a b:Nat) (ha:a<18446744073709551616) (hb:b<18446744073709551616):bits .or .u64 ((b/2:Nat):Int) (IntKind.u64.wrap ((a:Int)*9223372036854775808))=((b/2+a%2*2 ^ 63:Nat):Int):=by
 have e:IntKind.u64.wrap ((a:Int)*9223372036854775808)=((a%2*2 ^ 63:Nat):Int):=by
  show ((a:Int)*9223372036854775808)%18446744073709551616=_
  omega
 rw[e,or_u64 _ _ (by omega) (by omega)]
 have:=Nat.shiftLeft_add_eq_or_of_lt (a:=a%2) (b:=b/2) (i:=63) (by omega)
 rw[Nat.shiftLeft_eq] at this
 rw[Nat.or_comm,←this,Nat.add_comm]
theorem gW_eq:gW=16212958658533785600:=by decide +kernel
theorem high_word (a:Nat) (ha:a<18446744073709551616):bits .xor .u64 ((a/2:Nat):Int) 16212958658533785600=((a/2 ^^^ gW:Nat):Int):=by
 have:=xor_u64 (a/2) gW (by omega) (by rw[gW_eq];decide)
 rw[←this,gW_eq]
 rfl
theorem TmSt.start (w:World) (xh xl yh yl:Nat):TmSt w.heap.size w ((((w.alloc (.cells (e2 xh xl) 305)).alloc (.cells (e2 yh yl) 305)).alloc (.cells (e2 0 0) 305)).alloc (.cells (e2 0 0) 305)) xh xl yh yl 0 0:=by
 have nw:∀(W:World) (h l n:Nat),n=W.heap.size→Ek (W.alloc (.cells (e2 h l) 305)) n h l:=fun W h l n e=>by rw[e];exact Ek.new W h l
 exact⟨(((Ek.new w xh xl).alloc _).alloc _).alloc _,((nw _ yh yl _ (by simp)).alloc _).alloc _,(nw _ 0 0 _ (by simp)).alloc _,nw _ 0 0 _ (by simp),
  ((((Below.refl _ _).alloc (Nat.le_refl _) _).alloc (Nat.le_of_lt (by simp)) _).alloc (by simp;omega) _).alloc (by simp;omega) _⟩
section
variable {B xh xl a b c d:Nat} {w0 w:World}
theorem TmSt.drew (h:TmSt B w0 w xh xl a b c d):TmSt B w0 w.drew xh xl a b c d:=⟨h.xb,h.yb,h.rb,h.zb,h.below.drew⟩
theorem TmSt.y0 (h:TmSt B w0 w xh xl a b c d) (x:Nat):TmSt B w0 (w.setCell ⟨B+1,0,none⟩ (.int .u64 (x:Int))) xh xl x b c d:=
 ⟨h.xb.far (by omega) _,h.yb.s0 x,h.rb.far (by omega) _,h.zb.far (by omega) _,h.below.setCell (by show B≤B+1;omega) _⟩
theorem TmSt.y1 (h:TmSt B w0 w xh xl a b c d) (x:Nat):TmSt B w0 (w.setCell ⟨B+1,1,none⟩ (.int .u64 (x:Int))) xh xl a x c d:=
 ⟨h.xb.far (by omega) _,h.yb.s1 x,h.rb.far (by omega) _,h.zb.far (by omega) _,h.below.setCell (by show B≤B+1;omega) _⟩
theorem TmSt.z0 (h:TmSt B w0 w xh xl a b c d) (x:Nat):TmSt B w0 (w.setCell ⟨B+1+1+1,0,none⟩ (.int .u64 (x:Int))) xh xl a b x d:=
 ⟨h.xb.far (by omega) _,h.yb.far (by omega) _,h.rb.far (by omega) _,h.zb.s0 x,h.below.setCell (by show B≤B+1+1+1;omega) _⟩
theorem TmSt.z1 (h:TmSt B w0 w xh xl a b c d) (x:Nat):TmSt B w0 (w.setCell ⟨B+1+1+1,1,none⟩ (.int .u64 (x:Int))) xh xl a b c x:=
 ⟨h.xb.far (by omega) _,h.yb.far (by omega) _,h.rb.far (by omega) _,h.zb.s1 x,h.below.setCell (by show B≤B+1+1+1;omega) _⟩
end
theorem xor_lt64 {a b:Nat} (ha:a<18446744073709551616) (hb:b<18446744073709551616):a ^^^ b<18446744073709551616:=Nat.xor_lt_two_pow (n:=64) ha hb
theorem tm_odd {a b i Y:Nat} (hb:b<18446744073709551616) (h:N2 a b=pw i Y) (ho:b%2=1):N2 (a/2 ^^^ gW) (b/2+a%2*2 ^ 63)=pw (i+1) Y:=by
 have:=N2_mulX a b hb
 rw[if_pos ho,h] at this
 exact this
theorem tm_even {a b i Y:Nat} (hb:b<18446744073709551616) (h:N2 a b=pw i Y) (ho:¬b%2=1):N2 (a/2) (b/2+a%2*2 ^ 63)=pw (i+1) Y:=by
 have:=N2_mulX a b hb
 rw[if_neg ho,h,Nat.xor_zero] at this
 exact this
theorem tm_in {a b c d i X Y:Nat} (hb:b<18446744073709551616) (hd:d<18446744073709551616) (h:N2 a b=pw i Y) (hz:N2 c d=mid X Y i) (hx:bitX X i=true):N2 (c ^^^ a) (d ^^^ b)=mid X Y (i+1):=by
 rw[N2_xor hd hb,h,hz,mid_step,hx]
 rfl
theorem tm_out {c d i X Y:Nat} (hz:N2 c d=mid X Y i) (hx:bitX X i=false):N2 c d=mid X Y (i+1):=by
 rw[hz,mid_step,hx]
 exact (Nat.xor_zero _).symm
set_option maxRecDepth 100000 in
theorem times2_any (xh xl yh yl:Nat) (h1:xh<18446744073709551616) (h2:xl<18446744073709551616) (h3:yh<18446744073709551616) (h4:yl<18446744073709551616) (w:World):
 Calls Tryz.prog 223 #[.agg #[.int .u64 (xh:Int),.int .u64 (xl:Int)],.agg #[.int .u64 (yh:Int),.int .u64 (yl:Int)]] w fun e w'=>e = .returned (.agg (el (hmul (N2 xh xl) (N2 yh yl))))∧Below w.heap.size w w':=by
 have ST:=Lib.hid (TmSt.start w xh xl yh yl)
 go_enter Tryz.func223,Tryz.ntmps223
 go_wp2_with fail
 go_loopw [6,7,8,10] (fun _ _ _ j wr=>∃i:Nat,i≤128∧j = .int .i64 i∧TmRel w.heap.size w xh xl yh yl i wr) (fun _ _ _ j _=>128-(intOf j).toNat)
 case atStart=>exact⟨0,by omega,rfl,yh,yl,0,0,h3,h4,by decide,by decide,rfl,rfl,ST.out⟩
 case round=>
  obtain⟨i,hi,rfl,a,b,c,d,ha,hb,hc,hd,hy,hz,hs⟩:=hrel
  by_cases hlt:i<128
  · have hii:(i:Int)<128:=by omega
    have x0:=hs.xb.c0
    have x1:=hs.xb.c1
    have y0:=hs.yb.c0
    have y1:=hs.yb.c1
    have z0:=hs.zb.c0
    have z1:=hs.zb.c1
    have fy0:=hs.yb.free 0
    have fy1:=hs.yb.free 1
    have fz0:=hs.zb.free 0
    have fz1:=hs.zb.free 1
    have HS:=Lib.hid hs
    have HY:=Lib.hid hy
    have HZ:=Lib.hid hz
    clear hs hy hz ST
    have q1:(a:Int)/2=((a/2:Nat):Int):=by omega
    have q2:(b:Int)/2=((b/2:Nat):Int):=by omega
    have q3:=low_word a b ha hb
    have q4:=high_word a ha
    have q5:=odd_test b hb
    have q6:=xor_u64 c a hc ha
    have q7:=xor_u64 d b hd hb
    obtain⟨a2,ea⟩:∃n,n=a/2:=⟨_,rfl⟩
    obtain⟨b2,eb⟩:∃n,n=b/2:=⟨_,rfl⟩
    obtain⟨lw,elw⟩:∃n,n=b/2+a%2*2 ^ 63:=⟨_,rfl⟩
    obtain⟨hw,ehw⟩:∃n,n=a/2 ^^^ gW:=⟨_,rfl⟩
    obtain⟨zc,ezc⟩:∃n,n=c ^^^ a:=⟨_,rfl⟩
    obtain⟨zd,ezd⟩:∃n,n=d ^^^ b:=⟨_,rfl⟩
    rw[←elw,←eb] at q3
    rw[←ehw,←ea] at q4
    rw[←ea] at q1
    rw[←eb] at q2
    rw[←ezc] at q6
    rw[←ezd] at q7
    have EA:=Lib.hid ea
    have EB:=Lib.hid eb
    have ELW:=Lib.hid elw
    have EHW:=Lib.hid ehw
    have EZC:=Lib.hid ezc
    have EZD:=Lib.hid ezd
    clear ea eb elw ehw ezc ezd
    by_cases h63:i<64
    · have hd63:decide (63<(i:Int))=false:=by simp;omega
      have hm:(i:Int)%64=(i:Int):=by omega
      have hbt:=bit_test xh (63-i) h1
      by_cases hodd:b%2=1
      · rw[decide_eq_true hodd] at q5
        have HO:=Lib.hid hodd
        clear hodd
        cases hbv:xh.testBit (63-i)
        · rw[hbv] at hbt
          have HB:=Lib.hid hbv
          clear hbv
          go_wp2_with fail
          go_roundw
          case rel=>exact⟨i+1,by omega,by go_num,hw,lw,c,d,by rw[EHW.out];exact xor_lt64 (by omega) (by rw[gW_eq];decide),by rw[ELW.out];omega,hc,hd,by rw[EHW.out,ELW.out];exact tm_odd hb HY.out HO.out,tm_out HZ.out (by rw[N2_hi h2 (by omega)];exact HB.out),(((HS.out).y0 a2).y1 lw).y0 hw⟩
          case measure=>simp[intOf];omega
        · rw[hbv] at hbt
          have HB:=Lib.hid hbv
          clear hbv
          go_wp2_with fail
          go_region
          go_wp2_with fail
          go_roundw
          case rel=>exact⟨i+1,by omega,by go_num,hw,lw,zc,zd,by rw[EHW.out];exact xor_lt64 (by omega) (by rw[gW_eq];decide),by rw[ELW.out];omega,by rw[EZC.out];exact xor_lt64 hc ha,by rw[EZD.out];exact xor_lt64 hd hb,by rw[EHW.out,ELW.out];exact tm_odd hb HY.out HO.out,by rw[EZC.out,EZD.out];exact tm_in hb hd HY.out HZ.out (by rw[N2_hi h2 (by omega)];exact HB.out),(((((HS.out.z0 zc).z1 zd).y0 a2).y1 lw).y0 hw).drew⟩
          case measure=>simp[intOf];omega
      · rw[decide_eq_false hodd] at q5
        have HO:=Lib.hid hodd
        clear hodd
        cases hbv:xh.testBit (63-i)
        · rw[hbv] at hbt
          have HB:=Lib.hid hbv
          clear hbv
          go_wp2_with fail
          go_roundw
          case rel=>exact⟨i+1,by omega,by go_num,a2,lw,c,d,by rw[EA.out];omega,by rw[ELW.out];omega,hc,hd,by rw[EA.out,ELW.out];exact tm_even hb HY.out HO.out,tm_out HZ.out (by rw[N2_hi h2 (by omega)];exact HB.out),((HS.out).y0 a2).y1 lw⟩
          case measure=>simp[intOf];omega
        · rw[hbv] at hbt
          have HB:=Lib.hid hbv
          clear hbv
          go_wp2_with fail
          go_region
          go_wp2_with fail
          go_roundw
          case rel=>exact⟨i+1,by omega,by go_num,a2,lw,zc,zd,by rw[EA.out];omega,by rw[ELW.out];omega,by rw[EZC.out];exact xor_lt64 hc ha,by rw[EZD.out];exact xor_lt64 hd hb,by rw[EA.out,ELW.out];exact tm_even hb HY.out HO.out,by rw[EZC.out,EZD.out];exact tm_in hb hd HY.out HZ.out (by rw[N2_hi h2 (by omega)];exact HB.out),((((HS.out.z0 zc).z1 zd).y0 a2).y1 lw).drew⟩
          case measure=>simp[intOf];omega
    · have hd63:decide (63<(i:Int))=true:=by simp;omega
      obtain⟨m,hmm⟩:∃m,m=127-i:=⟨_,rfl⟩
      have hm:(i:Int)%64=63-(m:Int):=by omega
      have hm1:(63-(63-(m:Int)))=(m:Int):=by omega
      have hm2:IntKind.i64.wrap (63-(63-(m:Int)))=(m:Int):=by rw[hm1];exact IntWalk.i64_in _ (by omega)
      have hbt:=bit_test xl m h2
      have HM:=Lib.hid hmm
      clear hmm
      by_cases hodd:b%2=1
      · rw[decide_eq_true hodd] at q5
        have HO:=Lib.hid hodd
        clear hodd
        cases hbv:xl.testBit m
        · rw[hbv] at hbt
          rw[HM.out] at hbv
          have HB:=Lib.hid hbv
          clear hbv
          go_wp2_with fail
          go_roundw
          case rel=>exact⟨i+1,by omega,by go_num,hw,lw,c,d,by rw[EHW.out];exact xor_lt64 (by omega) (by rw[gW_eq];decide),by rw[ELW.out];omega,hc,hd,by rw[EHW.out,ELW.out];exact tm_odd hb HY.out HO.out,tm_out HZ.out (by rw[N2_lo h2 (by omega) hlt];exact HB.out),(((HS.out).y0 a2).y1 lw).y0 hw⟩
          case measure=>simp[intOf];omega
        · rw[hbv] at hbt
          rw[HM.out] at hbv
          have HB:=Lib.hid hbv
          clear hbv
          go_wp2_with fail
          go_region
          go_wp2_with fail
          go_roundw
          case rel=>exact⟨i+1,by omega,by go_num,hw,lw,zc,zd,by rw[EHW.out];exact xor_lt64 (by omega) (by rw[gW_eq];decide),by rw[ELW.out];omega,by rw[EZC.out];exact xor_lt64 hc ha,by rw[EZD.out];exact xor_lt64 hd hb,by rw[EHW.out,ELW.out];exact tm_odd hb HY.out HO.out,by rw[EZC.out,EZD.out];exact tm_in hb hd HY.out HZ.out (by rw[N2_lo h2 (by omega) hlt];exact HB.out),(((((HS.out.z0 zc).z1 zd).y0 a2).y1 lw).y0 hw).drew⟩
          case measure=>simp[intOf];omega
      · rw[decide_eq_false hodd] at q5
        have HO:=Lib.hid hodd
        clear hodd
        cases hbv:xl.testBit m
        · rw[hbv] at hbt
          rw[HM.out] at hbv
          have HB:=Lib.hid hbv
          clear hbv
          go_wp2_with fail
          go_roundw
          case rel=>exact⟨i+1,by omega,by go_num,a2,lw,c,d,by rw[EA.out];omega,by rw[ELW.out];omega,hc,hd,by rw[EA.out,ELW.out];exact tm_even hb HY.out HO.out,tm_out HZ.out (by rw[N2_lo h2 (by omega) hlt];exact HB.out),((HS.out).y0 a2).y1 lw⟩
          case measure=>simp[intOf];omega
        · rw[hbv] at hbt
          rw[HM.out] at hbv
          have HB:=Lib.hid hbv
          clear hbv
          go_wp2_with fail
          go_region
          go_wp2_with fail
          go_roundw
          case rel=>exact⟨i+1,by omega,by go_num,a2,lw,zc,zd,by rw[EA.out];omega,by rw[ELW.out];omega,by rw[EZC.out];exact xor_lt64 hc ha,by rw[EZD.out];exact xor_lt64 hd hb,by rw[EA.out,ELW.out];exact tm_even hb HY.out HO.out,by rw[EZC.out,EZD.out];exact tm_in hb hd HY.out HZ.out (by rw[N2_lo h2 (by omega) hlt];exact HB.out),((((HS.out.z0 zc).z1 zd).y0 a2).y1 lw).drew⟩
          case measure=>simp[intOf];omega
  · obtain rfl:i=128:=by omega
    have z0:=hs.zb.c0
    have z1:=hs.zb.c1
    have r0:=hs.rb.c0
    have r1:=hs.rb.c1
    have f0:=hs.rb.free 0
    have f1:=hs.rb.free 1
    have p1:=Lib.hid ((hs.rb.s0 c).s1 d).c0
    have p2:=Lib.hid ((hs.rb.s0 c).s1 d).c1
    have HL:=Lib.hid (hs.below)
    have HE:Hid (el (hmul (N2 xh xl) (N2 yh yl))=e2 c d):=Lib.hid (by
     have:hmul (N2 xh xl) (N2 yh yl)=N2 c d:=hz.symm
     rw[this,el_N2 hd])
    clear hs hy hz ST
    go_wp2_with fail
    exact bodyPost_ret (v:=.agg #[.int .u64 (c:Int),.int .u64 (d:Int)]) (by simp[results,Tryz.results223,go_sem,p1.out,p2.out]) rfl ⟨by rw[HE.out];rfl,(HL.out.setCell (by show w.heap.size≤w.heap.size+1+1;omega) _).setCell (by show w.heap.size≤w.heap.size+1+1;omega) _⟩
set_option maxRecDepth 100000 in
theorem xor_any (A B:Option Addr) (n c d:Nat) (la lb:List Nat) (w:World) (ha:IsB w A n c la) (hb:IsB w B n d lb) (hn:n≤281474976710656):
 Calls Tryz.prog 187 #[.slice A n c,.slice B n d] w (OutB w (xorL la lb) 0):=by
 have hla:=ha.len
 have hlb:=hb.len
 have hlx:(xorL la lb).length=n:=by rw[xorL_len];omega
 have hbx:=xorL_byt ha.2 hb.2
 have hxa:=fun i=>xorL_at (a:=la) (b:=lb) (by omega) i
 have hmk:∀W:World,(Instr.makeSlice 41 (.int .i64 (n:Int)) (.int .i64 (n:Int))).run Tryz.prog W = .ok (.slice (some ⟨W.heap.size,0,none⟩) n n) (W.alloc (.cells (bts (zeros n)) 5)):=fun W=>make_u8 n n (Nat.le_refl _) hn W
 have hne:((n:Int) != (n:Int))=false:=by simp
 have HA:=Lib.hid ha
 have HB:=Lib.hid hb
 have HN:=Lib.hid hn
 have HLX:=Lib.hid hlx
 have HBX:=Lib.hid hbx
 have HXA:=Lib.hid hxa
 clear ha hb hla hlb hlx hbx hxa
 generalize xorL la lb=z at *
 go_enter Tryz.func187,Tryz.ntmps187
 go_wp2_with fail
 have V0:Hid (Bk (w.alloc (.cells (bts (zeros n)) 5)) w.heap.size 5 (upd (at' z) (zeros n) 0)):=Lib.hid (by rw[upd_zero];exact Bk.newAt _ _ rfl)
 have V1:Hid (Below w.heap.size w (w.alloc (.cells (bts (zeros n)) 5))):=Lib.hid ((Below.refl _ _).alloc (Nat.le_refl _) _)
 go_loopw [7,18] (fun _ j wr=>∃i:Nat,i≤n∧j = .int .i64 i∧Bk wr w.heap.size 5 (upd (at' z) (zeros n) i)∧Below w.heap.size w wr) (fun _ j _=>n-(intOf j).toNat)
 case atStart=>exact⟨0,Nat.zero_le _,rfl,V0.out,V1.out⟩
 case round=>
  obtain⟨i,hi,rfl,k1,kb⟩:=hrel
  clear V0 V1 hmk
  by_cases hlt:i<n
  · have hii:(i:Int)<(n:Int):=by omega
    have hib:(i:Int)≤281474976710656:=by have:=HN.out;omega
    obtain⟨x,rfl,hxb,hxc⟩:=HA.out.cell (by omega)
    obtain⟨y,rfl,hyb,hyc⟩:=HB.out.cell (by omega)
    have c1:wr.cell? (x.add i)=some (.int .u8 (at' la i:Nat)):=(kb.cell (by rw[add_block];exact hxb)).trans (hxc i hlt)
    have c2:wr.cell? (y.add i)=some (.int .u8 (at' lb i:Nat)):=(kb.cell (by rw[add_block];exact hyb)).trans (hyc i hlt)
    have h1:=HA.out.2.at' i
    have h2:=HB.out.2.at' i
    have hz:=HXA.out i
    have co:=k1.cell (k:=i) (by rw[upd_len,zeros_len];exact hlt)
    have cf:=k1.free i
    have hst:=k1.set i (at' z i)
    rw[upd_step (at' z) (zeros n) i (by rw[zeros_len];exact hlt)] at hst
    generalize (upd (at' z) (zeros n) i)[i]?.getD 0=u at co
    generalize at' la i=p at *
    generalize at' lb i=q at *
    rw[hz] at hst
    have hxo:=bits_xor_u8 p q h1 h2
    have N1:=Lib.hid hst
    have N2:=Lib.hid (kb.setCell (p:=⟨w.heap.size,i,none⟩) (Nat.le_refl _) (.int .u8 ((p ^^^ q:Nat):Int)))
    clear hst k1 kb hz hxc hyc hxb hyb
    go_wp2_with fail
    refine wp_still_tail 12 (by kernel_rfl) (by kernel_rfl) ?_
    simp only[List.take_succ_cons,List.take_zero,List.drop_succ_cons,List.drop_zero]
    repeat still_step
    refine wpStill_nil ?_
    go_wp2_with fail
    go_roundw
    case rel=>exact⟨i+1,by omega,by go_num,N1.out,N2.out.drew⟩
    case measure=>simp[intOf];omega
  · obtain rfl:i=n:=by omega
    have hall:=upd_all (at' z) (zeros i)
    rw[zeros_len] at hall
    have e:(List.range i).map (at' z)=z:=by
     refine at'_ext (by simp[HLX.out]) fun j hj=>?_
     have hj:j<i:=by simpa using hj
     simp[at',hj]
    rw[hall,e] at k1
    have K1:=Lib.hid k1
    have KB:=Lib.hid kb
    clear k1 kb hall e
    go_wp2_with fail
    go_ret2
    exact⟨_,rfl,OwB.ofBk K1.out (Nat.le_refl _) HLX.out (Nat.le_refl _) HLX.out (by have:=HN.out;omega) (List.take_of_length_le (by rw[HLX.out];exact Nat.le_refl _)) HBX.out,KB.out⟩
theorem xor_zero_iff (a b:Nat):a ^^^ b=0↔a=b:=by
 constructor
 · intro h
   have:=xor_cancel a b
   rw[h,Nat.zero_xor] at this
   exact this.symm
 · intro h;rw[h,Nat.xor_self]
def offB (la lb:List Nat):Nat→Nat
 | 0=>0
 | i+1=>offB la lb i ||| (at' la i ^^^ at' lb i)
theorem offB_lt {la lb:List Nat} (ha:Byt la) (hb:Byt lb) (i:Nat):offB la lb i<256:=by
 induction i with
 | zero=>exact (by decide:0<256)
 | succ i ih=>exact Nat.or_lt_two_pow (n:=8) ih (Nat.xor_lt_two_pow (n:=8) (ha.at' i) (hb.at' i))
theorem offB_zero {la lb:List Nat} (n:Nat):offB la lb n=0↔∀i,i<n→at' la i=at' lb i:=by
 induction n with
 | zero=>simp[offB]
 | succ n ih=>
   rw[offB,Nat.or_eq_zero_iff,ih,xor_zero_iff]
   constructor
   · intro ⟨h1,h2⟩ i hi
     by_cases e:i=n
     · rw[e];exact h2
     · exact h1 i (by omega)
   · intro h
     exact⟨fun i hi=>h i (by omega),h n (by omega)⟩
set_option maxRecDepth 100000 in
theorem osame_any (A B:Option Addr) (n c d:Nat) (la lb:List Nat) (w:World) (ha:IsB w A n c la) (hb:IsB w B n d lb) (hn:n≤281474976710656):
 Calls Tryz.prog 136 #[.slice A n c,.slice B n d] w fun e w'=>e = .returned (.bool (decide (la=lb)))∧Below w.heap.size w w':=by
 have hla:=ha.len
 have hlb:=hb.len
 have hne:((n:Int) != (n:Int))=false:=by simp
 have hfin:(((offB la lb n:Nat):Int)==0)=decide (la=lb):=by
  have h0:=offB_zero (la:=la) (lb:=lb) n
  by_cases h:la=lb
  · rw[decide_eq_true h,beq_iff_eq]
    have:=h0.2 (fun i _=>by rw[h])
    omega
  · rw[decide_eq_false h,beq_eq_false_iff_ne]
    intro e
    exact h (at'_ext (by omega) fun i hi=>h0.1 (by omega) i (by omega))
 have HA:=Lib.hid ha
 have HB:=Lib.hid hb
 have HN:=Lib.hid hn
 have HF:=Lib.hid hfin
 clear ha hb hla hlb hfin
 go_enter Tryz.func136,Tryz.ntmps136
 go_wp2_with fail
 go_loopw [5,6,14] (fun v _ j wr=>∃i:Nat,i≤n∧j = .int .i64 i∧v = .int .u8 (offB la lb i:Nat)∧Below w.heap.size w wr) (fun _ _ j _=>n-(intOf j).toNat)
 case atStart=>exact⟨0,Nat.zero_le _,rfl,rfl,Below.refl _ _⟩
 case round=>
  obtain⟨i,hi,rfl,rfl,kb⟩:=hrel
  by_cases hlt:i<n
  · have hii:(i:Int)<(n:Int):=by omega
    have hib:(i:Int)≤281474976710656:=by have:=HN.out;omega
    obtain⟨x,rfl,hxb,hxc⟩:=HA.out.cell (by omega)
    obtain⟨y,rfl,hyb,hyc⟩:=HB.out.cell (by omega)
    have c1:wr.cell? (x.add i)=some (.int .u8 (at' la i:Nat)):=(kb.cell (by rw[add_block];exact hxb)).trans (hxc i hlt)
    have c2:wr.cell? (y.add i)=some (.int .u8 (at' lb i:Nat)):=(kb.cell (by rw[add_block];exact hyb)).trans (hyc i hlt)
    have h1:=HA.out.2.at' i
    have h2:=HB.out.2.at' i
    have h3:=offB_lt HA.out.2 HB.out.2 i
    have hz:offB la lb (i+1)=offB la lb i ||| (at' la i ^^^ at' lb i):=rfl
    generalize offB la lb i=o at *
    generalize at' la i=p at *
    generalize at' lb i=q at *
    have hxo:=bits_xor_u8 p q h1 h2
    have hxl:=xor_lt256 h1 h2
    generalize p ^^^ q=pq at *
    have hor:=bits_or_u8 o pq h3 hxl
    have HZ:=Lib.hid hz
    have KB:=Lib.hid kb
    clear kb hz hxc hyc hxb hyb
    go_wp2_with fail
    refine wp_still_tail 11 (by kernel_rfl) (by kernel_rfl) ?_
    simp only[List.take_succ_cons,List.take_zero,List.drop_succ_cons,List.drop_zero]
    repeat still_step
    refine wpStill_nil ?_
    go_wp2_with fail
    go_roundw
    case rel=>exact⟨i+1,by omega,by go_num,by rw[HZ.out],KB.out.drew⟩
    case measure=>simp[intOf];omega
  · obtain rfl:i=n:=by omega
    generalize offB la lb i=o at *
    have KB:=Lib.hid kb
    clear kb
    go_wp2_with fail
    go_ret
    exact⟨by rw[←HF.out];rfl,KB.out⟩
def lenV:Value→Nat
 | .slice _ n _=>n
 | _=>0
def its (l:List Nat):Array Value:=(l.map (fun n:Nat=>Value.int .i64 (n:Int))).toArray
theorem eval_get (a:Act) (t:Nat):a.tmps[t]?.getD undef=a.eval (.tmp t):=by simp[Act.eval]
end Go.Proofs.YtlobgddnlnffbaaGreat
