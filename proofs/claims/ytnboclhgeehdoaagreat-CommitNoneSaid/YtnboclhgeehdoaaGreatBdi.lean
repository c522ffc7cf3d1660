/-
  Parts of the proof, joined.
-/
import Derived.Test.YtnboclhgeehdoaaGreatBdf
import Derived.Test.YtnboclhgeehdoaaGreatBdh
import Derived.Maps.AppendAt
import Derived.Laws.OwnMore
import Derived.BigQuiet
import Derived.Test.YtnboclhgeehdoaaGreatBda
import Derived.Deep.Slices
import Derived.OpenShut
import Derived.Test.YtnboclhgeehdoaaGreatBdd
import Derived.ChangeSame
import Derived.ChangeSlices
namespace Go.Proofs.YtnboclhgeehdoaaGreat
set_option maxHeartbeats 4000000
open Go.RowKit
set_option linter.unusedVariables false
section
variable {P:Program} {Q:Exit→Act→World→Prop}
structure Fr (w w':World) (F:Nat→Prop):Prop where
 os:w'.os=w.os
 tape:w'.tape=w.tape
 output:w'.output=w.output
 size:w.heap.size≤w'.heap.size
 block:∀k,k<w.heap.size→¬F k→w'.heap[k]? = w.heap[k]?
theorem Fr.of {w w':World} (hb:Below w.heap.size w w') (F:Nat→Prop):Fr w w' F:=⟨hb.os,hb.tape,hb.output,hb.size,fun i hi _=>hb.block i hi⟩
theorem Fr.tr {a b c:World} {F:Nat→Prop} (h:Fr a b F) (k:Fr b c F):Fr a c F:=⟨k.os.trans h.os,k.tape.trans h.tape,k.output.trans h.output,Nat.le_trans h.size k.size,fun i hi hn=>(k.block i (Nat.lt_of_lt_of_le hi h.size) hn).trans (h.block i hi hn)⟩
theorem Fr.imp {w w':World} {F G:Nat→Prop} (h:Fr w w' F) (hi:∀k,F k→G k):Fr w w' G:=⟨h.os,h.tape,h.output,h.size,fun k hk hn=>h.block k hk fun hf=>hn (hi k hf)⟩
theorem Fr.grown {w w':World} {row:Option Nat} (h:w.grownBy w' row):Fr w w' (fun k=>row=some k):=⟨h.os,h.tape,h.output,h.size,fun k hk hn=>h.block k hk fun e=>hn e.symm⟩
theorem Fr.below {w w':World} {F:Nat→Prop} {B:Nat} {a:World} (h:Fr w w' F) (hF:∀k,F k→B≤k) (hb:Below B a w) (hs:B≤w.heap.size):Below B a w':=
 hb.trans ⟨h.os,h.tape,h.output,h.size,fun k hk=>h.block k (by omega) fun hf=>by have:=hF k hf;omega⟩
def othF (F:Nat→Nat→Prop) (i k:Nat):Prop:=∃j,j≠i∧F j k
def allF (F:Nat→Nat→Prop) (k:Nat):Prop:=∃j,F j k
def Inv5 (hs:List Head) (a0:Act) (w0:World) (F:Nat→Nat→Prop) (listed:Array Bool) (a:Act) (W:World):Prop:=
 Agree (hs.map (·.dst)) a0 a∧Fr w0 W (allF F)∧(∀j,listed.getD j false=false→Fr w0 W (othF F j))∧∀(i:Nat) (h:Head),hs[i]? = some h→listed.getD i false=true→h.R (a.eval (.tmp h.dst)) W
def Yields5 (P:Program) (o:Oper) (a:Act) (W:World) (F:Nat→Prop) (R:Value→World→Prop):Prop:=
 (∃v W',(execOp a.eval o).run P W = .ok (.value v) W'∧R v W'∧Fr W W' F)∨(∃f args,(execOp a.eval o).run P W = .ok (.enter f args) W∧Calls P f args W fun e W'=>∃v,e = .returned v∧R v W'∧Fr W W' F)
theorem Yields.to5 {o:Oper} {a:Act} {W:World} {fr:Bool} {R:Value→World→Prop} (h:Yields P o a W fr R) (F:Nat→Prop):Yields5 P o a W F R:=by
 rcases h with ⟨v,W',h1,h2,h3,_⟩ | ⟨f,args,h1,h2⟩
 · exact .inl ⟨v,W',h1,h2,Fr.of h3 F⟩
 · exact .inr ⟨f,args,h1,h2.mono fun e W' ⟨v,he,hR,hb,_⟩=>⟨v,he,hR,Fr.of hb F⟩⟩
def Takes5 (P:Program) (ops:Array Oper) (o:Oper) (a:Act) (W:World) (F:Nat→Prop) (R:Value→World→Prop):Prop:=
 (Region.wanted o (yielded ops a.tmps)=true∧Yields5 P o a W F R)∨(Region.wanted o (yielded ops a.tmps)=false∧R undef W)
theorem Takes.to5 {ops:Array Oper} {o:Oper} {a:Act} {W:World} {fr:Bool} {R:Value→World→Prop} (h:Takes P ops o a W fr R) (F:Nat→Prop):Takes5 P ops o a W F R:=by
 rcases h with ⟨h1,h2⟩ | ⟨h1,h2,_⟩
 · exact .inl ⟨h1,h2.to5 F⟩
 · exact .inr ⟨h1,h2⟩
theorem takes5_plain {ops:Array Oper} {o:Oper} {a:Act} {W:World} {F:Nat→Prop} {R:Value→World→Prop} (hg:o.guard=none) (h:Yields5 P o a W F R):Takes5 P ops o a W F R:=.inl ⟨by simp[Region.wanted,hg],h⟩
def MonoF (F:Nat→Prop) (R:Value→World→Prop):Prop:=∀v W W',R v W→Fr W W' F→R v W'
theorem IsR.monoF (F:Nat→Prop) (u:Value):MonoF F (IsR u):=fun v W W' h _=>h
theorem wide5_any {l:List Oper} {hs:List Head} {a0:Act} {w0:World} {g:Nat} {F:Nat→Nat→Prop} (hW:wideB l.toArray hs.length (hs.map (·.deps)).toArray=true) (hg:(l.drop hs.length).length=g)
 (hdst:∀(i:Nat) (h:Head) (o:Oper),hs[i]? = some h→l[i]? = some o→o.dst=some h.dst) (hlen:hs.length≤l.length) (hin:∀h∈hs,h.dst<a0.tmps.size) (hdis:(hs.map (·.dst)).Nodup)
 (hm:∀(i:Nat) (h:Head),hs[i]? = some h→MonoF (othF F i) h.R)
 (hy:∀(i:Nat) (h:Head) (o:Oper),hs[i]? = some h→l[i]? = some o→∀a W,Agree (hs.map (·.dst)) a0 a→Fr w0 W (othF F i)→(∀j∈h.deps,∀(hj:Head),hs[j]? = some hj→hj.R (a.eval (.tmp hj.dst)) W)→Takes5 P l.toArray o a W (F i) h.R)
 (hk:∀a W,Agree (hs.map (·.dst)) a0 a→Fr w0 W (allF F)→(∀(i:Nat) (h:Head),hs[i]? = some h→h.R (a.eval (.tmp h.dst)) W)→wpList P l.toArray Q (l.drop hs.length) a W):
 ∀(f:Nat) (listed:Array Bool) (a:Act) (W:World),HeadInv .any l.toArray hs.length listed→unl listed hs.length=f→Inv5 hs a0 w0 F listed a W→wpAny P .any l.toArray Q (f+g) listed a W
 | 0,listed,a,W,inv,hu,hI=>by
   have hWd:=wide_of hW
   have hall:=unl_zero _ hu
   rw[Nat.zero_add]
   have hsq:=hWd.seq
   rw[←all_listed inv hWd.lt hall,show l.toArray.size-hs.length=g by rw[←hg];simp] at hsq
   have:=wpAny_of_seq (md:=.any) (Q':=Q) (P:=P) (l.drop hs.length) hs.length listed a W (fun j=>by simp[List.getElem?_drop]) (by rw[hg];exact hsq) (hk a W hI.1 hI.2.1 (fun i h hi=>hI.2.2.2 i h hi (hall i (lt_of_some hi))))
   rwa [hg] at this
 | f + 1,listed,a,W,inv,hu,hI=>by
   have hWd:=wide_of hW
   obtain⟨i0,hi0,hun0,hlow0⟩:=unl_pos (listed:=listed) hs.length (by omega)
   have hsz:=inv.size
   have hun0':listed.getD i0 true=false:=getD_in (by have:=hWd.lt;omega) hun0
   rw[show f+1+g=(f+g)+1 by omega]
   have hne:i0∈Region.ready .any l.toArray listed:=by
    obtain⟨o,ho,hb⟩:=hWd.low i0 hi0
    exact mem_ready.2 ⟨hun0',o,ho,fun e he hbd=>hlow0 _ (hb e he hbd)⟩
   refine⟨fun e=>(by rw[e] at hne;cases hne),fun i hi=>?_⟩
   have hin2:i<hs.length:=by
    rcases Nat.lt_or_ge i hs.length with h | h
    · exact h
    · exact absurd hi (tail_waits hWd.sink hWd.chain hWd.lt inv _ i0 rfl hi0 hun0' i h)
   have hdep:∀d∈((hs.map (·.deps)).toArray.getD i []),listed.getD d false=true:=fun d hd=>by
    obtain⟨_,oi,hoi,hall⟩:=mem_ready.1 hi
    obtain⟨oj,hoj,e,he,hb,hon⟩:=Region.waitsFor_spec (hWd.dep i hin2 d hd).2
    have:oj=oi:=Option.some.inj (hoj.symm.trans hoi)
    subst this
    rw[←hon]
    exact hall e he hb
   have hrec:unl (listed.setIfInBounds i true) hs.length=f:=by
    have:=unl_set (listed:=listed) (i:=i) (by have:=hWd.lt;omega) (getD_both (mem_ready.1 hi).1) hs.length hin2
    omega
   have hiun:listed.getD i false=false:=getD_both (mem_ready.1 hi).1
   have hil:i<l.length:=by omega
   obtain⟨h,hh⟩:∃h,hs[i]? = some h:=⟨_,List.getElem?_eq_getElem hin2⟩
   obtain⟨o,ho⟩:∃o,l[i]? = some o:=⟨_,List.getElem?_eq_getElem hil⟩
   have hd:=hdst i h o hh ho
   have hmem:h∈hs:=List.mem_of_getElem? hh
   have hdep2:∀j∈h.deps,∀(hj:Head),hs[j]? = some hj→hj.R (a.eval (.tmp hj.dst)) W:=fun j hj hj' hjj=>by
    have hd1:((hs.map (·.deps)).toArray.getD i [])=h.deps:=by simp[hh]
    exact hI.2.2.2 j hj' hjj (hdep j (by rw[hd1];exact hj))
   have hself:∀v,(a.put (some h.dst) v).eval (.tmp h.dst)=v:=fun v=>by
    have hs1:h.dst<a.tmps.size:=by rw[hI.1.2.1];exact hin h hmem
    simp[Act.put,Act.eval,hs1]
   have hoth:∀v (j:Nat) (hj:Head),hs[j]? = some hj→j≠i→(a.put (some h.dst) v).eval (.tmp hj.dst)=a.eval (.tmp hj.dst):=fun v j hj hjj hij=>by
    refine eval_put_ne (fun e=>hij ?_) _ _
    have hjl:=lt_of_some hjj
    have e1:(hs.map (·.dst))[j]'(by simpa using hjl)=(hs.map (·.dst))[i]'(by simpa using hin2):=by
     rw[List.getElem?_eq_getElem hjl] at hjj
     rw[List.getElem?_eq_getElem hin2] at hh
     injection hjj with hjj
     injection hh with hh
     simp only[List.getElem_map,hjj,hh]
     exact e.symm
    exact (List.getElem_inj hdis).1 e1
   have hlis:∀(j:Nat),j≠i→(listed.setIfInBounds i true).getD j false=listed.getD j false:=fun j hij=>by
    rw[Array.getD_eq_getD_getElem?,Array.getElem?_setIfInBounds_ne (Ne.symm hij),Array.getD_eq_getD_getElem?]
   have key:∀v W',h.R v W'→Fr W W' (F i)→wpAny P .any l.toArray Q (f+g) (listed.setIfInBounds i true) (a.put (some h.dst) v) W':=fun v W' hR hfr=>by
    refine wide5_any hW hg hdst hlen hin hdis hm hy hk f _ _ _ (inv.set hi hin2) hrec ⟨hI.1.put (List.mem_map.2 ⟨h,hmem,rfl⟩) v,hI.2.1.tr (hfr.imp fun k hk=>⟨i,hk⟩),fun j hj=>?_,fun j hj hjj hlj=>?_⟩
    · have hji:j≠i:=fun e=>by
       subst e
       rw[Array.getD_eq_getD_getElem?,Array.getElem?_setIfInBounds_self_of_lt (by have:=hWd.lt;omega)] at hj
       cases hj
      rw[hlis j hji] at hj
      exact (hI.2.2.1 j hj).tr (hfr.imp fun k hk=>⟨i,Ne.symm hji,hk⟩)
    · by_cases hij:j=i
      · subst hij
        rw[hh] at hjj
        injection hjj with hjj
        subst hjj
        rw[hself]
        exact hR
      · rw[hoth v j hj hjj hij]
        rw[hlis j hij] at hlj
        exact hm j hj hjj _ _ _ (hI.2.2.2 j hj hjj hlj) (hfr.imp fun k hk=>⟨i,Ne.symm hij,hk⟩)
   unfold wpOp
   rw[show l.toArray[i]? = some o by simpa using ho]
   simp only
   rcases hy i h o hh ho a W hI.1 (hI.2.2.1 i hiun) hdep2 with ⟨hwt,hyl⟩ | ⟨hwt,hR⟩
   · rw[if_pos hwt]
     refine .inl ?_
     unfold Oper.wp
     rcases hyl with ⟨v,W',hr,hR,hb⟩ | ⟨fn,args,hr,hc⟩
     · rw[hr]
       simp only[Oper.upon,hd]
       exact key v W' hR hb
     · rw[hr]
       simp only[Oper.upon,hd]
       exact hc.mono fun e W' ⟨v,he,hR,hb⟩=>by subst he;exact key v W' hR hb
   · rw[if_neg (by rw[hwt];exact Bool.false_ne_true)]
     rw[hd]
     exact key undef W hR (Fr.of (Below.refl _ _) _)
def Head.ok5 (P:Program) (ops:Array Oper) (hs:List Head) (a0:Act) (w0:World) (F:Nat→Nat→Prop) (i:Nat) (h:Head) (o:Oper):Prop:=
 o.dst=some h.dst∧MonoF (othF F i) h.R∧∀a W,Agree (hs.map (·.dst)) a0 a→Fr w0 W (othF F i)→(∀j∈h.deps,∀(hj:Head),hs[j]? = some hj→hj.R (a.eval (.tmp hj.dst)) W)→Takes5 P ops o a W (F i) h.R
def All5 (q:Nat→Head→Oper→Prop):Nat→List Head→List Oper→Prop
 | _,[],_=>True
 | k,h::hs,o::l=>q k h o∧All5 q (k+1) hs l
 | _,_::_,[]=>False
theorem All5.at {q:Nat→Head→Oper→Prop}:∀{k:Nat} {hs:List Head} {l:List Oper},All5 q k hs l→∀(i:Nat) (h:Head) (o:Oper),hs[i]? = some h→l[i]? = some o→q (k+i) h o
 | k,h::hs,o::l,hA,0,h',o',e1,e2=>by
   simp only[List.getElem?_cons_zero,Option.some.injEq] at e1 e2
   subst e1 e2
   exact hA.1
 | k,h::hs,o::l,hA,i+1,h',o',e1,e2=>by
   have:=All5.at hA.2 i h' o' (by simpa using e1) (by simpa using e2)
   rw[show k+(i+1)=k+1+i by omega]
   exact this
 | _,[],_,_,i,_,_,e1,_=>by simp at e1
 | _,_::_,[],hA,_,_,_,_,_=>hA.elim
theorem wp_wide5 {id:Nat} {a0:Act} {w0:World} {l:List Oper} (F:Nat→Nat→Prop) (hs:List Head) (hmx:P.follows .mixedOrders=true)
 (hB:wideB l.toArray hs.length (hs.map (·.deps)).toArray=true)
 (hlen:decide (hs.length≤l.length)=true) (hin:(hs.map (·.dst)).all (fun d=>decide (d<a0.tmps.size))=true) (hdis:decide ((hs.map (·.dst)).Nodup)=true)
 (hok:All5 (Head.ok5 P l.toArray hs a0 w0 F) 0 hs l)
 (hk:∀(vs:Tmp→Value) W,(∀(i:Nat) (h:Head),hs[i]? = some h→h.R (vs h.dst) W)→Fr w0 W (allF F)→wpList P l.toArray Q (l.drop hs.length) ((hs.map (·.dst)).foldl (fun x d=>x.put (some d) (vs d)) a0) W):
 (Code.region id l.toArray true).wp P Q a0 w0:=by
 have hlen':=of_decide_eq_true hlen
 have hat:∀(i:Nat) (h:Head) (o:Oper),hs[i]? = some h→l[i]? = some o→Head.ok5 P l.toArray hs a0 w0 F i h o:=fun i h o hi ho=>by
  have:=hok.at i h o hi ho
  rwa [Nat.zero_add] at this
 have hunl:∀n,unl (Array.replicate l.toArray.size false) n=n:=fun n=>by
  induction n with
  | zero=>rfl
  | succ n ih=>rw[unl,ih,getD_replicate_false];simp
 refine wp_region_any hmx ?_
 have hinv:HeadInv .any l.toArray hs.length (Array.replicate l.toArray.size false):=⟨by simp,fun j oj hj hl=>(by rw[getD_replicate_false] at hl;cases hl),fun t ht ht'=>getD_in (by simpa using ht') (getD_replicate_false _ _)⟩
 have h1:=wide5_any (P:=P) (Q:=Q) (l:=l) (hs:=hs) (a0:=a0) (w0:=w0) (g:=l.length-hs.length) (F:=F) hB (by simp)
  (fun i h o hi ho=>(hat i h o hi ho).1) hlen'
  (fun h hh=>by
    have:=List.all_eq_true.1 hin h.dst (List.mem_map.2 ⟨h,hh,rfl⟩)
    exact of_decide_eq_true this) (of_decide_eq_true hdis)
  (fun i h hi=>by
    have hil:=lt_of_some hi
    exact (hat i h _ hi (List.getElem?_eq_getElem (by omega))).2.1)
  (fun i h o hi ho=>(hat i h o hi ho).2.2)
  (fun a W hA hgr hR=>by
    have:=hk (fun d=>a.eval (.tmp d)) W hR hgr
    rw[←Agree.rebuild _ _ hA] at this
    exact this) hs.length (Array.replicate l.toArray.size false) a0 { w0 with drawn:=w0.drawn+1 } hinv (hunl _)
  ⟨Agree.refl _ _,Fr.of (Below.refl _ w0).drew _,fun j _=>Fr.of (Below.refl _ w0).drew _,fun i h hi hl=>(by rw[getD_replicate_false] at hl;cases hl)⟩
 have hsz:l.toArray.size=hs.length+(l.length-hs.length):=by rw[List.size_toArray];omega
 have e:wpAny P .any l.toArray Q l.toArray.size=wpAny P .any l.toArray Q (hs.length+(l.length-hs.length)):=congrArg _ hsz
 rw[e]
 exact h1
end
section
variable {w w':World} {F:Nat→Prop}
theorem CbB.fr {g:Nat} {T:TypeId} {cs:Array Value} (h:CbB w g T cs) (hf:Fr w w' F) (hn:¬F g):CbB w' g T cs:=(hf.block g h.lt hn).trans h
theorem IsB.fr {A:Option Addr} {n c:Nat} {l:List Nat} (h:IsB w A n c l) (hf:Fr w w' F) (hn:∀x,A=Option.some x→¬F x.block):IsB w' A n c l:=
 ⟨h.1.keep hf.size fun x i e hi=>World.cell?_of_block (by
  rw[add_block]
  obtain⟨y,e',hy,_⟩:=h.1.at (by omega)
  rw[e] at e'
  injection e' with e'
  exact hf.block _ (by rw[e'];exact hy) (hn x e)),h.2⟩
theorem OwB.fr {B:Nat} {v:Value} {l:List Nat} (h:OwB w B v l) (hf:Fr w w' F) (hn:∀g,v.ownBlock=some g→¬F g):OwB w' B v l:=by
 refine⟨⟨h.own.1,?_⟩,h.byt⟩
 rcases h.own.2 with hx | ⟨g,cap,cur,rfl,hb,hh,rest⟩
 · exact .inl hx
 · have hg:g<w.heap.size:=(Array.getElem?_eq_some_iff.1 hh).1
   exact .inr ⟨g,cap,cur,rfl,hb,(hf.block g hg (hn g rfl)).trans hh,rest⟩
theorem row_fr {B n s:Nat} {e:TypeId} {v:Value} {xs:List Value} (h:w.ownsRow B e s v n xs) (hf:Fr w w' F) (hn:∀g,v.ownBlock=some g→¬F g):w'.ownsRow B e s v n xs:=by
 refine⟨h.1,?_⟩
 rcases h.2 with hx | ⟨g,cap,cur,rfl,hb,hh,rest⟩
 · exact .inl hx
 · have hg:g<w.heap.size:=(Array.getElem?_eq_some_iff.1 hh).1
   exact .inr ⟨g,cap,cur,rfl,hb,(hf.block g hg (hn g rfl)).trans hh,rest⟩
theorem row_ne {B n s g:Nat} {e T:TypeId} {v:Value} {xs:List Value} {cs:Array Value} (h:w.ownsRow B e s v n xs) (hc:CbB w g T cs) (hT:T≠e):v.ownBlock≠some g:=by
 intro he
 rcases h.2 with ⟨rfl,_⟩ | ⟨g',cap,cur,rfl,_,hh,_⟩
 · cases he
 · have:g'=g:=by injection he
   subst this
   unfold CbB at hc
   rw[hc] at hh
   injection hh with hh
   injection hh with h1 h2
   exact hT h2
theorem row_own_ne {B B' n s:Nat} {e:TypeId} {v u:Value} {xs:List Value} {k:List Nat} (h:w.ownsRow B e s v n xs) (ho:OwB w B' u k) (hT:e≠5):∀g,u.ownBlock=some g→v.ownBlock≠some g:=by
 intro g hg he
 rcases h.2 with ⟨rfl,_⟩ | ⟨g',cap,cur,rfl,_,hh,_⟩
 · cases he
 · have e1:g'=g:=by injection he
   rcases ho.own.2 with ⟨rfl,_⟩ | ⟨g2,cap2,cur2,rfl,_,hh2,_⟩
   · cases hg
   · have e2:g2=g:=by injection hg
     subst e1
     subst e2
     rw[hh2] at hh
     injection hh with hh
     injection hh with h1 h2
     exact hT h2.symm
end
theorem own_ne' {w:World} {B lg:Nat} {T:TypeId} {cs:Array Value} {v:Value} {k:List Nat} (hT:T≠5) (hl:CbB w lg T cs) (ho:OwB w B v k):v.ownBlock≠some lg:=by
 intro e
 rcases ho.own.2 with ⟨rfl,_⟩ | ⟨g,cap,cur,rfl,_,hh,_⟩
 · cases e
 · have:g=lg:=by injection e
   subst this
   unfold CbB at hl
   rw[hl] at hh
   injection hh with hh
   injection hh with h1 h2
   exact hT h2
section
variable {P:Program} {Q:Exit→Act→World→Prop}
theorem Fr.trW {w w1 w2:World} {F:Nat→Prop} (h:Fr w w1 F) (k:Fr w1 w2 F):Fr w w2 F:=⟨k.os.trans h.os,k.tape.trans h.tape,k.output.trans h.output,Nat.le_trans h.size k.size,fun i hi hn=>(k.block i (Nat.lt_of_lt_of_le hi h.size) hn).trans (h.block i hi hn)⟩
end
set_option linter.unusedSimpArgs false
structure DvS where
 n:Nat
 now:List Nat
 firm:List Nat
 ws:List (Nat×List Nat)
 st:Nat
 fail:Nat
 cut:Int
 down:Bool
def wrV (x:Nat×List Nat):List Value:=.int .i64 (x.1:Int)::(bts x.2).toList
structure DvS.Ok (D:DvS):Prop where
 n8:8≤D.n
 n4:D.n≤4096
 now:D.now.length=D.n*256
 firm:D.firm.length=D.n*256
 bnow:Byt D.now
 bfirm:Byt D.firm
 ws:∀x∈D.ws,x.1<D.n∧x.2.length=256∧Byt x.2
 cut:-1≤D.cut∧D.cut≤1000000000
 fail:D.fail≤1000000000
def DvS.cells (D:DvS) (g1 g2:Nat) (wv:Value):Array Value:=#[.slice (some ⟨g1,0,none⟩) D.n D.n,.slice (some ⟨g2,0,none⟩) D.n D.n,wv,.int .u64 (D.st:Int),.int .i64 (D.fail:Int),.int .i64 D.cut,.bool D.down]
structure DsB (w:World) (B d g1 g2:Nat) (wv:Value) (D:DvS):Prop where
 box:CbB w d 102 (D.cells g1 g2 wv)
 now:Bk w g1 151 D.now
 firm:Bk w g2 151 D.firm
 row:w.ownsRow B 181 257 wv D.ws.length (D.ws.flatMap wrV)
 ne:g1≠g2
 low:B≤d∧B≤g1∧B≤g2
theorem bk_ne {w:World} {d g:Nat} {T T':TypeId} {cs:Array Value} {L:List Nat} (h:CbB w d T cs) (k:Bk w g T' L) (hT:T≠T'):d≠g:=fun e=>by
 unfold CbB at h
 unfold Bk at k
 rw[←e,h] at k
 injection k with k
 injection k with _ k
 exact hT k
theorem bk_fr {w w':World} {g:Nat} {T:TypeId} {l:List Nat} {F:Nat→Prop} (h:Bk w g T l) (hf:Fr w w' F) (hn:¬F g):Bk w' g T l:=(hf.block g h.lt hn).trans h
section
variable {w w':World} {B d g1 g2:Nat} {wv:Value} {D D':DvS}
theorem DsB.lt (h:DsB w B d g1 g2 wv D):d<w.heap.size∧g1<w.heap.size∧g2<w.heap.size:=⟨h.box.lt,h.now.lt,h.firm.lt⟩
theorem DsB.fr {F:Nat→Prop} (h:DsB w B d g1 g2 wv D) (hf:Fr w w' F) (hn:∀k,F k→k≠d∧k≠g1∧k≠g2∧wv.ownBlock≠some k):DsB w' B d g1 g2 wv D:=
 ⟨h.box.fr hf (fun e=>(hn _ e).1 rfl),bk_fr h.now hf (fun e=>(hn _ e).2.1 rfl),bk_fr h.firm hf (fun e=>(hn _ e).2.2.1 rfl),row_fr h.row hf (fun g hg e=>(hn _ e).2.2.2 hg),h.ne,h.low⟩
theorem DsB.ab (h:DsB w B d g1 g2 wv D) (hb:Below w.heap.size w w'):DsB w' B d g1 g2 wv D:=h.fr (Fr.of hb (fun _=>False)) fun k hk=>hk.elim
theorem DsB.upd (h:DsB w B d g1 g2 wv D) (hf:Fr w w' (fun q=>q=d)) (hb:CbB w' d 102 (D'.cells g1 g2 wv)) (e1:D'.now=D.now) (e2:D'.firm=D.firm) (e3:D'.ws=D.ws):DsB w' B d g1 g2 wv D':=
 ⟨hb,by rw[e1];exact bk_fr h.now hf (bk_ne h.box h.now (by decide)).symm,by rw[e2];exact bk_fr h.firm hf (bk_ne h.box h.firm (by decide)).symm,by rw[e3];exact row_fr h.row hf (fun g hg e=>row_ne h.row h.box (by decide) (by rw[hg,e])),h.ne,h.low⟩
def stepD (D:DvS):Nat×DvS:=
 bif D.down then (81,D) else
 bif decide (D.cut=0) then (81,{ D with down:=true }) else
 bif decide (0<D.fail) then (bif decide (D.fail=1) then 80 else 0,{ D with cut:=bif decide (0<D.cut) then D.cut-1 else D.cut,st:=D.st+1,fail:=D.fail-1 })
 else (0,{ D with cut:=bif decide (0<D.cut) then D.cut-1 else D.cut,st:=D.st+1 })
set_option maxRecDepth 100000 in
theorem blocks_any (h:DsB w B d g1 g2 wv D):Calls Tryz.prog 74 #[.pointer (some ⟨d,0,none⟩)] w fun e w'=>e = .returned (.int .i64 (D.n:Int))∧w=w':=by
 have c0:w.cell? ⟨d,0,none⟩=some (.slice (some ⟨g1,0,none⟩) D.n D.n):=h.box.cell (k:=0) rfl
 clear h
 go_enter Tryz.func74,Tryz.ntmps74
 go_wp2_with fail
 go_ret
 exact⟨rfl,rfl⟩
set_option maxRecDepth 100000 in
theorem has_yes (i:Nat) (hi:i<D.n) (h:DsB w B d g1 g2 wv D):
 Calls Tryz.prog 71 #[.pointer (some ⟨d,0,none⟩),.int .i64 (i:Int)] w fun e w'=>e = .returned (.bool true)∧w=w':=by
 have c0:w.cell? ⟨d,0,none⟩=some (.slice (some ⟨g1,0,none⟩) D.n D.n):=h.box.cell (k:=0) rfl
 have h0:(0:Int)≤(i:Int):=by omega
 have h1:(i:Int)<(D.n:Int):=by omega
 clear h hi
 go_enter Tryz.func71,Tryz.ntmps71
 go_wp2_with fail
 go_ret
 exact⟨rfl,rfl⟩
theorem fr_setD (w:World) (g k:Nat) (v:Value):Fr w (w.setCell ⟨g,k,none⟩ v) (fun q=>q=g):=(Fr.grown (grown_cell w g k v)).imp fun q hq=>by injection hq with hq;exact hq.symm
set_option maxRecDepth 100000 in
theorem step_any (h:DsB w B d g1 g2 wv D) (ok:D.Ok) (hst:D.st≤1000000000):
 Calls Tryz.prog 91 #[.pointer (some ⟨d,0,none⟩)] w fun e w'=>e = .returned (.int .i64 ((stepD D).1:Int))∧DsB w' B d g1 g2 wv (stepD D).2∧Fr w w' (fun q=>q=d):=by
 have HB:=Lib.hid h
 have c3:w.cell? ⟨d,3,none⟩=some (.int .u64 (D.st:Int)):=h.box.cell (k:=3) rfl
 have c4:w.cell? ⟨d,4,none⟩=some (.int .i64 (D.fail:Int)):=h.box.cell (k:=4) rfl
 have c5:w.cell? ⟨d,5,none⟩=some (.int .i64 D.cut):=h.box.cell (k:=5) rfl
 have c6:w.cell? ⟨d,6,none⟩=some (.bool D.down):=h.box.cell (k:=6) rfl
 have F3:=h.box.free 3
 have F4:=h.box.free 4
 have F5:=h.box.free 5
 have F6:=h.box.free 6
 have b0:=ok.cut.1
 have b1:=ok.cut.2
 have b2:(D.fail:Int)≤1000000000:=by have:=ok.fail;omega
 have b3:(D.st:Int)≤1000000000:=by omega
 have b4:(0:Int)≤(D.st:Int):=by omega
 have b5:(0:Int)≤(D.fail:Int):=by omega
 obtain⟨n,now,firm,ws,st,fail,cut,down⟩:=D
 simp only at c3 c4 c5 c6 b0 b1 b2 b3 b4 b5
 clear h ok hst
 cases down with
 | true=>
   go_enter Tryz.func91,Tryz.ntmps91
   go_wp2_with fail
   go_ret
   exact⟨rfl,HB.out,Fr.of (Below.refl _ _) _⟩
 | false =>
   by_cases q0:cut=0
   · subst q0
     go_enter Tryz.func91,Tryz.ntmps91
     go_wp2_with fail
     have k6:(w.setCell ⟨d,6,none⟩ (.bool true)).cell? ⟨d,6,none⟩=some (.bool true):=(HB.out.box.set 6 (.bool true)).cell (k:=6) rfl
     go_wp2_with fail
     go_ret
     exact⟨rfl,HB.out.upd (fr_setD _ _ _ _) (HB.out.box.set 6 (.bool true)) rfl rfl rfl,fr_setD _ _ _ _⟩
   · by_cases q1:0<cut
     · have e1:decide (cut=0)=false:=by simp;omega
       have e2:decide (0<cut)=true:=by simp;omega
       by_cases q2:fail=0
       · have q3:¬(0:Int)<(fail:Int):=by omega
         have e3:decide (0<fail)=false:=by simp;omega
         clear q2
         have X1:=HB.out.box.set 5 (.int .i64 (cut-1))
         have c31:(w.setCell ⟨d,5,none⟩ (.int .i64 (cut-1))).cell? ⟨d,3,none⟩=some (.int .u64 (st:Int)):=X1.cell (k:=3) rfl
         have f31:=X1.free 3
         have X2:=X1.set 3 (.int .u64 ((st:Int)+1))
         have c42:((w.setCell ⟨d,5,none⟩ (.int .i64 (cut-1))).setCell ⟨d,3,none⟩ (.int .u64 ((st:Int)+1))).cell? ⟨d,4,none⟩=some (.int .i64 (fail:Int)):=X2.cell (k:=4) rfl
         have f42:=X2.free 4
         have XL:=Lib.hid X2
         clear X1 X2
         go_enter Tryz.func91,Tryz.ntmps91
         go_wp2_with fail
         go_ret
         have ED:stepD ⟨n,now,firm,ws,st,fail,cut,false⟩=(0,⟨n,now,firm,ws,st+1,fail,cut-1,false⟩):=by unfold stepD;simp[e1,e2,e3]
         rw[ED]
         have FF:=((fr_setD w d 5 (.int .i64 (cut-1))).trW (fr_setD _ d 3 (.int .u64 ((st:Int)+1))))
         exact⟨rfl,HB.out.upd FF (by have:=XL.out;exact this) rfl rfl rfl,FF⟩
       · have q3:(0:Int)<(fail:Int):=by omega
         have e3:decide (0<fail)=true:=by simp;omega
         by_cases q4:fail=1
         · have q5:(fail:Int)-1=0:=by omega
           have e4:decide (fail=1)=true:=by simp;omega
           have q6:(((fail:Int)-1)==0)=true:=by simp;omega
           have q7:decide ((fail:Int)-1=0)=true:=by simp;omega
           clear q4 q5
           have X1:=HB.out.box.set 5 (.int .i64 (cut-1))
           have c31:(w.setCell ⟨d,5,none⟩ (.int .i64 (cut-1))).cell? ⟨d,3,none⟩=some (.int .u64 (st:Int)):=X1.cell (k:=3) rfl
           have f31:=X1.free 3
           have X2:=X1.set 3 (.int .u64 ((st:Int)+1))
           have c42:((w.setCell ⟨d,5,none⟩ (.int .i64 (cut-1))).setCell ⟨d,3,none⟩ (.int .u64 ((st:Int)+1))).cell? ⟨d,4,none⟩=some (.int .i64 (fail:Int)):=X2.cell (k:=4) rfl
           have f42:=X2.free 4
           have X3:=X2.set 4 (.int .i64 ((fail:Int)-1))
           have c43:(((w.setCell ⟨d,5,none⟩ (.int .i64 (cut-1))).setCell ⟨d,3,none⟩ (.int .u64 ((st:Int)+1))).setCell ⟨d,4,none⟩ (.int .i64 ((fail:Int)-1))).cell? ⟨d,4,none⟩=some (.int .i64 ((fail:Int)-1)):=X3.cell (k:=4) rfl
           have XL:=Lib.hid X3
           clear X1 X2 X3
           go_enter Tryz.func91,Tryz.ntmps91
           go_wp2_with fail
           go_ret
           have ED:stepD ⟨n,now,firm,ws,st,fail,cut,false⟩=(80,⟨n,now,firm,ws,st+1,fail-1,cut-1,false⟩):=by unfold stepD;simp[e1,e2,e3,e4]
           rw[ED]
           have FF:=(((fr_setD w d 5 (.int .i64 (cut-1))).trW (fr_setD _ d 3 (.int .u64 ((st:Int)+1)))).trW (fr_setD _ d 4 (.int .i64 ((fail:Int)-1))))
           exact⟨rfl,HB.out.upd FF (by have:=XL.out;have e:((fail-1:Nat):Int)=(fail:Int)-1:=(by omega);simp only[DvS.cells,e];exact this) rfl rfl rfl,FF⟩
         · have q5:¬(fail:Int)-1=0:=by omega
           have e4:decide (fail=1)=false:=by simp;omega
           have X1:=HB.out.box.set 5 (.int .i64 (cut-1))
           have c31:(w.setCell ⟨d,5,none⟩ (.int .i64 (cut-1))).cell? ⟨d,3,none⟩=some (.int .u64 (st:Int)):=X1.cell (k:=3) rfl
           have f31:=X1.free 3
           have X2:=X1.set 3 (.int .u64 ((st:Int)+1))
           have c42:((w.setCell ⟨d,5,none⟩ (.int .i64 (cut-1))).setCell ⟨d,3,none⟩ (.int .u64 ((st:Int)+1))).cell? ⟨d,4,none⟩=some (.int .i64 (fail:Int)):=X2.cell (k:=4) rfl
           have f42:=X2.free 4
           have X3:=X2.set 4 (.int .i64 ((fail:Int)-1))
           have c43:(((w.setCell ⟨d,5,none⟩ (.int .i64 (cut-1))).setCell ⟨d,3,none⟩ (.int .u64 ((st:Int)+1))).setCell ⟨d,4,none⟩ (.int .i64 ((fail:Int)-1))).cell? ⟨d,4,none⟩=some (.int .i64 ((fail:Int)-1)):=X3.cell (k:=4) rfl
           have XL:=Lib.hid X3
           clear X1 X2 X3
           go_enter Tryz.func91,Tryz.ntmps91
           go_wp2_with fail
           go_ret
           have ED:stepD ⟨n,now,firm,ws,st,fail,cut,false⟩=(0,⟨n,now,firm,ws,st+1,fail-1,cut-1,false⟩):=by unfold stepD;simp[e1,e2,e3,e4]
           rw[ED]
           have FF:=(((fr_setD w d 5 (.int .i64 (cut-1))).trW (fr_setD _ d 3 (.int .u64 ((st:Int)+1)))).trW (fr_setD _ d 4 (.int .i64 ((fail:Int)-1))))
           exact⟨rfl,HB.out.upd FF (by have:=XL.out;have e:((fail-1:Nat):Int)=(fail:Int)-1:=(by omega);simp only[DvS.cells,e];exact this) rfl rfl rfl,FF⟩
     · have e1:decide (cut=0)=false:=by simp;omega
       have e2:decide (0<cut)=false:=by simp;omega
       by_cases q2:fail=0
       · have q3:¬(0:Int)<(fail:Int):=by omega
         have e3:decide (0<fail)=false:=by simp;omega
         clear q2
         have X2:=HB.out.box.set 3 (.int .u64 ((st:Int)+1))
         have c42:(w.setCell ⟨d,3,none⟩ (.int .u64 ((st:Int)+1))).cell? ⟨d,4,none⟩=some (.int .i64 (fail:Int)):=X2.cell (k:=4) rfl
         have f42:=X2.free 4
         have XL:=Lib.hid X2
         clear X2
         go_enter Tryz.func91,Tryz.ntmps91
         go_wp2_with fail
         go_ret
         have ED:stepD ⟨n,now,firm,ws,st,fail,cut,false⟩=(0,⟨n,now,firm,ws,st+1,fail,cut,false⟩):=by unfold stepD;simp[e1,e2,e3]
         rw[ED]
         have FF:=(fr_setD w d 3 (.int .u64 ((st:Int)+1)))
         exact⟨rfl,HB.out.upd FF (by have:=XL.out;exact this) rfl rfl rfl,FF⟩
       · have q3:(0:Int)<(fail:Int):=by omega
         have e3:decide (0<fail)=true:=by simp;omega
         by_cases q4:fail=1
         · have q5:(fail:Int)-1=0:=by omega
           have e4:decide (fail=1)=true:=by simp;omega
           have q6:(((fail:Int)-1)==0)=true:=by simp;omega
           have q7:decide ((fail:Int)-1=0)=true:=by simp;omega
           clear q4 q5
           have X2:=HB.out.box.set 3 (.int .u64 ((st:Int)+1))
           have c42:(w.setCell ⟨d,3,none⟩ (.int .u64 ((st:Int)+1))).cell? ⟨d,4,none⟩=some (.int .i64 (fail:Int)):=X2.cell (k:=4) rfl
           have f42:=X2.free 4
           have X3:=X2.set 4 (.int .i64 ((fail:Int)-1))
           have c43:((w.setCell ⟨d,3,none⟩ (.int .u64 ((st:Int)+1))).setCell ⟨d,4,none⟩ (.int .i64 ((fail:Int)-1))).cell? ⟨d,4,none⟩=some (.int .i64 ((fail:Int)-1)):=X3.cell (k:=4) rfl
           have XL:=Lib.hid X3
           clear X2 X3
           go_enter Tryz.func91,Tryz.ntmps91
           go_wp2_with fail
           go_ret
           have ED:stepD ⟨n,now,firm,ws,st,fail,cut,false⟩=(80,⟨n,now,firm,ws,st+1,fail-1,cut,false⟩):=by unfold stepD;simp[e1,e2,e3,e4]
           rw[ED]
           have FF:=((fr_setD w d 3 (.int .u64 ((st:Int)+1))).trW (fr_setD _ d 4 (.int .i64 ((fail:Int)-1))))
           exact⟨rfl,HB.out.upd FF (by have:=XL.out;have e:((fail-1:Nat):Int)=(fail:Int)-1:=(by omega);simp only[DvS.cells,e];exact this) rfl rfl rfl,FF⟩
         · have q5:¬(fail:Int)-1=0:=by omega
           have e4:decide (fail=1)=false:=by simp;omega
           have X2:=HB.out.box.set 3 (.int .u64 ((st:Int)+1))
           have c42:(w.setCell ⟨d,3,none⟩ (.int .u64 ((st:Int)+1))).cell? ⟨d,4,none⟩=some (.int .i64 (fail:Int)):=X2.cell (k:=4) rfl
           have f42:=X2.free 4
           have X3:=X2.set 4 (.int .i64 ((fail:Int)-1))
           have c43:((w.setCell ⟨d,3,none⟩ (.int .u64 ((st:Int)+1))).setCell ⟨d,4,none⟩ (.int .i64 ((fail:Int)-1))).cell? ⟨d,4,none⟩=some (.int .i64 ((fail:Int)-1)):=X3.cell (k:=4) rfl
           have XL:=Lib.hid X3
           clear X2 X3
           go_enter Tryz.func91,Tryz.ntmps91
           go_wp2_with fail
           go_ret
           have ED:stepD ⟨n,now,firm,ws,st,fail,cut,false⟩=(0,⟨n,now,firm,ws,st+1,fail-1,cut,false⟩):=by unfold stepD;simp[e1,e2,e3,e4]
           rw[ED]
           have FF:=((fr_setD w d 3 (.int .u64 ((st:Int)+1))).trW (fr_setD _ d 4 (.int .i64 ((fail:Int)-1))))
           exact⟨rfl,HB.out.upd FF (by have:=XL.out;have e:((fail-1:Nat):Int)=(fail:Int)-1:=(by omega);simp only[DvS.cells,e];exact this) rfl rfl rfl,FF⟩
end
theorem below_grownR {B:Nat} {a b c:World} {r:Option Nat} (h:Below B a b) (k:b.grownBy c r) (hr:∀g,r=some g→B≤g) (hs:B≤b.heap.size):Below B a c:=h.trans ⟨k.os,k.tape,k.output,k.size,fun i hi=>k.block i (by omega) (fun e=>by have:=hr i e.symm;omega)⟩
abbrev RnL:=List (Nat×Nat)
def runVs:RnL→List Value
 | []=>[]
 | r::l=>.int .u32 (r.1:Int) :: .int .u32 (r.2:Int)::runVs l
theorem runVs_len:∀l,(runVs l).length=l.length*2
 | []=>rfl
 | r::l=>by simp only[runVs,List.length_cons,runVs_len l];omega
theorem runVs_app:∀a b,runVs (a++b)=runVs a++runVs b
 | [],b=>rfl
 | r::l,b=>by simp[runVs,runVs_app l b]
theorem runVs_at:∀(l:RnL) (i:Nat) (r:Nat×Nat),l[i]? = some r→(runVs l)[i*2]? = some (.int .u32 (r.1:Int))∧(runVs l)[i*2+1]? = some (.int .u32 (r.2:Int))
 | [],i,r,h=>by simp at h
 | t::l,0,r,h=>by
   simp only[List.getElem?_cons_zero,Option.some.injEq] at h
   subst h
   exact⟨rfl,rfl⟩
 | t::l,i+1,r,h=>by
   have:=runVs_at l i r (by simpa using h)
   rw[show (i+1)*2=i*2+1+1 by omega]
   simpa[runVs] using this
theorem runVs_one (l:RnL):∀u∈runVs l,u.oneCell'=true:=by
 induction l with
 | nil=>intro u hu;cases hu
 | cons r l ih=>
   intro u hu
   simp only[runVs,List.mem_cons] at hu
   rcases hu with rfl | rfl | hu
   · rfl
   · rfl
   · exact ih u hu
theorem addr_zero (x:Addr):x.add 0=x:=by
 have h:=add_zero' (some x)
 simpa using h
structure RnB (w:World) (A:Option Addr) (n c:Nat) (l:RnL):Prop where
 len:l.length=n
 cap:n≤c
 max:c≤maxLen
 cel:0<n→∃x,A=some x∧x.block<w.heap.size∧∀(j:Nat) (u:Value),(runVs l)[j]? = some u→w.cell? (x.add j)=some u
 nil:A=none→c=0
section
variable {w w':World} {A:Option Addr} {n c:Nat} {l:RnL}
theorem RnB.ab (h:RnB w A n c l) (hb:Below w.heap.size w w'):RnB w' A n c l:=
 ⟨h.len,h.cap,h.max,fun h0=>by
  obtain⟨x,h1,h2,h3⟩:=h.cel h0
  exact⟨x,h1,Nat.lt_of_lt_of_le h2 hb.size,fun j u hu=>by rw[←h3 j u hu];exact World.cell?_of_block (hb.block _ (by rw[add_block];exact h2))⟩,h.nil⟩
theorem RnB.fr {F:Nat→Prop} (h:RnB w A n c l) (hf:Fr w w' F) (hn:∀x,A=some x→¬F x.block):RnB w' A n c l:=
 ⟨h.len,h.cap,h.max,fun h0=>by
  obtain⟨x,h1,h2,h3⟩:=h.cel h0
  exact⟨x,h1,Nat.lt_of_lt_of_le h2 hf.size,fun j u hu=>by rw[←h3 j u hu];exact World.cell?_of_block (hf.block _ (by rw[add_block];exact h2) (by rw[add_block];exact hn x h1))⟩,h.nil⟩
theorem RnB.nilB (w:World):RnB w none 0 0 []:=⟨rfl,Nat.le_refl _,Nat.zero_le _,fun h=>absurd h (Nat.lt_irrefl 0),fun _=>rfl⟩
theorem RnB.at (h:RnB w A n c l) {i:Nat} {r:Nat×Nat} (hr:l[i]? = some r):∃x,A=some x∧x.block<w.heap.size∧∀W,Below w.heap.size w W→W.cell? (x.add (i*2))=some (.int .u32 (r.1:Int))∧W.cell? ⟨(x.add (i*2)).block,(x.add (i*2)).off+1,none⟩=some (.int .u32 (r.2:Int)):=by
 have hi:=(List.getElem?_eq_some_iff.1 hr).1
 have hlen:=h.len
 obtain⟨x,h1,h2,_⟩:=h.cel (by omega)
 refine⟨x,h1,h2,fun W hW=>?_⟩
 obtain⟨x',h1',_,h3⟩:=(h.ab hW).cel (by omega)
 rw[h1] at h1'
 injection h1' with h1'
 subst h1'
 obtain⟨a,b⟩:=runVs_at l i r hr
 refine⟨h3 _ _ a,?_⟩
 have:=h3 _ _ b
 rw[←Go.Deep.add_add] at this
 exact this
end
def RuB (w:World) (B:Nat) (v:Value) (l:RnL):Prop:=w.ownsRow B 72 2 v l.length (runVs l)
theorem RuB.rn {w:World} {B:Nat} {v:Value} {l:RnL} (h:RuB w B v l):∃A c,v = .slice A l.length c∧RnB w A l.length c l∧(∀x,A=some x→B≤x.block∧v.ownBlock=some x.block):=by
 rcases h.2 with ⟨rfl,h0⟩ | ⟨g,cap,cur,rfl,hg,hh,hnc,hcm,hcs,htk⟩
 · have hl:l=[]:=List.eq_nil_of_length_eq_zero h0
   subst hl
   exact⟨none,0,rfl,RnB.nilB w,fun x hx=>by cases hx⟩
 · refine⟨_,cap,rfl,⟨rfl,hnc,hcm,fun _=>⟨_,rfl,(Array.getElem?_eq_some_iff.1 hh).1,fun j u hu=>World.ownsRow.cells h (g:=g) rfl j u hu⟩,fun hx=>(by cases hx)⟩,fun x hx=>?_⟩
   injection hx with hx
   subst hx
   exact⟨hg,rfl⟩
theorem RuB.nil (w:World) (B:Nat):RuB w B (.slice none 0 0) []:=World.ownsRow_nil _ _ _ _
theorem infoRun:(Tryz.prog.info? 72).map (fun i=>(i.zero,i.size,i.bytes))=some (some (.agg #[.int .u32 0,.int .u32 0]),2,8):=by kernel_rfl
set_option maxRecDepth 100000 in
theorem wpList_appR {rest:List Oper} {ops:Array Oper} {o:Oper} {a:Act} {w:World} {Q:Exit→Act→World→Prop} (hgd:o.guard=none) (s x:Operand)
 (ho:o.op = .call { callee:=.builtin .append,args:=#[s,x],argTypes:=#[22,22] })
 {B:Nat} {v:Value} {l m:RnL} (hown:RuB w B v l) (hs:a.eval s=v) {A:Option Addr} {n c:Nat} (hx:a.eval x = .slice A n c) (hr:RnB w A n c m) (hl:l.length+n≤1000000) (hB:B≤w.heap.size)
 (h:∀v' w',RuB w' B v' (l++m)→w.grownBy w' v.ownBlock→wpList Tryz.prog ops Q rest (a.put o.dst v') w'):wpList Tryz.prog ops Q (o::rest) a w:=by
 obtain⟨i0,hi0,hz0,hz1,hz2⟩:=info_parts infoRun
 have hlen:=hr.len
 have hap:∃v' w',(Builtin.append_ #[22,22] o.type #[v,.slice A n c]).run Tryz.prog w = .ok v' w'∧RuB w' B v' (l++m)∧w.grownBy w' v.ownBlock:=by
  cases A with
  | none=>
    have hc:=hr.nil rfl
    have hcap:=hr.cap
    have hn0:n=0:=by omega
    have hm0:m=[]:=List.eq_nil_of_length_eq_zero (by omega)
    subst hc hn0 hm0
    exact⟨v,w,run_append_owned_none (P:=Tryz.prog) w B 22 o.type 72 i0 2 Tryz.underlying22 hi0 v _ _ hown,by simpa using hown,World.grownBy.refl w _⟩
  | some y=>
    have hcells:∀j u,(runVs m)[j]? = some u→w.cell? (y.add j)=some u:=fun j u hu=>by
     have hj:=(List.getElem?_eq_some_iff.1 hu).1
     rw[runVs_len] at hj
     obtain⟨x,h1,_,h3⟩:=hr.cel (by omega)
     injection h1 with h1
     subst h1
     exact h3 j u hu
    obtain⟨v1,W1,hrun,r1,r2,_⟩:=run_append_own_at (P:=Tryz.prog) w B 22 o.type 72 i0 _ 2 8 Tryz.underlying22 hi0 hz0 hz1 hz2 rfl (by decide) v l.length (runVs l) hown y n c (runVs m) (by rw[runVs_len,hlen]) hcells (runVs_one m) (by simp only[maxLen];omega) (by omega) hB
    refine⟨v1,W1,hrun,?_,r2⟩
    unfold RuB
    rw[runVs_app,List.length_append,hlen]
    exact r1
 obtain⟨v',w',hrun,h1,h2⟩:=hap
 refine wpList_plain hgd fun K hK=>?_
 unfold Oper.wp execOp
 simp only[ho,resolve,invoke,builtin,Sem.run_bind,Sem.run_pure,Result.andThen_ok,List.map_toArray,List.map_cons,List.map_nil,hs,hx,hrun]
 exact hK _ _ (h v' w' h1 h2)
set_option maxRecDepth 100000 in
theorem RuB.one (w:World) (a b:Nat):RuB (w.alloc (.cells #[.int .u32 (a:Int),.int .u32 (b:Int)] 72)) w.heap.size (.slice (some ⟨w.heap.size,0,none⟩) 1 1) [(a,b)]:=by
 refine⟨by simp[runVs],.inr ⟨w.heap.size,1,#[.int .u32 (a:Int),.int .u32 (b:Int)],rfl,Nat.le_refl _,heap_alloc_new w _,Nat.le_refl _,by decide,rfl,rfl⟩⟩
def mkR (a b:Nat):RnL:=if a<b then [(a,b)] else []
def rightI (l:RnL) (i:Nat):Bool:=decide ((l.getD i (0,0)).1<(l.getD i (0,0)).2)&&(decide (i=0)||decide ((l.getD (i-1) (0,0)).2<(l.getD i (0,0)).1))
def rightR (l:RnL):Bool:=(List.range l.length).all (rightI l)
set_option maxRecDepth 100000 in
theorem make_any (a b:Nat) (w:World):Calls Tryz.prog 82 #[.int .u32 (a:Int),.int .u32 (b:Int)] w fun e w'=>∃v,e = .returned v∧RuB w' w.heap.size v (mkR a b)∧Below w.heap.size w w':=by
 unfold mkR
 by_cases h:a<b
 · have h1:¬(b:Int)≤(a:Int):=by omega
   rw[if_pos h]
   clear h
   go_enter Tryz.func82,Tryz.ntmps82
   go_wp2_with fail
   go_ret
   exact⟨_,rfl,RuB.one w a b,(Below.refl _ _).alloc (Nat.le_refl _) _⟩
 · have h1:(b:Int)≤(a:Int):=by omega
   rw[if_neg h]
   clear h
   go_enter Tryz.func82,Tryz.ntmps82
   go_wp2_with fail
   go_ret
   exact⟨_,rfl,RuB.nil w _,Below.refl _ _⟩
theorem all_snoc {l:RnL} {i:Nat} (h:(List.range i).all (rightI l)=true) (h2:rightI l i=true):(List.range (i+1)).all (rightI l)=true:=by
 rw[List.range_succ,List.all_append,h]
 simp[h2]
theorem all_not {l:RnL} {i:Nat} (hi:i<l.length) (h2:rightI l i=false):rightR l=false:=by
 unfold rightR
 rw[List.all_eq_false]
 exact⟨i,List.mem_range.2 hi,by rw[h2];decide⟩
set_option maxRecDepth 100000 in
theorem right_any' (A:Option Addr) (n c:Nat) (l:RnL) (w:World) (h:RnB w A n c l):
 Calls Tryz.prog 41 #[.slice A n c] w fun e w'=>e = .returned (.bool (rightR l))∧Below w.heap.size w w':=by
 have hn:(n:Int)≤9223372036854775807:=by have:=h.cap;have:=h.max;unfold maxLen at this;omega
 have HR:=Lib.hid h
 clear h
 go_enter Tryz.func41,Tryz.ntmps41
 go_wp2_with fail
 go_loopw [7] (fun z wx=>∃i:Nat,i≤n∧z = .int .i64 (i:Int)∧(List.range i).all (rightI l)=true∧Below w.heap.size w wx) (fun z _=>n-(intOf z).toNat)
 case atStart=>exact⟨0,Nat.zero_le _,rfl,rfl,Below.refl _ _⟩
 case round=>
  obtain⟨i,hi,rfl,hal,hb⟩:=hrel
  have HB:=Lib.hid hb
  have HA:=Lib.hid hal
  clear hb hal
  by_cases hlt:i<n
  · obtain⟨r,hr⟩:∃r,l[i]? = some r:=⟨_,List.getElem?_eq_getElem (by rw[HR.out.len];exact hlt)⟩
    obtain⟨x,rfl,hxl,hcel⟩:=HR.out.at hr
    have hlti:(i:Int)<(n:Int):=by omega
    have HLT:=Lib.hid hlt
    have HL:Hid (i<l.length):=Lib.hid (by rw[HR.out.len];exact hlt)
    have hgd:l.getD i (0,0)=r:=by rw[List.getD_eq_getElem?_getD,hr];rfl
    have KC:=Lib.hid hcel
    have BA:Hid (Below w.heap.size w (wr.alloc (.cells #[.int .u32 (r.1:Int),.int .u32 (r.2:Int)] 72))):=Lib.hid (HB.out.alloc HB.out.size _)
    have hq:rightI l i=(decide (r.1<r.2)&&(decide (i=0)||decide ((l.getD (i-1) (0,0)).2<r.1))):=by unfold rightI;rw[hgd]
    have HQ:=Lib.hid hq
    have HRI:=Lib.hid hr
    have r0:wr.cell? (x.add (i*2))=some (.int .u32 (r.1:Int)):=(KC.out _ HB.out).1
    have r1:wr.cell? ⟨(x.add (i*2)).block,(x.add (i*2)).off+1,none⟩=some (.int .u32 (r.2:Int)):=(KC.out _ HB.out).2
    clear hlt hi hr hxl hcel hgd hq
    by_cases h1:r.1<r.2
    · have e1:decide (r.2≤r.1)=false:=decide_eq_false (by omega)
      have E1:=Lib.hid h1
      clear h1
      by_cases h0:i=0
      · subst h0
        simp only[Nat.zero_mul,addr_zero] at r0 r1
        have hs:Hid ((List.range (0+1)).all (rightI l)=true):=Lib.hid (all_snoc HA.out (by rw[HQ.out];simp[E1.out]))
        go_wp2_with fail
        go_quiet (fail)
        go_wp2_with fail
        go_roundw
        case rel=>exact⟨0+1,HLT.out,by go_num,hs.out,below_dn BA.out _⟩
        case measure=>simp[intOf];have:=HLT.out;omega
      · obtain⟨j,rfl⟩:∃j,i=j+1:=⟨i-1,by omega⟩
        have hi0:(0:Int)<(j:Int)+1:=by omega
        have hi1:decide ((0:Int)<(j:Int)+1)=true:=decide_eq_true hi0
        have hsub:(j:Int)+1-1=(j:Int):=by omega
        have hjw:IntKind.i64.wrap (j:Int)=(j:Int):=by rw[IntWalk.i64_in _ (by omega)]
        have hjn:(j:Int)<(n:Int):=by omega
        obtain⟨q,hq⟩:∃q,l[j]? = some q:=⟨_,List.getElem?_eq_getElem (by have:=HL.out;omega)⟩
        obtain⟨x',hx',_,hcq⟩:=HR.out.at hq
        injection hx' with hx'
        subst hx'
        have hg2:l.getD j (0,0)=q:=by rw[List.getD_eq_getElem?_getD,hq];rfl
        have HQ2:Hid (rightI l (j+1)=decide (q.2<r.1)):=Lib.hid (by rw[HQ.out,Nat.add_sub_cancel,hg2];simp[E1.out])
        have q1:(wr.alloc (.cells #[.int .u32 (r.1:Int),.int .u32 (r.2:Int)] 72)).cell? ⟨(x.add (j*2)).block,(x.add (j*2)).off+1,none⟩=some (.int .u32 (q.2:Int)):=(hcq _ BA.out).2
        clear h0 hq hcq hg2
        by_cases h2:q.2<r.1
        · have e2:decide (r.1≤q.2)=false:=decide_eq_false (by omega)
          have hs:Hid ((List.range (j+1+1)).all (rightI l)=true):=Lib.hid (all_snoc HA.out (by rw[HQ2.out];simp[h2]))
          clear h2
          go_wp2_with fail
          go_quiet (fail)
          go_wp2_with fail
          go_roundw
          case rel=>exact⟨j+1+1,HLT.out,by go_num,hs.out,below_dn BA.out _⟩
          case measure=>simp[intOf];have:=HLT.out;omega
        · have e2:decide (r.1≤q.2)=true:=decide_eq_true (by omega)
          have hs:Hid (rightR l=false):=Lib.hid (all_not HL.out (by rw[HQ2.out];simp[h2]))
          clear h2
          go_wp2_with fail
          go_quiet (fail)
          go_wp2_with fail
          go_ret
          exact⟨by rw[hs.out];rfl,below_dn BA.out _⟩
    · have e1:decide (r.2≤r.1)=true:=decide_eq_true (by omega)
      have hs:Hid (rightR l=false):=Lib.hid (all_not HL.out (by rw[HQ.out];simp[h1]))
      clear h1
      go_wp2_with fail
      go_quiet (fail)
      go_wp2_with fail
      go_ret
      exact⟨by rw[hs.out];rfl,below_dn BA.out _⟩
  · obtain rfl:i=n:=by omega
    have hs:Hid (rightR l=true):=Lib.hid (by unfold rightR;rw[HR.out.len];exact HA.out)
    clear hlt hi
    go_wp2_with fail
    go_ret
    exact⟨by rw[hs.out];rfl,HB.out⟩
theorem sealP_ok {key text:List Nat} {l:Lb} (h:SOk key l) (ht:text.length=224):sealP key l text=(headL l++sealA key (nonceL l) (aadL l) text,0):=by
 unfold sealP
 rw[if_pos ⟨h,ht⟩]
section
variable {P:Program}
theorem okWide_ints {w:World} {r:Reach} {base:Nat} {t:TypeId} {fs:Array Field} {v:Value} {ts:List TypeId} (ht:P.underlying t=some (.struct fs)) (hts:P.cellTypes P.depth t=some ts) (h:Value.okWide P w r base t v):
 ∃cs,v = .agg cs∧cs.size=P.cellsOf t∧∀(i:Nat) (u:TypeId) (k:IntKind),ts[i]? = some u→P.underlying u=some (.int k)→∀x,cs[i]? = some x→∃z,x = .int k z∧k.min≤z∧z≤k.max:=by
 simp only[Value.okWide,ht] at h
 obtain⟨cs,rfl,hs,ts',h1,_,h2⟩:=h
 rw[hts] at h1
 injection h1 with h1
 subst h1
 refine⟨cs,rfl,hs,fun i u k hu hk x hx=>?_⟩
 obtain⟨u',hu',hc⟩:=h2 i x hx
 rw[Nat.mod_eq_of_lt (by rcases Nat.lt_or_ge i ts.length with h | h;exact h;rw[List.getElem?_eq_none h] at hu;cases hu),hu] at hu'
 injection hu' with hu'
 subst hu'
 cases x <;> simp only[Cell.okWide,hk,Cell.ok] at hc
 rename_i k' z
 obtain⟨rfl,hz⟩:=hc
 simp only[IntKind.has] at hz
 exact⟨z,rfl,by omega,by omega⟩
end
def magL:List Nat:=[67,72,84,49]
def toldOk (s:List Nat):Prop:=s.take 4=magL∧1≤at' s 4∧at' s 4≤4
instance (s:List Nat):Decidable (toldOk s):=by unfold toldOk;infer_instance
open Go.RowKit Go.ChangeShapes Go.WideShapes
structure Rf where
 pg:Nat
 cm:Nat
 gn:Nat
 deriving DecidableEq
theorem infoDb:(Tryz.prog.info? 151).map (fun i=>(i.zero,i.size,i.bytes))=some (some (.agg (bts (zeros 256))),256,256):=by kernel_rfl
theorem made_z (n m:Nat) (hm:0<m):madeCells (bts (zeros m)) n=bts (zeros n):=by
 apply Array.ext
 · simp[madeCells,bts,zeros]
 · intro i h1 h2
   have:i%m<m:=Nat.mod_lt _ hm
   simp[madeCells,bts,zeros,this]
theorem make_db (n:Nat) (hc:n≤5000) (W:World):
 (Instr.makeSlice 99 (.int .i64 (n:Int)) (.int .i64 (n:Int))).run Tryz.prog W = .ok (.slice (some ⟨W.heap.size,0,none⟩) n n) (W.alloc (.cells (bts (zeros (n*256))) 151)):=by
 obtain⟨i0,hi0,h0,h1,h2⟩:=info_parts infoDb
 have:=run_make (P:=Tryz.prog) W 99 151 i0 _ Tryz.underlying99 hi0 h0 .i64 .i64 n n (by omega) (by omega) (by rw[h2];omega) (by omega)
 rw[this,h1]
 simp only[Int.toNat_natCast,Value.cells]
 rw[made_z _ 256 (by decide)]
def DzB (w:World) (g n:Nat):Prop:=Bk w g 151 (zeros (n*256))
def DzR (S n:Nat) (v:Value) (W:World):Prop:=∃g,v = .slice (some ⟨g,0,none⟩) n n∧DzB W g n∧S≤g
theorem DzR.mono (S n:Nat):Mono (DzR S n):=fun v W W' ⟨g,h1,h2,h3⟩ hb=>⟨g,h1,h2.below hb h2.lt,h3⟩
structure DkN (w:World) (B d b:Nat) (g1 g2:Nat):Prop where
 box:CbB w d 102 #[.slice (some ⟨g1,0,none⟩) b b,.slice (some ⟨g2,0,none⟩) b b,.slice none 0 0,.int .u64 0,.int .i64 0,.int .i64 (-1),.bool false]
 now:DzB w g1 b
 firm:DzB w g2 b
 low:B≤d∧B≤g1∧B≤g2
 ne:g1≠g2
set_option maxRecDepth 100000 in
theorem diskNew_any (b:Nat) (w:World) (hb8:8≤b) (hb4:b≤4096):
 Calls Tryz.prog 7 #[.int .i64 (b:Int)] w fun e w'=>∃d g1 g2,e = .returned (.tuple #[.pointer (some ⟨d,0,none⟩),.int .i64 0])∧DkN w' w.heap.size d b g1 g2∧Below w.heap.size w w':=by
 have h1:¬(b:Int)<8:=by omega
 have h2:¬(4096:Int)<(b:Int):=by omega
 have HB:Hid (b≤5000):=Lib.hid (by omega)
 clear hb8 hb4
 go_enter Tryz.func7,Tryz.ntmps7
 go_wp2_with fail
 refine wp_wide3 [⟨10,IsR (.int .i64 (b:Int)),[],false⟩,⟨11,DzR w.heap.size b,[0],true⟩,⟨12,IsR (.int .i64 (b:Int)),[],false⟩,⟨13,DzR w.heap.size b,[2],true⟩] (by kernel_rfl) (by kernel_rfl) rfl rfl rfl ⟨?_,?_,?_,?_,trivial⟩ ?_
 · refine⟨rfl,IsR.mono _,fun a W hA hb hd=>takes_plain rfl (yields_value _ ?_ rfl)⟩
   have h0:a.tmps[0]?.getD undef = .int .i64 (b:Int):=(eval_get a 0).trans ((hA.eval (by simp)).trans rfl)
   go_simp
 · refine⟨rfl,DzR.mono _ _,fun a W hA hb hd=>takes_plain rfl ?_⟩
   refine .inl ⟨.slice (some ⟨W.heap.size,0,none⟩) b b,W.alloc (.cells (bts (zeros (b*256))) 151),?_,⟨_,rfl,Bk.new _ _ _,hb.size⟩,(Below.refl _ _).alloc (Nat.le_refl _) _,fun _=>⟨W.heap.size,rfl,Nat.le_refl _,by simp⟩⟩
   have hx:a.eval (.tmp 10) = .int .i64 (b:Int):=hd 0 (by simp) _ rfl
   have hmk:=make_db b HB.out W
   unfold execOp
   simp only[hx,hmk,Sem.run_bind,Result.andThen_ok,Sem.run_pure]
 · refine⟨rfl,IsR.mono _,fun a W hA hb hd=>takes_plain rfl (yields_value _ ?_ rfl)⟩
   have h0:a.tmps[0]?.getD undef = .int .i64 (b:Int):=(eval_get a 0).trans ((hA.eval (by simp)).trans rfl)
   go_simp
 · refine⟨rfl,DzR.mono _ _,fun a W hA hb hd=>takes_plain rfl ?_⟩
   refine .inl ⟨.slice (some ⟨W.heap.size,0,none⟩) b b,W.alloc (.cells (bts (zeros (b*256))) 151),?_,⟨_,rfl,Bk.new _ _ _,hb.size⟩,(Below.refl _ _).alloc (Nat.le_refl _) _,fun _=>⟨W.heap.size,rfl,Nat.le_refl _,by simp⟩⟩
   have hx:a.eval (.tmp 12) = .int .i64 (b:Int):=hd 2 (by simp) _ rfl
   have hmk:=make_db b HB.out W
   unfold execOp
   simp only[hx,hmk,Sem.run_bind,Result.andThen_ok,Sem.run_pure]
 intro vs w4 hR hF hb
 obtain⟨g1,hg1,hz1,hl1⟩:DzR w.heap.size b (vs 11) w4:=hR 1 _ rfl
 obtain⟨g2,hg2,hz2,hl2⟩:DzR w.heap.size b (vs 13) w4:=hR 3 _ rfl
 have HNE:Hid (g1≠g2):=Lib.hid fun e=>hF 1 3 _ _ rfl rfl (by decide) rfl rfl (by show blk (vs 11)=blk (vs 13);rw[hg1,hg2,e])
 have e10:vs 10 = .int .i64 (b:Int):=hR 0 _ rfl
 have e12:vs 12 = .int .i64 (b:Int):=hR 2 _ rfl
 simp only[List.map_cons,List.map_nil,List.foldl_cons,List.foldl_nil,List.length_cons,List.length_nil,List.drop_succ_cons,List.drop_zero,Act.put,List.setIfInBounds_toArray,List.set_cons_zero,List.set_cons_succ,e10,e12,hg1,hg2]
 have Z1:=Lib.hid hz1
 have Z2:=Lib.hid hz2
 have L1:=Lib.hid hl1
 have L2:=Lib.hid hl2
 have B4:=Lib.hid hb
 clear hR hF hb hz1 hz2 hl1 hl2 hg1 hg2 e10 e12
 go_wp2_with fail
 go_ret2
 have ha:Below w4.heap.size w4 (w4.alloc (.cells #[.slice (some ⟨g1,0,none⟩) b b,.slice (some ⟨g2,0,none⟩) b b,.slice none 0 0,.int .u64 0,.int .i64 0,.int .i64 (-1),.bool false] 102)):=(Below.refl _ _).alloc (Nat.le_refl _) _
 exact⟨w4.heap.size,g1,g2,rfl,⟨CbB.new _ _ _,Z1.out.below ha Z1.out.lt,Z2.out.below ha Z2.out.lt,⟨B4.out.size,L1.out,L2.out⟩,HNE.out⟩,below_tr B4.out ha B4.out.size⟩
set_option maxRecDepth 100000 in
theorem regsNew_nil (d lim:Nat) (w:World):
 Calls Tryz.prog 46 #[.pointer (some ⟨d,0,none⟩),.int .u64 (lim:Int),.slice none 0 0] w fun e w'=>e = .returned (.tuple #[.pointer (some ⟨w.heap.size,0,none⟩),.int .i64 0])∧CbB w' w.heap.size 133 #[.pointer (some ⟨d,0,none⟩),.int .u64 (lim:Int),.int .u64 0,.int .u64 0,.slice none 0 0]∧Below w.heap.size w w':=by
 go_enter Tryz.func46,Tryz.ntmps46
 go_wp2_with fail
 go_loopw [19] (fun z wx=>z = .int .i64 0∧CbB wx w.heap.size 133 #[.pointer (some ⟨d,0,none⟩),.int .u64 (lim:Int),.int .u64 0,.int .u64 0,.slice none 0 0]∧Below w.heap.size w wx) (fun z _=>0)
 case atStart=>exact⟨rfl,CbB.new _ _ _,(Below.refl _ _).alloc (Nat.le_refl _) _⟩
 case round=>
  obtain⟨rfl,hc,hb⟩:=hrel
  have HC:=Lib.hid hc
  have HB:=Lib.hid hb
  clear hc hb
  go_wp2_with fail
  go_ret2
  exact⟨rfl,HC.out,HB.out⟩
set_option maxRecDepth 100000 in
theorem committed_any (r:Nat) (v0 v4:Value) (lim res com:Nat) (w:World) (h:CbB w r 133 #[v0,.int .u64 (lim:Int),.int .u64 (res:Int),.int .u64 (com:Int),v4]):
 Calls Tryz.prog 51 #[.pointer (some ⟨r,0,none⟩)] w fun e w'=>e = .returned (.int .u64 (com:Int))∧w=w':=by
 have hc:=h.cell (k:=3) rfl
 clear h
 go_enter Tryz.func51,Tryz.ntmps51
 go_wp2_with fail
 go_ret
 exact⟨rfl,rfl⟩
def blkL (L:List Nat) (i:Nat):List Nat:=(L.drop (i*256)).take 256
def putD (L b:List Nat) (i:Nat):List Nat:=L.take (i*256)++(b++L.drop (i*256+b.length))
theorem putD_len {L b:List Nat} {i:Nat} (hL:L.length=2048) (hi:i<8) (hb:b.length≤256):(putD L b i).length=2048:=by
 simp only[putD,List.length_append,List.length_take,List.length_drop]
 omega
theorem putD_byt {L b:List Nat} {i:Nat} (hL:Byt L) (hb:Byt b):Byt (putD L b i):=by
 intro x hx
 simp only[putD,List.mem_append] at hx
 rcases hx with hx | hx | hx
 · exact hL x (List.mem_of_mem_take hx)
 · exact hb x hx
 · exact hL x (List.mem_of_mem_drop hx)
section
variable {P:Program}
theorem run_loadSub (w:World) (x:Addr) (ty:TypeId) (cs:Array Value) (d:TypeDesc) (hc:∀j v,cs[j]? = some v→w.cell? (x.add j)=some v)
 (hu:P.underlying ty=some d) (hd:(match d with | .struct _ | .array _ _=>true | _=>false)=true) (hi:(P.info? ty).map (·.size)=some cs.size):
 (loadVar ty x).run P w = .ok (.agg cs) w:=by
 have hl:(loadCells x cs.toList.length).run P w = .ok cs.toList.toArray w:=
  run_loadCells_list (P:=P) w x cs.toList (fun j v hv=>hc j v (by simpa using hv))
 cases hq:P.info? ty with
 | none=>simp[hq] at hi
 | some i=>
   have hs:i.size=cs.size:=by simpa[hq] using hi
   have hagg:(isAgg ty).run P w = .ok true w:=by
    unfold isAgg
    rw[Sem.run_bind,run_underlying hu w]
    cases d <;> simp_all
   simp only[Array.length_toList,Array.toArray_toList] at hl
   simp[loadVar,Sem.run_bind,hagg,sizeOf,typeInfo,hq,hs,hl]
end
theorem Bk.sub {w:World} {g:Nat} {T:TypeId} {L:List Nat} (h:Bk w g T L) (i:Nat):∀(j:Nat) (v:Value),(bts (blkL L i))[j]? = some v→w.cell? ((⟨g,i*256,none⟩:Addr).add j)=some v:=fun j v hv=>by
 have hj:j<(blkL L i).length:=by rw[←bts_size];exact (Array.getElem?_eq_some_iff.1 hv).1
 rw[bts_get _ _ hj] at hv
 have h1:i*256+j<L.length:=by
  simp only[blkL,List.length_take,List.length_drop] at hj
  omega
 have h2:(blkL L i)[j]? = L[i*256+j]?:=by
  have h3:j<256:=by simp only[blkL,List.length_take] at hj;omega
  simp only[blkL,List.getElem?_take,List.getElem?_drop,if_pos h3]
 rw[Addr.add_mid,h.cell h1,←h2]
 exact hv
theorem Bk.fr {w w':World} {g:Nat} {T:TypeId} {l:List Nat} {F:Nat→Prop} (h:Bk w g T l) (hf:Fr w w' F) (hn:¬F g):Bk w' g T l:=(hf.block g h.lt hn).trans h
structure RdB (w:World) (B g:Nat) (v1 v2:Value) (b1 b2:List Nat) (st cut:Int) (down:Bool) (L:List Nat):Prop where
 box:CbB w g 120 #[v1,v2,.slice none 0 0,.int .u64 st,.int .i64 0,.int .i64 cut,.bool down]
 own1:w.ownsRow B 64 1 v1 b1.length (b1.map fun b=>.slice (some ⟨b,0,none⟩) 256 256)
 own2:w.ownsRow B 64 1 v2 b2.length (b2.map fun b=>.slice (some ⟨b,0,none⟩) 256 256)
 ne12:∀k,v1.ownBlock=some k→v2.ownBlock≠some k
 at1:∀(i b:Nat),b1[i]? = some b→B≤b∧Bk w b 5 (blkL L i)
 at2:∀(i b:Nat),b2[i]? = some b→B≤b∧∃l,Bk w b 5 l∧l.length=256
 nd:(b1++b2).Nodup
 low:B≤g
theorem RdB.fr {w w':World} {B g:Nat} {v1 v2:Value} {b1 b2:List Nat} {st cut:Int} {down:Bool} {L:List Nat} {F:Nat→Prop} (h:RdB w B g v1 v2 b1 b2 st cut down L) (hf:Fr w w' F) (hn:∀k,F k→k<B):RdB w' B g v1 v2 b1 b2 st cut down L:=by
 have hF:∀k,B≤k→¬F k:=fun k hk e=>by have:=hn k e;omega
 refine⟨h.box.fr hf (hF _ h.low),row_fr h.own1 hf (fun k hk=>hF k (own_ge9 h.own1 k hk)),row_fr h.own2 hf (fun k hk=>hF k (own_ge9 h.own2 k hk)),h.ne12,fun i b hi=>?_,fun i b hi=>?_,h.nd,h.low⟩
 · obtain⟨k1,k2⟩:=h.at1 i b hi
   exact⟨k1,k2.fr hf (hF b k1)⟩
 · obtain⟨k1,l,k2,k3⟩:=h.at2 i b hi
   exact⟨k1,l,k2.fr hf (hF b k1),k3⟩
theorem fr_cell (w:World) (g k:Nat) (v:Value):Fr w (w.setCell ⟨g,k,none⟩ v) (fun q=>q=g):=(Fr.grown (grown_cell w g k v)).imp fun q hq=>by injection hq with hq;exact hq.symm
end Go.Proofs.YtnboclhgeehdoaaGreat
