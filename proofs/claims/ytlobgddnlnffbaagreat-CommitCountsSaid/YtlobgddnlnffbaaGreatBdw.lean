/-
  Parts of the proof, joined.
-/
import Derived.Test.YtlobgddnlnffbaaGreatBdv
import Derived.Test.YtlobgddnlnffbaaGreatBdi
namespace Go.Proofs.YtlobgddnlnffbaaGreat
open Go.RowKit Go.ChangeShapes Go.WideShapes
set_option linter.unusedVariables false
set_option linter.unusedSimpArgs false
theorem secD_byt {f b:List Nat} {i j:Nat} (hf:Byt f) (hb:Byt b):Byt (secD f i b j):=fun x hx=>by
 unfold secD at hx
 rcases List.mem_append.1 hx with hx | hx
 · exact hf x (List.mem_of_mem_take hx)
 · rcases List.mem_append.1 hx with hx | hx
   · exact hb x (List.mem_of_mem_drop (List.mem_of_mem_take hx))
   · exact hf x (List.mem_of_mem_drop hx)
theorem secF_byt {f:List Nat} {x:Nat×List Nat} {m:Nat} (hf:Byt f) (hb:Byt x.2):∀j,Byt (secF f x m j)
 | 0=>hf
 | j+1=>by
   unfold secF
   split
   · exact secD_byt (secF_byt hf hb j) hb
   · exact secF_byt hf hb j
theorem crF_byt {f:List Nat} {ws:List (Nat×List Nat)} {ms:List Nat} (hf:Byt f) (hw:∀x∈ws,Byt x.2):∀k,k≤ws.length→Byt (crF f ws ms k)
 | 0,_=>hf
 | k+1,h=>by
   have hx:=hw (ws.getD k (0,[])) (by rw[List.getD_eq_getElem?_getD,List.getElem?_eq_getElem (by omega)];exact List.getElem_mem _)
   unfold crF
   exact secF_byt (crF_byt hf hw k (by omega)) hx 4
theorem crashD_ok {D:DvS} {ms:List Nat} (ok:D.Ok):(crashD D ms).Ok:=by
 have h1:=crF_len (ms:=ms) ok.firm (fun y hy=>⟨(ok.ws y hy).1,(ok.ws y hy).2.1⟩) (min D.ws.length ms.length) (Nat.min_le_left _ _)
 have h2:=crF_byt (ms:=ms) ok.bfirm (fun y hy=>(ok.ws y hy).2.2) (min D.ws.length ms.length) (Nat.min_le_left _ _)
 exact⟨ok.n8,ok.n4,h1,h1,h2,h2,fun x hx=>(by cases hx),⟨by show (-1:Int)≤-1;decide,by show (-1:Int)≤_;decide⟩,Nat.zero_le _⟩
theorem crashM {w:World} {O:Tgm} {d:Nat} {D:DvS} (mA:Option Addr) (mn mc:Nat) (ms:List Nat) (ok:D.Ok) (hws:D.ws.length≤100000) (h:DvM w O d D) (im:IsB w mA mn mc ms) (hM:0<mn→∀x,mA=some x→O x.block≠(0,1)):
 Calls Tryz.prog 30 #[.pointer (some ⟨d,0,none⟩),.slice mA mn mc] w fun e w'=>e = .returned (.int .i64 0)∧DvM w' (cutO O w.heap.size) d (crashD D ms)∧Wr (fun τ=>τ=(0,1)) w O w' (cutO O w.heap.size):=by
 obtain⟨g1,g2,wv,h1,t1,t2,t3,t4⟩:=h
 obtain⟨l1,l2,l3⟩:=h1.lt
 refine (crashS mA mn mc ms ok hws h1 im (fun h0 x hx=>⟨fun e=>hM h0 x hx (by rw[e];exact t1),fun e=>hM h0 x hx (by rw[e];exact t2),fun e=>hM h0 x hx (by rw[e];exact t3)⟩)).mono ?_
 rintro e w' ⟨rfl,h2,h3⟩
 refine⟨rfl,⟨g1,g2,_,h2,(cutO_old l1).trans t1,(cutO_old l2).trans t2,(cutO_old l3).trans t3,fun k hk=>by cases hk⟩,⟨h3.imp fun k hk=>?_,fun k hk=>cutO_old hk⟩⟩
 rcases hk with rfl | rfl | rfl
 · exact t1
 · exact t2
 · exact t3
section
variable {w:World} {B d g1 g2:Nat} {wv:Value} {D:DvS}
set_option maxRecDepth 100000 in
theorem cutS (z:Int) (h:DsB w B d g1 g2 wv D):
 Calls Tryz.prog 25 #[.pointer (some ⟨d,0,none⟩),.int .i64 z] w fun e w'=>(∃v,e = .returned v)∧DsB w' B d g1 g2 wv { D with cut:=max z (-1) }∧Fr w w' (fun k=>k=d):=by
 have c5:w.cell? ⟨d,5,none⟩=some (.int .i64 D.cut):=h.box.cell (k:=5) rfl
 have f5:=h.box.free 5
 have H:=Lib.hid h
 clear h
 go_enter Tryz.func25,Tryz.ntmps25
 go_wp2_with fail
 first
  | ((try simp only[Exit.inBlock,Exit.then]);refine bodyPost_ret (results_none rfl _ _ _) rfl ?_)
  | ((try simp only[Exit.inBlock,Exit.then]);refine bodyPost_end (results_none rfl _ _ _) rfl ?_)
 exact⟨⟨_,rfl⟩,H.out.upd (fr_setD _ _ _ _) (H.out.box.set 5 _) rfl rfl rfl,fr_setD _ _ _ _⟩
end
theorem cutM {w:World} {O:Tgm} {d:Nat} {D:DvS} (z:Int) (h:DvM w O d D):
 Calls Tryz.prog 25 #[.pointer (some ⟨d,0,none⟩),.int .i64 z] w fun e w'=>(∃v,e = .returned v)∧DvM w' (cutO O w.heap.size) d { D with cut:=max z (-1) }∧Wr (fun τ=>τ=(0,1)) w O w' (cutO O w.heap.size):=by
 obtain⟨g1,g2,wv,h1,t1,t2,t3,t4⟩:=h
 obtain⟨l1,l2,l3⟩:=h1.lt
 refine (cutS z h1).mono ?_
 rintro e w' ⟨hv,h2,h3⟩
 exact⟨hv,⟨g1,g2,wv,h2,(cutO_old l1).trans t1,(cutO_old l2).trans t2,(cutO_old l3).trans t3,fun k hk=>(cutO_old (row_ltD h1.row k hk)).trans (t4 k hk)⟩,⟨h3.imp fun k hk=>by rw[hk];exact t1,fun k hk=>cutO_old hk⟩⟩
open Go.RowKit
section
variable {P:Program} {Q:Exit→Act→World→Prop}
def freeLB (ops:Array Oper) (li:Nat):Bool:=match ops[li]? with
 | none=>false
 | some oi=>(List.range ops.size).all fun j=>j==li||Region.waitsFor .any ops li j||match ops[j]? with
   | some oj=>oj.after.any (fun e=>Region.binds .any e&&e.on==li)||oi.apart ops oj
   | none=>true
theorem freeL {ops:Array Oper} {li:Nat} {ol:Oper} {listed:Array Bool} (ho:ops[li]? = some ol) (h:freeLB ops li=true) (hr:li∈Region.ready .any ops listed):Region.free .any ops listed li=true:=by
 unfold freeLB at h
 unfold Region.free
 rw[ho] at h⊢
 simp only[List.all_eq_true] at h⊢
 intro j hj
 have h1:=h j hj
 rw[Bool.or_eq_true,Bool.or_eq_true] at h1
 rw[Bool.or_eq_true,Bool.or_eq_true]
 rcases h1 with (h1 | h1) | h1
 · exact .inl (.inl h1)
 · obtain⟨_,oi,hoi,hall⟩:=mem_ready.1 hr
   obtain⟨oj,hoj,e,he,hb,hon⟩:=Region.waitsFor_spec h1
   have:oj=oi:=Option.some.inj (hoj.symm.trans hoi)
   subst this
   have h3:=hall e he hb
   rw[hon] at h3
   refine .inl (.inr ?_)
   cases hq:listed.getD j true with
   | true=>rfl
   | false=>rw[getD_both hq] at h3;cases h3
 · exact .inr h1
end
section
variable {P:Program} {Q:Exit→Act→World→Prop}
def sinkMB (ops:Array Oper) (n:Nat) (ls:List Nat):Bool:=
 (List.range n).all fun i=>ls.contains i||(List.range (n+1)).any fun j=>decide (i<j) && !ls.contains j&&Region.waitsFor .any ops j i
theorem tail_waitsM {ops:Array Oper} {n:Nat} {ls:List Nat} {listed:Array Bool} (hs:sinkMB ops n ls=true) (hc:Region.chainB .any ops n=true) (hn:n<ops.size) (inv:HeadInv .any ops n listed):
 ∀(d i:Nat),n-i=d→i<n→ls.contains i=false→listed.getD i true=false→∀t,n≤t→t∉Region.ready .any ops listed:=by
 intro d
 induction d using Nat.strongRecOn with
 | _ d ih=>
   intro i hd hi hil hun t ht hr
   obtain⟨_,ot,hot,hall⟩:=mem_ready.1 hr
   have htlt:t<ops.size:=(Array.getElem?_eq_some_iff.1 hot).1
   by_cases htn:t=n
   · subst htn
     have h1:=List.all_eq_true.1 hs i (List.mem_range.2 hi)
     rw[hil,Bool.false_or] at h1
     obtain⟨j,hj,h2⟩:=List.any_eq_true.1 h1
     simp only[Bool.and_eq_true,decide_eq_true_eq,Bool.not_eq_true'] at h2
     obtain⟨oj,hoj,e,he,hb,hon⟩:=Region.waitsFor_spec h2.2
     have hjl:j≤t:=by have:=List.mem_range.1 hj;omega
     by_cases hjt:j=t
     · subst hjt
       have:oj=ot:=Option.some.inj (hoj.symm.trans hot)
       subst this
       have h3:=hall e he hb
       rw[hon] at h3
       rw[getD_both hun] at h3
       cases h3
     · have hju:listed.getD j true=false:=by
        have hjs:j<listed.size:=by rw[inv.size];omega
        refine getD_in hjs ?_
        cases hlj:listed.getD j false with
        | false=>rfl
        | true=>
          have h3:=inv.closed j oj hoj hlj e he hb
          rw[hon,getD_both hun] at h3
          cases h3
       exact ih (t-j) (by omega) j rfl (by omega) h2.1.2 hju t (Nat.le_refl _) hr
   · have h1:=List.all_eq_true.1 hc t (List.mem_range.2 htlt)
     simp only[Bool.or_eq_true,decide_eq_true_eq] at h1
     rcases h1 with h1 | hw
     · omega
     · obtain⟨oj,hoj,e,he,hb,hon⟩:=Region.waitsFor_spec hw
       have:oj=ot:=Option.some.inj (hoj.symm.trans hot)
       subst this
       have h3:=hall e he hb
       rw[hon] at h3
       have h4:=inv.tail (t-1) (by omega) (by omega)
       rw[getD_both h4] at h3
       cases h3
def wideMB (ops:Array Oper) (n:Nat) (deps:Array (List Nat)) (ls:List Nat):Bool:=
 decide (n<ops.size)&&sinkMB ops n ls&&Region.chainB .any ops n&&Region.seqB .any ops (ops.size-n) n (allL ops.size n)&&Region.noSelect ops&&ls.all (freeLB ops) &&
  (List.range n).all (fun j=>(deps.getD j []).all fun d=>decide (d<n)&&Region.waitsFor .any ops j d) &&
  (List.range n).all (fun j=>match ops[j]? with
    | some o=>o.after.toList.all fun e=>!Region.binds .any e||decide (e.on<j)
    | none=>false)
structure WideM (ops:Array Oper) (n:Nat) (deps:Array (List Nat)) (ls:List Nat):Prop where
 lt:n<ops.size
 sink:sinkMB ops n ls=true
 chain:Region.chainB .any ops n=true
 seq:Region.seqB .any ops (ops.size-n) n (allL ops.size n)=true
 nosel:Region.noSelect ops=true
 free:ls.all (freeLB ops)=true
 dep:∀j,j<n→∀d∈deps.getD j [],d<n∧Region.waitsFor .any ops j d=true
 low:∀j,j<n→∃o,ops[j]? = some o∧∀e∈o.after,Region.binds .any e=true→e.on<j
theorem wideM_of {ops:Array Oper} {n:Nat} {ls:List Nat} {deps:Array (List Nat)} (h:wideMB ops n deps ls=true):WideM ops n deps ls:=by
 simp only[wideMB,Bool.and_eq_true,decide_eq_true_eq] at h
 obtain⟨⟨⟨⟨⟨⟨⟨h1,h2⟩,h3⟩,h4⟩,h7⟩,h8⟩,h5⟩,h6⟩:=h
 simp only[Bool.and_eq_true,decide_eq_true_eq,List.all_eq_true,List.mem_range] at h5 h6
 refine⟨h1,h2,h3,h4,h7,h8,fun j hj d hd=>h5 j hj d hd,fun j hj=>?_⟩
 have:=h6 j hj
 cases ho:ops[j]? with
 | none=>rw[ho] at this;cases this
 | some o=>
   rw[ho] at this
   refine⟨o,rfl,fun e he hb=>?_⟩
   simp only[List.all_eq_true] at this
   have:=this e (by simpa using he)
   simpa[hb] using this
theorem wide5M_any {l:List Oper} {hs:List Head} {a0:Act} {w0:World} {g:Nat} {ls:List Nat} {F:Nat→Nat→Prop} (hW:wideMB l.toArray hs.length (hs.map (·.deps)).toArray ls=true) (hQ:∀c a v d w,Q (.panic c) (a.put d v) w→Q (.panic c) a w) (hlp:∀li∈ls,∀(hl0:Head) (ol:Oper),hs[li]? = some hl0→l[li]? = some ol→ol.guard=none∧∀a W,Agree (hs.map (·.dst)) a0 a→Fr w0 W (othF F li)→(∀j∈hl0.deps,∀(hj:Head),hs[j]? = some hj→hj.R (a.eval (.tmp hj.dst)) W)→∃v,(∀w,(execOp a.eval ol).run P w = .ok (.value v) w)∧hl0.R v W) (hg:(l.drop hs.length).length=g)
 (hdst:∀(i:Nat) (h:Head) (o:Oper),hs[i]? = some h→l[i]? = some o→o.dst=some h.dst) (hlen:hs.length≤l.length) (hin:∀h∈hs,h.dst<a0.tmps.size) (hdis:(hs.map (·.dst)).Nodup)
 (hm:∀(i:Nat) (h:Head),hs[i]? = some h→MonoF (othF F i) h.R)
 (hy:∀(i:Nat) (h:Head) (o:Oper),hs[i]? = some h→l[i]? = some o→∀a W,Agree (hs.map (·.dst)) a0 a→Fr w0 W (othF F i)→(∀j∈h.deps,∀(hj:Head),hs[j]? = some hj→hj.R (a.eval (.tmp hj.dst)) W)→Takes5 P l.toArray o a W (F i) h.R)
 (hk:∀a W,Agree (hs.map (·.dst)) a0 a→Fr w0 W (allF F)→(∀(i:Nat) (h:Head),hs[i]? = some h→h.R (a.eval (.tmp h.dst)) W)→wpList P l.toArray Q (l.drop hs.length) a W):
 ∀(f:Nat) (listed:Array Bool) (a:Act) (W:World),HeadInv .any l.toArray hs.length listed→unl listed hs.length=f→Inv5 hs a0 w0 F listed a W→wpAny P .any l.toArray Q (f+g) listed a W
 | 0,listed,a,W,inv,hu,hI=>by
   have hWd:=wideM_of hW
   have hall:=unl_zero _ hu
   rw[Nat.zero_add]
   have hsq:=hWd.seq
   rw[←all_listed inv hWd.lt hall,show l.toArray.size-hs.length=g by rw[←hg];simp] at hsq
   have:=wpAny_of_seq (md:=.any) (Q':=Q) (P:=P) (l.drop hs.length) hs.length listed a W (fun j=>by simp[List.getElem?_drop]) (by rw[hg];exact hsq) (hk a W hI.1 hI.2.1 (fun i h hi=>hI.2.2.2 i h hi (hall i (lt_of_some hi))))
   rwa [hg] at this
 | f + 1, listed,a,W,inv,hu,hI=>by
   have hWd:=wideM_of hW
   obtain⟨i0,hi0,hun0,hlow0⟩:=unl_pos (listed:=listed) hs.length (by omega)
   have hsz:=inv.size
   have hun0':listed.getD i0 true=false:=getD_in (by have:=hWd.lt;omega) hun0
   rw[show f+1+g=(f+g)+1 by omega]
   have hne:i0∈Region.ready .any l.toArray listed:=by
    obtain⟨o,ho,hb⟩:=hWd.low i0 hi0
    exact mem_ready.2 ⟨hun0',o,ho,fun e he hbd=>hlow0 _ (hb e he hbd)⟩
   have step:∀i,i∈Region.ready .any l.toArray listed→i<hs.length→(∀h o,hs[i]? = some h→l[i]? = some o→(∀j∈h.deps,∀(hj:Head),hs[j]? = some hj→hj.R (a.eval (.tmp hj.dst)) W)∧listed.getD i false=false∧∀v W',h.R v W'→Fr W W' (F i)→wpAny P .any l.toArray Q (f+g) (listed.setIfInBounds i true) (a.put (some h.dst) v) W'):=fun i hi hin2=>by
    intro h o hh ho
    have hdep:∀d∈((hs.map (·.deps)).toArray.getD i []),listed.getD d false=true:=fun d hd=>by
     obtain⟨_,oi,hoi,hall⟩:=mem_ready.1 hi
     obtain⟨oj,hoj,e,he,hb,hon⟩:=Region.waitsFor_spec (hWd.dep i hin2 d hd).2
     have:oj=oi:=Option.some.inj (hoj.symm.trans hoi)
     subst this
     rw[←hon]
     exact hall e he hb
    have hrec:unl (listed.setIfInBounds i true) hs.length=f:=by
     have:=unl_set (listed:=listed) (i:=i) (by have:=hWd.lt;omega) (getD_both (mem_ready.1 hi).1) hs.length hin2
     omega
    have hiun:listed.getD i false=false:=getD_both (mem_ready.1 hi).1
    have hd:=hdst i h o hh ho
    have hmem:h∈hs:=List.mem_of_getElem? hh
    have hdep2:∀j∈h.deps,∀(hj:Head),hs[j]? = some hj→hj.R (a.eval (.tmp hj.dst)) W:=fun j hj hj' hjj=>by
     have hd1:((hs.map (·.deps)).toArray.getD i [])=h.deps:=by simp[hh]
     exact hI.2.2.2 j hj' hjj (hdep j (by rw[hd1];exact hj))
    have hself:∀v,(a.put (some h.dst) v).eval (.tmp h.dst)=v:=fun v=>by
     have hs1:h.dst<a.tmps.size:=by rw[hI.1.2.1];exact hin h hmem
     simp[Act.put,Act.eval,hs1]
    have hoth:∀v (j:Nat) (hj:Head),hs[j]? = some hj→j≠i→(a.put (some h.dst) v).eval (.tmp hj.dst)=a.eval (.tmp hj.dst):=fun v j hj hjj hij=>by
     refine eval_put_ne (fun e=>hij ?_) _ _
     have hjl:=lt_of_some hjj
     have e1:(hs.map (·.dst))[j]'(by simpa using hjl)=(hs.map (·.dst))[i]'(by simpa using hin2):=by
      rw[List.getElem?_eq_getElem hjl] at hjj
      rw[List.getElem?_eq_getElem hin2] at hh
      injection hjj with hjj
      injection hh with hh
      simp only[List.getElem_map,hjj,hh]
      exact e.symm
     exact (List.getElem_inj hdis).1 e1
    have hlis:∀(j:Nat),j≠i→(listed.setIfInBounds i true).getD j false=listed.getD j false:=fun j hij=>by
     rw[Array.getD_eq_getD_getElem?,Array.getElem?_setIfInBounds_ne (Ne.symm hij),Array.getD_eq_getD_getElem?]
    have key:∀v W',h.R v W'→Fr W W' (F i)→wpAny P .any l.toArray Q (f+g) (listed.setIfInBounds i true) (a.put (some h.dst) v) W':=fun v W' hR hfr=>by
     refine wide5M_any hW hQ hlp hg hdst hlen hin hdis hm hy hk f _ _ _ (inv.set hi hin2) hrec ⟨hI.1.put (List.mem_map.2 ⟨h,hmem,rfl⟩) v,hI.2.1.tr (hfr.imp fun k hk=>⟨i,hk⟩),fun j hj=>?_,fun j hj hjj hlj=>?_⟩
     · have hji:j≠i:=fun e=>by
        subst e
        rw[Array.getD_eq_getD_getElem?,Array.getElem?_setIfInBounds_self_of_lt (by have:=hWd.lt;omega)] at hj
        cases hj
       rw[hlis j hji] at hj
       exact (hI.2.2.1 j hj).tr (hfr.imp fun k hk=>⟨i,Ne.symm hji,hk⟩)
     · by_cases hij:j=i
       · subst hij
         rw[hh] at hjj
         injection hjj with hjj
         subst hjj
         rw[hself]
         exact hR
       · rw[hoth v j hj hjj hij]
         rw[hlis j hij] at hlj
         exact hm j hj hjj _ _ _ (hI.2.2.2 j hj hjj hlj) (hfr.imp fun k hk=>⟨i,Ne.symm hij,hk⟩)
    exact⟨hdep2,hiun,key⟩
   cases hi0l:ls.contains i0 with
   | true=>
     have hm0:i0∈ls:=by simpa using hi0l
     obtain⟨hl0,hlh⟩:∃h,hs[i0]? = some h:=⟨_,List.getElem?_eq_getElem hi0⟩
     obtain⟨ol,hlo⟩:∃o,l[i0]? = some o:=⟨_,List.getElem?_eq_getElem (by omega)⟩
     have hoi:l.toArray[i0]? = some ol:=by simpa using hlo
     obtain⟨hdp,hun,hkey⟩:=step i0 hne hi0 hl0 ol hlh hlo
     obtain⟨hgd,hpv⟩:=hlp i0 hm0 hl0 ol hlh hlo
     obtain⟨v,hv,hR⟩:=hpv a W hI.1 (hI.2.2.1 i0 hun) hdp
     refine wpAny_take hoi hWd.nosel (freeL hoi (List.all_eq_true.1 hWd.free i0 hm0) hne) (by simpa using hne) (fun c a w=>hQ c a v ol.dst w) (.inl ⟨by simp[Region.wanted,hgd],hv⟩) ?_
     rw[hdst i0 hl0 ol hlh hlo]
     exact hkey v W hR (Fr.of (Below.refl _ _) _)
   | false=>
     refine⟨fun e=>(by rw[e] at hne;cases hne),fun i hi=>?_⟩
     have hin2:i<hs.length:=by
      rcases Nat.lt_or_ge i hs.length with h | h
      · exact h
      · exact absurd hi (tail_waitsM hWd.sink hWd.chain hWd.lt inv _ i0 rfl hi0 hi0l hun0' i h)
     have hil:i<l.length:=by omega
     obtain⟨h,hh⟩:∃h,hs[i]? = some h:=⟨_,List.getElem?_eq_getElem hin2⟩
     obtain⟨o,ho⟩:∃o,l[i]? = some o:=⟨_,List.getElem?_eq_getElem hil⟩
     obtain⟨hdep2,hiun,key⟩:=step i hi hin2 h o hh ho
     have hd:=hdst i h o hh ho
     unfold wpOp
     rw[show l.toArray[i]? = some o by simpa using ho]
     simp only
     rcases hy i h o hh ho a W hI.1 (hI.2.2.1 i hiun) hdep2 with ⟨hwt,hyl⟩ | ⟨hwt,hR⟩
     · rw[if_pos hwt]
       refine .inl ?_
       unfold Oper.wp
       rcases hyl with ⟨v,W',hr,hR,hb⟩ | ⟨fn,args,hr,hc⟩
       · rw[hr]
         simp only[Oper.upon,hd]
         exact key v W' hR hb
       · rw[hr]
         simp only[Oper.upon,hd]
         exact hc.mono fun e W' ⟨v,he,hR,hb⟩=>by subst he;exact key v W' hR hb
     · rw[if_neg (by rw[hwt];exact Bool.false_ne_true)]
       rw[hd]
       exact key undef W hR (Fr.of (Below.refl _ _) _)
theorem wp_wide5L {id:Nat} {a0:Act} {w0:World} {l:List Oper} (F:Nat→Nat→Prop) (hs:List Head) (ls:List Nat) (hQ:∀c a v d w,Q (.panic c) (a.put d v) w→Q (.panic c) a w) (hlp:∀li∈ls,∀(hl0:Head) (ol:Oper),hs[li]? = some hl0→l[li]? = some ol→ol.guard=none∧∀a W,Agree (hs.map (·.dst)) a0 a→Fr w0 W (othF F li)→(∀j∈hl0.deps,∀(hj:Head),hs[j]? = some hj→hj.R (a.eval (.tmp hj.dst)) W)→∃v,(∀w,(execOp a.eval ol).run P w = .ok (.value v) w)∧hl0.R v W) (hmx:P.follows .mixedOrders=true)
 (hB:wideMB l.toArray hs.length (hs.map (·.deps)).toArray ls=true)
 (hlen:decide (hs.length≤l.length)=true) (hin:(hs.map (·.dst)).all (fun d=>decide (d<a0.tmps.size))=true) (hdis:decide ((hs.map (·.dst)).Nodup)=true)
 (hok:All5 (Head.ok5 P l.toArray hs a0 w0 F) 0 hs l)
 (hk:∀(vs:Tmp→Value) W,(∀(i:Nat) (h:Head),hs[i]? = some h→h.R (vs h.dst) W)→Fr w0 W (allF F)→wpList P l.toArray Q (l.drop hs.length) ((hs.map (·.dst)).foldl (fun x d=>x.put (some d) (vs d)) a0) W):
 (Code.region id l.toArray true).wp P Q a0 w0:=by
 have hlen':=of_decide_eq_true hlen
 have hat:∀(i:Nat) (h:Head) (o:Oper),hs[i]? = some h→l[i]? = some o→Head.ok5 P l.toArray hs a0 w0 F i h o:=fun i h o hi ho=>by
  have:=hok.at i h o hi ho
  rwa [Nat.zero_add] at this
 have hunl:∀n,unl (Array.replicate l.toArray.size false) n=n:=fun n=>by
  induction n with
  | zero=>rfl
  | succ n ih=>rw[unl,ih,getD_replicate_false];simp
 refine wp_region_any hmx ?_
 have hinv:HeadInv .any l.toArray hs.length (Array.replicate l.toArray.size false):=⟨by simp,fun j oj hj hl=>(by rw[getD_replicate_false] at hl;cases hl),fun t ht ht'=>getD_in (by simpa using ht') (getD_replicate_false _ _)⟩
 have h1:=wide5M_any (ls:=ls) (P:=P) (Q:=Q) (l:=l) (hs:=hs) (a0:=a0) (w0:=w0) (g:=l.length-hs.length) (F:=F) hB hQ hlp (by simp)
  (fun i h o hi ho=>(hat i h o hi ho).1) hlen'
  (fun h hh=>by
    have:=List.all_eq_true.1 hin h.dst (List.mem_map.2 ⟨h,hh,rfl⟩)
    exact of_decide_eq_true this) (of_decide_eq_true hdis)
  (fun i h hi=>by
    have hil:=lt_of_some hi
    exact (hat i h _ hi (List.getElem?_eq_getElem (by omega))).2.1)
  (fun i h o hi ho=>(hat i h o hi ho).2.2)
  (fun a W hA hgr hR=>by
    have:=hk (fun d=>a.eval (.tmp d)) W hR hgr
    rw[←Agree.rebuild _ _ hA] at this
    exact this) hs.length (Array.replicate l.toArray.size false) a0 { w0 with drawn:=w0.drawn+1 } hinv (hunl _)
  ⟨Agree.refl _ _,Fr.of (Below.refl _ w0).drew _,fun j _=>Fr.of (Below.refl _ w0).drew _,fun i h hi hl=>(by rw[getD_replicate_false] at hl;cases hl)⟩
 have hsz:l.toArray.size=hs.length+(l.length-hs.length):=by rw[List.size_toArray];omega
 have e:wpAny P .any l.toArray Q l.toArray.size=wpAny P .any l.toArray Q (hs.length+(l.length-hs.length)):=congrArg _ hsz
 rw[e]
 exact h1
end
end Go.Proofs.YtlobgddnlnffbaaGreat
