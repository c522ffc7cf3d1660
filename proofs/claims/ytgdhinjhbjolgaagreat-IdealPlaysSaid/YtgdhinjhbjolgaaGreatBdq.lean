/-
  Parts of the proof, joined.
-/
import Derived.Test.YtgdhinjhbjolgaaGreatBdk
import Derived.Test.YtgdhinjhbjolgaaGreatBda
import Derived.Test.YtgdhinjhbjolgaaGreatBdb
namespace Go.Proofs.YtgdhinjhbjolgaaGreat
set_option maxHeartbeats 4000000
open Go.RowKit
def sumQ (zs:List Int):Int:=(zs.map (fun q=>4*q+2)).sum
def allQ (zs:List Int):Bool:=zs.all quotaB
theorem sumQ_take_succ (zs:List Int) (k:Nat) (h:k<zs.length):sumQ (zs.take (k+1))=sumQ (zs.take k)+(4*zs[k]?.getD 0+2):=by
 rw[List.take_succ_eq_append_getElem h,List.getElem?_eq_getElem h]
 simp only[sumQ,List.map_append,List.sum_append,List.map_cons,List.map_nil,List.sum_cons,List.sum_nil,Option.getD_some]
 omega
theorem allQ_take_succ (zs:List Int) (k:Nat) (h:k<zs.length):allQ (zs.take (k+1))=(allQ (zs.take k)&&quotaB (zs[k]?.getD 0)):=by
 rw[List.take_succ_eq_append_getElem h,List.getElem?_eq_getElem h]
 simp only[allQ,List.all_append,List.all_cons,List.all_nil,Option.getD_some,Bool.and_true]
theorem sumQ_bd:∀(zs:List Int),allQ zs=true→0≤sumQ zs∧sumQ zs≤4002*zs.length
 | [],_=>by simp[sumQ]
 | z::zs,h=>by
   simp only[allQ,List.all_cons,Bool.and_eq_true] at h
   have h2:=sumQ_bd zs h.2
   have h1:=h.1
   simp only[quotaB,Bool.and_eq_true,decide_eq_true_eq] at h1
   simp only[sumQ,List.map_cons,List.sum_cons,List.length_cons] at h2⊢
   omega
theorem allQ_not (zs:List Int) (k:Nat) (h:k<zs.length) (hq:quotaB (zs[k]?.getD 0)=false):allQ zs=false:=by
 cases hh:allQ zs
 · rfl
 · exfalso
   have:=(List.all_eq_true.1 hh) zs[k] (List.getElem_mem h)
   rw[List.getElem?_eq_getElem h] at hq
   simp[this] at hq
def SumEnd (zs:List Int) (e:Ending):Prop:=e=if allQ zs then .returned (.tuple #[.int .i64 (sumQ zs),.int .i64 0]) else .returned (.tuple #[.int .i64 0,.int .i64 2])
theorem sumEnd_ok {zs:List Int} (h:allQ zs=true) {n:Int} (hn:n=sumQ zs):SumEnd zs (.returned (.tuple #[.int .i64 n,.int .i64 0])):=by simp[SumEnd,h,hn]
theorem sumEnd_bad {zs:List Int} (h:allQ zs=false):SumEnd zs (.returned (.tuple #[.int .i64 0,.int .i64 2])):=by simp[SumEnd,h]
theorem sumR_any (A:Option Addr) (n c:Nat) (zs:List Int) (w:World) (h:IsRow .i64 w A n c zs) (hn:n≤64):
 Calls Tryz.prog 100 #[.slice A n c,.func (.func 101) #[] #[]] w fun e w'=>SumEnd zs e∧w=w':=by
 obtain⟨hl,hnc,hcm,hwf,hcell⟩:=h
 have hcm':c≤9223372036854775807:=hcm
 clear hcm
 go_enter Tryz.func100,Tryz.ntmps100
 go_wp2
 go_loop [6,13] (fun s i=>∃k:Nat,k≤n∧allQ (zs.take k)=true∧i = .int .i64 k∧s = .int .i64 (sumQ (zs.take k))) (fun _ i=>n-(intOf i).toNat)
 case atStart=>exact⟨0,Nat.zero_le _,by simp[allQ],rfl,by simp[sumQ]⟩
 case round=>
  obtain⟨k,hk,hq,rfl,rfl⟩:=hrel
  have hbd:=sumQ_bd _ hq
  have hkl:(zs.take k).length=k:=by simp;omega
  rw[hkl] at hbd
  clear hkl
  by_cases hlt:k<n
  · obtain⟨x,rfl,-,hc⟩:∃x,A=some x∧True∧∀i,i<n→w.cell? (x.add i)=some (.int .i64 (zs.getD i 0)):=by
     rcases hcell with ⟨_,h0⟩ | ⟨x,h1,_,h2⟩
     · omega
     · exact⟨x,h1,trivial,h2⟩
    have hck:=hc k hlt
    clear hcell hc
    have hs:=sumQ_take_succ zs k (by omega)
    have ha:=allQ_take_succ zs k (by omega)
    have HN:=fun hq'=>allQ_not zs k (by omega) hq'
    have e0:zs.getD k 0=zs[k]?.getD 0:=by simp[List.getD]
    rw[e0] at hck
    clear e0
    generalize zs[k]?.getD 0=q at hck hs ha HN
    have HS:=zz hs
    have HA:=zz ha
    have HNN:=zz HN
    have HQ:=zz hq
    clear hs ha HN hq
    rcases three q 1 1000 with h1 | ⟨h0,h1⟩ | ⟨h0,h1,h2⟩
    · go_wp2_with (go_at_call 101;refine (qR_bad _ _ (by omega)).mono ?_;rintro e w' ⟨rfl,rfl⟩)
      go_ret2
      exact⟨sumEnd_bad (HNN.out (quotaB_no (by omega))),rfl⟩
    · go_wp2_with (go_at_call 101;refine (qR_bad _ _ (by omega)).mono ?_;rintro e w' ⟨rfl,rfl⟩)
      go_ret2
      exact⟨sumEnd_bad (HNN.out (quotaB_no (by omega))),rfl⟩
    · go_wp2_with (go_at_call 101;refine (qR_ok _ _ (by omega) (by omega)).mono ?_;rintro e w' ⟨rfl,rfl⟩)
      go_round
      case rel=>exact⟨k+1,by omega,by rw[HA.out,HQ.out,quotaB_yes (by omega) (by omega)];rfl,by go_num,by rw[HS.out]⟩
      case measure=>simp[intOf];omega
  · have HQ:=zz hq
    clear hq
    go_wp2
    go_ret2
    have e1:zs.take k=zs:=List.take_of_length_le (by omega)
    rw[e1] at HQ
    exact⟨sumEnd_ok HQ.out (by rw[e1]),rfl⟩
def FitsEnd (blocks:Int) (zs:List Int) (e:Ending):Prop:=
 e=if zs.length≤64∧allQ zs=true then .returned (.tuple #[.bool (decide (8*(zs.length:Int)+4+sumQ zs≤blocks)),.int .i64 0]) else .returned (.tuple #[.bool false,.int .i64 2])
theorem fitsEnd_ok {zs:List Int} {blocks:Int} (h0:zs.length≤64) (h:allQ zs=true) {b:Bool} (hn:b=decide (8*(zs.length:Int)+4+sumQ zs≤blocks)):FitsEnd blocks zs (.returned (.tuple #[.bool b,.int .i64 0])):=by simp[FitsEnd,h,hn,h0]
theorem fitsEnd_bad {zs:List Int} {blocks:Int} (h:zs.length≤64→allQ zs=false):FitsEnd blocks zs (.returned (.tuple #[.bool false,.int .i64 2])):=by
 unfold FitsEnd
 rw[if_neg]
 rintro ⟨h1,h2⟩
 rw[h h1] at h2
 cases h2
theorem qFits_any (blocks:Int) (A:Option Addr) (n c:Nat) (zs:List Int) (w:World) (h:IsRow .i64 w A n c zs):
 Calls Tryz.prog 69 #[.int .i64 blocks,.slice A n c] w fun e w'=>FitsEnd blocks zs e∧w=w':=by
 have hl:=h.1
 by_cases hn:n≤64
 · have H:=zz h
   have HL:=zz hl
   clear h hl
   cases hq:allQ zs
   · have HQ:=zz hq
     clear hq
     go_enter Tryz.func69,Tryz.ntmps69
     go_wp2_with fail
     refine (qD_ok _ _ (by omega) (by omega)).mono ?_;rintro e w' ⟨rfl,rfl⟩
     go_wp2_with fail
     refine (sumR_any _ _ _ zs _ H.out hn).mono ?_;rintro e w' ⟨he,rfl⟩
     unfold SumEnd at he
     rw[HQ.out] at he
     subst he
     go_wp2
     go_ret2
     exact⟨fitsEnd_bad (fun _=>HQ.out),rfl⟩
   · have hbd:=sumQ_bd zs hq
     rw[HL.out] at hbd
     have HQ:=zz hq
     clear hq
     go_enter Tryz.func69,Tryz.ntmps69
     go_wp2_with fail
     refine (qD_ok _ _ (by omega) (by omega)).mono ?_;rintro e w' ⟨rfl,rfl⟩
     go_wp2_with fail
     refine (sumR_any _ _ _ zs _ H.out hn).mono ?_;rintro e w' ⟨he,rfl⟩
     unfold SumEnd at he
     rw[HQ.out] at he
     subst he
     go_wp2
     go_ret2
     exact⟨fitsEnd_ok (by rw[HL.out];exact hn) HQ.out (by rw[HL.out]),rfl⟩
 · go_enter Tryz.func69,Tryz.ntmps69
   go_wp2_with fail
   refine (qD_bad _ _ (by omega)).mono ?_;rintro e w' ⟨rfl,rfl⟩
   go_wp2
   go_ret2
   exact⟨fitsEnd_bad (fun h'=>absurd h' (by rw[hl];exact hn)),rfl⟩
theorem rFits_any (blocks:Int) (A:Option Addr) (n c:Nat) (zs:List Int) (w:World) (h:IsRow .i64 w A n c zs):
 Calls Tryz.prog 54 #[.int .i64 blocks,.slice A n c] w fun e w'=>FitsEnd blocks zs e∧w=w':=by
 obtain⟨hl,hnc,hcm,hwf,hcell⟩:=h
 have hcm':c≤9223372036854775807:=hcm
 clear hcm
 by_cases hn:n≤64
 · go_enter Tryz.func54,Tryz.ntmps54
   go_wp2
   go_loop [6,7] (fun s i=>∃k:Nat,k≤n∧allQ (zs.take k)=true∧i = .int .i64 k∧s = .int .i64 (8*n+4+sumQ (zs.take k))) (fun _ i=>n-(intOf i).toNat)
   case atStart=>exact⟨0,Nat.zero_le _,by simp[allQ],rfl,by simp[sumQ]⟩
   case round=>
    obtain⟨k,hk,hq,rfl,rfl⟩:=hrel
    have hbd:=sumQ_bd _ hq
    have hkl:(zs.take k).length=k:=by simp;omega
    rw[hkl] at hbd
    clear hkl
    by_cases hlt:k<n
    · obtain⟨x,rfl,-,hc⟩:∃x,A=some x∧True∧∀i,i<n→w.cell? (x.add i)=some (.int .i64 (zs.getD i 0)):=by
       rcases hcell with ⟨_,h0⟩ | ⟨x,h1,_,h2⟩
       · omega
       · exact⟨x,h1,trivial,h2⟩
      have hck:=hc k hlt
      clear hcell hc
      have hs:=sumQ_take_succ zs k (by omega)
      have ha:=allQ_take_succ zs k (by omega)
      have HN:=fun hq'=>allQ_not zs k (by omega) hq'
      have e0:zs.getD k 0=zs[k]?.getD 0:=by simp[List.getD]
      rw[e0] at hck
      clear e0
      generalize zs[k]?.getD 0=q at hck hs ha HN
      have HS:=zz hs
      have HA:=zz ha
      have HNN:=zz HN
      have HQ:=zz hq
      clear hs ha HN hq
      rcases three q 1 1000 with h1 | ⟨h0,h1⟩ | ⟨h0,h1,h2⟩
      · go_wp2_with (go_at_call 53;refine (rQuota_bad _ _ (by omega)).mono ?_;rintro e w' ⟨rfl,rfl⟩)
        go_ret2
        exact⟨fitsEnd_bad (fun _=>HNN.out (quotaB_no (by omega))),rfl⟩
      · go_wp2_with (go_at_call 53;refine (rQuota_bad _ _ (by omega)).mono ?_;rintro e w' ⟨rfl,rfl⟩)
        go_ret2
        exact⟨fitsEnd_bad (fun _=>HNN.out (quotaB_no (by omega))),rfl⟩
      · go_wp2_with (go_at_call 53;refine (rQuota_ok _ _ (by omega) (by omega)).mono ?_;rintro e w' ⟨rfl,rfl⟩)
        go_round
        case rel=>exact⟨k+1,by omega,by rw[HA.out,HQ.out,quotaB_yes (by omega) (by omega)];rfl,by go_num,by rw[HS.out];go_num⟩
        case measure=>simp[intOf];omega
    · have HQ:=zz hq
      clear hq
      go_wp2
      go_ret2
      have e1:zs.take k=zs:=List.take_of_length_le (by omega)
      rw[e1] at HQ
      exact⟨fitsEnd_ok (by omega) HQ.out (by rw[e1,hl]),rfl⟩
 · go_enter Tryz.func54,Tryz.ntmps54
   go_wp2
   go_ret2
   exact⟨fitsEnd_bad (fun h'=>absurd h' (by rw[hl];exact hn)),rfl⟩
set_option linter.unusedVariables false
section
variable {P:Program} {Q:Exit→Act→World→Prop}
theorem wideD_any {l:List Oper} {hs:List Head} {a0:Act} {w0:World} {g:Nat} (hW:wideB l.toArray hs.length (hs.map (·.deps)).toArray=true) (hg:(l.drop hs.length).length=g)
 (hdst:∀(i:Nat) (h:Head) (o:Oper),hs[i]? = some h→l[i]? = some o→o.dst=some h.dst) (hlen:hs.length≤l.length) (hin:∀h∈hs,h.dst<a0.tmps.size) (hdis:(hs.map (·.dst)).Nodup)
 (hm:∀h∈hs,Mono h.R)
 (hy:∀(i:Nat) (h:Head) (o:Oper),hs[i]? = some h→l[i]? = some o→∀a W,Agree (hs.map (·.dst)) a0 a→Below w0.heap.size w0 W→(∀j∈h.deps,∀(hj:Head),hs[j]? = some hj→hj.R (a.eval (.tmp hj.dst)) W)→(∀j∈h.deps,∀k∈h.deps,∀(hj hk:Head),hs[j]? = some hj→hs[k]? = some hk→j≠k→hj.fresh=true→hk.fresh=true→blk (a.eval (.tmp hj.dst))≠blk (a.eval (.tmp hk.dst)))→Takes P l.toArray o a W h.fresh h.R)
 (hk:∀a W,Agree (hs.map (·.dst)) a0 a→Below w0.heap.size w0 W→(∀(i:Nat) (h:Head),hs[i]? = some h→h.R (a.eval (.tmp h.dst)) W)→(∀(i j:Nat) (h k:Head),hs[i]? = some h→hs[j]? = some k→i≠j→h.fresh=true→k.fresh=true→blk (a.eval (.tmp h.dst))≠blk (a.eval (.tmp k.dst)))→wpList P l.toArray Q (l.drop hs.length) a W):
 ∀(f:Nat) (listed:Array Bool) (a:Act) (W:World),HeadInv .any l.toArray hs.length listed→unl listed hs.length=f→FreeInv hs a0 w0 listed a W→wpAny P .any l.toArray Q (f+g) listed a W
 | 0,listed,a,W,inv,hu,hI=>by
   have hWd:=wide_of hW
   have hall:=unl_zero _ hu
   rw[Nat.zero_add]
   have hsq:=hWd.seq
   rw[←all_listed inv hWd.lt hall,show l.toArray.size-hs.length=g by rw[←hg];simp] at hsq
   have:=wpAny_of_seq (md:=.any) (Q':=Q) (P:=P) (l.drop hs.length) hs.length listed a W (fun j=>by simp[List.getElem?_drop]) (by rw[hg];exact hsq) (hk a W hI.1 hI.2.1 (fun i h hi=>hI.2.2.1 i h hi (hall i (lt_of_some hi))) (fun i j h k hi hj hij=>hI.2.2.2.2 i j h k hi hj hij (hall i (lt_of_some hi)) (hall j (lt_of_some hj))))
   rwa [hg] at this
 | f + 1,listed,a,W,inv,hu,hI=>by
   have hWd:=wide_of hW
   obtain⟨i0,hi0,hun0,hlow0⟩:=unl_pos (listed:=listed) hs.length (by omega)
   have hsz:=inv.size
   have hun0':listed.getD i0 true=false:=getD_in (by have:=hWd.lt;omega) hun0
   rw[show f+1+g=(f+g)+1 by omega]
   have hne:i0∈Region.ready .any l.toArray listed:=by
    obtain⟨o,ho,hb⟩:=hWd.low i0 hi0
    exact mem_ready.2 ⟨hun0',o,ho,fun e he hbd=>hlow0 _ (hb e he hbd)⟩
   refine⟨fun e=>(by rw[e] at hne;cases hne),fun i hi=>?_⟩
   have hin2:i<hs.length:=by
    rcases Nat.lt_or_ge i hs.length with h | h
    · exact h
    · exact absurd hi (tail_waits hWd.sink hWd.chain hWd.lt inv _ i0 rfl hi0 hun0' i h)
   have hdep:∀d∈((hs.map (·.deps)).toArray.getD i []),listed.getD d false=true:=fun d hd=>by
    obtain⟨_,oi,hoi,hall⟩:=mem_ready.1 hi
    obtain⟨oj,hoj,e,he,hb,hon⟩:=Region.waitsFor_spec (hWd.dep i hin2 d hd).2
    have:oj=oi:=Option.some.inj (hoj.symm.trans hoi)
    subst this
    rw[←hon]
    exact hall e he hb
   have hrec:unl (listed.setIfInBounds i true) hs.length=f:=by
    have:=unl_set (listed:=listed) (i:=i) (by have:=hWd.lt;omega) (getD_both (mem_ready.1 hi).1) hs.length hin2
    omega
   have hil:i<l.length:=by omega
   obtain⟨h,hh⟩:∃h,hs[i]? = some h:=⟨_,List.getElem?_eq_getElem hin2⟩
   obtain⟨o,ho⟩:∃o,l[i]? = some o:=⟨_,List.getElem?_eq_getElem hil⟩
   have hd:=hdst i h o hh ho
   have hmem:h∈hs:=List.mem_of_getElem? hh
   have hdep2:∀j∈h.deps,∀(hj:Head),hs[j]? = some hj→hj.R (a.eval (.tmp hj.dst)) W:=fun j hj hj' hjj=>by
    have hd1:((hs.map (·.deps)).toArray.getD i [])=h.deps:=by simp[hh]
    exact hI.2.2.1 j hj' hjj (hdep j (by rw[hd1];exact hj))
   have hdep3:∀j∈h.deps,∀k∈h.deps,∀(hj hk:Head),hs[j]? = some hj→hs[k]? = some hk→j≠k→hj.fresh=true→hk.fresh=true→blk (a.eval (.tmp hj.dst))≠blk (a.eval (.tmp hk.dst)):=fun j hj k hk' x y hx hy' hjk fx fy=>by
    have hd1:((hs.map (·.deps)).toArray.getD i [])=h.deps:=by simp[hh]
    exact hI.2.2.2.2 j k x y hx hy' hjk (hdep j (by rw[hd1];exact hj)) (hdep k (by rw[hd1];exact hk')) fx fy
   have hself:∀v,(a.put (some h.dst) v).eval (.tmp h.dst)=v:=fun v=>by
    have hs1:h.dst<a.tmps.size:=by rw[hI.1.2.1];exact hin h hmem
    simp[Act.put,Act.eval,hs1]
   have hoth:∀v (j:Nat) (hj:Head),hs[j]? = some hj→j≠i→(a.put (some h.dst) v).eval (.tmp hj.dst)=a.eval (.tmp hj.dst):=fun v j hj hjj hij=>by
    refine eval_put_ne (fun e=>hij ?_) _ _
    have hjl:=lt_of_some hjj
    have e1:(hs.map (·.dst))[j]'(by simpa using hjl)=(hs.map (·.dst))[i]'(by simpa using hin2):=by
     rw[List.getElem?_eq_getElem hjl] at hjj
     rw[List.getElem?_eq_getElem hin2] at hh
     injection hjj with hjj
     injection hh with hh
     simp only[List.getElem_map,hjj,hh]
     exact e.symm
    exact (List.getElem_inj hdis).1 e1
   have hlis:∀(j:Nat),j≠i→(listed.setIfInBounds i true).getD j false=true→listed.getD j false=true:=fun j hij h'=>by
    rw[Array.getD_eq_getD_getElem?,Array.getElem?_setIfInBounds_ne (Ne.symm hij)] at h'
    rw[Array.getD_eq_getD_getElem?]
    exact h'
   have key:∀v W',h.R v W'→Below W.heap.size W W'→Fresh h.fresh v W W'→wpAny P .any l.toArray Q (f+g) (listed.setIfInBounds i true) (a.put (some h.dst) v) W':=fun v W' hR hb hfr=>by
    refine wideD_any hW hg hdst hlen hin hdis hm hy hk f _ _ _ (inv.set hi hin2) hrec ⟨hI.1.put (List.mem_map.2 ⟨h,hmem,rfl⟩) v,below_tr hI.2.1 hb hI.2.1.size,fun j hj hjj hlj=>?_,fun j hj hjj hlj hf=>?_,fun j k hj hk' hjj hkk hjk hlj hlk hfj hfk=>?_⟩
    · by_cases hij:j=i
      · subst hij
        rw[hh] at hjj
        injection hjj with hjj
        subst hjj
        rw[hself]
        exact hR
      · rw[hoth v j hj hjj hij]
        exact hm hj (List.mem_of_getElem? hjj) _ _ _ (hI.2.2.1 j hj hjj (hlis j hij hlj)) hb
    · by_cases hij:j=i
      · subst hij
        rw[hh] at hjj
        injection hjj with hjj
        subst hjj
        rw[hself]
        obtain⟨g',e1,e2,e3⟩:=hfr hf
        exact⟨g',e1,Nat.le_trans hI.2.1.size e2,e3⟩
      · rw[hoth v j hj hjj hij]
        obtain⟨g',e1,e2,e3⟩:=hI.2.2.2.1 j hj hjj (hlis j hij hlj) hf
        exact⟨g',e1,e2,Nat.lt_of_lt_of_le e3 hb.size⟩
    · by_cases hij:j=i
      · subst hij
        have hki:k≠j:=Ne.symm hjk
        rw[hh] at hjj
        injection hjj with hjj
        subst hjj
        rw[hself,hoth v k hk' hkk hki]
        obtain⟨g',e1,e2,e3⟩:=hfr hfj
        obtain⟨g2,f1,f2,f3⟩:=hI.2.2.2.1 k hk' hkk (hlis k hki hlk) hfk
        rw[e1,f1]
        intro e
        injection e with e
        omega
      · by_cases hik:k=i
        · subst hik
          rw[hh] at hkk
          injection hkk with hkk
          subst hkk
          rw[hself,hoth v j hj hjj hij]
          obtain⟨g',e1,e2,e3⟩:=hfr hfk
          obtain⟨g2,f1,f2,f3⟩:=hI.2.2.2.1 j hj hjj (hlis j hij hlj) hfj
          rw[e1,f1]
          intro e
          injection e with e
          omega
        · rw[hoth v j hj hjj hij,hoth v k hk' hkk hik]
          exact hI.2.2.2.2 j k hj hk' hjj hkk hjk (hlis j hij hlj) (hlis k hik hlk) hfj hfk
   unfold wpOp
   rw[show l.toArray[i]? = some o by simpa using ho]
   simp only
   rcases hy i h o hh ho a W hI.1 hI.2.1 hdep2 hdep3 with ⟨hwt,hyl⟩ | ⟨hwt,hR,hfr⟩
   · rw[if_pos hwt]
     refine .inl ?_
     unfold Oper.wp
     rcases hyl with ⟨v,W',hr,hR,hb,hfr⟩ | ⟨fn,args,hr,hc⟩
     · rw[hr]
       simp only[Oper.upon,hd]
       exact key v W' hR hb hfr
     · rw[hr]
       simp only[Oper.upon,hd]
       exact hc.mono fun e W' ⟨v,he,hR,hb,hfr⟩=>by subst he;exact key v W' hR hb hfr
   · rw[if_neg (by rw[hwt];exact Bool.false_ne_true)]
     rw[hd]
     exact key undef W hR (Below.refl _ _) (by rw[hfr];exact fresh_no _ _ _)
def Head.okD (P:Program) (ops:Array Oper) (hs:List Head) (a0:Act) (w0:World) (h:Head) (o:Oper):Prop:=
 o.dst=some h.dst∧Mono h.R∧(∀a W,Agree (hs.map (·.dst)) a0 a→Below w0.heap.size w0 W→(∀j∈h.deps,∀(hj:Head),hs[j]? = some hj→hj.R (a.eval (.tmp hj.dst)) W)→(∀j∈h.deps,∀k∈h.deps,∀(hj hk:Head),hs[j]? = some hj→hs[k]? = some hk→j≠k→hj.fresh=true→hk.fresh=true→blk (a.eval (.tmp hj.dst))≠blk (a.eval (.tmp hk.dst)))→Takes P ops o a W h.fresh h.R)
theorem wp_wideDa {id:Nat} {a0:Act} {w0:World} {l:List Oper} (hs:List Head) (hmx:P.follows .mixedOrders=true) (hlen:hs.length≤l.length)
 (hB:wideB l.toArray hs.length (hs.map (·.deps)).toArray=true)
 (hdst:∀(i:Nat) (h:Head) (o:Oper),hs[i]? = some h→l[i]? = some o→o.dst=some h.dst) (hin:∀h∈hs,h.dst<a0.tmps.size) (hdis:(hs.map (·.dst)).Nodup) (hm:∀h∈hs,Mono h.R)
 (hy:∀(i:Nat) (h:Head) (o:Oper),hs[i]? = some h→l[i]? = some o→∀a W,Agree (hs.map (·.dst)) a0 a→Below w0.heap.size w0 W→(∀j∈h.deps,∀(hj:Head),hs[j]? = some hj→hj.R (a.eval (.tmp hj.dst)) W)→(∀j∈h.deps,∀k∈h.deps,∀(hj hk:Head),hs[j]? = some hj→hs[k]? = some hk→j≠k→hj.fresh=true→hk.fresh=true→blk (a.eval (.tmp hj.dst))≠blk (a.eval (.tmp hk.dst)))→Takes P l.toArray o a W h.fresh h.R)
 (hk:∀(vs:Tmp→Value) W,(∀(i:Nat) (h:Head),hs[i]? = some h→h.R (vs h.dst) W)→(∀(i j:Nat) (h k:Head),hs[i]? = some h→hs[j]? = some k→i≠j→h.fresh=true→k.fresh=true→blk (vs h.dst)≠blk (vs k.dst))→Below w0.heap.size w0 W→wpList P l.toArray Q (l.drop hs.length) ((hs.map (·.dst)).foldl (fun x d=>x.put (some d) (vs d)) a0) W):
 (Code.region id l.toArray true).wp P Q a0 w0:=by
 refine wp_region_any hmx ?_
 have hinv:HeadInv .any l.toArray hs.length (Array.replicate l.toArray.size false):=⟨by simp,fun j oj hj hl=>(by rw[getD_replicate_false] at hl;cases hl),fun t ht ht'=>getD_in (by simpa using ht') (getD_replicate_false _ _)⟩
 have hunl:∀n,unl (Array.replicate l.toArray.size false) n=n:=fun n=>by
  induction n with
  | zero=>rfl
  | succ n ih=>rw[unl,ih,getD_replicate_false];simp
 have h1:=wideD_any (P:=P) (Q:=Q) (l:=l) (hs:=hs) (a0:=a0) (w0:=w0) (g:=l.length-hs.length) hB (by simp) hdst hlen hin hdis hm hy
  (fun a W hA hb hR hF=>by
    have:=hk (fun d=>a.eval (.tmp d)) W hR hF hb
    rw[←Agree.rebuild _ _ hA] at this
    exact this) hs.length (Array.replicate l.toArray.size false) a0 { w0 with drawn:=w0.drawn+1 } hinv (hunl _)
  ⟨Agree.refl _ _,(Below.refl _ w0).drew,fun i h hi hl=>(by rw[getD_replicate_false] at hl;cases hl),fun i h hi hl=>(by rw[getD_replicate_false] at hl;cases hl),fun i j h k hi hj hij hl=>(by rw[getD_replicate_false] at hl;cases hl)⟩
 have hsz:l.toArray.size=hs.length+(l.length-hs.length):=by rw[List.size_toArray];omega
 have e:wpAny P .any l.toArray Q l.toArray.size=wpAny P .any l.toArray Q (hs.length+(l.length-hs.length)):=congrArg _ hsz
 rw[e]
 exact h1
theorem wp_wideD {id:Nat} {a0:Act} {w0:World} {l:List Oper} (hs:List Head) (hmx:P.follows .mixedOrders=true)
 (hB:wideB l.toArray hs.length (hs.map (·.deps)).toArray=true)
 (hlen:decide (hs.length≤l.length)=true) (hin:(hs.map (·.dst)).all (fun d=>decide (d<a0.tmps.size))=true) (hdis:decide ((hs.map (·.dst)).Nodup)=true)
 (hok:AllHeads (Head.okD P l.toArray hs a0 w0) hs l)
 (hk:∀(vs:Tmp→Value) W,(∀(i:Nat) (h:Head),hs[i]? = some h→h.R (vs h.dst) W)→(∀(i j:Nat) (h k:Head),hs[i]? = some h→hs[j]? = some k→i≠j→h.fresh=true→k.fresh=true→blk (vs h.dst)≠blk (vs k.dst))→Below w0.heap.size w0 W→wpList P l.toArray Q (l.drop hs.length) ((hs.map (·.dst)).foldl (fun x d=>x.put (some d) (vs d)) a0) W):
 (Code.region id l.toArray true).wp P Q a0 w0:=by
 have hlen':=of_decide_eq_true hlen
 have hmem:∀h∈hs,∃(i:Nat) (o:Oper),hs[i]? = some h∧l[i]? = some o:=fun h hh=>by
  obtain⟨i,hi,rfl⟩:=List.getElem_of_mem hh
  exact⟨i,_,List.getElem?_eq_getElem hi,List.getElem?_eq_getElem (by omega)⟩
 refine wp_wideDa hs hmx hlen' hB (fun i h o hi ho=>(hok.at i h o hi ho).1) (fun h hh=>?_) (of_decide_eq_true hdis) (fun h hh=>?_) (fun i h o hi ho=>(hok.at i h o hi ho).2.2) hk
 · have:=List.all_eq_true.1 hin h.dst (List.mem_map.2 ⟨h,hh,rfl⟩)
   exact of_decide_eq_true this
 · obtain⟨i,o,hi,ho⟩:=hmem h hh
   exact (hok.at i h o hi ho).2.1
end
set_option linter.unusedSimpArgs false
def fitsQ (blocks:Int) (zs:List Int):Bool:=decide (zs.length≤64)&&allQ zs&&decide (8*(zs.length:Int)+4+sumQ zs≤blocks)
theorem fitsEnd_yes {blocks:Int} {zs:List Int} {e:Ending} (h:FitsEnd blocks zs e) (hf:fitsQ blocks zs=true):e = .returned (.tuple #[.bool true,.int .i64 0]):=by
 unfold fitsQ at hf
 simp only[Bool.and_eq_true,decide_eq_true_eq] at hf
 unfold FitsEnd at h
 rw[if_pos ⟨hf.1.1,hf.1.2⟩,decide_eq_true hf.2] at h
 exact h
theorem fitsEnd_no {blocks:Int} {zs:List Int} {e:Ending} (h:FitsEnd blocks zs e) (hf:fitsQ blocks zs=false):∃z:Int,e = .returned (.tuple #[.bool false,.int .i64 z]):=by
 unfold FitsEnd at h
 by_cases hc:zs.length≤64∧allQ zs=true
 · rw[if_pos hc] at h
   refine⟨0,?_⟩
   rw[h]
   unfold fitsQ at hf
   rw[decide_eq_true hc.1,hc.2] at hf
   simp only[Bool.and_self,Bool.true_and] at hf
   rw[hf]
 · rw[if_neg hc] at h
   exact⟨2,h⟩
theorem fitsQ_perm {blocks:Int} {a b:List Int} (h:a.Perm b):fitsQ blocks a=fitsQ blocks b:=by
 unfold fitsQ
 have h1:allQ a=allQ b:=by
  unfold allQ
  rw[Bool.eq_iff_iff,List.all_eq_true,List.all_eq_true]
  exact⟨fun k x hx=>k x (h.mem_iff.2 hx),fun k x hx=>k x (h.mem_iff.1 hx)⟩
 have h2:sumQ a=sumQ b:=by unfold sumQ;exact sum_perm (h.map _)
 rw[h.length_eq,h1,h2]
def newT (c:CallP):TnP:=⟨c.ten,c.sec.l,c.quota.toNat,[],[],[],false⟩
def creTg (O:Tg) (N s n nb:Nat):Tg:=fun k=>if k<N then O k else if k=nb then none else if k≤N+1 then some (0,0) else some (s,n)
def NewM {κ:Type} (kv:κ→Value) (ok:κ→Prop) (N:Nat) (v:Value) (W:World):Prop:=∃g,v = .map (some g)∧N≤g∧MapB kv ok W g []
theorem NewM.mono {κ:Type} (kv:κ→Value) (ok:κ→Prop) (N:Nat):Mono (NewM kv ok N):=fun v W W' ⟨g,h1,h2,h3⟩ hb=>⟨g,h1,h2,h3.ab hb⟩
theorem yields_newM {κ:Type} {kv:κ→Value} {ok:κ→Prop} {o:Oper} {a:Act} {W w0:World} {t:TypeId} (ho:o.op = .makeMap t none) (hb:Below w0.heap.size w0 W):Yields Tryz.prog o a W true (NewM kv ok w0.heap.size):=by
 refine .inl ⟨.map (some W.heap.size),W.alloc (.map #[] 0),?_,⟨W.heap.size,rfl,hb.size,MapB.new kv ok W⟩,alB,fun _=>⟨W.heap.size,rfl,Nat.le_refl _,by simp⟩⟩
 have hmm:(Instr.makeMap t none).run Tryz.prog W = .ok (.map (some W.heap.size)) (W.alloc (.map #[] 0)):=rfl
 unfold execOp
 simp only[ho,Option.map_none,hmm,Sem.run_bind,Result.andThen_ok,Sem.run_pure]
def NewC (N:Nat) (v:Value) (W:World):Prop:=∃g,v = .pointer (some ⟨g,0,none⟩)∧N≤g∧CpA W 0 g none []
theorem NewC.mono (N:Nat):Mono (NewC N):=fun v W W' ⟨g,h1,h2,h3⟩ hb=>⟨g,h1,h2,h3.ab hb⟩
theorem cpA_new {w:World} {g:Nat} (h:CpB w g g none 0 []):CpA w 0 g none []:=
 ⟨⟨[],⟨h.box,Nat.zero_le _,fun m hm=>(by cases hm),fun _=>rfl,fun p hp=>(by cases hp)⟩,fun k=>by simp[getC,atH,nthH],by simp⟩,RightA.nil,by simp[aliveH,aliveF]⟩
def tenC (c:CallP) (nb cb sm:Nat):Array Value:=#[.string (strOf c.sec.l),.int .i64 c.quota,.map (some nb),.pointer (some ⟨cb,0,none⟩),.map (some sm),.int .u64 0,.bool false]
def TenV (c:CallP) (N:Nat) (v:Value) (W:World):Prop:=∃nb cb sm,v = .agg (tenC c nb cb sm)∧N≤nb∧N≤cb∧N≤sm∧MapB encStr kyOk W nb []∧CpA W 0 cb none []∧MapB u64V u64Ok W sm []∧nb≠sm
theorem TenV.mono (c:CallP) (N:Nat):Mono (TenV c N):=fun v W W' ⟨nb,cb,sm,e,p1,p2,p3,q1,q2,q3,hne⟩ hb=>⟨nb,cb,sm,e,p1,p2,p3,q1.ab hb,q2.ab hb,q3.ab hb,hne⟩
def TenB (c:CallP) (N:Nat) (v:Value) (W:World):Prop:=∃b nb cb sm,v = .pointer (some ⟨b,0,none⟩)∧N≤b∧CbB W b 71 (tenC c nb cb sm)∧N≤nb∧N≤cb∧N≤sm∧MapB encStr kyOk W nb []∧CpA W 0 cb none []∧MapB u64V u64Ok W sm []∧nb≠sm
theorem TenB.mono (c:CallP) (N:Nat):Mono (TenB c N):=fun v W W' ⟨b,nb,cb,sm,e,p0,p9,p1,p2,p3,q1,q2,q3,hne⟩ hb=>⟨b,nb,cb,sm,e,p0,p9.ab hb,p1,p2,p3,q1.ab hb,q2.ab hb,q3.ab hb,hne⟩
def qE (bs:List (Nat×TnP)) (p:Nat×Value):Int:=((fnd bs p.1).map fun x=>(x.2.q:Int)).getD 0
theorem fnd_of:∀{bs:List (Nat×TnP)} {x:Nat×TnP},(bs.map fun x=>x.2.n).Nodup→x∈bs→fnd bs x.2.n=some x
 | p :: r,x,hn,hx=>by
   rw[List.map_cons,List.nodup_cons] at hn
   unfold fnd
   rcases List.mem_cons.1 hx with rfl | h'
   · simp
   · have hne:p.2.n≠x.2.n:=fun e1=>hn.1 (by rw[e1];exact List.mem_map.2 ⟨_,h',rfl⟩)
     rw[List.find?_cons_of_neg (by simpa using hne)]
     exact fnd_of hn.2 h'
theorem qE_all {bs:List (Nat×TnP)} (hn:(bs.map fun x=>x.2.n).Nodup):(bs.map fun x=>(x.2.n,ptrV x.1)).map (qE bs)=bs.map fun x=>(x.2.q:Int):=by
 rw[List.map_map]
 refine List.map_congr_left fun x hx=>?_
 simp only[Function.comp_apply,qE,fnd_of hn hx,Option.map_some,Option.getD_some]
section
variable {w:World} {O:Tg} {s blocks m:Nat} {T:List TnP} {bs:List (Nat×TnP)} {c:CallP}
set_option maxRecDepth 100000 in
theorem id_create_bad0 (h:IdM w O s blocks T m bs) (hc:c.Ok) (t0:((c.ten:Int)==0)=true):
 Calls Tryz.prog 37 #[.pointer (some ⟨s,0,none⟩),.agg c.cs] w (DoR s blocks w O (errA 2) T):=by
 obtain⟨w0,hw0,ha,hcb,hqb⟩:=preX w c
 unfold CallP.cs at hcb⊢
 go_enter Tryz.func37,Tryz.ntmps37
 go_upto_region 1 with (fail)
 rw[hw0.out]
 clear hw0
 have c1:=(hcb).cell (k:=1) rfl
 have c2:=(hcb).cell (k:=2) rfl
 have c3:=(hcb).cell (k:=3) rfl
 have HA:=zz ha
 have HQ:=zz hqb
 have HB:=zz hcb
 have M0:=h.stp (ctS ha) noF
 have HM:=zz M0
 have HF:=zz fun W=>fails_any 2 W
 clear h ha hqb hcb hc M0
 go_wp2_with fail
 refine (HF.out _).mono ?_
 rintro e w1 ⟨rfl,hb⟩
 have B1:Hid (Below w0.heap.size w0 w1):=zz (below_tr (Below.refl w0.heap.size w0) hb (Below.refl w0.heap.size w0).size)
 have Q1:=zz (HQ.out.ab B1.out)
 have M1:=kpM HM B1
 have S1:=stKp s O HA B1
 clear hb HQ HM B1
 go_wp2_with (first
  | ((with_reducible refine stA 29 ?_ (ansE 2) ?_ Q1 ?_ ?_ (ansE_one _) ?_);rfl;rfl;rfl;rfl;intro wz QZ FZ))
 refine bodyPost_ret (ansR Tryz.results37 QZ rfl rfl) rfl ?_
 exact DoR.fl 2 0 0 0 M1 S1 FZ
set_option maxRecDepth 100000 in
theorem id_create_bad1 (h:IdM w O s blocks T m bs) (hc:c.Ok) (t0:((c.ten:Int)==0)=false) (t1:((c.sec.n:Int) != 16)=true):
 Calls Tryz.prog 37 #[.pointer (some ⟨s,0,none⟩),.agg c.cs] w (DoR s blocks w O (errA 2) T):=by
 obtain⟨w0,hw0,ha,hcb,hqb⟩:=preX w c
 unfold CallP.cs at hcb⊢
 go_enter Tryz.func37,Tryz.ntmps37
 go_upto_region 1 with (fail)
 rw[hw0.out]
 clear hw0
 have c1:=(hcb).cell (k:=1) rfl
 have c2:=(hcb).cell (k:=2) rfl
 have c3:=(hcb).cell (k:=3) rfl
 have HA:=zz ha
 have HQ:=zz hqb
 have HB:=zz hcb
 have M0:=h.stp (ctS ha) noF
 have HM:=zz M0
 have HF:=zz fun W=>fails_any 2 W
 clear h ha hqb hcb hc M0
 go_wp2_with fail
 refine (HF.out _).mono ?_
 rintro e w1 ⟨rfl,hb⟩
 have B1:Hid (Below w0.heap.size w0 w1):=zz (below_tr (Below.refl w0.heap.size w0) hb (Below.refl w0.heap.size w0).size)
 have Q1:=zz (HQ.out.ab B1.out)
 have M1:=kpM HM B1
 have S1:=stKp s O HA B1
 clear hb HQ HM B1
 go_wp2_with (first
  | ((with_reducible refine stA 29 ?_ (ansE 2) ?_ Q1 ?_ ?_ (ansE_one _) ?_);rfl;rfl;rfl;rfl;intro wz QZ FZ))
 refine bodyPost_ret (ansR Tryz.results37 QZ rfl rfl) rfl ?_
 exact DoR.fl 2 0 0 0 M1 S1 FZ
set_option maxRecDepth 100000 in
theorem id_create_bad2 (h:IdM w O s blocks T m bs) (hc:c.Ok) (t0:((c.ten:Int)==0)=false) (t1:((c.sec.n:Int) != 16)=false) (t2:decide (c.quota<1)=true):
 Calls Tryz.prog 37 #[.pointer (some ⟨s,0,none⟩),.agg c.cs] w (DoR s blocks w O (errA 2) T):=by
 obtain⟨w0,hw0,ha,hcb,hqb⟩:=preX w c
 unfold CallP.cs at hcb⊢
 go_enter Tryz.func37,Tryz.ntmps37
 go_upto_region 1 with (fail)
 rw[hw0.out]
 clear hw0
 have c1:=(hcb).cell (k:=1) rfl
 have c2:=(hcb).cell (k:=2) rfl
 have c3:=(hcb).cell (k:=3) rfl
 have HA:=zz ha
 have HQ:=zz hqb
 have HB:=zz hcb
 have M0:=h.stp (ctS ha) noF
 have HM:=zz M0
 have HF:=zz fun W=>fails_any 2 W
 clear h ha hqb hcb hc M0
 go_wp2_with fail
 refine (HF.out _).mono ?_
 rintro e w1 ⟨rfl,hb⟩
 have B1:Hid (Below w0.heap.size w0 w1):=zz (below_tr (Below.refl w0.heap.size w0) hb (Below.refl w0.heap.size w0).size)
 have Q1:=zz (HQ.out.ab B1.out)
 have M1:=kpM HM B1
 have S1:=stKp s O HA B1
 clear hb HQ HM B1
 go_wp2_with (first
  | ((with_reducible refine stA 29 ?_ (ansE 2) ?_ Q1 ?_ ?_ (ansE_one _) ?_);rfl;rfl;rfl;rfl;intro wz QZ FZ))
 refine bodyPost_ret (ansR Tryz.results37 QZ rfl rfl) rfl ?_
 exact DoR.fl 2 0 0 0 M1 S1 FZ
set_option maxRecDepth 100000 in
theorem id_create_bad3 (h:IdM w O s blocks T m bs) (hc:c.Ok) (t0:((c.ten:Int)==0)=false) (t1:((c.sec.n:Int) != 16)=false) (t2:decide (c.quota<1)=false) (t3:decide ((1000:Int)<c.quota)=true):
 Calls Tryz.prog 37 #[.pointer (some ⟨s,0,none⟩),.agg c.cs] w (DoR s blocks w O (errA 2) T):=by
 obtain⟨w0,hw0,ha,hcb,hqb⟩:=preX w c
 unfold CallP.cs at hcb⊢
 go_enter Tryz.func37,Tryz.ntmps37
 go_upto_region 1 with (fail)
 rw[hw0.out]
 clear hw0
 have c1:=(hcb).cell (k:=1) rfl
 have c2:=(hcb).cell (k:=2) rfl
 have c3:=(hcb).cell (k:=3) rfl
 have HA:=zz ha
 have HQ:=zz hqb
 have HB:=zz hcb
 have M0:=h.stp (ctS ha) noF
 have HM:=zz M0
 have HF:=zz fun W=>fails_any 2 W
 clear h ha hqb hcb hc M0
 go_wp2_with fail
 refine (HF.out _).mono ?_
 rintro e w1 ⟨rfl,hb⟩
 have B1:Hid (Below w0.heap.size w0 w1):=zz (below_tr (Below.refl w0.heap.size w0) hb (Below.refl w0.heap.size w0).size)
 have Q1:=zz (HQ.out.ab B1.out)
 have M1:=kpM HM B1
 have S1:=stKp s O HA B1
 clear hb HQ HM B1
 go_wp2_with (first
  | ((with_reducible refine stA 29 ?_ (ansE 2) ?_ Q1 ?_ ?_ (ansE_one _) ?_);rfl;rfl;rfl;rfl;intro wz QZ FZ))
 refine bodyPost_ret (ansR Tryz.results37 QZ rfl rfl) rfl ?_
 exact DoR.fl 2 0 0 0 M1 S1 FZ
set_option maxRecDepth 100000 in
theorem id_create_twice (x:Nat×TnP) (h:IdM w O s blocks T m bs) (hc:c.Ok) (hf:fnd bs c.ten=some x) (t0:((c.ten:Int)==0)=false) (t1:((c.sec.n:Int) != 16)=false) (t2:decide (c.quota<1)=false) (t3:decide ((1000:Int)<c.quota)=false):
 Calls Tryz.prog 37 #[.pointer (some ⟨s,0,none⟩),.agg c.cs] w (DoR s blocks w O (errA 8) T):=by
 obtain⟨w0,hw0,ha,hcb,hqb⟩:=preX w c
 unfold CallP.cs at hcb⊢
 go_enter Tryz.func37,Tryz.ntmps37
 go_upto_region 1 with (fail)
 rw[hw0.out]
 clear hw0
 have c1:=(hcb).cell (k:=1) rfl
 have c2:=(hcb).cell (k:=2) rfl
 have c3:=(hcb).cell (k:=3) rfl
 have hlk:=fun k:Nat=>map_look (w:=w0.drewN k) ((h.map.ab ha).same rfl) (n:=c.ten) hc.ten
 simp only[hf,Option.map_some] at hlk
 have s1:=(h.box.ab ha).cell (k:=1) rfl
 have HA:=zz ha
 have HQ:=zz hqb
 have HB:=zz hcb
 have M0:=h.stp (ctS ha) noF
 have HM:=zz M0
 have HF:=zz fun W=>fails_any 8 W
 clear h ha hqb hcb hc M0 hf
 go_wp2_with fail
 go_quiet (fail)
 go_wp2_with fail
 refine (HF.out _).mono ?_
 rintro e w1 ⟨rfl,hb⟩
 have B1:Hid (Below w0.heap.size w0 w1):=zz ((bel_drewN (Below.refl _ _) _).trans hb)
 have Q1:=zz (HQ.out.ab B1.out)
 have M1:=kpM HM B1
 have S1:=stKp s O HA B1
 clear hb HQ HM B1
 go_wp2_with (first
  | ((with_reducible refine stA 38 ?_ (ansE 8) ?_ Q1 ?_ ?_ (ansE_one _) ?_);rfl;rfl;rfl;rfl;intro wz QZ FZ))
 refine bodyPost_ret (ansR Tryz.results37 QZ rfl rfl) rfl ?_
 exact DoR.fl 8 0 0 0 M1 S1 FZ
set_option maxRecDepth 100000 in
theorem id_create_some (h:IdM w O s blocks T m bs) (hc:c.Ok) (hf:fnd bs c.ten=none) (hs:IsB w c.sec.A c.sec.n c.sec.c c.sec.l) (hln:T.length≤100000) (t0:((c.ten:Int)==0)=false) (t1:((c.sec.n:Int) != 16)=false) (t2:decide (c.quota<1)=false) (t3:decide ((1000:Int)<c.quota)=false) (a:AnsP) (T2:List TnP) (hA:a=bif fitsQ blocks (c.quota::T.map fun t=>(t.q:Int)) then errA 0 else errA 9) (hT2:T2=bif fitsQ blocks (c.quota::T.map fun t=>(t.q:Int)) then T++[newT c] else T):
 Calls Tryz.prog 37 #[.pointer (some ⟨s,0,none⟩),.agg c.cs] w (DoR s blocks w O a T2):=by
 obtain⟨w0,hw0,ha,hcb,hqb⟩:=preX w c
 unfold CallP.cs at hcb⊢
 go_enter Tryz.func37,Tryz.ntmps37
 go_upto_region 1 with (fail)
 rw[hw0.out]
 clear hw0
 have c1:=(hcb).cell (k:=1) rfl
 have c2:=(hcb).cell (k:=2) rfl
 have c3:=(hcb).cell (k:=3) rfl
 have hlk:=fun k:Nat=>map_look (w:=w0.drewN k) ((h.map.ab ha).same rfl) (n:=c.ten) hc.ten
 simp only[hf,Option.map_none] at hlk
 have s1:=(h.box.ab ha).cell (k:=1) rfl
 have s0:=(h.box.ab ha).cell (k:=0) rfl
 have HA:=zz ha
 have HQ:=zz hqb
 have HB:=zz hcb
 have M0:=h.stp (ctS ha) noF
 have HM:=zz M0
 have HMW:=zz h
 have HFN:=zz hf
 have HS:=zz hs
 have HAA:=zz hA
 have HT2:=zz hT2
 have HC32:=zz hc.ten
 have MP0:=zz (h.map.ab ha)
 have ND:=zz h.nodup
 have CT1:Hid (1≤c.ten):=zz (by simp at t0;omega)
 have CS16:Hid (c.sec.n=16):=zz (by simp at t1;omega)
 have CQ:Hid (1≤c.quota∧c.quota≤1000):=zz (by simp at t2 t3;omega)
 have BN:Hid (bs.length≤100000):=zz (by have:=h.prm.length_eq;rw[List.length_map] at this;omega)
 clear h ha hqb hcb hc M0 hf hs hA hT2 hln
 go_wp2_with fail
 go_quiet (fail)
 clear hlk
 go_upto_region 6 with (fail)
 have hb1:Below w0.heap.size w0 ((w0.drewN nq).alloc (.cells #[.int .i64 c.quota] 3)):=(bel_drewN (Below.refl _ _) nq).alloc (Nat.le_refl _) _
 have o1:OwI ((w0.drewN nq).alloc (.cells #[.int .i64 c.quota] 3)) w0.heap.size (.slice (some ⟨w0.heap.size,0,none⟩) 1 1) [c.quota]:=own_lit (w0.drewN nq) 3 .i64 w0.heap.size (Nat.le_refl _) [c.quota] (show 1≤maxLen by decide)
 obtain⟨w1,hw1⟩:∃w1,(w0.drewN nq).alloc (.cells #[.int .i64 c.quota] 3)=w1:=⟨_,rfl⟩
 rw[hw1] at hb1 o1⊢
 have s1':w1.cell? ⟨s,1,none⟩=some (.map (some m)):=(HM.out.box.ab hb1).cell (k:=1) rfl
 have MP1:=zz (MP0.out.ab hb1)
 have B1:=zz hb1
 have O1:=zz o1
 have NDE:=zz (MP0.out.nodup u32_K)
 have QB:Hid (∀p,0≤qE bs p∧qE bs p≤1000):=zz fun p=>by
  unfold qE
  cases hz:fnd bs p.1 with
  | none=>simp
  | some y=>have:=(HMW.out.ok y (fnd_mem hz).1).q2;simp;omega
 clear hw1 hb1 o1 s1 s0 c1 c2 c3
 go_wp2_with (first
  | (refine wpList_mapRange rfl (.tmp 45) rfl Tryz.underlying56 rfl MP1.out ?_
     intro w2 r2 b2 s2
     have R2:=zz r2
     have B2:=zz (below_tr B1.out b2 B1.out.size)
     have O2:Hid (OwI w2 w0.heap.size (.slice (some ⟨w0.heap.size,0,none⟩) 1 1) [c.quota]):=zz (row_fr O1.out (Fr.of b2 (fun _=>False)) (fun k hk e=>e))
     clear r2 b2 s2
     simp[Act.put]))
 clear s1'
 go_loopg [5] (bs.length) (fun k z wr=>∃d,bs.length-d.length≤k∧RngB u32V u32Ok wr m w1.heap.size (bs.map fun x=>(x.2.n,ptrV x.1)) d∧OwI wr w0.heap.size z (c.quota::d.map (qE bs))∧Below w0.heap.size w0 wr∧w1.heap.size<wr.heap.size)
 case atStart=>exact⟨[],by simp,R2.out,O2.out,B2.out,R2.out.lt⟩
 case round =>
  obtain⟨d,hk,hr,ho,hb,hs⟩:=hrel
  have HK:=zz hk
  have NB:=zz hb
  have NS:=zz hs
  have NO:=zz ho
  have RNE:=zz (own_notIter ho hr)
  have DL:Hid (d.length≤100000):=zz (by have h1:=hr.len_le;have:=BN.out;rw[List.length_map] at h1;omega)
  rcases hr.next u32_K 0 with ⟨hall,hrun⟩ | ⟨p,w2,hp,hd,hrun,hr2,hg2,hs2,hent,hbel⟩
  · have GO:Hid ((c.quota::d.map (qE bs)).Perm (c.quota::T.map fun t=>(t.q:Int))):=zz (by
     obtain⟨_,_,_,_,_,_,_,_,_,_,_,_,_,_,hsub,hnd⟩:=hr
     have p1:=(all_perm hnd NDE.out hsub hall).map (qE bs)
     rw[qE_all ND.out] at p1
     have p2:=HMW.out.prm.map (fun t:TnP=>(t.q:Int))
     rw[List.map_map] at p2
     exact (p1.trans p2).cons _)
    have hwf:∀z∈c.quota::d.map (qE bs),(Lit.int .i64 z).wf=true:=fun z hz=>by
     have e3:IntKind.i64.min = -9223372036854775808:=rfl
     have e4:IntKind.i64.max=9223372036854775807:=rfl
     simp only[Lit.wf,Bool.and_eq_true,decide_eq_true_eq]
     rcases List.mem_cons.1 hz with rfl | hz
     · have:=CQ.out;omega
     · obtain⟨p,_,rfl⟩:=List.mem_map.1 hz
       have:=QB.out p;omega
    obtain⟨zs,hzs⟩:∃zs,c.quota::d.map (qE bs)=zs:=⟨_,rfl⟩
    rw[hzs] at GO ho hwf
    obtain⟨zA,zc,hzv⟩:=row_shape ho
    subst hzv
    have HFT:=zz (qFits_any (blocks:Int) zA zs.length zc zs wr (isRow_own ho hwf))
    clear hwf hzs NO
    have s0:wr.cell? ⟨s,0,none⟩=some (.int .i64 (blocks:Int)):=(HM.out.box.ab hb).cell (k:=0) rfl
    obtain⟨ft,hft⟩:∃b,fitsQ blocks (c.quota::T.map fun t=>(t.q:Int))=b:=⟨_,rfl⟩
    have FT:=zz hft
    clear hk hr ho hb hs hall hft
    go_wp2_with fail
    refine HFT.out.mono ?_
    rintro e w5 ⟨hfe,rfl⟩
    cases ft with
    | false=>
      obtain⟨z,hz⟩:=fitsEnd_no hfe (by rw[fitsQ_perm GO.out];exact FT.out)
      subst hz
      have PA:Hid (a=errA 9):=zz (by rw[HAA.out,FT.out];rfl)
      have PT:Hid (T2=T):=zz (by rw[HT2.out,FT.out];rfl)
      have HF:=zz fun W=>fails_any 9 W
      clear hfe s0 HFT
      go_wp2_with fail
      refine (HF.out _).mono ?_
      rintro e w1 ⟨rfl,hb⟩
      have B1:Hid (Below w0.heap.size w0 w1):=zz (below_tr NB.out hb NB.out.size)
      have Q1:=zz (HQ.out.ab B1.out)
      have M1:=kpM HM B1
      have S1:=stKp s O HA B1
      clear hb HQ HM B1
      go_wp2_with (first
       | ((with_reducible refine stA 73 ?_ (ansE 9) ?_ Q1 ?_ ?_ (ansE_one _) ?_);rfl;rfl;rfl;rfl;intro wz QZ FZ))
      refine bodyPost_ret (ansR Tryz.results37 QZ rfl rfl) rfl ?_
      rw[PA.out,PT.out]
      exact DoR.fl 9 0 0 0 M1 S1 FZ
    | true =>
      have he:=fitsEnd_yes hfe (by rw[fitsQ_perm GO.out];exact FT.out)
      subst he
      have PA:Hid (a=errA 0):=zz (by rw[HAA.out,FT.out];rfl)
      have PT:Hid (T2=T++[newT c]):=zz (by rw[HT2.out,FT.out];rfl)
      have MR:=zz (HM.out.stp (Stp.of NB.out (fun _=>False) fun _ _=>rfl) fun _ h=>h)
      have XR:=zz (HB.out.ab NB.out)
      have HSR:=zz (HS.out.ab (below_tr HA.out NB.out HA.out.size))
      clear hfe s0 HFT RNE GO
      go_upto_region 13 with (fail)
      refine wp_wideD [⟨74,IsR (.pointer (some ⟨s,0,none⟩)),[],false⟩,⟨75,IsR (.pointer (some ⟨s,0,none⟩)),[0],false⟩,⟨76,IsR (.pointer (some ⟨s,1,none⟩)),[1],false⟩,⟨77,IsR (.map (some m)),[2],false⟩,⟨78,IsR (.pointer (some ⟨w.heap.size,1,none⟩)),[],false⟩,⟨79,IsR (.int .u32 (c.ten:Int)),[4],false⟩,⟨80,IsR (.pointer (some ⟨w.heap.size,2,none⟩)),[],false⟩,⟨81,IsR (.slice c.sec.A c.sec.n c.sec.c),[6],false⟩,⟨82,IsR (.string (strOf c.sec.l)),[7],false⟩,⟨83,IsR (.pointer (some ⟨w.heap.size,3,none⟩)),[],false⟩,⟨84,IsR (.int .i64 c.quota),[9],false⟩,⟨85,NewM encStr kyOk wr.heap.size,[],true⟩,⟨86,NewC wr.heap.size,[],false⟩,⟨87,NewM u64V u64Ok wr.heap.size,[],true⟩,⟨88,TenV c wr.heap.size,[8,10,11,12,13],false⟩,⟨89,TenB c wr.heap.size,[14],false⟩] (by kernel_rfl) (by kernel_rfl) rfl rfl rfl ⟨?_,?_,?_,?_,?_,?_,?_,?_,?_,?_,?_,?_,?_,?_,?_,?_,trivial⟩ ?_
      · refine⟨rfl,IsR.mono _,fun a W hA hb hd hx=>takes_plain rfl (yields_value _ ?_ rfl)⟩
        have h0:a.tmps[0]?.getD undef = .pointer (some ⟨s,0,none⟩):=gt' hA (by simp) rfl
        go_simp
      · refine⟨rfl,IsR.mono _,fun a W hA hb hd hx=>takes_plain rfl (yields_value _ ?_ rfl)⟩
        have h74:a.tmps[74]?.getD undef = .pointer (some ⟨s,0,none⟩):=gh (hd 0 (by simp) _ rfl)
        go_simp
      · refine⟨rfl,IsR.mono _,fun a W hA hb hd hx=>takes_plain rfl (yields_value _ ?_ rfl)⟩
        have h75:a.tmps[75]?.getD undef = .pointer (some ⟨s,0,none⟩):=gh (hd 1 (by simp) _ rfl)
        go_simp
      · refine⟨rfl,IsR.mono _,fun a W hA hb hd hx=>takes_plain rfl (yields_value _ ?_ rfl)⟩
        have h76:a.tmps[76]?.getD undef = .pointer (some ⟨s,1,none⟩):=gh (hd 2 (by simp) _ rfl)
        have hc:W.cell? (⟨s,1,none⟩)=some (.map (some m)):=(MR.out.box.ab hb).cell (k:=1) rfl
        go_simp
      · refine⟨rfl,IsR.mono _,fun a W hA hb hd hx=>takes_plain rfl (yields_value _ ?_ rfl)⟩
        have h3:a.tmps[3]?.getD undef = .pointer (some ⟨w.heap.size,0,none⟩):=gt' hA (by simp) rfl
        go_simp
      · refine⟨rfl,IsR.mono _,fun a W hA hb hd hx=>takes_plain rfl (yields_value _ ?_ rfl)⟩
        have h78:a.tmps[78]?.getD undef = .pointer (some ⟨w.heap.size,1,none⟩):=gh (hd 4 (by simp) _ rfl)
        have hc:W.cell? (⟨w.heap.size,1,none⟩)=some (.int .u32 (c.ten:Int)):=(XR.out.ab hb).cell (k:=1) rfl
        go_simp
      · refine⟨rfl,IsR.mono _,fun a W hA hb hd hx=>takes_plain rfl (yields_value _ ?_ rfl)⟩
        have h3:a.tmps[3]?.getD undef = .pointer (some ⟨w.heap.size,0,none⟩):=gt' hA (by simp) rfl
        go_simp
      · refine⟨rfl,IsR.mono _,fun a W hA hb hd hx=>takes_plain rfl (yields_value _ ?_ rfl)⟩
        have h80:a.tmps[80]?.getD undef = .pointer (some ⟨w.heap.size,2,none⟩):=gh (hd 6 (by simp) _ rfl)
        have hc:W.cell? (⟨w.heap.size,2,none⟩)=some (.slice c.sec.A c.sec.n c.sec.c):=(XR.out.ab hb).cell (k:=2) rfl
        go_simp
      · refine⟨rfl,IsR.mono _,fun a W hA hb hd hx=>takes_plain rfl (yields_value _ ?_ rfl)⟩
        have h81:a.tmps[81]?.getD undef = .slice c.sec.A c.sec.n c.sec.c:=gh (hd 7 (by simp) _ rfl)
        have hst:=run_str (HSR.out.ab hb) 32 5 9 Tryz.underlying32 Tryz.underlying5 Tryz.underlying9
        go_simp
      · refine⟨rfl,IsR.mono _,fun a W hA hb hd hx=>takes_plain rfl (yields_value _ ?_ rfl)⟩
        have h3:a.tmps[3]?.getD undef = .pointer (some ⟨w.heap.size,0,none⟩):=gt' hA (by simp) rfl
        go_simp
      · refine⟨rfl,IsR.mono _,fun a W hA hb hd hx=>takes_plain rfl (yields_value _ ?_ rfl)⟩
        have h83:a.tmps[83]?.getD undef = .pointer (some ⟨w.heap.size,3,none⟩):=gh (hd 9 (by simp) _ rfl)
        have hc:W.cell? (⟨w.heap.size,3,none⟩)=some (.int .i64 c.quota):=(XR.out.ab hb).cell (k:=3) rfl
        go_simp
      · refine⟨rfl,NewM.mono _ _ _,fun a W hA hb hd hx=>takes_plain rfl ?_⟩
        exact yields_newM rfl hb
      · refine⟨rfl,NewC.mono _,fun a W hA hb hd hx=>takes_plain rfl ?_⟩
        refine yields_call 26 #[] (by go_simp) ((capsNew_any W).mono ?_)
        rintro e W2 ⟨rfl,h1,h2⟩
        exact⟨_,rfl,⟨W.heap.size,rfl,hb.size,cpA_new h1⟩,h2⟩
      · refine⟨rfl,NewM.mono _ _ _,fun a W hA hb hd hx=>takes_plain rfl ?_⟩
        exact yields_newM rfl hb
      · refine⟨rfl,TenV.mono _ _,fun a W hA hb hd hx=>takes_plain rfl ?_⟩
        have h82:a.tmps[82]?.getD undef = .string (strOf c.sec.l):=gh (hd 8 (by simp) _ rfl)
        have h84:a.tmps[84]?.getD undef = .int .i64 c.quota:=gh (hd 10 (by simp) _ rfl)
        obtain⟨nb,e1,p1,q1⟩:=hd 11 (by simp) _ rfl
        obtain⟨cb,e2,p2,q2⟩:=hd 12 (by simp) _ rfl
        obtain⟨sm,e3,p3,q3⟩:=hd 13 (by simp) _ rfl
        have e1b:a.eval (.tmp 85) = .map (some nb):=e1
        have e3b:a.eval (.tmp 87) = .map (some sm):=e3
        have h85:a.tmps[85]?.getD undef = .map (some nb):=(eval_get a 85).trans e1
        have h86:a.tmps[86]?.getD undef = .pointer (some ⟨cb,0,none⟩):=(eval_get a 86).trans e2
        have h87:a.tmps[87]?.getD undef = .map (some sm):=(eval_get a 87).trans e3
        have hne:blk (a.eval (.tmp 85))≠blk (a.eval (.tmp 87)):=hx 11 (by simp) 13 (by simp) _ _ rfl rfl (by decide) rfl rfl
        rw[e1b,e3b] at hne
        refine yields_value (.agg (tenC c nb cb sm)) ?_ ⟨nb,cb,sm,rfl,p1,p2,p3,q1,q2,q3,fun e=>hne (by rw[e])⟩
        unfold tenC
        go_simp
      · refine⟨rfl,TenB.mono _ _,fun a W hA hb hd hx=>takes_plain rfl ?_⟩
        obtain⟨nb,cb,sm,e1,p1,p2,p3,q1,q2,q3,hne⟩:=hd 14 (by simp) _ rfl
        have h88:a.tmps[88]?.getD undef = .agg (tenC c nb cb sm):=(eval_get a 88).trans e1
        have ha2:Below W.heap.size W (W.alloc (.cells (tenC c nb cb sm) 71)):=alB
        refine .inl ⟨.pointer (some ⟨W.heap.size,0,none⟩),W.alloc (.cells (tenC c nb cb sm) 71),?_,⟨W.heap.size,nb,cb,sm,rfl,hb.size,CbB.new _ _ _,p1,p2,p3,q1.ab ha2,q2.ab ha2,q3.ab ha2,hne⟩,ha2,fresh_no _ _ _⟩
        unfold tenC at *
        go_simp
      intro vs W9 hR hF hb
      have e74:vs 74 = .pointer (some ⟨s,0,none⟩):=hR 0 _ rfl
      have e75:vs 75 = .pointer (some ⟨s,0,none⟩):=hR 1 _ rfl
      have e76:vs 76 = .pointer (some ⟨s,1,none⟩):=hR 2 _ rfl
      have e77:vs 77 = .map (some m):=hR 3 _ rfl
      have e78:vs 78 = .pointer (some ⟨w.heap.size,1,none⟩):=hR 4 _ rfl
      have e79:vs 79 = .int .u32 (c.ten:Int):=hR 5 _ rfl
      have e80:vs 80 = .pointer (some ⟨w.heap.size,2,none⟩):=hR 6 _ rfl
      have e81:vs 81 = .slice c.sec.A c.sec.n c.sec.c:=hR 7 _ rfl
      have e82:vs 82 = .string (strOf c.sec.l):=hR 8 _ rfl
      have e83:vs 83 = .pointer (some ⟨w.heap.size,3,none⟩):=hR 9 _ rfl
      have e84:vs 84 = .int .i64 c.quota:=hR 10 _ rfl
      simp only[List.map_cons,List.map_nil,List.foldl_cons,List.foldl_nil,List.length_cons,List.length_nil,List.drop_succ_cons,List.drop_zero,Act.put,List.setIfInBounds_toArray,List.set_cons_zero,List.set_cons_succ,e74,e75,e76,e77,e78,e79,e80,e81,e82,e83,e84]
      have h9:TenB c wr.heap.size (vs 89) W9:=hR 15 _ rfl
      generalize vs 85=q85 at *
      generalize vs 86=q86 at *
      generalize vs 87=q87 at *
      generalize vs 88=q88 at *
      generalize vs 89=q89 at *
      obtain⟨b,nb,cb,sm,e9,p0,p9,p1,p2,p3,q1,q2,q3,hne⟩:=h9
      subst e9
      have B09:=below_tr HA.out (below_tr NB.out hb NB.out.size) HA.out.size
      have z1:=HQ.out.lt
      have z2:=NB.out.size
      have cO:∀k,k<w.heap.size→creTg O w.heap.size s c.ten nb k=O k:=fun k hk=>by unfold creTg;rw[if_pos hk]
      have cN:creTg O w.heap.size s c.ten nb nb=none:=by unfold creTg;rw[if_neg (by omega),if_pos rfl]
      have cT:∀k,wr.heap.size≤k→k≠nb→creTg O w.heap.size s c.ten nb k=some (s,c.ten):=fun k hk hk2=>by unfold creTg;rw[if_neg (by omega),if_neg hk2,if_neg (by omega)]
      have cA:creTg O w.heap.size s c.ten nb (w.heap.size+1)=some (0,0):=by unfold creTg;rw[if_neg (by omega),if_neg (by omega),if_pos (by omega)]
      have st9:Stp (fun τ=>τ.1=s) w O W9 (creTg O w.heap.size s c.ten nb):=Stp.of B09 _ cO
      have m9:=HMW.out.stp (Stp.of B09 (fun _=>False) cO) fun _ h=>h
      have tq:((c.quota.toNat:Nat):Int)=c.quota:=Int.toNat_of_nonneg (by have:=CQ.out;omega)
      have bne:b≠nb:=fun e=>by
       obtain⟨es',cl,h6,_⟩:=q1
       have h5:=p9
       unfold CbB at h5
       rw[e,h6] at h5
       cases h5
      have cne:cb≠nb:=fun e=>by
       obtain⟨es',cl,h6,_⟩:=q1
       obtain⟨l,h7,_⟩:=q2.st
       have h5:=h7.box
       unfold CbB at h5
       rw[e,h6] at h5
       cases h5
      have t9:TnM W9 (creTg O w.heap.size s c.ten nb) s b (newT c) cb none sm nb []:=
       ⟨by unfold newT;simp only[tq];exact p9,⟨[],[],q1,trivial,List.Perm.refl _⟩,cN,q2,q3,⟨fun p hp=>(by cases hp),fun i S hi=>(by simp[newT] at hi)⟩,cT b p0 bne,cT cb p2 cne,fun q hq=>(by cases hq),cT sm p3 (Ne.symm hne),fun e=>(by cases e)⟩
      have qn9:CbB W9 (w.heap.size+1) 44 (ansE 0):=HQ.out.ab (below_tr NB.out hb NB.out.size)
      have M9:=zz m9
      have T9:=zz t9
      have Q9:=zz qn9
      have S9:=zz st9
      have CA:=zz cA
      have OKT:Hid (TnOk (newT c)):=zz ⟨CT1.out,HC32.out,HS.out.2,by show 1≤c.quota.toNat;have:=CQ.out;omega,by show c.quota.toNat≤1000;have:=CQ.out;omega⟩
      clear hR hF hb p0 p9 p1 p2 p3 q1 q2 q3 hne B09 z1 z2 cO cN cT cA st9 m9 tq bne cne t9 qn9
      refine wpList_mapPut rfl (.tmp 77) (.tmp 79) (.tmp 89) rfl u32_K Tryz.underlying56 rfl M9.out.map c.ten HC32.out rfl (ptrV b) rfl ?_
      intro w2 h2 g2 s2 b2
      have mne:s≠m:=fun e=>by
       have h5:=M9.out.box
       obtain⟨es',cl,h6,_⟩:=M9.out.map
       unfold CbB at h5
       rw[e,h6] at h5
       cases h5
      have stm:Stp (fun τ=>τ=(s,0)) W9 (creTg O w.heap.size s c.ten nb) w2 (creTg O w.heap.size s c.ten nb):=Stp.map g2 M9.out.om rfl
      have qne:w.heap.size+1≠m:=fun e=>by
       have h5:=Q9.out
       obtain⟨es',cl,h6,_⟩:=M9.out.map
       unfold CbB at h5
       rw[e,h6] at h5
       cases h5
      have Q1:=zz (Q9.out.grown g2 qne)
      have M1:=zz (M9.out.ins (t':=newT c) (M9.out.box.grown g2 mne) stm HFN.out h2 ⟨_,_,_,_,_,T9.out.stp stm (fun e=>by injection e with _ e;have:=CT1.out;simp only[newT] at e;omega)⟩ OKT.out)
      have S1:=zz (S9.out.tr (stm.imp fun τ e=>by rw[e]))
      clear h2 g2 s2 b2 mne stm qne
      simp only[Act.put]
      go_wp2_with (first
       | ((with_reducible refine stA 90 ?_ (ansE 0) ?_ Q1 ?_ ?_ (ansE_one _) ?_);rfl;rfl;rfl;rfl;intro wz QZ FZ))
      refine bodyPost_ret (ansR Tryz.results37 QZ rfl rfl) rfl ?_
      rw[PA.out,PT.out]
      exact DoR.flat 0 0 0 0 ⟨m,_,M1.out.stp (Stp.box FZ.out CA.out) fun i e=>by have:=M1.out.pos;injection e with e;omega⟩ (S1.out.fresh FZ.out (Nat.le_succ _))
  · obtain⟨x,hx,rfl⟩:=List.mem_map.1 hp
    have HN:=zz hr2
    have HMM:Hid (d.length<bs.length):=zz (by have:=hr2.len_le;simp at this;omega)
    have hb2:=hbel _ _ hb (by have:=B1.out.size;omega)
    have B2:=zz hb2
    have S2:Hid (w1.heap.size<w2.heap.size):=zz (by rw[hs2];exact hs)
    have O2:Hid (OwI w2 w0.heap.size u5 (c.quota::d.map (qE bs))):=zz (ho.kept hg2 (.inr RNE.out))
    obtain⟨cb,mo,sm,nb,es,ht⟩:=HM.out.all x hx
    have t1:w2.cell? ⟨x.1,1,none⟩=some (.int .i64 (x.2.q:Int)):=(ht.box.ab hb2).cell (k:=1) rfl
    have QX:Hid (qE bs (x.2.n,ptrV x.1)=(x.2.q:Int)):=zz (by unfold qE;rw[fnd_of ND.out hx];rfl)
    have QK:=zz (HMW.out.ok x hx)
    simp only[u32V,ptrV] at hrun hent
    clear hk hr hb hs hp hd hr2 hg2 hs2 hbel ho hb2 ht
    go_upto_region 9 with (fail)
    obtain⟨i0,hi0,hz0,hz1,hz2⟩:=info_parts infoI64
    have ha:Below w2.heap.size w2 (w2.alloc (.cells #[.int .i64 (x.2.q:Int)] 3)):=alB
    have wfS:∀z∈[(x.2.q:Int)],(Lit.int .i64 z).wf=true:=fun z hz=>by
     simp only[List.mem_singleton] at hz
     subst hz
     have:=QK.out.q2
     have e3:IntKind.i64.min = -9223372036854775808:=rfl
     have e4:IntKind.i64.max=9223372036854775807:=rfl
     simp only[Lit.wf,Bool.and_eq_true,decide_eq_true_eq]
     omega
    have RL:=zz (isRow_lit w2 3 .i64 [(x.2.q:Int)] 1 rfl (by decide) wfS)
    have O4:Hid (OwI (w2.alloc (.cells #[.int .i64 (x.2.q:Int)] 3)) w0.heap.size u5 (c.quota::d.map (qE bs))):=zz (row_fr O2.out (Fr.of ha (fun _=>False)) (fun k hk e=>e))
    have B4:=zz (below_tr B2.out ha B2.out.size)
    have N4:=zz (HN.out.ab ha)
    have DLM:Hid ((c.quota::d.map (qE bs)).length≤100001):=zz (by rw[List.length_cons,List.length_map];have:=DL.out;omega)
    have CE:Hid ((c.quota::d.map (qE bs))++[(x.2.q:Int)]=c.quota::(d++[(x.2.n,Value.pointer (some ⟨x.1,0,none⟩))]).map (qE bs)):=zz (by rw[List.map_append,List.map_singleton,show qE bs (x.2.n,Value.pointer (some ⟨x.1,0,none⟩))=_ from QX.out];rfl)
    clear ha wfS
    go_wp2_with (first
     | (refine wpList_app _ rfl (.tmp 51) (.tmp 56) rfl w0.heap.size Tryz.underlying101 hi0 hz0 hz1 hz2 rfl rfl O4.out rfl RL.out (by have:=DLM.out;simp only[maxLen];omega) (by have:=DLM.out;omega) B4.out.size ?_
        intro v5 w5 h5 b5 g5 a5
        have O5:=zz h5
        have N5:Hid (RngB u32V u32Ok w5 m w1.heap.size (bs.map fun x=>(x.2.n,ptrV x.1)) (d++[(x.2.n,Value.pointer (some ⟨x.1,0,none⟩))])):=zz (N4.out.grown g5 (by obtain⟨_,_,hh,_⟩:=N4.out.mapB;exact own_notMapI O4.out hh) (own_notIter O4.out N4.out))
        have B5:=zz (B4.out.trans b5)
        have S5:Hid (w1.heap.size<w5.heap.size):=zz (Nat.lt_of_lt_of_le S2.out (Nat.le_trans (by simp) g5.size))
        clear h5 b5 g5 a5))
    go_roundg (bs.length-(d.length+1))
    case measure=>have:=HMM.out;have:=HK.out;omega
    case rel=>exact⟨d++[(x.2.n,Value.pointer (some ⟨x.1,0,none⟩))],by simp,N5.out,by rw[←CE.out];exact O5.out,B5.out,S5.out⟩
end
end Go.Proofs.YtgdhinjhbjolgaaGreat
