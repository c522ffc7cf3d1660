/-
  Parts of the proof, joined.
-/
import Derived.Test.YtgdhinjhbjolgaaGreatBdc
import Derived.Test.YtgdhinjhbjolgaaGreatBde
import Derived.Test.YtgdhinjhbjolgaaGreatBdh
import Derived.Sort.LoopGhostIn
import Derived.Sort.MapsRangeIn
import Derived.Maps.OwnIn
import Derived.Shelf.Abstract
import Derived.Test.YtgdhinjhbjolgaaGreatBdn
import Derived.Test.YtgdhinjhbjolgaaGreatBdk
namespace Go.Proofs.YtgdhinjhbjolgaaGreat.U32
set_option maxHeartbeats 2000000
open Go.RowKit Go.Sort Go.Shelf
set_option linter.unusedVariables false
attribute [local go_sem] Oper.semAt_some
set_option maxRecDepth 100000 in
theorem keys1_stops (F:Fence) (n:Nat) (hF:F.fn 104) (hro:F.round=none) (hn:1≤n) (Bm b:Nat) (vs:List (Nat×Value)) (w:World) (n₀:Nat) (hBm:Bm<w.heap.size) (hm:w.cell? ⟨Bm,0,none⟩=some (.map (some b))) (h:MapB u32V u32Ok w b vs):
 SeqX F n Tryz.prog 104 #[.pointer (some ⟨Bm,0,none⟩)] (fun x:Nat=>#[.int .u32 (x:Int)]) none n₀ (fun xs=>xs.Perm (vs.map (·.1))) (fun _=>True) vs.length w:=by
 intro l J Jx W hW hJ hY h0
 have hc:=(hW.cell (p:=⟨Bm,0,none⟩) hBm).trans hm
 have HM:=zz (h.ab hW)
 have ND:=zz (h.nodup u32_K)
 have H0:=zz h0
 have HJ:=zz hJ
 have HY:=zz hY
 clear h hm hW h0 hJ hY
 refine callsIn_of_wp Tryz.func104 rfl hF ?_ hro
 simp only[Tryz.ntmps104,List.size_toArray,List.length_cons,List.length_nil,Nat.reduceAdd,Nat.reduceSub,Array.replicate_succ,Array.replicate_zero,List.push_toArray,List.append_toArray,List.nil_append,List.cons_append]
 gi_wp2_with (first
  | (gi_at_range
     refine wpListIn_mapRange rfl (.tmp 4) rfl Tryz.underlying56 rfl HM.out ?_
     intro w1 r1 b1 s1
     have R1:=zz r1
     have J1:=zz (HJ.out [] W w1 none H0.out (grown_of b1 none) (fun r e=>by cases e))
     clear r1 b1 s1)
  | gi_in)
 gi_loopg [3] (vs.length) (fun k _ wr=>∃d,vs.length-d.length≤k∧RngB u32V u32Ok wr b W.heap.size vs d∧J (d.map (·.1)) wr)
 case atStart=>exact⟨[],by simp,R1.out,J1.out⟩
 case round=>
  obtain⟨d,hk,hr,hj⟩:=hrel
  have HK:=zz hk
  have HR:=zz hr
  have JJ:=zz hj
  clear hk hr hj
  rcases HR.out.next u32_K 0 with ⟨hall,hrun⟩ | ⟨p,w2,hp,hd,hrun,hr2,hg2,hs2,hent,hbel⟩
  · have PM:Hid ((d.map (·.1)).Perm (vs.map (·.1))):=zz (by
     obtain⟨_,_,_,_,_,_,_,_,_,_,_,_,_,_,hsub,hnd⟩:=HR.out
     refine (List.perm_ext_iff_of_nodup hnd ND.out).2 fun x=>?_
     simp only[List.mem_map]
     constructor
     · rintro ⟨q,h1,h2⟩;exact⟨q,hsub q h1,h2⟩
     · rintro ⟨q,h1,h2⟩;exact⟨q,hall q h1,h2⟩)
    clear hall
    gi_wp2
    go_end0
    exact⟨⟨_,rfl⟩,.inl ⟨_,PM.out,JJ.out⟩⟩
  · have R2:=zz hr2
    have HM:Hid (d.length<vs.length):=zz (by have:=hr2.len_le;simp at this;omega)
    have hj2:J (d.map (·.1)) w2:=HJ.out _ _ _ _ JJ.out hg2 (fun r e=>by cases e;exact .inr ⟨Nat.le_refl _,HR.out.walk⟩)
    obtain⟨px,pv⟩:=p
    obtain⟨fn,tmps,assign,body,hy,hR⟩:=HY.out (d.map (·.1)) px w2 hj2 (by rw[List.length_map];exact HM.out)
    have HRR:=zz hR
    simp only[u32V] at hent hrun
    clear hp hd hr2 hg2 hs2 hj2 hR hbel
    gi_wp2
    refine HRR.out.mono ?_
    rintro e W3 (⟨rfl,hJ3,hk3⟩ | ⟨rfl,hJx3⟩)
    · have J3:=zz hJ3
      have R3:=zz (R2.out.walks hk3.1)
      clear hJ3 hk3
      gi_wp2
      gi_roundg (vs.length-(d.length+1))
      case measure=>have:=HM.out;have:=HK.out;omega
      case rel=>exact⟨d++[(px,pv)],by simp,R3.out,by rw[List.map_append];exact J3.out⟩
    · gi_wp2
      refine bodyPost_ret (results_none rfl _ _ _) rfl ?_
      exact⟨⟨_,rfl⟩,.inr ⟨_,trivial,hJx3⟩⟩
set_option maxRecDepth 100000 in
theorem keys_any (mo:Option Nat) (w:World):Calls Tryz.prog 71 #[.map mo] w fun e w'=>e = .returned (.func (.func 104) #[] #[.pointer (some ⟨w.heap.size,0,none⟩)])∧w.alloc (.cells #[.map mo] 56)=w':=by
 go_enter Tryz.func71,Tryz.ntmps71
 go_wp2_with fail
 go_ret
 exact⟨rfl,rfl⟩
theorem wpListIn_appN {F:Fence} {nF:Nat} {rest:List Oper} {ops:Array Oper} {o:Oper} {a:Act} {w:World} {Q:Exit→Act→World→Prop} (hgd:o.guard=none) (s x:Operand)
 (ho:o.op = .call { callee:=.builtin .append,args:=#[s,x],argTypes:=#[42,42] })
 {B G:Nat} {v:Value} {ls:List Nat} (hown:NsB w B v ls) (hs:a.eval s=v) (n:Nat) (hx:a.eval x = .slice (some ⟨G,0,none⟩) 1 1) (hG:CbB w G 31 #[.int .u32 (n:Int)]) (hl:ls.length≤100000) (hB:B≤w.heap.size)
 (h:∀v' w',NsB w' B v' (ls++[n])→w.grownBy w' v.ownBlock→wpListIn F nF Tryz.prog ops Q rest (a.put o.dst v') w'):wpListIn F nF Tryz.prog ops Q (o::rest) a w:=by
 obtain⟨i0,hi0,hz0,hz1,hz2⟩:=info_parts infoN
 obtain⟨v1,W1,hrun,r1,r2,_⟩:=run_append_own (P:=Tryz.prog) w B 42 o.type 31 i0 _ 1 4 Tryz.underlying42 hi0 hz0 hz1 hz2 rfl (by decide) v ls.length (nvs ls) hown ⟨G,0,none⟩ 1 1 [.int .u32 (n:Int)] rfl (row_at hG) (by simp[Value.oneCell']) (by simp only[maxLen];omega) (by omega) hB
 refine wpListIn_plain hgd fun K hK=>?_
 unfold Oper.wpIn
 refine⟨by simp[Oper.about,ho,resolve,Target.leads,Sem.run_pure],?_⟩
 rw[Oper.semAt_plain F _ _ (by rw[ho];intro c hc';cases hc')]
 simp only[execOp,ho,resolve,invoke,builtin,Sem.run_bind,Sem.run_pure,Result.andThen_ok,List.map_toArray,List.map_cons,List.map_nil,hs,hx,hrun]
 refine hK _ _ (h v1 W1 ?_ r2)
 unfold NsB nvs
 rw[List.map_append,List.length_append,List.length_singleton]
 exact r1
def ApI (w:World) (pre:List Nat) (W:World):Prop:=(∃v,Boxed W w.heap.size 42 v∧NsB W w.heap.size v pre)∧Below w.heap.size w W
theorem ApI.turn {w:World} {B:Nat} (hB:w.heap.size≤B) {s:List Nat} {A C:World} {row:Option Nat} (h:ApI w s A) (hg:A.grownBy C row) (hr:∀r,row=some r→B≤r∧∃o:Obj,A.heap[r]? = some o∧o.isCells=false):ApI w s C:=by
 obtain⟨⟨v,hv,hn⟩,hb⟩:=h
 refine⟨⟨v,hv.kept hg fun e=>?_,hn.kept hg ?_⟩,hb.grown hg hb.size (fun k e=>Nat.le_trans hB (hr k e).1)⟩
 · obtain⟨_,o,ho,hc⟩:=hr _ e.symm
   rw[show A.heap[w.heap.size]? = _ from hv] at ho
   cases ho
   cases hc
 · rcases hn.2 with ⟨rfl,_⟩ | ⟨g,cap,cur,rfl,_,hh,_⟩
   · exact .inl rfl
   · refine .inr fun e=>?_
     obtain⟨_,o,ho,hc⟩:=hr g (by rw[←e];rfl)
     rw[hh] at ho
     cases ho
     cases hc
theorem SeqX.later {α:Type} {F:Fence} {n:Nat} {P:Program} {g:Nat} {lb:Array Value} {encs:α→Array Value} {hb:Option Nat} {n₀:Nat} {S Sp:List α→Prop} {N:Nat} {w w':World} (h:SeqX F n P g lb encs hb n₀ S Sp N w) (hl:Below w.heap.size w w'):SeqX F n P g lb encs hb n₀ S Sp N w':=
 fun l J Jx W hW hJ hY h0=>h l J Jx W (hl.trans (hW.mono hl.size)) hJ hY h0
set_option maxRecDepth 100000 in
theorem appendSeq_in (F:Fence) (n:Nat) (hF:F.fn 122) (hro:F.round=none) (hn:2≤n) (g:Nat) (lb:Array Value) (hFg:F.fn g) (eg:∀args w,(callFunc g args).run Tryz.prog w = .ok (.enter g args) w)
 (S Sp:List Nat→Prop) (N:Nat) (hN:N≤100000) (w:World) (hseq:SeqX F (n-1) Tryz.prog g lb (fun x:Nat=>#[.int .u32 (x:Int)]) none w.heap.size S Sp N w):
 CallsIn F n Tryz.prog 122 #[.slice none 0 0,.func (.func g) #[] lb] w fun e w'=>∃(v:Value) (xs:List Nat),e = .returned v∧S xs∧NsB w' w.heap.size v xs∧Below w.heap.size w w':=by
 have h1:1≤n:=by omega
 refine callsIn_of_wp_marks Tryz.func122 rfl hF ?_ hro
 simp only[Tryz.ntmps122,List.size_toArray,List.length_cons,List.length_nil,Nat.reduceAdd,Nat.reduceSub,Array.replicate_succ,Array.replicate_zero,List.push_toArray,List.append_toArray,List.nil_append,List.cons_append]
 gi_wp2
 have hw1:Below w.heap.size w (w.alloc (.cells #[.slice none 0 0] 42)):=(Below.refl _ w).alloc (Nat.le_refl _) _
 refine range_any hro h1 (gf:=g) (lb:=lb) rfl hFg eg (hb:=none) (n₀:=w.heap.size) hw1.size (fun r e=>by cases e) (SeqX.later hseq hw1) (fun _=>rfl) (ApI w) (fun _ _ _=>False)
  (fun s A C row hi hg hr=>hi.turn hw1.size hg fun r e=>by
    rcases hr r e with h | h
    · cases h
    · exact h)
  (fun _ _ _ _ _ h _ _=>h) ⟨⟨_,Boxed.new _ _ _,NsB.nil _ _⟩,hw1⟩
  (fun x=>{ tmps:=#[.slice none 0 0,.func (.func g) #[] lb,.pointer (some ⟨w.heap.size,0,none⟩),undef,.slice none 0 0,.int .u32 (x:Int),.func (.func g) #[] lb,.int .u32 (x:Int),undef,undef,undef,undef,undef],defers:=[] }) ?assign ?body ?done ?stop
 case assign=>
  intro l x W K hK
  gi_wp2
  exact hK
 case body=>
  rintro l pre x W ⟨⟨v,hv,hns⟩,hb⟩ hlt
  have hc:=hv.cell
  have hcb:CbB (W.alloc (.cells #[.int .u32 (x:Int)] 31)) W.heap.size 31 #[.int .u32 (x:Int)]:=CbB.new _ _ _
  have hle:w.heap.size≤W.heap.size:=hb.size
  have ha:Below W.heap.size W (W.alloc (.cells #[.int .u32 (x:Int)] 31)):=alB
  have NA:=zz (hns.ab ha)
  have HV:=zz hv
  have HN:=zz hns
  have HB:=zz hb
  have HL:=zz hlt
  have CB:=zz hcb
  have HLE:=zz hle
  clear hv hns hb hlt hcb hle ha
  gi_wp2_with (first
   | (gi_at_builtin
      refine wpListIn_appN rfl (.tmp 8) (.tmp 10) rfl (B:=w.heap.size) NA.out rfl x rfl CB.out (by have:=HL.out;omega) (by have:=HLE.out;simp;omega) ?_
      intro v1 w1 n1 g1
      obtain⟨hv1,hv2,hr2,hk2,hb2⟩:=HV.out.appended (by decide) HN.out HB.out.size (Nat.le_refl _) n1 g1
      obtain⟨A1,c1,he1⟩:=row_shape n1
      rw[List.length_append,List.length_singleton] at he1
      subst he1
      have hc1:=hv1.cell
      have hf1:=hv1.frozen
      have V2:=zz hv2
      have R2:=zz hr2
      have K2:=zz hk2
      have B2:=zz hb2
      clear n1 g1 hv1 hv2 hr2 hk2 hb2))
  exact⟨K2.out.from _,⟨K2.out.walks,B2.out⟩,⟨_,V2.out,R2.out⟩,HB.out.trans B2.out⟩
 case done=>
  rintro D xs W hD hS ⟨⟨v,hv,hns⟩,hb⟩ hK
  have hc:=hv.cell
  have HV:=zz hv
  have HN:=zz hns
  have HB:=zz hb
  have HS:=zz hS
  have HD:=zz hD
  have HKK:=zz hK
  clear hv hns hb hS hD hK
  gi_wp2
  refine⟨by simp,.inl ⟨_,_,rfl,run_takeDeferred HKK.out,?_⟩⟩
  have HT:=ApI.turn (w:=w) (B:=w.heap.size) (Nat.le_refl _) (s:=xs) ⟨⟨v,HV.out,HN.out⟩,HB.out⟩ (grownBy_putObj' W D (.deferred none)) (fun r e=>by
   cases e
   exact⟨Nat.le_trans hw1.size HD.out,_,HKK.out,rfl⟩)
  obtain⟨⟨v',hv',hn'⟩,hb'⟩:=HT
  obtain rfl:v'=v:=by
   have h3:(W.putObj D (.deferred none)).heap[w.heap.size]? = W.heap[w.heap.size]?:=World.putObj_heap_other (by have:=HD.out;simp at this;omega)
   have h4:W.heap[w.heap.size]? = some (.cells #[v'] 42 (0,0)):=h3.symm.trans hv'
   rw[show W.heap[w.heap.size]? = _ from HV.out] at h4
   injection h4 with h4
   injection h4 with h4 _
   simpa using h4.symm
  exact⟨_,results_tmp rfl _ _ _,v',xs,rfl,HS.out,hn',hb'⟩
 case stop=>
  rintro D c pre W _ _ h _
  exact h.elim
set_option maxRecDepth 100000 in
theorem collect_any (g:Nat) (lb:Array Value) (eg:∀args w,(callFunc g args).run Tryz.prog w = .ok (.enter g args) w) (S Sp:List Nat→Prop) (N:Nat) (hN:N≤100000) (w:World)
 (hseq:SeqX Fence.wide 5 Tryz.prog g lb (fun x:Nat=>#[.int .u32 (x:Int)]) none w.heap.size S Sp N w):
 Calls Tryz.prog 102 #[.func (.func g) #[] lb] w fun e w'=>∃(v:Value) (xs:List Nat),e = .returned v∧S xs∧NsB w' w.heap.size v xs∧Below w.heap.size w w':=by
 have HC:=zz (callsIn_wide.1 (appendSeq_in Fence.wide 6 trivial rfl (by decide) g lb trivial eg S Sp N hN w hseq))
 clear hseq eg
 go_enter Tryz.func102,Tryz.ntmps102
 go_wp2_with fail
 refine HC.out.mono ?_
 rintro e w1 ⟨v,xs,rfl,hS,hns,hb⟩
 obtain⟨A1,c1,rfl⟩:=row_shape hns
 have HS:=zz hS
 have HN:=zz hns
 have HB:=zz hb
 clear HC hS hns hb
 generalize xs.length=k at *
 go_wp2_with fail
 go_ret
 exact⟨_,xs,rfl,HS.out,HN.out,HB.out⟩
set_option maxRecDepth 100000 in
theorem sorted_any (g:Nat) (lb:Array Value) (eg:∀args w,(callFunc g args).run Tryz.prog w = .ok (.enter g args) w) (S Sp:List Nat→Prop) (N:Nat) (hN:N≤100000) (hS:∀xs,S xs→xs.length≤100000) (w:World)
 (hseq:SeqX Fence.wide 5 Tryz.prog g lb (fun x:Nat=>#[.int .u32 (x:Int)]) none w.heap.size S Sp N w):
 Calls Tryz.prog 70 #[.func (.func g) #[] lb] w fun e w'=>∃(v:Value) (xs:List Nat),e = .returned v∧S xs∧NsB w' w.heap.size v (srt xs)∧Below w.heap.size w w':=by
 have HC:=zz (collect_any g lb eg S Sp N hN w hseq)
 have HL:=zz hS
 clear hseq eg hS
 go_enter Tryz.func70,Tryz.ntmps70
 go_wp2_with fail
 refine HC.out.mono ?_
 rintro e w1 ⟨v,xs,rfl,hS,hns,hb⟩
 have HW:=zz (sort_own w.heap.size v xs w1 hns (HL.out xs hS))
 have HS:=zz hS
 have HN:=zz hns
 have HB:=zz hb
 obtain⟨A1,c1,hv⟩:=row_shape hns
 have HV:=zz hv
 clear HC hS hns hb hv
 go_wp2_with fail
 refine HW.out.mono ?_
 rintro e w2 ⟨rfl,hn2,hg2⟩
 have N2:=zz hn2
 have B2:=zz (below_grownO HB.out hg2 (own_ge9 HN.out) HB.out.size)
 clear HW hn2 hg2
 go_wp2_with fail
 go_ret
 exact⟨_,xs,rfl,HS.out,N2.out,B2.out⟩
end Go.Proofs.YtgdhinjhbjolgaaGreat.U32
namespace Go.Proofs.YtgdhinjhbjolgaaGreat
open Go.RowKit
set_option linter.unusedVariables false
set_option linter.unusedSimpArgs false
def lstA (l:List Nat):AnsP:=⟨0,0,0,[],[],0,l⟩
theorem U32.srt_perm {a b:List Nat} (h:a.Perm b):U32.srt a=U32.srt b:=by
 have tr:∀a b c:Nat,decide (a≤b)=true→decide (b≤c)=true→decide (a≤c)=true:=fun a b c h1 h2=>by simp at h1 h2⊢;omega
 have tot:∀a b:Nat,(decide (a≤b)||decide (b≤a))=true:=fun a b=>by simp;omega
 exact List.Perm.eq_of_pairwise (le:=fun a b=>decide (a≤b)=true) (fun a b _ _ h1 h2=>by simp at h1 h2;omega) (List.pairwise_mergeSort tr tot a) (List.pairwise_mergeSort tr tot b) (((List.mergeSort_perm a _).trans h).trans (List.mergeSort_perm b _).symm)
section
variable {w:World} {O:Tg} {s blocks m:Nat} {T:List TnP} {bs:List (Nat×TnP)} {c:CallP}
set_option maxRecDepth 100000 in
theorem id_tenants (h:IdM w O s blocks T m bs) (hT:T.length≤100000):
 Calls Tryz.prog 43 #[.pointer (some ⟨s,0,none⟩),.agg c.cs] w (DoR s blocks w O (lstA (U32.srt (T.map (·.n)))) T):=by
 obtain⟨w0,hw0,ha,hcb,hqb⟩:=preX w c
 unfold CallP.cs at hcb⊢
 go_enter Tryz.func43,Tryz.ntmps43
 go_upto_region 1 with (fail)
 rw[hw0.out]
 clear hw0
 have HA:=zz ha
 have HQ:=zz hqb
 have M0:=h.stp (ctS ha) noF
 have HM:=zz M0
 have s1:=M0.box.cell (k:=1) rfl
 have PN:(bs.map fun x=>x.2.n).Perm (T.map (·.n)):=by have:=h.prm.map (·.n);rwa [List.map_map] at this
 have BL:bs.length=T.length:=by have:=h.prm.length_eq;rwa [List.length_map] at this
 have HK:=zz fun W=>U32.keys_any (some m) W
 have eg:=enters_of Tryz.func104 (by kernel_rfl) rfl
 have ha1:Below w0.heap.size w0 (w0.alloc (.cells #[.map (some m)] 56)):=alB
 have hcell:(w0.alloc (.cells #[.map (some m)] 56)).cell? ⟨w0.heap.size,0,none⟩=some (.map (some m)):=(CbB.new w0 56 #[.map (some m)]).cell (k:=0) rfl
 have HS:Hid (Calls Tryz.prog 70 #[.func (.func 104) #[] #[.pointer (some ⟨w0.heap.size,0,none⟩)]] (w0.alloc (.cells #[.map (some m)] 56)) fun e w'=>∃v,e = .returned v∧U32.NsB w' w0.heap.size v (U32.srt (T.map (·.n)))∧Below w0.heap.size w0 w'):=zz (by
  have hM:=M0.map.ab ha1
  refine (U32.sorted_any _ _ eg (fun xs=>xs.Perm ((bs.map fun x=>(x.2.n,ptrV x.1)).map (·.1))) (fun _=>True) (bs.map fun x=>(x.2.n,ptrV x.1)).length (by rw[List.length_map];omega) (fun xs h=>by rw[h.length_eq];simp;omega) _ (U32.keys1_stops Fence.wide 5 trivial rfl (by decide) w0.heap.size m _ _ _ (by simp) hcell hM)).mono ?_
  rintro e w' ⟨v,xs,rfl,hS,hn,hb⟩
  rw[List.map_map] at hS
  rw[U32.srt_perm (hS.trans PN)] at hn
  exact⟨v,rfl,row_low hn ha1.size,below_tr ha1 hb ha1.size⟩)
 clear h ha hqb hcb M0 eg ha1 hcell PN BL hT
 go_wp2_with fail
 refine (HK.out _).mono ?_
 rintro e w1 ⟨rfl,rfl⟩
 clear HK
 go_wp2_with fail
 refine HS.out.mono ?_
 rintro e w2 ⟨v,rfl,hn,hb⟩
 obtain⟨LA,ln,lc,rfl⟩:=row_sl hn
 have HN:=zz hn
 have Q1:=zz (HQ.out.ab hb)
 have M1:=zz (HM.out.stp (Stp.of hb (fun _=>False) fun _ _=>rfl) fun _ h=>h)
 have S1:Hid (Stp (fun τ=>τ.1=s) w O w2 (cutTg O w.heap.size)):=zz ((Stp.cut HA.out _).ab hb)
 have N0:Hid (w.heap.size+1<w0.heap.size):=zz HQ.out.lt
 clear HS hn hb
 go_wp2_with (first
  | ((with_reducible refine stA 11 ?_ (#[.int .i64 0,.int .u64 0,.int .u64 0,.slice none 0 0,.slice none 0 0,.int .i64 0,.slice LA ln lc]) ?_ Q1 ?_ ?_ (by simp[Value.oneCell']) ?_);rfl;rfl;rfl;rfl;intro wz QZ FZ))
 refine bodyPost_ret (ansR Tryz.results43 QZ rfl rfl) rfl ?_
 have hN:=N0.out
 refine⟨_,cutTg O w.heap.size,rfl,⟨_,_,_,rfl,OwB.nil _ _,fun g hg=>(by cases hg),⟨[],World.ownsRow_nil _ _ _ _,fun g hg=>(by cases hg),rfl,fun i p q hi=>(by simp at hi)⟩,row_low (row_frX HN.out FZ.out hN) (by omega),fun g hg=>cutTg_at (by have:=own_ge9 HN.out g hg;omega)⟩,⟨m,bs,M1.out.stp (Stp.box FZ.out (cutTg_at (Nat.le_succ _))) fun i e=>by have:=M1.out.pos;injection e with e;omega⟩,S1.out.fresh FZ.out (Nat.le_succ _)⟩
end
def setTu (t:TnP) (b:Bool):TnP:=⟨t.n,t.sec,t.q,t.now,t.A,t.sn,b⟩
theorem SnB.live {w:World} {O:Tg} {es:List (Nat×Value)} {sn:List (Bk2×Bool)} (h:SnB w O es sn):(0<es.length→liveC sn≠[])∧(liveC sn≠[]→0<es.length):=by
 constructor
 · intro h0 e
   obtain⟨p,r,rfl⟩:∃p r,es=p::r:=by
    cases es with
    | nil=>simp at h0
    | cons p r=>exact⟨p,r,rfl⟩
   obtain⟨i,S,nb,_,h2,_⟩:=h.fwd p (by simp)
   have:chg S∈liveC sn:=List.mem_map.2 ⟨(S,false),List.mem_filter.2 ⟨List.mem_of_getElem? h2,rfl⟩,rfl⟩
   rw[e] at this
   cases this
 · intro h0
   obtain⟨z,hz⟩:=List.exists_mem_of_ne_nil _ h0
   obtain⟨p,hp,_⟩:=List.mem_map.1 hz
   obtain⟨h1,h2⟩:=List.mem_filter.1 hp
   obtain⟨i,hi⟩:=List.mem_iff_getElem?.1 h1
   obtain⟨S,g⟩:=p
   simp only[Bool.not_eq_true'] at h2
   subst h2
   have h3:=h.bwd i S hi
   cases es with
   | nil=>simp[lookL] at h3
   | cons p r=>simp
section
variable {w:World} {O:Tg} {s blocks m:Nat} {T:List TnP} {bs:List (Nat×TnP)} {c:CallP}
set_option maxRecDepth 100000 in
theorem id_remove_none (h:IdM w O s blocks T m bs) (hc:c.Ok) (hf:fnd bs c.ten=none):
 Calls Tryz.prog 38 #[.pointer (some ⟨s,0,none⟩),.agg c.cs] w (DoR s blocks w O (errA 7) T):=by
 obtain⟨w0,hw0,ha,hcb,hqb⟩:=preX w c
 unfold CallP.cs at hcb⊢
 go_enter Tryz.func38,Tryz.ntmps38
 go_upto_region 1 with (fail)
 rw[hw0.out]
 clear hw0
 have c1:=(hcb).cell (k:=1) rfl
 have hlk:=fun k:Nat=>map_look (w:=w0.drewN k) ((h.map.ab ha).same rfl) (n:=c.ten) hc.ten
 simp only[hf,Option.map_none] at hlk
 have s1:=(h.box.ab ha).cell (k:=1) rfl
 have HA:=zz ha
 have HQ:=zz hqb
 have HB:=zz hcb
 have M0:=h.stp (ctS ha) noF
 have HM:=zz M0
 have HF:=zz fun W=>fails_any 7 W
 clear h ha hqb hcb hc M0 hf
 go_quiet (fail)
 go_wp2_with fail
 refine (HF.out _).mono ?_
 rintro e w1 ⟨rfl,hb⟩
 have B1:Hid (Below w0.heap.size w0 w1):=zz ((bel_drewN (Below.refl _ _) _).trans hb)
 have Q1:=zz (HQ.out.ab B1.out)
 have M1:=kpM HM B1
 have S1:=stKp s O HA B1
 clear hb HQ HM B1
 go_wp2_with (first
  | ((with_reducible refine stA 13 ?_ (ansE 7) ?_ Q1 ?_ ?_ (ansE_one _) ?_);rfl;rfl;rfl;rfl;intro wz QZ FZ))
 refine bodyPost_ret (ansR Tryz.results38 QZ rfl rfl) rfl ?_
 exact DoR.fl 7 0 0 0 M1 S1 FZ
set_option maxRecDepth 100000 in
theorem id_turn_none (h:IdM w O s blocks T m bs) (hc:c.Ok) (hf:fnd bs c.ten=none):
 Calls Tryz.prog 39 #[.pointer (some ⟨s,0,none⟩),.agg c.cs] w (DoR s blocks w O (errA 7) T):=by
 obtain⟨w0,hw0,ha,hcb,hqb⟩:=preX w c
 unfold CallP.cs at hcb⊢
 go_enter Tryz.func39,Tryz.ntmps39
 go_upto_region 1 with (fail)
 rw[hw0.out]
 clear hw0
 have c1:=(hcb).cell (k:=1) rfl
 have hlk:=fun k:Nat=>map_look (w:=w0.drewN k) ((h.map.ab ha).same rfl) (n:=c.ten) hc.ten
 simp only[hf,Option.map_none] at hlk
 have s1:=(h.box.ab ha).cell (k:=1) rfl
 have HA:=zz ha
 have HQ:=zz hqb
 have HB:=zz hcb
 have M0:=h.stp (ctS ha) noF
 have HM:=zz M0
 have HF:=zz fun W=>fails_any 7 W
 clear h ha hqb hcb hc M0 hf
 go_quiet (fail)
 go_wp2_with fail
 refine (HF.out _).mono ?_
 rintro e w1 ⟨rfl,hb⟩
 have B1:Hid (Below w0.heap.size w0 w1):=zz ((bel_drewN (Below.refl _ _) _).trans hb)
 have Q1:=zz (HQ.out.ab B1.out)
 have M1:=kpM HM B1
 have S1:=stKp s O HA B1
 clear hb HQ HM B1
 go_wp2_with (first
  | ((with_reducible refine stA 16 ?_ (ansE 7) ?_ Q1 ?_ ?_ (ansE_one _) ?_);rfl;rfl;rfl;rfl;intro wz QZ FZ))
 refine bodyPost_ret (ansR Tryz.results39 QZ rfl rfl) rfl ?_
 exact DoR.fl 7 0 0 0 M1 S1 FZ
set_option maxRecDepth 100000 in
theorem id_step_none (h:IdM w O s blocks T m bs) (hc:c.Ok) (hf:fnd bs c.ten=none):
 Calls Tryz.prog 40 #[.pointer (some ⟨s,0,none⟩),.agg c.cs] w (DoR s blocks w O (errA 7) T):=by
 obtain⟨w0,hw0,ha,hcb,hqb⟩:=preX w c
 unfold CallP.cs at hcb⊢
 go_enter Tryz.func40,Tryz.ntmps40
 go_upto_region 1 with (fail)
 rw[hw0.out]
 clear hw0
 have c1:=(hcb).cell (k:=1) rfl
 have hlk:=fun k:Nat=>map_look (w:=w0.drewN k) ((h.map.ab ha).same rfl) (n:=c.ten) hc.ten
 simp only[hf,Option.map_none] at hlk
 have s1:=(h.box.ab ha).cell (k:=1) rfl
 have HA:=zz ha
 have HQ:=zz hqb
 have HB:=zz hcb
 have M0:=h.stp (ctS ha) noF
 have HM:=zz M0
 have HF:=zz fun W=>fails_any 7 W
 clear h ha hqb hcb hc M0 hf
 go_quiet (fail)
 go_wp2_with fail
 refine (HF.out _).mono ?_
 rintro e w1 ⟨rfl,hb⟩
 have B1:Hid (Below w0.heap.size w0 w1):=zz ((bel_drewN (Below.refl _ _) _).trans hb)
 have Q1:=zz (HQ.out.ab B1.out)
 have M1:=kpM HM B1
 have S1:=stKp s O HA B1
 clear hb HQ HM B1
 go_wp2_with (first
  | ((with_reducible refine stA 16 ?_ (ansE 7) ?_ Q1 ?_ ?_ (ansE_one _) ?_);rfl;rfl;rfl;rfl;intro wz QZ FZ))
 refine bodyPost_ret (ansR Tryz.results40 QZ rfl rfl) rfl ?_
 exact DoR.fl 7 0 0 0 M1 S1 FZ
set_option maxRecDepth 100000 in
theorem id_finish_none (h:IdM w O s blocks T m bs) (hc:c.Ok) (hf:fnd bs c.ten=none):
 Calls Tryz.prog 41 #[.pointer (some ⟨s,0,none⟩),.agg c.cs] w (DoR s blocks w O (errA 7) T):=by
 obtain⟨w0,hw0,ha,hcb,hqb⟩:=preX w c
 unfold CallP.cs at hcb⊢
 go_enter Tryz.func41,Tryz.ntmps41
 go_upto_region 1 with (fail)
 rw[hw0.out]
 clear hw0
 have c1:=(hcb).cell (k:=1) rfl
 have hlk:=fun k:Nat=>map_look (w:=w0.drewN k) ((h.map.ab ha).same rfl) (n:=c.ten) hc.ten
 simp only[hf,Option.map_none] at hlk
 have s1:=(h.box.ab ha).cell (k:=1) rfl
 have HA:=zz ha
 have HQ:=zz hqb
 have HB:=zz hcb
 have M0:=h.stp (ctS ha) noF
 have HM:=zz M0
 have HF:=zz fun W=>fails_any 7 W
 clear h ha hqb hcb hc M0 hf
 go_quiet (fail)
 go_wp2_with fail
 refine (HF.out _).mono ?_
 rintro e w1 ⟨rfl,hb⟩
 have B1:Hid (Below w0.heap.size w0 w1):=zz ((bel_drewN (Below.refl _ _) _).trans hb)
 have Q1:=zz (HQ.out.ab B1.out)
 have M1:=kpM HM B1
 have S1:=stKp s O HA B1
 clear hb HQ HM B1
 go_wp2_with (first
  | ((with_reducible refine stA 16 ?_ (ansE 7) ?_ Q1 ?_ ?_ (ansE_one _) ?_);rfl;rfl;rfl;rfl;intro wz QZ FZ))
 refine bodyPost_ret (ansR Tryz.results41 QZ rfl rfl) rfl ?_
 exact DoR.fl 7 0 0 0 M1 S1 FZ
set_option maxRecDepth 100000 in
theorem id_turn_busy (x:Nat×TnP) (h:IdM w O s blocks T m bs) (hc:c.Ok) (hf:fnd bs c.ten=some x) (hu:x.2.tu=true):
 Calls Tryz.prog 39 #[.pointer (some ⟨s,0,none⟩),.agg c.cs] w (DoR s blocks w O (errA 263) T):=by
 obtain⟨cb,mo,sm,nb,es,ht⟩:=h.all x (fnd_mem hf).1
 obtain⟨w0,hw0,ha,hcb,hqb⟩:=preX w c
 unfold CallP.cs at hcb⊢
 go_enter Tryz.func39,Tryz.ntmps39
 go_upto_region 1 with (fail)
 rw[hw0.out]
 clear hw0
 have c1:=(hcb).cell (k:=1) rfl
 have hlk:=fun k:Nat=>map_look (w:=w0.drewN k) ((h.map.ab ha).same rfl) (n:=c.ten) hc.ten
 simp only[hf,Option.map_some] at hlk
 have s1:=(h.box.ab ha).cell (k:=1) rfl
 have d4:=(ht.box.ab ha).cell (k:=4) rfl
 have d6:=(ht.box.ab ha).cell (k:=6) rfl
 have f6:=(ht.box.ab ha).free 6
 have TT:=zz fun k=>ht.stp (Stp.cut (bel_drewN ha k) (fun _=>False)) fun h=>h
 have HMW:=zz h
 have HTW:=zz ht
 have HFN:=zz hf
 have OKX:=zz (h.ok x (fnd_mem hf).1)
 rw[hu] at d6
 have HA:=zz ha
 have HQ:=zz hqb
 have HB:=zz hcb
 have M0:=h.stp (ctS ha) noF
 have HM:=zz M0
 have HF:=zz fun W=>fails_any 263 W
 clear h ha hqb hcb hc M0 hf ht hu
 go_quiet (fail)
 go_wp2_with fail
 refine (HF.out _).mono ?_
 rintro e w1 ⟨rfl,hb⟩
 have B1:Hid (Below w0.heap.size w0 w1):=zz ((bel_drewN (Below.refl _ _) _).trans hb)
 have Q1:=zz (HQ.out.ab B1.out)
 have M1:=kpM HM B1
 have S1:=stKp s O HA B1
 clear hb HQ HM B1
 go_wp2_with (first
  | ((with_reducible refine stA 22 ?_ (ansE 263) ?_ Q1 ?_ ?_ (ansE_one _) ?_);rfl;rfl;rfl;rfl;intro wz QZ FZ))
 refine bodyPost_ret (ansR Tryz.results39 QZ rfl rfl) rfl ?_
 exact DoR.fl 263 0 0 0 M1 S1 FZ
set_option maxRecDepth 100000 in
theorem id_step_low (x:Nat×TnP) (h:IdM w O s blocks T m bs) (hc:c.Ok) (hf:fnd bs c.ten=some x) (n0:decide (c.n<1)=true):
 Calls Tryz.prog 40 #[.pointer (some ⟨s,0,none⟩),.agg c.cs] w (DoR s blocks w O (errA 2) T):=by
 obtain⟨cb,mo,sm,nb,es,ht⟩:=h.all x (fnd_mem hf).1
 obtain⟨w0,hw0,ha,hcb,hqb⟩:=preX w c
 unfold CallP.cs at hcb⊢
 go_enter Tryz.func40,Tryz.ntmps40
 go_upto_region 1 with (fail)
 rw[hw0.out]
 clear hw0
 have c1:=(hcb).cell (k:=1) rfl
 have c4:=(hcb).cell (k:=4) rfl
 have hlk:=fun k:Nat=>map_look (w:=w0.drewN k) ((h.map.ab ha).same rfl) (n:=c.ten) hc.ten
 simp only[hf,Option.map_some] at hlk
 have s1:=(h.box.ab ha).cell (k:=1) rfl
 have d4:=(ht.box.ab ha).cell (k:=4) rfl
 have d6:=(ht.box.ab ha).cell (k:=6) rfl
 have f6:=(ht.box.ab ha).free 6
 have TT:=zz fun k=>ht.stp (Stp.cut (bel_drewN ha k) (fun _=>False)) fun h=>h
 have HMW:=zz h
 have HTW:=zz ht
 have HFN:=zz hf
 have OKX:=zz (h.ok x (fnd_mem hf).1)
 have HA:=zz ha
 have HQ:=zz hqb
 have HB:=zz hcb
 have M0:=h.stp (ctS ha) noF
 have HM:=zz M0
 have HF:=zz fun W=>fails_any 2 W
 clear h ha hqb hcb hc M0 hf ht
 go_quiet (fail)
 go_wp2_with fail
 refine (HF.out _).mono ?_
 rintro e w1 ⟨rfl,hb⟩
 have B1:Hid (Below w0.heap.size w0 w1):=zz ((bel_drewN (Below.refl _ _) _).trans hb)
 have Q1:=zz (HQ.out.ab B1.out)
 have M1:=kpM HM B1
 have S1:=stKp s O HA B1
 clear hb HQ HM B1
 go_wp2_with (first
  | ((with_reducible refine stA 26 ?_ (ansE 2) ?_ Q1 ?_ ?_ (ansE_one _) ?_);rfl;rfl;rfl;rfl;intro wz QZ FZ))
 refine bodyPost_ret (ansR Tryz.results40 QZ rfl rfl) rfl ?_
 exact DoR.fl 2 0 0 0 M1 S1 FZ
set_option maxRecDepth 100000 in
theorem id_step_high (x:Nat×TnP) (h:IdM w O s blocks T m bs) (hc:c.Ok) (hf:fnd bs c.ten=some x) (n0:decide (c.n<1)=false) (n1:decide ((100:Int)<c.n)=true):
 Calls Tryz.prog 40 #[.pointer (some ⟨s,0,none⟩),.agg c.cs] w (DoR s blocks w O (errA 2) T):=by
 obtain⟨cb,mo,sm,nb,es,ht⟩:=h.all x (fnd_mem hf).1
 obtain⟨w0,hw0,ha,hcb,hqb⟩:=preX w c
 unfold CallP.cs at hcb⊢
 go_enter Tryz.func40,Tryz.ntmps40
 go_upto_region 1 with (fail)
 rw[hw0.out]
 clear hw0
 have c1:=(hcb).cell (k:=1) rfl
 have c4:=(hcb).cell (k:=4) rfl
 have hlk:=fun k:Nat=>map_look (w:=w0.drewN k) ((h.map.ab ha).same rfl) (n:=c.ten) hc.ten
 simp only[hf,Option.map_some] at hlk
 have s1:=(h.box.ab ha).cell (k:=1) rfl
 have d4:=(ht.box.ab ha).cell (k:=4) rfl
 have d6:=(ht.box.ab ha).cell (k:=6) rfl
 have f6:=(ht.box.ab ha).free 6
 have TT:=zz fun k=>ht.stp (Stp.cut (bel_drewN ha k) (fun _=>False)) fun h=>h
 have HMW:=zz h
 have HTW:=zz ht
 have HFN:=zz hf
 have OKX:=zz (h.ok x (fnd_mem hf).1)
 have HA:=zz ha
 have HQ:=zz hqb
 have HB:=zz hcb
 have M0:=h.stp (ctS ha) noF
 have HM:=zz M0
 have HF:=zz fun W=>fails_any 2 W
 clear h ha hqb hcb hc M0 hf ht
 go_quiet (fail)
 go_wp2_with fail
 refine (HF.out _).mono ?_
 rintro e w1 ⟨rfl,hb⟩
 have B1:Hid (Below w0.heap.size w0 w1):=zz ((bel_drewN (Below.refl _ _) _).trans hb)
 have Q1:=zz (HQ.out.ab B1.out)
 have M1:=kpM HM B1
 have S1:=stKp s O HA B1
 clear hb HQ HM B1
 go_wp2_with (first
  | ((with_reducible refine stA 26 ?_ (ansE 2) ?_ Q1 ?_ ?_ (ansE_one _) ?_);rfl;rfl;rfl;rfl;intro wz QZ FZ))
 refine bodyPost_ret (ansR Tryz.results40 QZ rfl rfl) rfl ?_
 exact DoR.fl 2 0 0 0 M1 S1 FZ
set_option maxRecDepth 100000 in
theorem id_step_state (x:Nat×TnP) (h:IdM w O s blocks T m bs) (hc:c.Ok) (hf:fnd bs c.ten=some x) (n0:decide (c.n<1)=false) (n1:decide ((100:Int)<c.n)=false) (hu:x.2.tu=false):
 Calls Tryz.prog 40 #[.pointer (some ⟨s,0,none⟩),.agg c.cs] w (DoR s blocks w O (errA 264) T):=by
 obtain⟨cb,mo,sm,nb,es,ht⟩:=h.all x (fnd_mem hf).1
 obtain⟨w0,hw0,ha,hcb,hqb⟩:=preX w c
 unfold CallP.cs at hcb⊢
 go_enter Tryz.func40,Tryz.ntmps40
 go_upto_region 1 with (fail)
 rw[hw0.out]
 clear hw0
 have c1:=(hcb).cell (k:=1) rfl
 have c4:=(hcb).cell (k:=4) rfl
 have hlk:=fun k:Nat=>map_look (w:=w0.drewN k) ((h.map.ab ha).same rfl) (n:=c.ten) hc.ten
 simp only[hf,Option.map_some] at hlk
 have s1:=(h.box.ab ha).cell (k:=1) rfl
 have d4:=(ht.box.ab ha).cell (k:=4) rfl
 have d6:=(ht.box.ab ha).cell (k:=6) rfl
 have f6:=(ht.box.ab ha).free 6
 have TT:=zz fun k=>ht.stp (Stp.cut (bel_drewN ha k) (fun _=>False)) fun h=>h
 have HMW:=zz h
 have HTW:=zz ht
 have HFN:=zz hf
 have OKX:=zz (h.ok x (fnd_mem hf).1)
 rw[hu] at d6
 have HA:=zz ha
 have HQ:=zz hqb
 have HB:=zz hcb
 have M0:=h.stp (ctS ha) noF
 have HM:=zz M0
 have HF:=zz fun W=>fails_any 264 W
 clear h ha hqb hcb hc M0 hf ht hu
 go_quiet (fail)
 go_wp2_with fail
 refine (HF.out _).mono ?_
 rintro e w1 ⟨rfl,hb⟩
 have B1:Hid (Below w0.heap.size w0 w1):=zz ((bel_drewN (Below.refl _ _) _).trans hb)
 have Q1:=zz (HQ.out.ab B1.out)
 have M1:=kpM HM B1
 have S1:=stKp s O HA B1
 clear hb HQ HM B1
 go_wp2_with (first
  | ((with_reducible refine stA 33 ?_ (ansE 264) ?_ Q1 ?_ ?_ (ansE_one _) ?_);rfl;rfl;rfl;rfl;intro wz QZ FZ))
 refine bodyPost_ret (ansR Tryz.results40 QZ rfl rfl) rfl ?_
 exact DoR.fl 264 0 0 0 M1 S1 FZ
set_option maxRecDepth 100000 in
theorem id_finish_state (x:Nat×TnP) (h:IdM w O s blocks T m bs) (hc:c.Ok) (hf:fnd bs c.ten=some x) (hu:x.2.tu=false):
 Calls Tryz.prog 41 #[.pointer (some ⟨s,0,none⟩),.agg c.cs] w (DoR s blocks w O (errA 264) T):=by
 obtain⟨cb,mo,sm,nb,es,ht⟩:=h.all x (fnd_mem hf).1
 obtain⟨w0,hw0,ha,hcb,hqb⟩:=preX w c
 unfold CallP.cs at hcb⊢
 go_enter Tryz.func41,Tryz.ntmps41
 go_upto_region 1 with (fail)
 rw[hw0.out]
 clear hw0
 have c1:=(hcb).cell (k:=1) rfl
 have hlk:=fun k:Nat=>map_look (w:=w0.drewN k) ((h.map.ab ha).same rfl) (n:=c.ten) hc.ten
 simp only[hf,Option.map_some] at hlk
 have s1:=(h.box.ab ha).cell (k:=1) rfl
 have d4:=(ht.box.ab ha).cell (k:=4) rfl
 have d6:=(ht.box.ab ha).cell (k:=6) rfl
 have f6:=(ht.box.ab ha).free 6
 have TT:=zz fun k=>ht.stp (Stp.cut (bel_drewN ha k) (fun _=>False)) fun h=>h
 have HMW:=zz h
 have HTW:=zz ht
 have HFN:=zz hf
 have OKX:=zz (h.ok x (fnd_mem hf).1)
 rw[hu] at d6
 have HA:=zz ha
 have HQ:=zz hqb
 have HB:=zz hcb
 have M0:=h.stp (ctS ha) noF
 have HM:=zz M0
 have HF:=zz fun W=>fails_any 264 W
 clear h ha hqb hcb hc M0 hf ht hu
 go_quiet (fail)
 go_wp2_with fail
 refine (HF.out _).mono ?_
 rintro e w1 ⟨rfl,hb⟩
 have B1:Hid (Below w0.heap.size w0 w1):=zz ((bel_drewN (Below.refl _ _) _).trans hb)
 have Q1:=zz (HQ.out.ab B1.out)
 have M1:=kpM HM B1
 have S1:=stKp s O HA B1
 clear hb HQ HM B1
 go_wp2_with (first
  | ((with_reducible refine stA 23 ?_ (ansE 264) ?_ Q1 ?_ ?_ (ansE_one _) ?_);rfl;rfl;rfl;rfl;intro wz QZ FZ))
 refine bodyPost_ret (ansR Tryz.results41 QZ rfl rfl) rfl ?_
 exact DoR.fl 264 0 0 0 M1 S1 FZ
set_option maxRecDepth 100000 in
theorem id_step_ok (x:Nat×TnP) (h:IdM w O s blocks T m bs) (hc:c.Ok) (hf:fnd bs c.ten=some x) (n0:decide (c.n<1)=false) (n1:decide ((100:Int)<c.n)=false) (hu:x.2.tu=true):
 Calls Tryz.prog 40 #[.pointer (some ⟨s,0,none⟩),.agg c.cs] w (DoR s blocks w O (errA 0) T):=by
 obtain⟨cb,mo,sm,nb,es,ht⟩:=h.all x (fnd_mem hf).1
 obtain⟨w0,hw0,ha,hcb,hqb⟩:=preX w c
 unfold CallP.cs at hcb⊢
 go_enter Tryz.func40,Tryz.ntmps40
 go_upto_region 1 with (fail)
 rw[hw0.out]
 clear hw0
 have c1:=(hcb).cell (k:=1) rfl
 have c4:=(hcb).cell (k:=4) rfl
 have hlk:=fun k:Nat=>map_look (w:=w0.drewN k) ((h.map.ab ha).same rfl) (n:=c.ten) hc.ten
 simp only[hf,Option.map_some] at hlk
 have s1:=(h.box.ab ha).cell (k:=1) rfl
 have d4:=(ht.box.ab ha).cell (k:=4) rfl
 have d6:=(ht.box.ab ha).cell (k:=6) rfl
 have f6:=(ht.box.ab ha).free 6
 have TT:=zz fun k=>ht.stp (Stp.cut (bel_drewN ha k) (fun _=>False)) fun h=>h
 have HMW:=zz h
 have HTW:=zz ht
 have HFN:=zz hf
 have OKX:=zz (h.ok x (fnd_mem hf).1)
 rw[hu] at d6
 have HA:=zz ha
 have HQ:=zz hqb
 have HB:=zz hcb
 have M0:=h.stp (ctS ha) noF
 have HM:=zz M0
 clear h ha hqb hcb hc M0 hf ht hu
 go_quiet (fail)
 have hb1:Below w0.heap.size w0 (w0.drewN nq):=bel_drewN (Below.refl _ _) _
 have Q1:=zz (HQ.out.ab hb1)
 have M1:=zz (HM.out.stp (Stp.of hb1 (fun _=>False) fun _ _=>rfl) fun _ h=>h)
 have S1:Hid (Stp (fun τ=>τ.1=s) w O (w0.drewN nq) (cutTg O w.heap.size)):=zz ((Stp.cut HA.out (fun τ=>τ.1=s)).ab hb1)
 clear hb1 HQ HM
 go_wp2_with (first
  | ((with_reducible refine stA 34 ?_ (ansE 0) ?_ Q1 ?_ ?_ (ansE_one _) ?_);rfl;rfl;rfl;rfl;intro wz QZ FZ))
 refine bodyPost_ret (ansR Tryz.results40 QZ rfl rfl) rfl ?_
 exact DoR.flat 0 0 0 0 ⟨m,_,M1.out.stp (Stp.box FZ.out (cutTg_at (Nat.le_succ _))) fun i e=>by have:=M1.out.pos;injection e with e;omega⟩ (S1.out.fresh FZ.out (Nat.le_succ _))
set_option maxRecDepth 100000 in
theorem id_turn_ok (x:Nat×TnP) (h:IdM w O s blocks T m bs) (hc:c.Ok) (hf:fnd bs c.ten=some x) (hu:x.2.tu=false):
 Calls Tryz.prog 39 #[.pointer (some ⟨s,0,none⟩),.agg c.cs] w (DoR s blocks w O (errA 0) (updT c.ten (setTu x.2 true) T)):=by
 obtain⟨cb,mo,sm,nb,es,ht⟩:=h.all x (fnd_mem hf).1
 obtain⟨w0,hw0,ha,hcb,hqb⟩:=preX w c
 unfold CallP.cs at hcb⊢
 go_enter Tryz.func39,Tryz.ntmps39
 go_upto_region 1 with (fail)
 rw[hw0.out]
 clear hw0
 have c1:=(hcb).cell (k:=1) rfl
 have hlk:=fun k:Nat=>map_look (w:=w0.drewN k) ((h.map.ab ha).same rfl) (n:=c.ten) hc.ten
 simp only[hf,Option.map_some] at hlk
 have s1:=(h.box.ab ha).cell (k:=1) rfl
 have d4:=(ht.box.ab ha).cell (k:=4) rfl
 have d6:=(ht.box.ab ha).cell (k:=6) rfl
 have f6:=(ht.box.ab ha).free 6
 have TT:=zz fun k=>ht.stp (Stp.cut (bel_drewN ha k) (fun _=>False)) fun h=>h
 have HMW:=zz h
 have HTW:=zz ht
 have HFN:=zz hf
 have OKX:=zz (h.ok x (fnd_mem hf).1)
 rw[hu] at d6
 have HA:=zz ha
 have HQ:=zz hqb
 have HB:=zz hcb
 have M0:=h.stp (ctS ha) noF
 have HM:=zz M0
 clear h ha hqb hcb hc M0 hf ht hu
 go_quiet (fail)
 go_upto_region 7 with (fail)
 have T1:=TT.out nq
 have md:=T1.mod (w1:=(w0.drewN nq).setCell ⟨x.1,6,none⟩ (.bool true)) ((fr_set (w0.drewN nq) x.1 6 (.bool true)).imp fun q e=>.inl e) (T1.box.set 6 (.bool true)) T1.now T1.nowO (T1.snm.same (Below.heap_setCell (w0.drewN nq) ⟨x.1,6,none⟩ (.bool true) sm fun e=>T1.apart.2.2.2 e.symm)) T1.sns
 have hb1:Below w0.heap.size w0 (w0.drewN nq):=bel_drewN (Below.refl _ _) _
 have Q1:Hid (CbB ((w0.drewN nq).setCell ⟨x.1,6,none⟩ (.bool true)) (w.heap.size+1) 44 (ansE 0)):=zz ((HQ.out.ab hb1).far (fun e=>by have h1:=HQ.out.ab hb1;rw[e] at h1;exact absurd rfl (cb_neX h1 T1.box (by decide))) _)
 have k1:Stp (fun τ=>τ=(s,x.2.n)) w O (w0.drewN nq) (cutTg O w.heap.size):=(Stp.cut HA.out _).ab hb1
 obtain⟨w6,hw6⟩:∃w6,(w0.drewN nq).setCell ⟨x.1,6,none⟩ (.bool true)=w6:=⟨_,rfl⟩
 rw[hw6] at md Q1⊢
 obtain⟨md1,md2⟩:=md
 have XN:=(fnd_mem HFN.out).2
 rw[XN] at md1 k1
 have K6:=zz (k1.tr md1)
 have OKT:TnOk (setTu x.2 true):=by have h1:=OKX.out;exact⟨h1.n1,h1.n32,h1.sec,h1.q1,h1.q2⟩
 have M1:=zz (HMW.out.upd (t':=setTu x.2 true) HFN.out K6.out XN OKT ⟨_,_,_,_,_,md2⟩)
 have S1:Hid (Stp (fun τ=>τ.1=s) w O w6 (cutTg O w.heap.size)):=zz (K6.out.imp fun τ e=>by rw[e])
 clear hw6 md1 md2 XN OKT hb1 k1 T1 d4 d6 f6
 go_wp2_with (first
  | ((with_reducible refine stA 26 ?_ (ansE 0) ?_ Q1 ?_ ?_ (ansE_one _) ?_);rfl;rfl;rfl;rfl;intro wz QZ FZ))
 refine bodyPost_ret (ansR Tryz.results39 QZ rfl rfl) rfl ?_
 exact DoR.flat 0 0 0 0 ⟨m,_,M1.out.stp (Stp.box FZ.out (cutTg_at (Nat.le_succ _))) fun i e=>by have:=M1.out.pos;injection e with e;omega⟩ (S1.out.fresh FZ.out (Nat.le_succ _))
set_option maxRecDepth 100000 in
theorem id_finish_busy (x:Nat×TnP) (h:IdM w O s blocks T m bs) (hc:c.Ok) (hf:fnd bs c.ten=some x) (hu:x.2.tu=true) (hv:liveC x.2.sn≠[]):
 Calls Tryz.prog 41 #[.pointer (some ⟨s,0,none⟩),.agg c.cs] w (DoR s blocks w O (errA 263) T):=by
 obtain⟨cb,mo,sm,nb,es,ht⟩:=h.all x (fnd_mem hf).1
 obtain⟨w0,hw0,ha,hcb,hqb⟩:=preX w c
 unfold CallP.cs at hcb⊢
 go_enter Tryz.func41,Tryz.ntmps41
 go_upto_region 1 with (fail)
 rw[hw0.out]
 clear hw0
 have c1:=(hcb).cell (k:=1) rfl
 have hlk:=fun k:Nat=>map_look (w:=w0.drewN k) ((h.map.ab ha).same rfl) (n:=c.ten) hc.ten
 simp only[hf,Option.map_some] at hlk
 have s1:=(h.box.ab ha).cell (k:=1) rfl
 have d4:=(ht.box.ab ha).cell (k:=4) rfl
 have d6:=(ht.box.ab ha).cell (k:=6) rfl
 have f6:=(ht.box.ab ha).free 6
 have TT:=zz fun k=>ht.stp (Stp.cut (bel_drewN ha k) (fun _=>False)) fun h=>h
 have HMW:=zz h
 have HTW:=zz ht
 have HFN:=zz hf
 have OKX:=zz (h.ok x (fnd_mem hf).1)
 rw[hu] at d6
 have hlen:=fun (k:Nat) ty=>(ht.snm.ab (bel_drewN ha k)).len Tryz.underlying69 ty
 obtain⟨ne,hne⟩:∃n,es.length=n:=⟨_,rfl⟩
 have hl1:0<ne:=by rw[←hne];exact ht.sns.live.2 hv
 have hl0:decide ((0:Int)<(ne:Int))=true:=by simp only[decide_eq_true_eq];omega
 rw[hne] at hlen
 clear hne
 have HA:=zz ha
 have HQ:=zz hqb
 have HB:=zz hcb
 have M0:=h.stp (ctS ha) noF
 have HM:=zz M0
 have HF:=zz fun W=>fails_any 263 W
 clear h ha hqb hcb hc M0 hf ht hu hv
 go_quiet (fail)
 go_wp2_with fail
 refine (HF.out _).mono ?_
 rintro e w1 ⟨rfl,hb⟩
 have B1:Hid (Below w0.heap.size w0 w1):=zz ((bel_drewN (Below.refl _ _) _).trans hb)
 have Q1:=zz (HQ.out.ab B1.out)
 have M1:=kpM HM B1
 have S1:=stKp s O HA B1
 clear hb HQ HM B1
 go_wp2_with (first
  | ((with_reducible refine stA 31 ?_ (ansE 263) ?_ Q1 ?_ ?_ (ansE_one _) ?_);rfl;rfl;rfl;rfl;intro wz QZ FZ))
 refine bodyPost_ret (ansR Tryz.results41 QZ rfl rfl) rfl ?_
 exact DoR.fl 263 0 0 0 M1 S1 FZ
set_option maxRecDepth 100000 in
theorem id_finish_ok (x:Nat×TnP) (h:IdM w O s blocks T m bs) (hc:c.Ok) (hf:fnd bs c.ten=some x) (hu:x.2.tu=true) (hv:liveC x.2.sn=[]):
 Calls Tryz.prog 41 #[.pointer (some ⟨s,0,none⟩),.agg c.cs] w (DoR s blocks w O (errA 0) (updT c.ten (setTu x.2 false) T)):=by
 obtain⟨cb,mo,sm,nb,es,ht⟩:=h.all x (fnd_mem hf).1
 obtain⟨w0,hw0,ha,hcb,hqb⟩:=preX w c
 unfold CallP.cs at hcb⊢
 go_enter Tryz.func41,Tryz.ntmps41
 go_upto_region 1 with (fail)
 rw[hw0.out]
 clear hw0
 have c1:=(hcb).cell (k:=1) rfl
 have hlk:=fun k:Nat=>map_look (w:=w0.drewN k) ((h.map.ab ha).same rfl) (n:=c.ten) hc.ten
 simp only[hf,Option.map_some] at hlk
 have s1:=(h.box.ab ha).cell (k:=1) rfl
 have d4:=(ht.box.ab ha).cell (k:=4) rfl
 have d6:=(ht.box.ab ha).cell (k:=6) rfl
 have f6:=(ht.box.ab ha).free 6
 have TT:=zz fun k=>ht.stp (Stp.cut (bel_drewN ha k) (fun _=>False)) fun h=>h
 have HMW:=zz h
 have HTW:=zz ht
 have HFN:=zz hf
 have OKX:=zz (h.ok x (fnd_mem hf).1)
 rw[hu] at d6
 have hlen:=fun (k:Nat) ty=>(ht.snm.ab (bel_drewN ha k)).len Tryz.underlying69 ty
 obtain⟨ne,hne⟩:∃n,es.length=n:=⟨_,rfl⟩
 have hl1:¬0<ne:=by rw[←hne];intro h9;exact absurd hv (ht.sns.live.1 h9)
 have hl0:decide ((0:Int)<(ne:Int))=false:=by simp only[decide_eq_false_iff_not];omega
 rw[hne] at hlen
 clear hne
 have HA:=zz ha
 have HQ:=zz hqb
 have HB:=zz hcb
 have M0:=h.stp (ctS ha) noF
 have HM:=zz M0
 clear h ha hqb hcb hc M0 hf ht hu hv
 go_quiet (fail)
 go_upto_region 9 with (fail)
 have T1:=TT.out nq
 have md:=T1.mod (w1:=(w0.drewN nq).setCell ⟨x.1,6,none⟩ (.bool false)) ((fr_set (w0.drewN nq) x.1 6 (.bool false)).imp fun q e=>.inl e) (T1.box.set 6 (.bool false)) T1.now T1.nowO (T1.snm.same (Below.heap_setCell (w0.drewN nq) ⟨x.1,6,none⟩ (.bool false) sm fun e=>T1.apart.2.2.2 e.symm)) T1.sns
 have hb1:Below w0.heap.size w0 (w0.drewN nq):=bel_drewN (Below.refl _ _) _
 have Q1:Hid (CbB ((w0.drewN nq).setCell ⟨x.1,6,none⟩ (.bool false)) (w.heap.size+1) 44 (ansE 0)):=zz ((HQ.out.ab hb1).far (fun e=>by have h1:=HQ.out.ab hb1;rw[e] at h1;exact absurd rfl (cb_neX h1 T1.box (by decide))) _)
 have k1:Stp (fun τ=>τ=(s,x.2.n)) w O (w0.drewN nq) (cutTg O w.heap.size):=(Stp.cut HA.out _).ab hb1
 obtain⟨w6,hw6⟩:∃w6,(w0.drewN nq).setCell ⟨x.1,6,none⟩ (.bool false)=w6:=⟨_,rfl⟩
 rw[hw6] at md Q1⊢
 obtain⟨md1,md2⟩:=md
 have XN:=(fnd_mem HFN.out).2
 rw[XN] at md1 k1
 have K6:=zz (k1.tr md1)
 have OKT:TnOk (setTu x.2 false):=by have h1:=OKX.out;exact⟨h1.n1,h1.n32,h1.sec,h1.q1,h1.q2⟩
 have M1:=zz (HMW.out.upd (t':=setTu x.2 false) HFN.out K6.out XN OKT ⟨_,_,_,_,_,md2⟩)
 have S1:Hid (Stp (fun τ=>τ.1=s) w O w6 (cutTg O w.heap.size)):=zz (K6.out.imp fun τ e=>by rw[e])
 clear hw6 md1 md2 XN OKT hb1 k1 T1 d4 d6 f6
 go_wp2_with (first
  | ((with_reducible refine stA 35 ?_ (ansE 0) ?_ Q1 ?_ ?_ (ansE_one _) ?_);rfl;rfl;rfl;rfl;intro wz QZ FZ))
 refine bodyPost_ret (ansR Tryz.results41 QZ rfl rfl) rfl ?_
 exact DoR.flat 0 0 0 0 ⟨m,_,M1.out.stp (Stp.box FZ.out (cutTg_at (Nat.le_succ _))) fun i e=>by have:=M1.out.pos;injection e with e;omega⟩ (S1.out.fresh FZ.out (Nat.le_succ _))
set_option maxRecDepth 100000 in
theorem id_root (h:IdM w O s blocks T m bs):
 Calls Tryz.prog 42 #[.pointer (some ⟨s,0,none⟩),.agg c.cs] w (DoR s blocks w O (errA 0) T):=by
 obtain⟨w0,hw0,ha,hcb,hqb⟩:=preX w c
 unfold CallP.cs at hcb⊢
 go_enter Tryz.func42,Tryz.ntmps42
 go_upto_region 1 with (fail)
 rw[hw0.out]
 clear hw0
 have HA:=zz ha
 have Q1:=zz hqb
 have M1:=zz (h.stp (ctS ha) noF)
 have S1:Hid (Stp (fun τ=>τ.1=s) w O w0 (cutTg O w.heap.size)):=zz (Stp.cut ha (fun τ=>τ.1=s))
 clear h ha hqb hcb
 go_wp2_with (first
  | ((with_reducible refine stA 5 ?_ (ansE 0) ?_ Q1 ?_ ?_ (ansE_one _) ?_);rfl;rfl;rfl;rfl;intro wz QZ FZ))
 refine bodyPost_ret (ansR Tryz.results42 QZ rfl rfl) rfl ?_
 exact DoR.flat 0 0 0 0 ⟨m,_,M1.out.stp (Stp.box FZ.out (cutTg_at (Nat.le_succ _))) fun i e=>by have:=M1.out.pos;injection e with e;omega⟩ (S1.out.fresh FZ.out (Nat.le_succ _))
set_option maxRecDepth 100000 in
theorem id_remove_ok (x:Nat×TnP) (h:IdM w O s blocks T m bs) (hc:c.Ok) (hf:fnd bs c.ten=some x):
 Calls Tryz.prog 38 #[.pointer (some ⟨s,0,none⟩),.agg c.cs] w (DoR s blocks w O (errA 0) (T.filter fun t=>!decide (t.n=c.ten))):=by
 obtain⟨cb,mo,sm,nb,es,ht⟩:=h.all x (fnd_mem hf).1
 obtain⟨w0,hw0,ha,hcb,hqb⟩:=preX w c
 unfold CallP.cs at hcb⊢
 go_enter Tryz.func38,Tryz.ntmps38
 go_upto_region 1 with (fail)
 rw[hw0.out]
 clear hw0
 have c1:=(hcb).cell (k:=1) rfl
 have hlk:=fun k:Nat=>map_look (w:=w0.drewN k) ((h.map.ab ha).same rfl) (n:=c.ten) hc.ten
 simp only[hf,Option.map_some] at hlk
 have s1:=(h.box.ab ha).cell (k:=1) rfl
 have d4:=(ht.box.ab ha).cell (k:=4) rfl
 have d6:=(ht.box.ab ha).cell (k:=6) rfl
 have f6:=(ht.box.ab ha).free 6
 have TT:=zz fun k=>ht.stp (Stp.cut (bel_drewN ha k) (fun _=>False)) fun h=>h
 have HMW:=zz h
 have HTW:=zz ht
 have HFN:=zz hf
 have OKX:=zz (h.ok x (fnd_mem hf).1)
 have HA:=zz ha
 have HQ:=zz hqb
 have HB:=zz hcb
 have M0:=h.stp (ctS ha) noF
 have HM:=zz M0
 have MP:=zz fun k:Nat=>(h.map.ab (bel_drewN ha k))
 have C32:=zz hc.ten
 clear h ha hqb hcb hc M0 hf ht
 go_quiet (fail)
 go_upto_region 3 with (fail)
 have hb1:Below w0.heap.size w0 (w0.drewN nq):=bel_drewN (Below.refl _ _) _
 have Q0:=HQ.out.ab hb1
 have B0:=HB.out.ab hb1
 have M0:=HM.out.stp (Stp.of hb1 (fun _=>False) fun _ _=>rfl) fun _ h=>h
 have S0:Stp (fun τ=>τ.1=s) w O (w0.drewN nq) (cutTg O w.heap.size):=(Stp.cut HA.out (fun τ=>τ.1=s)).ab hb1
 obtain⟨w1,hw1⟩:∃w1,w0.drewN nq=w1:=⟨_,rfl⟩
 rw[hw1] at Q0 B0 M0 S0⊢
 have Q1:=zz Q0
 have B1:=zz B0
 have M1:=zz M0
 have S1:=zz S0
 clear hw1 Q0 B0 M0 S0 hb1 d4 d6 f6 hlk s1 c1
 refine wp_wide3 [⟨14,IsR (.pointer (some ⟨s,0,none⟩)),[],false⟩,⟨15,IsR (.pointer (some ⟨s,0,none⟩)),[0],false⟩,⟨16,IsR (.pointer (some ⟨s,1,none⟩)),[1],false⟩,⟨17,IsR (.map (some m)),[2],false⟩,⟨18,IsR (.pointer (some ⟨w.heap.size,1,none⟩)),[],false⟩,⟨19,IsR (.int .u32 (c.ten:Int)),[4],false⟩] (by kernel_rfl) (by kernel_rfl) rfl rfl rfl ⟨?_,?_,?_,?_,?_,?_,trivial⟩ ?_
 · refine okA rfl rfl fun a W hA hb hd=>?_
   have h0:a.tmps[0]?.getD undef = .pointer (some ⟨s,0,none⟩):=gt' hA (by simp) rfl
   go_simp
 · refine okA rfl rfl fun a W hA hb hd=>?_
   have h14:a.tmps[14]?.getD undef = .pointer (some ⟨s,0,none⟩):=gh (hd 0 (by simp) _ rfl)
   go_simp
 · refine okA rfl rfl fun a W hA hb hd=>?_
   have h15:a.tmps[15]?.getD undef = .pointer (some ⟨s,0,none⟩):=gh (hd 1 (by simp) _ rfl)
   go_simp
 · refine okA rfl rfl fun a W hA hb hd=>?_
   have h16:a.tmps[16]?.getD undef = .pointer (some ⟨s,1,none⟩):=gh (hd 2 (by simp) _ rfl)
   have hc:W.cell? (⟨s,1,none⟩)=some (.map (some m)):=(M1.out.box.ab hb).cell (k:=1) rfl
   go_simp
 · refine okA rfl rfl fun a W hA hb hd=>?_
   have h3:a.tmps[3]?.getD undef = .pointer (some ⟨w.heap.size,0,none⟩):=gt' hA (by simp) rfl
   go_simp
 · refine okA rfl rfl fun a W hA hb hd=>?_
   have h18:a.tmps[18]?.getD undef = .pointer (some ⟨w.heap.size,1,none⟩):=gh (hd 4 (by simp) _ rfl)
   have hc:W.cell? (⟨w.heap.size,1,none⟩)=some (.int .u32 (c.ten:Int)):=(B1.out.ab hb).cell (k:=1) rfl
   go_simp
 intro vs W9 hR hF hb
 have e14:vs 14 = .pointer (some ⟨s,0,none⟩):=hR 0 _ rfl
 have e15:vs 15 = .pointer (some ⟨s,0,none⟩):=hR 1 _ rfl
 have e16:vs 16 = .pointer (some ⟨s,1,none⟩):=hR 2 _ rfl
 have e17:vs 17 = .map (some m):=hR 3 _ rfl
 have e18:vs 18 = .pointer (some ⟨w.heap.size,1,none⟩):=hR 4 _ rfl
 have e19:vs 19 = .int .u32 (c.ten:Int):=hR 5 _ rfl
 simp only[List.map_cons,List.map_nil,List.foldl_cons,List.foldl_nil,List.length_cons,List.length_nil,List.drop_succ_cons,List.drop_zero,Act.put,List.setIfInBounds_toArray,List.set_cons_zero,List.set_cons_succ,e14,e15,e16,e17,e18,e19]
 have M9:=zz (M1.out.stp (Stp.of hb (fun _=>False) fun _ _=>rfl) fun _ h=>h)
 have Q9:=zz (Q1.out.ab hb)
 have S9:=zz (S1.out.ab hb)
 clear hR hF hb
 refine wpList_mapDel rfl (.tmp 17) (.tmp 19) rfl u32_K Tryz.underlying56 rfl M9.out.map c.ten C32.out rfl ?_
 intro w2 h2 g2 s2 b2
 have mne:s≠m:=fun e=>by
  have h5:=M9.out.box
  obtain⟨es',cl,h6,_⟩:=M9.out.map
  unfold CbB at h5
  rw[e,h6] at h5
  cases h5
 have stm:Stp (fun τ=>τ=(s,0)) W9 (cutTg O w.heap.size) w2 (cutTg O w.heap.size):=Stp.map g2 M9.out.om rfl
 have qne:w.heap.size+1≠m:=fun e=>by
  have h5:=Q9.out
  obtain⟨es',cl,h6,_⟩:=M9.out.map
  unfold CbB at h5
  rw[e,h6] at h5
  cases h5
 have Q1:=zz (Q9.out.grown g2 qne)
 have M1:=zz (M9.out.del (M9.out.box.grown g2 mne) stm h2)
 have S1:=zz (S9.out.tr (stm.imp fun τ e=>by rw[e]))
 clear h2 g2 s2 b2 mne stm qne
 simp only[Act.put]
 go_wp2_with (first
  | ((with_reducible refine stA 20 ?_ (ansE 0) ?_ Q1 ?_ ?_ (ansE_one _) ?_);rfl;rfl;rfl;rfl;intro wz QZ FZ))
 refine bodyPost_ret (ansR Tryz.results38 QZ rfl rfl) rfl ?_
 exact DoR.flat 0 0 0 0 ⟨m,_,M1.out.stp (Stp.box FZ.out (cutTg_at (Nat.le_succ _))) fun i e=>by have:=M1.out.pos;injection e with e;omega⟩ (S1.out.fresh FZ.out (Nat.le_succ _))
end
end Go.Proofs.YtgdhinjhbjolgaaGreat
