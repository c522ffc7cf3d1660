/-
  Parts of the proof, joined.
-/
import Derived.Test.YtgdhinjhbjolgaaGreatBdk
import Derived.Test.YtgdhinjhbjolgaaGreatBdn
import Derived.Lib.OwnBridge
import Derived.Sort.Walk0
namespace Go.Proofs.YtgdhinjhbjolgaaGreat
set_option maxHeartbeats 1000000
open Go.RowKit Go.Shelf Go.Maps Go.Sort
set_option linter.unusedVariables false
set_option linter.unusedSimpArgs false
def anyR {H:Type} (v:Value):Option (DataW H×List MemPlace):=some (.lit (.bool true),[])
theorem key_str {k:Ky} (h:kyOk k):keyOf Tryz.prog 9 (encStr k)=some (.string k):=by
 have hs:(⟨k.toArray⟩:ByteArray).size=k.length:=by show k.toArray.size=k.length;simp
 have:=WideMaps.keyOf_string_mk (P:=Tryz.prog) (k:=9) Tryz.underlying9 (s:=⟨k.toArray⟩) (by rw[hs];unfold kyOk at h;exact Nat.le_trans h (by decide))
 simpa[encStr] using this
section
variable {w:World} {b:Nat} {l:List (Ky×Value)}
theorem MapB.owns {H:Type} (h:MapB encStr kyOk w b l) (hl:l.length≤100000):∃D:DataW H,w.ownsMap Tryz.prog 9 anyR b l.length D∧(l.map (·.1)).Perm (strKeys D)∧Maps.size D=l.length:=by
 obtain⟨es,clock,h1,h2,h3,h4⟩:=id h
 have hr:∀y∈es.toList,∃p∈l,y.key=encStr p.1∧Go.WideElems.rd Tryz.prog 9 (anyR (H:=H)) y=some (.string p.1,.lit (.bool true)):=fun y hy=>by
  obtain⟨p,hp,hk,_⟩:=prs_mem h3 hy
  refine⟨p,hp,hk,?_⟩
  unfold Go.WideElems.rd
  rw[hk,key_str (h4 p hp)]
  rfl
 have hsz:=prs_len h3
 have hown:w.ownsMap Tryz.prog 9 (anyR (H:=H)) b l.length (.map ((es.toList.map (Go.WideElems.rg Tryz.prog 9 anyR)).foldr DataW.insert [])):=
  ⟨es,clock,h1,⟨by rw[hsz];exact Nat.le_trans hl (by decide),h2,fun y hy=>by obtain⟨p,_,_,e⟩:=hr y hy;exact⟨_,e⟩⟩,Nat.le_of_eq hsz,rfl⟩
 have hC:Collected (DataW.map ((es.toList.map (Go.WideElems.rg Tryz.prog 9 (anyR (H:=H)))).foldr DataW.insert [])) (fun _=>false) (l.map (·.1)):=by
  refine⟨h.nodup ky_K,fun x=>?_⟩
  rw[has_eq,List.any_eq_true]
  constructor
  · intro hx
    obtain⟨p,hp,rfl⟩:=List.mem_map.1 hx
    obtain⟨y,hy,hk,_⟩:=prs_mem' h3 hp
    obtain⟨p',hp',hk',e⟩:=hr y hy
    have:p'.1=p.1:=encStr_inj (hk'.symm.trans hk)
    refine⟨⟨_,mem_sorted.2 (List.mem_map.2 ⟨y,hy,Go.WideElems.rg_of e⟩),?_⟩,rfl⟩
    rw[this]
    simp[Lit.sameKey]
  · rintro ⟨⟨q,hq,hs⟩,_⟩
    obtain⟨y,hy,rfl⟩:=List.mem_map.1 (mem_sorted.1 hq)
    obtain⟨p',hp',hk',e⟩:=hr y hy
    rw[Go.WideElems.rg_of e] at hs
    simp only[Lit.sameKey] at hs
    exact List.mem_map.2 ⟨p',hp',by simpa using hs⟩
 refine⟨_,hown,hC.perm hown ky_K.keyed Tryz.underlying9 (fun _=>rfl),?_⟩
 have h5:=(hC.perm hown ky_K.keyed Tryz.underlying9 (fun _=>rfl)).length_eq
 rw[List.length_map] at h5
 rw[h5]
 simp[Maps.size,strKeys]
theorem sorts_str (m:Nat):AnyZ.SortsIn Tryz.prog lySorted_ren Fence.wide m:=
 ⟨fun blk off cap ss W hH hblk hsz=>callsIn_wide.2 (AnyM.slices_Sort_string lySort blk off cap ss W hH hblk hsz),
  fun p cap W=>callsIn_wide.2 (AnyM.slices_Sort_string_none lySort p cap W)⟩
theorem keysS_any (mb:Option Nat) (W:World):Calls Tryz.prog 68 #[.map mb] W fun e w'=>e = .returned (.func (.func 98) #[] #[.pointer (some ⟨W.heap.size,0,none⟩)])∧w'=W.alloc (.cells #[.map mb] 67):=
 callsIn_wide.1 (AnyZ.keys_in lyKeys Fence.wide 5 trivial rfl mb W)
def SsB (w:World) (B:Nat) (v:Value) (ss:List Ky):Prop:=w.ownsRow B 9 1 v ss.length (ss.map encStr)
theorem sortedS_any (w:World) (h:MapB encStr kyOk w b l) (hl:l.length≤100000):
 Calls Tryz.prog 67 #[.func (.func 98) #[] #[.pointer (some ⟨w.heap.size,0,none⟩)]] (w.alloc (.cells #[.map (some b)] 67)) fun e w'=>
  ∃v,e = .returned v∧SsB w' w.heap.size v ((l.map (·.1)).mergeSort leB)∧Below w.heap.size w w':=by
 obtain⟨D0,hown,hp,hz⟩:=MapB.owns (H:=Unit) h hl
 have hbl:=hown.lt
 have hseq:SeqGives Fence.wide 2 Tryz.prog 98 #[.pointer (some ⟨w.heap.size,0,none⟩)] encStr (fun ss=>ss.Perm (strKeys D0)) (Maps.size D0) (w.alloc (.cells #[.map (some b)] 67)):=
  AnyZ.keys_gives (ρ:=lyKeys_ren) { lyKeys with } Fence.wide _ trivial rfl (by omega) w.heap.size b l.length D0 _ (by simp) (by simp) (by
   obtain⟨es,clock,hb,Ft,hs,hD⟩:=hown
   exact⟨es,clock,(Below.heap_alloc _ _ b hbl).trans hb,Ft,hs,hD⟩)
 have hc:=AnyZ.sorted_in lySorted Fence.wide 5 trivial trivial trivial trivial rfl (by omega) (sorts_str _) (enters_of Tryz.func97 (by kernel_rfl) rfl) 98 #[.pointer (some ⟨w.heap.size,0,none⟩)] trivial (enters_of Tryz.func98 (by kernel_rfl) rfl) _ _ (by rw[hz];exact Nat.le_trans hl (by decide)) (by rw[hz];omega) _ hseq
 refine (callsIn_wide.1 hc).mono ?_
 rintro e w' ⟨v,ss,rfl,hS,hrow,_,hb⟩
 have e1:ss.mergeSort leB=(l.map (·.1)).mergeSort leB:=mergeSort_of_perm (hS.trans hp.symm)
 refine⟨v,rfl,?_,(alB).trans (hb.mono (by simp))⟩
 unfold SsB
 have h2:=row_low hrow (B':=w.heap.size) (by simp)
 have e2:ss.length=(ss.mergeSort leB).length:=by rw[List.length_mergeSort]
 rw[e2] at h2
 change w'.ownsRow w.heap.size 9 1 v (ss.mergeSort leB).length ((ss.mergeSort leB).map encStr) at h2
 rw[e1] at h2
 exact h2
end
def kysK (S:Bk2):List Ky:=(S.map (·.1)).mergeSort leB
set_option maxRecDepth 100000 in
theorem bkeys_any (b:Nat) (S:Bk2) (w:World) (O:Tg) (h:BokB w O b S) (hl:S.length≤100000):
 Calls Tryz.prog 32 #[.map (some b)] w fun e w'=>∃v,e = .returned v∧SsB w' w.heap.size v (kysK S)∧Below w.heap.size w w':=by
 obtain⟨es,l,hm,hv,hp⟩:=h
 have KE:Hid ((es.map (·.1)).mergeSort leB=kysK S):=zz (by unfold kysK;rw[hv.keys];exact mergeSort_of_perm (hp.map _))
 have HK:=zz fun W=>keysS_any (some b) W
 have HS:=zz (sortedS_any w hm (by rw[hv.len,hp.length_eq];exact hl))
 rw[KE.out] at HS
 clear hm hv hp hl
 go_enter Tryz.func32,Tryz.ntmps32
 go_wp2_with fail
 refine (HK.out _).mono ?_
 rintro e w1 ⟨rfl,rfl⟩
 go_wp2_with fail
 refine HS.out.mono ?_
 rintro e w1 ⟨v,rfl,hv,hb⟩
 have HV:=zz hv
 have HB:=zz hb
 clear hv hb HS HK
 go_wp2_with fail
 go_ret
 exact⟨_,rfl,HV.out,HB.out⟩
def StB (w:World) (N:Nat) (v:Value) (ks:List Ky):Prop:=∃A cap,v = .slice A ks.length cap∧ks.length≤cap∧cap≤maxLen∧((A=none∧cap=0)∨∃g,A=some ⟨g,0,none⟩∧N≤g∧g<w.heap.size∧Holds encStr w g 0 ks.toArray)
section
variable {w w':World} {N:Nat} {v:Value} {ks:List Ky}
theorem SsB.st (h:SsB w N v ks):StB w N v ks:=by
 by_cases hv:v = .slice none 0 0
 · subst hv
   have hl:ks.length=0:=by
    rcases h.2 with ⟨_,h2⟩ | ⟨g,cap,cur,e,_⟩
    · simpa using h2
    · cases e
   exact⟨none,0,by rw[hl],by omega,by decide,.inl ⟨rfl,rfl⟩⟩
 · obtain⟨g,cap,e,hb,hg,hn,hm,_,hH⟩:=Go.Lib.holds_of_ownsRow h hv
   exact⟨_,cap,e,hn,hm,.inr ⟨g,rfl,hb,hg,hH⟩⟩
theorem holds_pre {w:World} {g:Nat} {a b:List Ky} (h:Holds encStr w g 0 (a++b).toArray):Holds encStr w g 0 a.toArray:=fun j hj=>by
 have hj':j<a.length:=by simpa using hj
 have:=h j (by simp;omega)
 rw[getElem!_pos _ j (by simp;omega)] at this
 rw[getElem!_pos _ j hj]
 simpa[List.getElem_append_left hj'] using this
end
def delP (f u:List Nat) (k:Ky):Bool:=decide (k<k8 f)||(decide (0<u.length) && !decide (k<k8 u))
theorem strOf_toListK (l:List Nat):(strOf l).toList=k8 l:=ByteArray.toList_mk _
set_option maxRecDepth 100000 in
theorem scan1_any (c:CallP) (g:Nat) (k:Ky) (W:World) (hb:CbB W g 37 c.cs) (hf:IsB W c.frm.A c.frm.n c.frm.c c.frm.l) (hu:IsB W c.upto.A c.upto.n c.upto.c c.upto.l):
 FnGives Tryz.prog 86 #[.pointer (some ⟨g,0,none⟩)] #[encStr k] (.bool (delP c.frm.l c.upto.l k)) W:=by
 show Calls Tryz.prog 86 #[encStr k,.pointer (some ⟨g,0,none⟩)] W _
 have c11:W.cell? ⟨g,11,none⟩=some (.slice c.frm.A c.frm.n c.frm.c):=hb.cell (k:=11) rfl
 have c12:W.cell? ⟨g,12,none⟩=some (.slice c.upto.A c.upto.n c.upto.c):=hb.cell (k:=12) rfl
 have h1:=run_str hf 32 5 9 Tryz.underlying32 Tryz.underlying5 Tryz.underlying9
 have h2:=run_str hu 32 5 9 Tryz.underlying32 Tryz.underlying5 Tryz.underlying9
 have hl:=hu.len
 have D:=zz (show delP c.frm.l c.upto.l k=(decide (k<k8 c.frm.l)||(decide (0<c.upto.l.length) && !decide (k<k8 c.upto.l))) from rfl)
 have e1:Op.bytesLess k (strOf c.frm.l).toList=decide (k<k8 c.frm.l):=by rw[strOf_toListK,bytesLess_eq]
 have e2:Op.bytesLess k (strOf c.upto.l).toList=decide (k<k8 c.upto.l):=by rw[strOf_toListK,bytesLess_eq]
 generalize decide (k<k8 c.frm.l)=b1 at *
 generalize decide (k<k8 c.upto.l)=b2 at *
 unfold encStr
 by_cases h0:0<c.upto.n
 · have hn:decide ((0:Int)<(c.upto.n:Int))=true:=decide_eq_true (by omega)
   have hd:decide (0<c.upto.l.length)=true:=decide_eq_true (by omega)
   rw[hd] at D
   rw[D.out]
   clear hb hf hu hl D hd
   cases b1 <;> cases b2 <;>
   (go_enter Tryz.func86,Tryz.ntmps86
    go_wp2_with fail
    go_ret
    exact⟨rfl,0,rfl⟩)
 · have hn:decide ((0:Int)<(c.upto.n:Int))=false:=decide_eq_false (by omega)
   have hd:decide (0<c.upto.l.length)=false:=decide_eq_false (by omega)
   rw[hd] at D
   rw[D.out]
   clear hb hf hu hl D hd
   cases b1 <;> cases b2 <;>
   (go_enter Tryz.func86,Tryz.ntmps86
    go_wp2_with fail
    go_ret
    exact⟨rfl,0,rfl⟩)
theorem idxS_nil (fv:Value) (w:World):Calls Tryz.prog 112 #[.slice none 0 0,fv] w fun e w'=>e = .returned (.int .i64 (-1))∧w=w':=by
 go_enter Tryz.func112,Tryz.ntmps112
 go_wp2_with fail
 refine wp_loop_rounds 1 ?_
 rw[rounds_succ]
 go_wp2_with fail
 go_ret
 exact⟨rfl,rfl⟩
theorem delS_nil (fv:Value) (w:World):Calls Tryz.prog 85 #[.slice none 0 0,fv] w fun e w'=>e = .returned (.slice none 0 0)∧w=w':=by
 have HI:=zz (idxS_nil fv w)
 go_enter Tryz.func85,Tryz.ntmps85
 go_wp2_with fail
 refine HI.out.mono ?_
 rintro e w1 ⟨rfl,rfl⟩
 go_wp2_with fail
 go_ret
 exact⟨rfl,rfl⟩
theorem delS_any (c:CallP) (b N:Nat) (v:Value) (ks:List Ky) (w:World) (h:StB w N v ks) (hN:b<N) (hNw:N≤w.heap.size) (hcb:CbB w b 37 c.cs) (hf:IsB w c.frm.A c.frm.n c.frm.c c.frm.l) (hu:IsB w c.upto.A c.upto.n c.upto.c c.upto.l)
 (hfl:∀x,c.frm.A=some x→0<c.frm.n→x.block<N) (hul:∀x,c.upto.A=some x→0<c.upto.n→x.block<N):
 Calls Tryz.prog 85 #[v,.func (.func 86) #[] #[.pointer (some ⟨b,0,none⟩)]] w fun e w'=>∃v',e = .returned v'∧StB w' N v' (ks.filter fun k=>!delP c.frm.l c.upto.l k)∧Below N w w':=by
 obtain⟨A,cap,rfl,h1,h2,h3⟩:=h
 rcases h3 with ⟨rfl,rfl⟩ | ⟨g,rfl,h4,h5,h6⟩
 · have hk:ks=[]:=List.eq_nil_of_length_eq_zero (by omega)
   subst hk
   refine (delS_nil _ w).mono ?_
   rintro e w' ⟨rfl,rfl⟩
   exact⟨_,rfl,⟨none,0,rfl,by simp,by decide,.inl ⟨rfl,rfl⟩⟩,Below.refl _ _⟩
 · have hH:Holds encStr w g 0 ks.toArray:=h6
   have hbel:∀n (dk:Array Ky),Below N w (putRow encStr (Sort.ahead w n) g 0 dk):=fun n dk=>Go.Lib.below_putRow (Below.refl _ _) h4
   have isb:∀{W:World} {A n cp l},Below N w W→IsB w A n cp l→(∀x,A=some x→0<n→x.block<N)→IsB W A n cp l:=fun {W A n cp l} hb hi hx=>by
    refine isB_frZ (F:=fun k=>N≤k) hi ⟨hb.os,hb.tape,hb.output,hb.size,fun k _ hk=>hb.block k (by omega)⟩ fun hn x e=>by have:=hx x e hn;omega
   have hcon:=AnyE.slices_DeleteFunc lyDel encStr (fun _=>rfl) (delP c.frm.l c.upto.l) 86 #[.pointer (some ⟨b,0,none⟩)] (enters_of Tryz.func86 (by kernel_rfl) rfl) [] Tryz.zeroValue9 g 0 cap ks.toArray w
    (fun W x hb=>scan1_any c b x W (hcb.ab hb) (hf.ab hb) (hu.ab hb))
    (fun n os dk x _=>by
      have hb:Below N w (sortWorld encStr w g 0 n dk os):=by
       unfold sortWorld
       have h7:=_root_.Go.Proofs.below_grown (putRow encStr (Sort.ahead w n) g 0 dk) 0 os
       rw[Sort.ahead_zero] at h7
       exact (hbel n dk).trans (h7.mono (by rw[Sort.size_putRow];exact hNw))
      exact scan1_any c b x _ (hcb.low hb hN) (isb hb hf hfl) (isb hb hu hul))
    hH (by simp;exact Nat.le_trans h1 (Nat.le_trans h2 (by decide))) (by simpa using h1)
   have hcon2:=hcon.mono (R':=fun e w'=>∃v',e = .returned v'∧StB w' N v' (ks.filter fun k=>!delP c.frm.l c.upto.l k)∧Below N w w') (by
    rintro e w' ⟨rfl,q,rfl⟩
    refine⟨_,rfl,⟨some ⟨g,0,none⟩,cap,by simp,?_,h2,.inr ⟨g,rfl,h4,by simpa using h5,?_⟩⟩,hbel q _⟩
    · exact Nat.le_trans (List.length_filter_le _ _) h1
    · refine holds_pre (b:=List.replicate (ks.toArray.size-(ks.toArray.toList.filter fun x=>!delP c.frm.l c.upto.l x).length) []) ?_
      have:=holds_putRow encStr (Sort.ahead w q) g 0 ks.toArray ((ks.toArray.toList.filter fun x=>!delP c.frm.l c.upto.l x)++List.replicate (ks.toArray.size-(ks.toArray.toList.filter fun x=>!delP c.frm.l c.upto.l x).length) []).toArray (holds_ahead encStr w q g 0 _ hH) (by
       have:=List.length_filter_le (fun x=>!delP c.frm.l c.upto.l x) ks
       simp
       omega)
      simpa using this)
   have hcon3:Calls Tryz.prog 85 _ w _:=hcon2
   simpa using hcon3
theorem revS_any (N:Nat) (v:Value) (ks:List Ky) (w:World) (h:StB w N v ks):
 Calls Tryz.prog 87 #[v] w fun e w'=>e = .returned (.tuple #[])∧StB w' N v ks.reverse∧Below N w w':=by
 obtain⟨A,cap,rfl,h1,h2,h3⟩:=h
 rcases h3 with ⟨rfl,rfl⟩ | ⟨g,rfl,h4,h5,h6⟩
 · have hk:ks=[]:=List.eq_nil_of_length_eq_zero (by omega)
   subst hk
   refine (AnyG.slices_Reverse_string_empty lyRev none 0 w).mono ?_
   rintro e w' ⟨rfl,rfl⟩
   exact⟨rfl,⟨none,0,rfl,by simp,by decide,.inl ⟨rfl,rfl⟩⟩,Below.refl _ _⟩
 · refine (AnyG.slices_Reverse_string lyRev g 0 cap ks w h6 (Nat.le_trans h1 (Nat.le_trans h2 (by decide)))).mono ?_
   rintro e w' ⟨rfl,q,rfl⟩
   refine⟨rfl,⟨some ⟨g,0,none⟩,cap,by simp,by simpa using h1,h2,.inr ⟨g,rfl,h4,by simpa using h5,?_⟩⟩,Go.Lib.below_putRow (Below.refl _ _) h4⟩
   exact holds_putRow encStr (Sort.ahead w q) g 0 ks.toArray ks.reverse.toArray (holds_ahead encStr w q g 0 _ h6) (by simp)
open Go.RowKit Go.Sort
def PrN (w:World) (N:Nat) (v:Value) (l:Bk2):Prop:=
 ∃ vs:List (Value×Value),w.ownsRow N 87 2 v l.length (vs.flatMap fun p=>[p.1,p.2])∧vs.length=l.length∧
   ∀(i:Nat) (p:Value×Value) (q:Ky×List Nat),vs[i]? = some p→l[i]? = some q→(∃k,KyB w N p.1 k∧k8 k=q.1)∧OwB w N p.2 q.2
section
variable {w w':World} {N:Nat} {v:Value} {l:Bk2}
theorem PrN.nil (w:World) (N:Nat):PrN w N (.slice none 0 0) []:=⟨[],World.ownsRow_nil _ _ _ _,rfl,fun i p q hi=>(by simp at hi)⟩
theorem KyB.ab {kl:List Nat} (h:KyB w N v kl) (hb:Below w.heap.size w w'):KyB w' N v kl:=by
 obtain⟨g,n,cap,cs,fr,rfl,h1,h2,h3,h4⟩:=h
 exact⟨g,n,cap,cs,fr,rfl,h1,(hb.block g (lt_of_block h2)).trans h2,h3.ab hb,h4⟩
theorem KyB.gr {kl:List Nat} {row:Option Nat} {ms:Array Value} {mt:Nat×Nat} {T:TypeId} (h:KyB w N v kl) (hg:w.grownBy w' row) (hr:∀g,row=some g→w.heap[g]? = some (.cells ms T mt)) (hT:T≠5):KyB w' N v kl:=by
 obtain⟨g,n,cap,cs,fr,rfl,h1,h2,h3,h4⟩:=h
 have hne:∀q,row=some q→q≠g:=fun q hq e=>by
  have:=hr q hq
  rw[e,h2] at this
  injection this with this
  injection this with _ this
  exact hT this.symm
 refine⟨g,n,cap,cs,fr,rfl,h1,(hg.block g (lt_of_block h2) (fun e=>hne _ e.symm rfl)).trans h2,isB_frZ h3 (Fr.grown hg) fun hn x e e2=>?_,h4⟩
 injection e with e
 subst e
 exact hne _ e2 rfl
theorem PrN.ab (h:PrN w N v l) (hb:Below w.heap.size w w'):PrN w' N v l:=by
 obtain⟨vs,h1,h2,h3⟩:=h
 refine⟨vs,row_fr h1 (Fr.of hb (fun _=>False)) (fun k hk e=>e),h2,fun i p q hp hq=>?_⟩
 obtain⟨⟨k,k1,k2⟩,k3⟩:=h3 i p q hp hq
 exact⟨⟨k,k1.ab hb,k2⟩,k3.ab hb⟩
theorem infoP:(Tryz.prog.info? 87).map (fun i=>(i.zero,i.size,i.bytes))=some (some (.agg #[.slice none 0 0,.slice none 0 0]),2,48):=by kernel_rfl
set_option maxRecDepth 100000 in
theorem wpList_appP {rest:List Oper} {ops:Array Oper} {o:Oper} {a:Act} {Q:Exit→Act→World→Prop} (hgd:o.guard=none) (s x:Operand)
 (ho:o.op = .call { callee:=.builtin .append,args:=#[s,x],argTypes:=#[41,41] }) (h:PrN w N v l) (hs:a.eval s=v)
 {G:Nat} {kv uv:Value} (hx:a.eval x = .slice (some ⟨G,0,none⟩) 1 1) (hG:CbB w G 87 #[kv,uv]) {kl u:List Nat} (hk:KyB w N kv kl) (hu:OwB w N uv u) (hl:l.length≤100000) (hN:N≤w.heap.size)
 (K:∀v' w',PrN w' N v' (l++[(k8 kl,u)])→Below N w w'→wpList Tryz.prog ops Q rest (a.put o.dst v') w'):wpList Tryz.prog ops Q (o::rest) a w:=by
 obtain⟨i0,hi0,hz0,hz1,hz2⟩:=info_parts infoP
 obtain⟨vs,h1,h2,h3⟩:=h
 obtain⟨A1,n1,c1,hk1⟩:∃A n c,kv = .slice A n c:=by obtain⟨g,n,cap,cs,fr,e,_⟩:=id hk;exact⟨_,_,_,e⟩
 obtain⟨A2,n2,c2,hu1⟩:=row_sl hu.own
 obtain⟨v1,W1,hrun,r1,r2,_⟩:=run_append_own (P:=Tryz.prog) w N 41 o.type 87 i0 _ 2 48 Tryz.underlying41 hi0 hz0 hz1 hz2 rfl (by decide) v l.length (vs.flatMap fun p=>[p.1,p.2]) h1 ⟨G,0,none⟩ 1 1 [kv,uv] rfl (row_at hG) (by rw[hk1,hu1];simp[Value.oneCell']) (by simp only[maxLen];omega) (by omega) hN
 refine wpList_plain hgd fun K' hK'=>?_
 unfold Oper.wp execOp
 simp only[ho,resolve,invoke,builtin,Sem.run_bind,Sem.run_pure,Result.andThen_ok,List.map_toArray,List.map_cons,List.map_nil,hs,hx,hrun]
 have hty:∀g,v.ownBlock=some g→∃ms,w.heap[g]? = some (.cells ms 87 (0,0)):=fun g hg=>by
  rcases h1.2 with ⟨rfl,_⟩ | ⟨g',cap,cur,rfl,_,hb,_⟩
  · cases hg
  · simp only[Value.ownBlock,Option.some.injEq] at hg
    subst hg
    exact⟨_,hb⟩
 have kgr:∀{z:Value} {zl:List Nat},KyB w N z zl→KyB W1 N z zl:=fun {z zl} hz=>by
  cases ho2:v.ownBlock with
  | none=>exact hz.gr (ms:=#[]) (mt:=(0,0)) (T:=87) r2 (fun g e=>by rw[ho2] at e;cases e) (by decide)
  | some g0=>
    obtain⟨ms,hms⟩:=hty g0 ho2
    exact hz.gr r2 (fun g e=>by rw[ho2] at e;injection e with e;subst e;exact hms) (by decide)
 have ogr:∀{z:Value} {zl:List Nat},OwB w N z zl→OwB W1 N z zl:=fun {z zl} hz=>by
  refine hz.fr (Fr.grown r2) fun g hg e=>?_
  obtain⟨ms,hms⟩:=hty g e
  rcases hz.own.2 with ⟨rfl,_⟩ | ⟨g',cap,cur,rfl,_,hb,_⟩
  · cases hg
  · simp only[Value.ownBlock,Option.some.injEq] at hg
    subst hg
    rw[hb] at hms
    injection hms with hms
    injection hms with _ hms
    exact absurd hms (by decide)
 refine hK' _ _ (K v1 W1 ⟨vs++[(kv,uv)],?_,by simp[h2],fun i p q hp hq=>?_⟩ ((Below.refl N w).grown r2 hN (own_ge9 h1)))
 · rw[List.flatMap_append,List.length_append]
   simpa using r1
 · by_cases hi:i<vs.length
   · rw[List.getElem?_append_left hi] at hp
     rw[List.getElem?_append_left (by omega)] at hq
     obtain⟨⟨k,k1,k2⟩,k3⟩:=h3 i p q hp hq
     exact⟨⟨k,kgr k1,k2⟩,ogr k3⟩
   · rw[List.getElem?_append_right (by omega)] at hp hq
     have e0:i-vs.length=0:=by
      rcases Nat.eq_zero_or_pos (i-vs.length) with h0 | h0
      · exact h0
      · rw[show i-vs.length=(i-vs.length-1)+1 by omega] at hp;simp at hp
     rw[e0] at hp
     rw[show i-l.length=0 by omega] at hq
     simp only[List.getElem?_cons_zero,Option.some.injEq] at hp hq
     subst hp hq
     exact⟨⟨kl,kgr hk,rfl⟩,ogr hu⟩
end
theorem k8_back (k:Ky):k8 (k.map (·.toNat))=k:=by
 unfold k8
 rw[List.map_map]
 conv=>rhs;rw[←List.map_id k]
 refine List.map_congr_left fun x _=>?_
 simp
theorem str_bytesK (w:World) (k:Ky) (hk:kyOk k):∃cap w',(convert 9 32 (.string ⟨k.toArray⟩)).run Tryz.prog w = .ok (.slice (some ⟨w.heap.size,0,none⟩) k.length cap) w'∧Below w.heap.size w w'∧KyB w' w.heap.size (.slice (some ⟨w.heap.size,0,none⟩) k.length cap) (k.map (·.toNat)):=by
 have h:=Lib.run_convert_string_bytes (P:=Tryz.prog) w 9 32 5 ⟨k.toArray⟩ Tryz.underlying9 Tryz.underlying32 Tryz.underlying5
 have hs:(⟨k.toArray⟩:ByteArray).size=k.length:=by show k.toArray.size=k.length;simp
 rw[hs] at h
 have hkl:k.length≤maxLen:=Nat.le_trans hk (by decide)
 refine⟨_,_,h,below_bytes _ _ _,w.heap.size,k.length,_,_,_,rfl,Nat.le_refl _,Lib.bytesWorld_at_new w 5 ⟨k.toArray⟩,⟨⟨by simp,grownCap_ge _ _ _ _,Nat.le_trans (grownCap_le_maxLen w _ _ _ hkl) (by decide),byt_wf ?_,.inr ⟨⟨w.heap.size,0,none⟩,rfl,fun _=>by rw[Lib.bytesWorld_size];exact Nat.lt_succ_self _,fun i hi=>?_⟩⟩,?_⟩,?_⟩
 · intro x hx
   obtain⟨y,_,rfl⟩:=List.mem_map.1 hx
   exact y.toNat_lt
 · have e:(⟨w.heap.size,0,none⟩:Addr).add i=⟨w.heap.size,i,none⟩:=by rw[Addr.add_mid,Nat.zero_add]
   rw[e,Lib.bytesWorld_cell w 5 ⟨k.toArray⟩ i (by rw[hs];exact hi)]
   simp[List.getD_eq_getElem?_getD,hi]
 · intro x hx
   obtain⟨y,_,rfl⟩:=List.mem_map.1 hx
   exact y.toNat_lt
 · show k.length≤(Lib.bytesCells w 5 ⟨k.toArray⟩).size
   simp[Lib.bytesCells]
def scanK (c:CallP) (S:Bk2):List Ky:=(bif c.back then ((kysK S).filter fun k=>!delP c.frm.l c.upto.l k).reverse else (kysK S).filter fun k=>!delP c.frm.l c.upto.l k).take c.n.toNat
def prsK (S:Bk2) (ks:List Ky):Bk2:=ks.map fun k=>(k,(getK k S).getD [])
def prsA (l:Bk2):AnsP:=⟨0,0,0,[],l,0,[]⟩
theorem kysK_mem {S:Bk2} {k:Ky} (h:k∈kysK S):∃u,getK k S=some u:=by
 unfold kysK at h
 have h2:=(List.mergeSort_perm _ _).mem_iff.1 h
 cases hg:getK k S with
 | some u=>exact⟨u,rfl⟩
 | none=>
   obtain⟨p,hp,e⟩:=List.mem_map.1 h2
   unfold getK at hg
   rw[Option.map_eq_none_iff,List.find?_eq_none] at hg
   exact absurd (hg p hp) (by simp[e])
theorem BokB.ok {w:World} {O:Tg} {b:Nat} {S:Bk2} (h:BokB w O b S):∀p∈S,kyOk p.1:=fun p hp=>by
 obtain⟨es,l,h1,h2,h3⟩:=h
 have hp2:=h3.mem_iff.2 hp
 have:p.1∈es.map (·.1):=by rw[h2.keys];exact List.mem_map.2 ⟨p,hp2,rfl⟩
 obtain⟨q,hq,e⟩:=List.mem_map.1 this
 rw[←e]
 exact h1.oks q hq
theorem wpList_min2 {ops:Array Oper} {rest:List Oper} {o:Oper} {a:Act} {w:World} {Q:Exit→Act→World→Prop} (hgd:o.guard=none) (x y:Operand)
 (ho:o.op = .call { callee:=.builtin .min,args:=#[x,y],argTypes:=#[3,3] }) (p q m:Nat) (hx:a.eval x = .int .i64 (p:Int)) (hy:a.eval y = .int .i64 (q:Int)) (hm:m=min p q)
 (h:wpList Tryz.prog ops Q rest (a.put o.dst (.int .i64 (m:Int))) w):wpList Tryz.prog ops Q (o::rest) a w:=by
 have hu:=Tryz.underlying3
 refine wpList_plain hgd fun K hK=>?_
 have hK:=hK _ _ h
 unfold Oper.wp execOp
 have e:(m:Int)=min (p:Int) (q:Int):=by omega
 rw[e] at hK
 simp only[ho,hx,hy,resolve,List.map_toArray,List.map_cons,List.map_nil]
 clear hm h e
 go_simp
 exact hK
theorem sl_sizeS (W:World):(sizeOf (Tryz.prog.elem 88)).run Tryz.prog W = .ok 1 W:=by
 have h:(Tryz.prog.info? (Tryz.prog.elem 88)).map (·.size)=some 1:=by kernel_rfl
 cases hq:Tryz.prog.info? (Tryz.prog.elem 88) with
 | none=>rw[hq] at h;cases h
 | some i=>rw[hq] at h;simp only[Option.map_some,Option.some.injEq] at h;simp[sizeOf,typeInfo,hq,h]
theorem sl_uptoS (W:World) (A:Option Addr) (n c m:Nat) (hm:m≤c):(Instr.sliceAt 88 (.slice A n c) none (some (.int .i64 (m:Int))) none).run Tryz.prog W = .ok (.slice A m c) W:=by
 have h:Tryz.prog.underlying 88=some (.slice (Tryz.prog.elem 88)):=by kernel_rfl
 rw[run_sliceAt_slice W _ _ _ _ _ h,run_slice_h W _ _ _ _ h .i64 (m:Int) (by omega) (by omega),sl_sizeS]
 simp only[Result.andThen_ok,sliced,Nat.zero_mul,Int.toNat_natCast,Nat.sub_zero,add_zero',ite_self]
section
variable {w:World} {O:Tg} {s blocks m:Nat} {T:List TnP} {bs:List (Nat×TnP)} {c:CallP}
set_option maxRecDepth 100000 in
theorem id_scan_low (x:Nat×TnP) (h:IdM w O s blocks T m bs) (hc:c.Ok) (hf:fnd bs (c.hd/4294967296)=some x) (hk:checkH x.2.A (c.hd%4294967296) 1=0) (n0:decide (c.n<0)=true):
 Calls Tryz.prog 49 #[.pointer (some ⟨s,0,none⟩),.agg c.cs] w (DoR s blocks w O (errA 2) T):=by
 obtain⟨cb,mo,sm,nb,es,ht⟩:=h.all x (fnd_mem hf).1
 obtain⟨w0,hw0,ha,hcb,hqb⟩:=preX w c
 unfold CallP.cs at hcb⊢
 go_enter Tryz.func49,Tryz.ntmps49
 go_upto_region 1 with (fail)
 rw[hw0.out]
 clear hw0
 obtain⟨c0,c1,c2,c3,c4,c5,c6,c7,c8,c9,c10,c11,c12,c13⟩:=hcb.c14
 have HA:=zz ha
 have HQ:=zz hqb
 have HB:=zz hcb
 have M0:=h.stp (ctS ha) noF
 have HM:=zz M0
 have T0:=ht.stp (ctS ha) fun h=>h
 have HT:=zz T0
 have HTW:=zz ht
 have HH:=zz (holder_some 1 x cb mo sm nb es M0 hc hf T0)
 rw[hk] at HH
 have CO:=zz hc
 have HFN:=zz hf
 have HF:=zz fun W=>fails_any 2 W
 clear h ha hqb hcb hf hc M0 T0 ht hk
 go_wp2_with fail
 refine HH.out.mono ?_
 rintro e w9 ⟨rfl,hb9⟩
 have B9:=zz hb9
 clear hb9 HH
 have q4:=(HB.out.ab B9.out).cell (k:=4) rfl
 go_wp2_with fail
 refine (HF.out _).mono ?_
 rintro e w1 ⟨rfl,hb⟩
 have B1:Hid (Below w0.heap.size w0 w1):=zz (below_tr B9.out hb B9.out.size)
 have Q1:=zz (HQ.out.ab B1.out)
 have M1:=kpM HM B1
 have S1:=stKp s O HA B1
 clear hb HQ HM B1
 go_wp2_with (first
  | ((with_reducible refine stA 34 ?_ (ansE 2) ?_ Q1 ?_ ?_ (ansE_one _) ?_);rfl;rfl;rfl;rfl;intro wz QZ FZ))
 refine bodyPost_ret (ansR Tryz.results49 QZ rfl rfl) rfl ?_
 exact DoR.fl 2 0 0 0 M1 S1 FZ
set_option maxRecDepth 100000 in
theorem id_scan_high (x:Nat×TnP) (h:IdM w O s blocks T m bs) (hc:c.Ok) (hf:fnd bs (c.hd/4294967296)=some x) (hk:checkH x.2.A (c.hd%4294967296) 1=0) (n0:decide (c.n<0)=false) (n1:decide ((100:Int)<c.n)=true):
 Calls Tryz.prog 49 #[.pointer (some ⟨s,0,none⟩),.agg c.cs] w (DoR s blocks w O (errA 2) T):=by
 obtain⟨cb,mo,sm,nb,es,ht⟩:=h.all x (fnd_mem hf).1
 obtain⟨w0,hw0,ha,hcb,hqb⟩:=preX w c
 unfold CallP.cs at hcb⊢
 go_enter Tryz.func49,Tryz.ntmps49
 go_upto_region 1 with (fail)
 rw[hw0.out]
 clear hw0
 obtain⟨c0,c1,c2,c3,c4,c5,c6,c7,c8,c9,c10,c11,c12,c13⟩:=hcb.c14
 have HA:=zz ha
 have HQ:=zz hqb
 have HB:=zz hcb
 have M0:=h.stp (ctS ha) noF
 have HM:=zz M0
 have T0:=ht.stp (ctS ha) fun h=>h
 have HT:=zz T0
 have HTW:=zz ht
 have HH:=zz (holder_some 1 x cb mo sm nb es M0 hc hf T0)
 rw[hk] at HH
 have CO:=zz hc
 have HFN:=zz hf
 have HF:=zz fun W=>fails_any 2 W
 clear h ha hqb hcb hf hc M0 T0 ht hk
 go_wp2_with fail
 refine HH.out.mono ?_
 rintro e w9 ⟨rfl,hb9⟩
 have B9:=zz hb9
 clear hb9 HH
 have q4:=(HB.out.ab B9.out).cell (k:=4) rfl
 go_wp2_with fail
 refine (HF.out _).mono ?_
 rintro e w1 ⟨rfl,hb⟩
 have B1:Hid (Below w0.heap.size w0 w1):=zz (below_tr B9.out hb B9.out.size)
 have Q1:=zz (HQ.out.ab B1.out)
 have M1:=kpM HM B1
 have S1:=stKp s O HA B1
 clear hb HQ HM B1
 go_wp2_with (first
  | ((with_reducible refine stA 34 ?_ (ansE 2) ?_ Q1 ?_ ?_ (ansE_one _) ?_);rfl;rfl;rfl;rfl;intro wz QZ FZ))
 refine bodyPost_ret (ansR Tryz.results49 QZ rfl rfl) rfl ?_
 exact DoR.fl 2 0 0 0 M1 S1 FZ
set_option maxRecDepth 100000 in
theorem id_scan_snap (x:Nat×TnP) (h:IdM w O s blocks T m bs) (hc:c.Ok) (hf:fnd bs (c.hd/4294967296)=some x) (hk:checkH x.2.A (c.hd%4294967296) 1=0) (n0:decide (c.n<0)=false) (n1:decide ((100:Int)<c.n)=false) (hs:seenP x.2 c.sn=none):
 Calls Tryz.prog 49 #[.pointer (some ⟨s,0,none⟩),.agg c.cs] w (DoR s blocks w O (errA 262) T):=by
 obtain⟨cb,mo,sm,nb,es,ht⟩:=h.all x (fnd_mem hf).1
 obtain⟨w0,hw0,ha,hcb,hqb⟩:=preX w c
 unfold CallP.cs at hcb⊢
 go_enter Tryz.func49,Tryz.ntmps49
 go_upto_region 1 with (fail)
 rw[hw0.out]
 clear hw0
 obtain⟨c0,c1,c2,c3,c4,c5,c6,c7,c8,c9,c10,c11,c12,c13⟩:=hcb.c14
 have HA:=zz ha
 have HQ:=zz hqb
 have HB:=zz hcb
 have M0:=h.stp (ctS ha) noF
 have HM:=zz M0
 have T0:=ht.stp (ctS ha) fun h=>h
 have HT:=zz T0
 have HTW:=zz ht
 have HH:=zz (holder_some 1 x cb mo sm nb es M0 hc hf T0)
 rw[hk] at HH
 have CO:=zz hc
 have HFN:=zz hf
 have HF:=zz fun W=>fails_any 262 W
 have HSN:=zz hs
 clear h ha hqb hcb hf hc M0 T0 ht hk hs
 go_wp2_with fail
 refine HH.out.mono ?_
 rintro e w9 ⟨rfl,hb9⟩
 have B9:=zz hb9
 clear hb9 HH
 obtain⟨q0,q1,q2,q3,q4,q5,q6,q7,q8,q9,q10,q11,q12,q13⟩:=(HB.out.ab B9.out).c14
 have HS:=zz (seen_any (c:=c) CO.out (HT.out.stp (Stp.of B9.out (fun _=>False) fun _ _=>rfl) fun h=>h))
 go_wp2_with fail
 refine HS.out.mono ?_
 rintro e w8 ⟨hr,hb⟩
 rcases hr with ⟨_,rfl⟩ | ⟨S,k,h1,_⟩
 · have B8:=zz (below_tr B9.out hb B9.out.size)
   clear hb HS
   go_wp2_with fail
   refine (HF.out _).mono ?_
   rintro e w1 ⟨rfl,hb⟩
   have B1:Hid (Below w0.heap.size w0 w1):=zz (below_tr B8.out hb B8.out.size)
   have Q1:=zz (HQ.out.ab B1.out)
   have M1:=kpM HM B1
   have S1:=stKp s O HA B1
   clear hb HQ HM B1
   go_wp2_with (first
    | ((with_reducible refine stA 44 ?_ (ansE 262) ?_ Q1 ?_ ?_ (ansE_one _) ?_);rfl;rfl;rfl;rfl;intro wz QZ FZ))
   refine bodyPost_ret (ansR Tryz.results49 QZ rfl rfl) rfl ?_
   exact DoR.fl 262 0 0 0 M1 S1 FZ
 · rw[HSN.out] at h1;cases h1
set_option maxRecDepth 100000 in
theorem id_scan_ok (x:Nat×TnP) (h:IdM w O s blocks T m bs) (hc:c.Ok) (hf:fnd bs (c.hd/4294967296)=some x) (hk:checkH x.2.A (c.hd%4294967296) 1=0) (n0:decide (c.n<0)=false) (n1:decide ((100:Int)<c.n)=false) (S:Bk2) (hs:seenP x.2 c.sn=some S) (hl:S.length≤100000) (hfr:IsB w c.frm.A c.frm.n c.frm.c c.frm.l) (hup:IsB w c.upto.A c.upto.n c.upto.c c.upto.l):
 Calls Tryz.prog 49 #[.pointer (some ⟨s,0,none⟩),.agg c.cs] w (DoR s blocks w O (prsA (prsK S (scanK c S))) T):=by
 obtain⟨cb,mo,sm,nb,es,ht⟩:=h.all x (fnd_mem hf).1
 obtain⟨w0,hw0,ha,hcb,hqb⟩:=preX w c
 unfold CallP.cs at hcb⊢
 go_enter Tryz.func49,Tryz.ntmps49
 go_upto_region 1 with (fail)
 rw[hw0.out]
 clear hw0
 obtain⟨c0,c1,c2,c3,c4,c5,c6,c7,c8,c9,c10,c11,c12,c13⟩:=hcb.c14
 have HA:=zz ha
 have HQ:=zz hqb
 have HB:=zz hcb
 have M0:=h.stp (ctS ha) noF
 have HM:=zz M0
 have T0:=ht.stp (ctS ha) fun h=>h
 have HT:=zz T0
 have HTW:=zz ht
 have HH:=zz (holder_some 1 x cb mo sm nb es M0 hc hf T0)
 rw[hk] at HH
 have CO:=zz hc
 have HFN:=zz hf
 have HSN:=zz hs
 have HSL:=zz hl
 have FR0:=zz (hfr.ab ha)
 have UP0:=zz (hup.ab ha)
 have FRL:Hid (∀x,c.frm.A=some x→0<c.frm.n→x.block<w.heap.size):=zz fun x e hn=>by
  obtain⟨y,hy,h2,_⟩:=hfr.1.at hn
  rw[e] at hy;injection hy with hy;rw[hy];exact h2
 have UPL:Hid (∀x,c.upto.A=some x→0<c.upto.n→x.block<w.heap.size):=zz fun x e hn=>by
  obtain⟨y,hy,h2,_⟩:=hup.1.at hn
  rw[e] at hy;injection hy with hy;rw[hy];exact h2
 have CN:Hid (0≤c.n∧c.n≤100):=zz (by simp at n0 n1;omega)
 clear h ha hqb hcb hf hc M0 T0 ht hk hs hl hfr hup
 go_wp2_with fail
 refine HH.out.mono ?_
 rintro e w9 ⟨rfl,hb9⟩
 have B9:=zz hb9
 clear hb9 HH
 obtain⟨q0,q1,q2,q3,q4,q5,q6,q7,q8,q9,q10,q11,q12,q13⟩:=(HB.out.ab B9.out).c14
 have HS:=zz (seen_any (c:=c) CO.out (HT.out.stp (Stp.of B9.out (fun _=>False) fun _ _=>rfl) fun h=>h))
 go_wp2_with fail
 refine HS.out.mono ?_
 rintro e w8 ⟨hr,hb⟩
 rcases hr with ⟨hz,_⟩ | ⟨S',kb,h1,hbk,hko,rfl⟩
 · rw[HSN.out] at hz;cases hz
 rw[HSN.out] at h1
 injection h1 with h1
 subst h1
 have B8:=zz (below_tr B9.out hb B9.out.size)
 have BK:=zz (hbk.stp hko (Stp.of (O':=cutTg O w.heap.size) hb (fun _=>False) fun _ _=>rfl))
 have KO8:Hid (cutTg O w.heap.size kb=none):=zz hko
 clear hb HS hbk hko
 have HK:=zz (bkeys_any kb S w8 (cutTg O w.heap.size) BK.out HSL.out)
 go_wp2_with fail
 refine HK.out.mono ?_
 rintro e w7 ⟨v7,rfl,hs7,hb7⟩
 have st7:=hs7.st
 have B7:=zz (below_tr B8.out hb7 B8.out.size)
 have N8:Hid (w.heap.size<w8.heap.size∧w0.heap.size≤w8.heap.size):=zz ⟨by have:=HQ.out.lt;have:=B8.out.size;omega,B8.out.size⟩
 have HDL:=zz (delS_any c w.heap.size w8.heap.size v7 (kysK S) w7 st7 N8.out.1 hb7.size (HB.out.ab B7.out) (FR0.out.ab B7.out) (UP0.out.ab B7.out) (fun x e hn=>by have:=FRL.out x e hn;have:=N8.out.1;omega) (fun x e hn=>by have:=UPL.out x e hn;have:=N8.out.1;omega))
 obtain⟨A7,n7,c7,hv7⟩:=row_sl hs7
 subst hv7
 have H78:=zz hb7
 clear hs7 hb7 st7 HK q0 q1 q2 q3 q4 q5 q6 q7 q8 q9 q10 q11 q12 q13
 go_wp2_with fail
 refine HDL.out.mono ?_
 rintro e w6 ⟨v6,rfl,st6,hb6⟩
 have B6:=zz (B7.out.trans (hb6.mono N8.out.2))
 have W86:Hid (Below w8.heap.size w8 w6):=zz (H78.out.trans hb6)
 have ST6:=zz st6
 obtain⟨A6,c6,hv6,_⟩:=id st6
 subst hv6
 have X13:w6.cell? ⟨w.heap.size,13,none⟩=some (.bool c.back):=(HB.out.ab B6.out).cell (k:=13) rfl
 clear st6 hb6 HDL H78
 obtain⟨bk,hbk⟩:∃b,c.back=b:=⟨_,rfl⟩
 rw[hbk] at X13
 obtain⟨ks,hks⟩:∃ks,((kysK S).filter fun k=>!delP c.frm.l c.upto.l k)=ks:=⟨_,rfl⟩
 have KM:Hid (∀k∈ks,∃u,getK k S=some u):=zz fun k hk=>kysK_mem (List.mem_filter.1 (by rw[hks];exact hk)).1
 have SK:Hid (scanK c S=(bif bk then ks.reverse else ks).take c.n.toNat):=zz (by unfold scanK;rw[hks,hbk])
 rw[hks] at ST6⊢
 clear hbk hks
 cases bk with
 | true=>
   have HRV:=zz (revS_any w8.heap.size _ ks w6 ST6.out)
   go_wp2_with fail
   refine HRV.out.mono ?_
   rintro e w5 ⟨rfl,st5,hb5⟩
   have B5:=zz (B6.out.trans (hb5.mono N8.out.2))
   have W85:Hid (Below w8.heap.size w8 w5):=zz (W86.out.trans hb5)
   have ST5:=zz st5
   clear st5 hb5 HRV X13
   obtain⟨A5,c5,he5,hc1,hc2,hc3⟩:=ST5.out
   simp only[Value.slice.injEq] at he5
   obtain⟨rfl,_,rfl⟩:=he5
   obtain⟨ln,hln⟩:∃n,ks.length=n:=⟨_,rfl⟩
   have LN:Hid ((ks.reverse).length=ln):=zz (by simp[hln])
   rw[LN.out] at hc1
   rw[hln]
   obtain⟨cn,hcn⟩:∃n:Nat,c.n=(n:Int):=⟨c.n.toNat,(Int.toNat_of_nonneg CN.out.1).symm⟩
   have CNE:Hid (c.n.toNat=cn):=zz (by rw[hcn];rfl)
   have CNL:Hid (cn≤100):=zz (by have:=CN.out;omega)
   have X4:w5.cell? ⟨w.heap.size,4,none⟩=some (.int .i64 (cn:Int)):=by rw[←hcn];exact (HB.out.ab B5.out).cell (k:=4) rfl
   obtain⟨mi,hm⟩:∃mi:Nat,mi=min ln cn:=⟨_,rfl⟩
   have hsl:=sl_uptoS w5 A6 ln c6 mi (by omega)
   have BK5:=zz (BK.out.stp KO8.out (Stp.of (O':=cutTg O w.heap.size) W85.out (fun _=>False) fun _ _=>rfl))
   have KY:Hid (∀k∈ks.reverse,kyOk k∧∃u,getK k S=some u):=zz fun k hk=>by
    obtain⟨u,hu⟩:=KM.out k (List.mem_reverse.1 hk)
    exact⟨BK.out.ok _ (getK_mem hu),u,hu⟩
   have HC1:=zz hc1
   have HC3:=zz hc3
   have HMI:=zz hm
   have MM:Hid (mi≤ln∧mi≤100):=zz (by have:=CNL.out;omega)
   have m0:(mi:Int)≤100:=by have:=MM.out;omega
   have W5N:Hid (w.heap.size+1<w5.heap.size∧w8.heap.size≤w5.heap.size):=zz ⟨by have:=HQ.out.lt;have:=B5.out.size;omega,W85.out.size⟩
   clear hc1 hc2 hc3 hln hcn hm
   go_wp2_with (first
    | (refine wpList_min2 rfl (.tmp 55) (.tmp 57) rfl ln cn mi rfl rfl HMI.out ?_))
   clear hsl X4
   go_loopw [10,61] (fun z10 z61 wr=>∃i:Nat,i≤mi∧z61 = .int .i64 (i:Int)∧PrN wr w5.heap.size z10 (prsK S ((ks.reverse).take i))∧Below w5.heap.size w5 wr) (fun _ z _=>mi-(intOf z).toNat)
   case atStart=>exact⟨0,Nat.zero_le _,rfl,PrN.nil _ _,Below.refl _ _⟩
   case round=>
    obtain⟨i,hi,rfl,hp,hb⟩:=hrel
    have PR:=zz hp
    have BR:=zz hb
    by_cases hlt:i<mi
    · have hil:i<(ks.reverse).length:=by rw[LN.out];have:=MM.out;omega
      obtain⟨k,hk⟩:∃k,(ks.reverse)[i]? = some k:=⟨_,List.getElem?_eq_getElem hil⟩
      obtain⟨kok,u,hu⟩:=KY.out k (List.mem_of_getElem? hk)
      rcases HC3.out with ⟨_,h0⟩ | ⟨g,rfl,hg1,hg2,hH⟩
      · have:=HC1.out;rw[LN.out] at hil;omega
      have hc:wr.cell? ⟨g,i,none⟩=some (.string ⟨k.toArray⟩):=by
       have h1:=(hH i (by simpa using hil)).1
       rw[getElem!_pos _ i (by simpa using hil)] at h1
       have h2:(ks.reverse)[i]'hil=k:=by rw[List.getElem?_eq_getElem hil] at hk;injection hk
       rw[Nat.zero_add] at h1
       refine (World.cell?_of_block (hb.block g hg2)).trans (h1.trans ?_)
       simp[encStr,h2]
      have KL:=zz hlt
      have HKI:=zz hk
      have HU:=zz hu
      have KOK:=zz kok
      have hlti:(i:Int)<(mi:Int):=by omega
      have hi0:(0:Int)≤(i:Int):=by omega
      clear hi hp hb hlt hil hk kok hu hg1 hg2 hH
      go_wp2_with fail
      obtain⟨cap,w1,hcv,b1,ky1⟩:=str_bytesK wr k KOK.out
      rw[hcv]
      have BR1:=zz (below_tr BR.out b1 BR.out.size)
      have PR1:=zz (PR.out.ab b1)
      have KY1:=zz ky1
      have BKR:=BK5.out.stp KO8.out (Stp.of (O':=cutTg O w.heap.size) BR1.out (fun _=>False) fun _ _=>rfl)
      rcases BKR.look k KOK.out with ⟨hz,_⟩ | ⟨vv,u',hu',him,hlk⟩
      · rw[HU.out] at hz;cases hz
      rw[HU.out] at hu'
      injection hu' with hu'
      subst hu'
      obtain⟨vA,vn,vc,rfl,hvn,hvi,_⟩:=him
      have hlk:=hlk w1 rfl 67 false Tryz.underlying67
      simp only[Bool.false_eq_true,if_false,encStr] at hlk
      have HCL:=zz (bclone_any vA vn vc u w1 hvi hvn)
      have NR:Hid (w5.heap.size≤wr.heap.size):=zz BR.out.size
      clear hcv b1 ky1 BKR hvi hvn BR PR
      go_wp2_with fail
      refine HCL.out.mono ?_
      rintro e w2 ⟨v2,rfl,ho2,hb2⟩
      obtain⟨A2,c2,rfl,_,_⟩:=ho2.shape
      have ha3:Below w2.heap.size w2 (w2.alloc (.cells #[.slice (some ⟨wr.heap.size,0,none⟩) k.length cap,.slice A2 u.length c2] 87)):=alB
      have N1:w5.heap.size≤w1.heap.size:=BR1.out.size
      have B3:=zz (below_tr (below_tr BR1.out hb2 N1) ha3 (Nat.le_trans N1 hb2.size))
      have PR3:=zz ((PR1.out.ab hb2).ab ha3)
      have KY3:=zz (((KY1.out.lower NR.out).ab hb2).ab ha3)
      have OW3:=zz ((ho2.lower N1).fr (Fr.of ha3 (fun _=>False)) fun _ _ h=>h)
      have CB3:=zz (CbB.new w2 87 #[.slice (some ⟨wr.heap.size,0,none⟩) k.length cap,.slice A2 u.length c2])
      have N3:Hid (w5.heap.size≤(w2.alloc (.cells #[.slice (some ⟨wr.heap.size,0,none⟩) k.length cap,.slice A2 u.length c2] 87)).heap.size):=zz B3.out.size
      have PL:Hid ((prsK S ((ks.reverse).take i)).length≤100000):=zz (by unfold prsK;rw[List.length_map,List.length_take];have:=KL.out;have:=MM.out;omega)
      have PE:Hid (prsK S ((ks.reverse).take i)++[(k8 (k.map (·.toNat)),u)]=prsK S ((ks.reverse).take (i+1))):=zz (by
       rw[List.take_add_one,HKI.out]
       unfold prsK
       rw[List.map_append,k8_back]
       simp[HU.out])
      clear ho2 hb2 ha3 N1 HCL hlk PR1 KY1 BR1
      go_wp2_with (first
       | (refine wpList_appP rfl (.tmp 65) (.tmp 73) rfl PR3.out rfl (G:=w2.heap.size) rfl CB3.out KY3.out OW3.out PL.out N3.out ?_
          intro v4 w4 hp4 hb4
          have P4:Hid (PrN w4 w5.heap.size v4 (prsK S ((ks.reverse).take (i+1)))):=zz (by rw[←PE.out];exact hp4)
          have B4:=zz (B3.out.trans hb4)
          clear hp4 hb4))
      go_roundw
      case rel=>exact⟨i+1,KL.out,by go_num,P4.out,B4.out⟩
      case measure=>simp[intOf];have:=KL.out;omega
    · obtain rfl:i=mi:=by omega
      have PP:Hid (prsK S ((ks.reverse).take i)=prsK S (scanK c S)):=zz (by
       rw[SK.out,CNE.out]
       have h9:(ks.reverse).take i=(bif true then ks.reverse else ks).take cn:=by
        show (ks.reverse).take i=(ks.reverse).take cn
        rw[HMI.out]
        by_cases h8:cn≤ln
        · rw[Nat.min_eq_right h8]
        · rw[Nat.min_eq_left (by omega),List.take_of_length_le (by rw[LN.out];exact Nat.le_refl _),List.take_of_length_le (by rw[LN.out];omega)]
       rw[h9])
      rw[PP.out] at PR
      obtain⟨vs,p1,p2,p3⟩:=PR.out
      obtain⟨PA,pn,pc,hpv⟩:=row_sl p1
      subst hpv
      have NL:w.heap.size≤w5.heap.size:=by have:=W5N.out;omega
      have BW:Below w0.heap.size w0 wr:=B5.out.trans (hb.mono (Nat.le_trans N8.out.2 W5N.out.2))
      have Q1:=zz (HQ.out.ab BW)
      have M1:=zz (HM.out.stp (Stp.of BW (fun _=>False) fun _ _=>rfl) fun _ h=>h)
      have S1:Hid (Stp (fun τ=>τ.1=s) w O wr (cutTg O w.heap.size)):=zz ((Stp.cut HA.out _).ab BW)
      have P1:=zz p1
      have P2:=zz p2
      have P3:=zz p3
      have NLH:=zz NL
      clear hi hp hb hlt p1 p2 p3 NL BW
      go_wp2_with (first
       | ((with_reducible refine stA 77 ?_ (#[.int .i64 0,.int .u64 0,.int .u64 0,.slice none 0 0,.slice PA pn pc,.int .i64 0,.slice none 0 0]) ?_ Q1 ?_ ?_ (by simp[Value.oneCell']) ?_);rfl;rfl;rfl;rfl;intro wz QZ FZ))
      refine bodyPost_ret (ansR Tryz.results49 QZ rfl rfl) rfl ?_
      have hbx:w.heap.size+1<w5.heap.size:=W5N.out.1
      refine⟨_,cutTg O w.heap.size,rfl,⟨_,_,_,rfl,OwB.nil _ _,fun g hg=>(by cases hg),⟨vs,row_low (row_frX P1.out FZ.out hbx) NLH.out,fun g hg=>cutTg_at (Nat.le_trans NLH.out (own_ge9 P1.out g hg)),P2.out,fun i p q hi hq=>?_⟩,U32.NsB.nil _ _,fun g hg=>(by cases hg)⟩,⟨m,bs,M1.out.stp (Stp.box FZ.out (cutTg_at (Nat.le_succ _))) fun i e=>by have:=M1.out.pos;injection e with e;omega⟩,S1.out.fresh FZ.out (Nat.le_succ _)⟩
      obtain⟨⟨k,k1,k2⟩,k3⟩:=P3.out i p q hi hq
      refine⟨⟨k,(k1.frX FZ.out hbx).lower NLH.out,k2⟩,(k3.frX FZ.out hbx).lower NLH.out,fun g hg=>?_,fun g hg=>cutTg_at (Nat.le_trans NLH.out (k3.lt g hg).1)⟩
      obtain⟨g',n',cap',cs',fr',e',h1',_⟩:=k1
      rw[e'] at hg
      simp only[Value.ownBlock,Option.some.injEq] at hg
      subst hg
      exact cutTg_at (Nat.le_trans NLH.out h1')
 | false =>
   obtain⟨w5,hw5⟩:∃w5,w6=w5:=⟨_,rfl⟩
   rw[hw5] at B6 W86 ST6 X13⊢
   have B5:=B6
   have W85:=W86
   have ST5:=ST6
   clear hw5
   obtain⟨A5,c5,he5,hc1,hc2,hc3⟩:=ST5.out
   simp only[Value.slice.injEq] at he5
   obtain⟨rfl,_,rfl⟩:=he5
   obtain⟨ln,hln⟩:∃n,ks.length=n:=⟨_,rfl⟩
   have LN:Hid (ks.length=ln):=zz (by simp[hln])
   rw[LN.out] at hc1
   rw[hln]
   obtain⟨cn,hcn⟩:∃n:Nat,c.n=(n:Int):=⟨c.n.toNat,(Int.toNat_of_nonneg CN.out.1).symm⟩
   have CNE:Hid (c.n.toNat=cn):=zz (by rw[hcn];rfl)
   have CNL:Hid (cn≤100):=zz (by have:=CN.out;omega)
   have X4:w5.cell? ⟨w.heap.size,4,none⟩=some (.int .i64 (cn:Int)):=by rw[←hcn];exact (HB.out.ab B5.out).cell (k:=4) rfl
   obtain⟨mi,hm⟩:∃mi:Nat,mi=min ln cn:=⟨_,rfl⟩
   have hsl:=sl_uptoS w5 A6 ln c6 mi (by omega)
   have BK5:=zz (BK.out.stp KO8.out (Stp.of (O':=cutTg O w.heap.size) W85.out (fun _=>False) fun _ _=>rfl))
   have KY:Hid (∀k∈ks,kyOk k∧∃u,getK k S=some u):=zz fun k hk=>by
    obtain⟨u,hu⟩:=KM.out k (hk)
    exact⟨BK.out.ok _ (getK_mem hu),u,hu⟩
   have HC1:=zz hc1
   have HC3:=zz hc3
   have HMI:=zz hm
   have MM:Hid (mi≤ln∧mi≤100):=zz (by have:=CNL.out;omega)
   have m0:(mi:Int)≤100:=by have:=MM.out;omega
   have W5N:Hid (w.heap.size+1<w5.heap.size∧w8.heap.size≤w5.heap.size):=zz ⟨by have:=HQ.out.lt;have:=B5.out.size;omega,W85.out.size⟩
   clear hc1 hc2 hc3 hln hcn hm
   go_wp2_with (first
    | (refine wpList_min2 rfl (.tmp 55) (.tmp 57) rfl ln cn mi rfl rfl HMI.out ?_))
   clear hsl X4
   go_loopw [10,61] (fun z10 z61 wr=>∃i:Nat,i≤mi∧z61 = .int .i64 (i:Int)∧PrN wr w5.heap.size z10 (prsK S (ks.take i))∧Below w5.heap.size w5 wr) (fun _ z _=>mi-(intOf z).toNat)
   case atStart=>exact⟨0,Nat.zero_le _,rfl,PrN.nil _ _,Below.refl _ _⟩
   case round=>
    obtain⟨i,hi,rfl,hp,hb⟩:=hrel
    have PR:=zz hp
    have BR:=zz hb
    by_cases hlt:i<mi
    · have hil:i<ks.length:=by rw[LN.out];have:=MM.out;omega
      obtain⟨k,hk⟩:∃k,ks[i]? = some k:=⟨_,List.getElem?_eq_getElem hil⟩
      obtain⟨kok,u,hu⟩:=KY.out k (List.mem_of_getElem? hk)
      rcases HC3.out with ⟨_,h0⟩ | ⟨g,rfl,hg1,hg2,hH⟩
      · have:=HC1.out;rw[LN.out] at hil;omega
      have hc:wr.cell? ⟨g,i,none⟩=some (.string ⟨k.toArray⟩):=by
       have h1:=(hH i (by simpa using hil)).1
       rw[getElem!_pos _ i (by simpa using hil)] at h1
       have h2:ks[i]'hil=k:=by rw[List.getElem?_eq_getElem hil] at hk;injection hk
       rw[Nat.zero_add] at h1
       refine (World.cell?_of_block (hb.block g hg2)).trans (h1.trans ?_)
       simp[encStr,h2]
      have KL:=zz hlt
      have HKI:=zz hk
      have HU:=zz hu
      have KOK:=zz kok
      have hlti:(i:Int)<(mi:Int):=by omega
      have hi0:(0:Int)≤(i:Int):=by omega
      clear hi hp hb hlt hil hk kok hu hg1 hg2 hH
      go_wp2_with fail
      obtain⟨cap,w1,hcv,b1,ky1⟩:=str_bytesK wr k KOK.out
      rw[hcv]
      have BR1:=zz (below_tr BR.out b1 BR.out.size)
      have PR1:=zz (PR.out.ab b1)
      have KY1:=zz ky1
      have BKR:=BK5.out.stp KO8.out (Stp.of (O':=cutTg O w.heap.size) BR1.out (fun _=>False) fun _ _=>rfl)
      rcases BKR.look k KOK.out with ⟨hz,_⟩ | ⟨vv,u',hu',him,hlk⟩
      · rw[HU.out] at hz;cases hz
      rw[HU.out] at hu'
      injection hu' with hu'
      subst hu'
      obtain⟨vA,vn,vc,rfl,hvn,hvi,_⟩:=him
      have hlk:=hlk w1 rfl 67 false Tryz.underlying67
      simp only[Bool.false_eq_true,if_false,encStr] at hlk
      have HCL:=zz (bclone_any vA vn vc u w1 hvi hvn)
      have NR:Hid (w5.heap.size≤wr.heap.size):=zz BR.out.size
      clear hcv b1 ky1 BKR hvi hvn BR PR
      go_wp2_with fail
      refine HCL.out.mono ?_
      rintro e w2 ⟨v2,rfl,ho2,hb2⟩
      obtain⟨A2,c2,rfl,_,_⟩:=ho2.shape
      have ha3:Below w2.heap.size w2 (w2.alloc (.cells #[.slice (some ⟨wr.heap.size,0,none⟩) k.length cap,.slice A2 u.length c2] 87)):=alB
      have N1:w5.heap.size≤w1.heap.size:=BR1.out.size
      have B3:=zz (below_tr (below_tr BR1.out hb2 N1) ha3 (Nat.le_trans N1 hb2.size))
      have PR3:=zz ((PR1.out.ab hb2).ab ha3)
      have KY3:=zz (((KY1.out.lower NR.out).ab hb2).ab ha3)
      have OW3:=zz ((ho2.lower N1).fr (Fr.of ha3 (fun _=>False)) fun _ _ h=>h)
      have CB3:=zz (CbB.new w2 87 #[.slice (some ⟨wr.heap.size,0,none⟩) k.length cap,.slice A2 u.length c2])
      have N3:Hid (w5.heap.size≤(w2.alloc (.cells #[.slice (some ⟨wr.heap.size,0,none⟩) k.length cap,.slice A2 u.length c2] 87)).heap.size):=zz B3.out.size
      have PL:Hid ((prsK S (ks.take i)).length≤100000):=zz (by unfold prsK;rw[List.length_map,List.length_take];have:=KL.out;have:=MM.out;omega)
      have PE:Hid (prsK S (ks.take i)++[(k8 (k.map (·.toNat)),u)]=prsK S (ks.take (i+1))):=zz (by
       rw[List.take_add_one,HKI.out]
       unfold prsK
       rw[List.map_append,k8_back]
       simp[HU.out])
      clear ho2 hb2 ha3 N1 HCL hlk PR1 KY1 BR1
      go_wp2_with (first
       | (refine wpList_appP rfl (.tmp 65) (.tmp 73) rfl PR3.out rfl (G:=w2.heap.size) rfl CB3.out KY3.out OW3.out PL.out N3.out ?_
          intro v4 w4 hp4 hb4
          have P4:Hid (PrN w4 w5.heap.size v4 (prsK S (ks.take (i+1)))):=zz (by rw[←PE.out];exact hp4)
          have B4:=zz (B3.out.trans hb4)
          clear hp4 hb4))
      go_roundw
      case rel=>exact⟨i+1,KL.out,by go_num,P4.out,B4.out⟩
      case measure=>simp[intOf];have:=KL.out;omega
    · obtain rfl:i=mi:=by omega
      have PP:Hid (prsK S (ks.take i)=prsK S (scanK c S)):=zz (by
       rw[SK.out,CNE.out]
       have h9:ks.take i=(bif false then ks.reverse else ks).take cn:=by
        show ks.take i=ks.take cn
        rw[HMI.out]
        by_cases h8:cn≤ln
        · rw[Nat.min_eq_right h8]
        · rw[Nat.min_eq_left (by omega),List.take_of_length_le (by rw[LN.out];exact Nat.le_refl _),List.take_of_length_le (by rw[LN.out];omega)]
       rw[h9])
      rw[PP.out] at PR
      obtain⟨vs,p1,p2,p3⟩:=PR.out
      obtain⟨PA,pn,pc,hpv⟩:=row_sl p1
      subst hpv
      have NL:w.heap.size≤w5.heap.size:=by have:=W5N.out;omega
      have BW:Below w0.heap.size w0 wr:=B5.out.trans (hb.mono (Nat.le_trans N8.out.2 W5N.out.2))
      have Q1:=zz (HQ.out.ab BW)
      have M1:=zz (HM.out.stp (Stp.of BW (fun _=>False) fun _ _=>rfl) fun _ h=>h)
      have S1:Hid (Stp (fun τ=>τ.1=s) w O wr (cutTg O w.heap.size)):=zz ((Stp.cut HA.out _).ab BW)
      have P1:=zz p1
      have P2:=zz p2
      have P3:=zz p3
      have NLH:=zz NL
      clear hi hp hb hlt p1 p2 p3 NL BW
      go_wp2_with (first
       | ((with_reducible refine stA 77 ?_ (#[.int .i64 0,.int .u64 0,.int .u64 0,.slice none 0 0,.slice PA pn pc,.int .i64 0,.slice none 0 0]) ?_ Q1 ?_ ?_ (by simp[Value.oneCell']) ?_);rfl;rfl;rfl;rfl;intro wz QZ FZ))
      refine bodyPost_ret (ansR Tryz.results49 QZ rfl rfl) rfl ?_
      have hbx:w.heap.size+1<w5.heap.size:=W5N.out.1
      refine⟨_,cutTg O w.heap.size,rfl,⟨_,_,_,rfl,OwB.nil _ _,fun g hg=>(by cases hg),⟨vs,row_low (row_frX P1.out FZ.out hbx) NLH.out,fun g hg=>cutTg_at (Nat.le_trans NLH.out (own_ge9 P1.out g hg)),P2.out,fun i p q hi hq=>?_⟩,U32.NsB.nil _ _,fun g hg=>(by cases hg)⟩,⟨m,bs,M1.out.stp (Stp.box FZ.out (cutTg_at (Nat.le_succ _))) fun i e=>by have:=M1.out.pos;injection e with e;omega⟩,S1.out.fresh FZ.out (Nat.le_succ _)⟩
      obtain⟨⟨k,k1,k2⟩,k3⟩:=P3.out i p q hi hq
      refine⟨⟨k,(k1.frX FZ.out hbx).lower NLH.out,k2⟩,(k3.frX FZ.out hbx).lower NLH.out,fun g hg=>?_,fun g hg=>cutTg_at (Nat.le_trans NLH.out (k3.lt g hg).1)⟩
      obtain⟨g',n',cap',cs',fr',e',h1',_⟩:=k1
      rw[e'] at hg
      simp only[Value.ownBlock,Option.some.injEq] at hg
      subst hg
      exact cutTg_at (Nat.le_trans NLH.out h1')
end
end Go.Proofs.YtgdhinjhbjolgaaGreat
