/-
  Parts of the proof, joined.
-/
import Derived.Test.YtljmiiiidjeggaaGreatBea
import Derived.Test.YtljmiiiidjeggaaGreatBdv
import Derived.Test.YtljmiiiidjeggaaGreatBdw
import Derived.Test.YtljmiiiidjeggaaGreatBdu
namespace Go.Proofs.YtljmiiiidjeggaaGreat
set_option maxHeartbeats 4000000
open Go.RowKit
set_option linter.unusedVariables false
set_option linter.unusedSimpArgs false
theorem Rgt.of {l:RnL} (h:rightR l=true):Rgt l:=by
 have key:∀(d i j:Nat) (r q:Nat×Nat),j-i=d→i<j→l[i]? = some q→l[j]? = some r→q.2<r.1:=by
  intro d
  induction d using Nat.strongRecOn with
  | _ d ih=>
    intro i j r q hd hij hq hr
    by_cases h1:j=i+1
    · subst h1
      exact (right_all h (i+1) r hr).2 q (by omega) (by simpa using hq)
    · obtain⟨s,hs⟩:∃s,l[j-1]? = some s:=⟨_,List.getElem?_eq_getElem (by have:=(List.getElem?_eq_some_iff.1 hr).1;omega)⟩
      have h2:=ih (j-1-i) (by omega) i (j-1) s q rfl (by omega) hq hs
      have h3:=(right_all h (j-1) s hs).1
      have h4:=(right_all h j r hr).2 s (by omega) hs
      omega
 refine⟨List.pairwise_iff_getElem.2 fun i j hi hj hij=>key (j-i) i j _ _ rfl hij (List.getElem?_eq_getElem hi) (List.getElem?_eq_getElem hj),fun r hr=>?_⟩
 obtain⟨i,hi,e⟩:=List.getElem_of_mem hr
 exact (right_all h i r (by rw[List.getElem?_eq_getElem hi,e])).1
theorem Rgt.addR {l:RnL} {r:Nat×Nat} (h:Rgt l) (hr:r.1<r.2):Rgt (addR l r):=by
 rcases List.eq_nil_or_concat l with rfl | ⟨l0,q,rfl⟩
 · rw[addR_nil]
   exact⟨List.pairwise_singleton _ _,fun x hx=>by rw[List.mem_singleton.1 hx];exact hr⟩
 · rw[List.concat_eq_append] at h⊢
   obtain⟨h1,h2⟩:=h
   rw[List.pairwise_append] at h1
   obtain⟨p1,p2,p3⟩:=h1
   have hq:=h2 q (by simp)
   by_cases ha:r.1≤q.2
   · rw[addR_in ha]
     refine⟨List.pairwise_append.2 ⟨p1,List.pairwise_singleton _ _,fun a ha b hb=>?_⟩,fun x hx=>?_⟩
     · rw[List.mem_singleton.1 hb]
       exact p3 a ha q (by simp)
     · rcases List.mem_append.1 hx with hx | hx
       · exact h2 x (by simp[hx])
       · rw[List.mem_singleton.1 hx];show q.1<max q.2 r.2;omega
   · rw[addR_out ha]
     refine⟨List.pairwise_append.2 ⟨List.pairwise_append.2 ⟨p1,p2,p3⟩,List.pairwise_singleton _ _,fun a ha' b hb=>?_⟩,fun x hx=>?_⟩
     · rw[List.mem_singleton.1 hb]
       rcases List.mem_append.1 ha' with ha' | ha'
       · have:=p3 a ha' q (by simp);omega
       · rw[List.mem_singleton.1 ha'];omega
     · rcases List.mem_append.1 hx with hx | hx
       · exact h2 x hx
       · rw[List.mem_singleton.1 hx];exact hr
theorem bothN_rgt:∀(n:Nat) (acc a b:RnL),Rgt acc→(∀r∈a,r.1<r.2)→(∀r∈b,r.1<r.2)→Rgt (bothN n acc a b)
 | 0,acc,_,_,h,_,_=>h
 | n+1,acc,[],[],h,_,_=>h
 | n+1,acc,r::a,[],h,ha,hb=>bothN_rgt n _ a [] (h.addR (ha r (by simp))) (fun x hx=>ha x (by simp[hx])) hb
 | n+1,acc,[],s::b,h,ha,hb=>bothN_rgt n _ [] b (h.addR (hb s (by simp))) ha (fun x hx=>hb x (by simp[hx]))
 | n+1,acc,r::a,s::b,h,ha,hb=>by
   unfold bothN
   split
   · exact bothN_rgt n _ a (s::b) (h.addR (ha r (by simp))) (fun x hx=>ha x (by simp[hx])) hb
   · exact bothN_rgt n _ (r::a) b (h.addR (hb s (by simp))) ha (fun x hx=>hb x (by simp[hx]))
theorem addR_bd {l:RnL} {r:Nat×Nat} {lo hi:Nat} (h:∀q∈l,lo<q.1∧q.2≤hi) (hr:lo<r.1∧r.2≤hi):∀q∈addR l r,lo<q.1∧q.2≤hi:=by
 rcases List.eq_nil_or_concat l with rfl | ⟨l0,q,rfl⟩
 · rw[addR_nil];intro x hx;rw[List.mem_singleton.1 hx];exact hr
 · rw[List.concat_eq_append] at h⊢
   have hq:=h q (by simp)
   by_cases h1:r.1≤q.2
   · rw[addR_in h1]
     intro x hx
     rcases List.mem_append.1 hx with hx | hx
     · exact h x (by simp[hx])
     · rw[List.mem_singleton.1 hx];exact⟨hq.1,by show max q.2 r.2≤hi;omega⟩
   · rw[addR_out h1]
     intro x hx
     rcases List.mem_append.1 hx with hx | hx
     · exact h x hx
     · rw[List.mem_singleton.1 hx];exact hr
theorem bothN_bd {lo hi:Nat}:∀(n:Nat) (acc a b:RnL),(∀q∈acc,lo<q.1∧q.2≤hi)→(∀q∈a,lo<q.1∧q.2≤hi)→(∀q∈b,lo<q.1∧q.2≤hi)→∀q∈bothN n acc a b,lo<q.1∧q.2≤hi
 | 0,acc,_,_,h,_,_=>h
 | n+1,acc,[],[],h,_,_=>h
 | n+1,acc,r::a,[],h,ha,hb=>bothN_bd n _ a [] (addR_bd h (ha r (by simp))) (fun x hx=>ha x (by simp[hx])) hb
 | n+1,acc,[],s::b,h,ha,hb=>bothN_bd n _ [] b (addR_bd h (hb s (by simp))) ha (fun x hx=>hb x (by simp[hx]))
 | n+1,acc,r::a,s::b,h,ha,hb=>by
   unfold bothN
   split
   · exact bothN_bd n _ a (s::b) (addR_bd h (ha r (by simp))) (fun x hx=>ha x (by simp[hx])) hb
   · exact bothN_bd n _ (r::a) b (addR_bd h (hb s (by simp))) ha (fun x hx=>hb x (by simp[hx]))
theorem give_fr {l:RnL} {p:Nat} (h:rightR l=true) (hb:∀q∈l,1<q.1∧q.2≤4096) (hp:1<p∧p<4096):rightR (giveP l p).1=true∧(∀q∈(giveP l p).1,1<q.1∧q.2≤4096)∧(giveP l p).1.length≤4096:=by
 have key:rightR (giveP l p).1=true∧∀q∈(giveP l p).1,1<q.1∧q.2≤4096:=by
  unfold giveP
  split
  · exact⟨rfl,fun q hq=>by cases hq⟩
  · refine⟨(bothN_rgt _ _ _ _ Rgt.nil (Rgt.of h).2 (Rgt.mk p (p+1)).2).right,bothN_bd _ _ _ _ (fun q hq=>by cases hq) hb (fun q hq=>?_)⟩
    rw[(mkR_mem hq).1]
    exact⟨hp.1,by show p+1≤4096;omega⟩
 exact⟨key.1,key.2,rnl_num key.1 fun q hq=>(key.2 q hq).2⟩
def relT (T:PgP) (n:Nat):PgP:={ T with fr:=(giveP T.fr n).1,kn:=T.kn.filter fun q=>!decide (q.1=n) }
set_option maxRecDepth 100000 in
theorem release_any {w:World} {O:Tgm} {p d rg lg:Nat} {T:PgP} (n:Nat) (h:PgM w O p d rg lg T) (hn:1<n∧n<4096):
 Calls Tryz.prog 47 #[.pointer (some ⟨p,0,none⟩),.int .u32 (n:Int)] w fun e w'=>(∃v,e = .returned v)∧∃O',PgM w' O' p d rg lg (relT T n)∧Wr (fun τ=>τ=(p,1)∨τ=(p,2)) w O w' O':=by
 obtain⟨b,hN,rfl,rfl,rfl⟩:=h
 obtain⟨A,c,hfv,hr,_⟩:=hN.free.rn
 have HG:=Lib.hid (give_any n hr hN.rgt (fun q hq=>by have h1:=hN.okr q hq;have h2:=(Rgt.of hN.rgt).2 q hq;omega) (by have:=hN.num;omega) (by omega))
 have c3:w.cell? ⟨p,3,none⟩=some (.slice A T.fr.length c):=by rw[←hfv];exact CbB.cell hN.box (k:=3) rfl
 have GF:=Lib.hid (give_fr hN.rgt hN.okr hn)
 have HN:=Lib.hid hN
 have H2:=Lib.hid hn
 obtain⟨m,hm⟩:∃m,T.fr.length=m:=⟨_,rfl⟩
 rw[hm] at HG c3
 clear hN hfv hr hn hm
 go_enter Tryz.func47,Tryz.ntmps47
 go_wp2_with fail
 refine HG.out.mono ?_
 rintro e w1 ⟨v,rfl,hv,hb⟩
 obtain⟨A1,c1,rfl,_,_⟩:=hv.rn
 obtain⟨m1,hm1⟩:∃m1,List.length (giveP T.fr n).1=m1:=⟨_,rfl⟩
 rw[hm1] at hv⊢
 have n1:=HN.out.wr (Wr.cut hb (fun _=>False)) (fun _=>id) id
 have t1:Wr (fun τ=>τ=(p,1)) w O w1 (cutO O w.heap.size):=Wr.cut hb _
 have tg:∀k,(Value.slice A1 m1 c1).ownBlock=some k→cutO O w.heap.size k=(0,0):=fun k hk=>cutO_at (own_ge9 hv k hk)
 obtain⟨O1,hO1⟩:∃O1,cutO O w.heap.size=O1:=⟨_,rfl⟩
 rw[hO1] at n1 t1 tg
 have f3:=CbB.free n1.box 3
 have q3:w1.cell? ⟨p,3,none⟩=some (.slice A m c):=by rw[←c3];exact World.cell?_of_block (hb.block p (CbB.lt HN.out.box))
 have N1:=Lib.hid n1
 have T1:=Lib.hid t1
 have TG:=Lib.hid tg
 have HV:=Lib.hid hv
 have M1:=Lib.hid hm1
 clear n1 t1 tg hO1 hb hv hm1 c3 HG
 go_upto_region 1 with (fail)
 have hge:∀q,(Value.slice A1 m1 c1).ownBlock=some q→w.heap.size≤q:=fun q hq=>own_ge9 HV.out q hq
 have hp3:p<w.heap.size:=CbB.lt HN.out.box
 have w34:Wr (fun τ=>τ=(p,1)) w1 O1 (w1.setCell ⟨p,3,none⟩ (.slice A1 m1 c1)) O1:=⟨(fr_setD w1 p 3 (.slice A1 m1 c1)).imp fun q hq=>by rw[hq];exact N1.out.tb,fun _ _=>rfl⟩
 have n4:PgN (w1.setCell ⟨p,3,none⟩ (.slice A1 m1 c1)) O1 p { b with fv:=.slice A1 m1 c1 } { T with fr:=(giveP T.fr n).1 }:=N1.out.upd w34 (CbB.set N1.out.box 3 _) (by
  have hz:=HV.out
  unfold RuB at hz⊢
  exact row_fr (row_low hz (Nat.zero_le _)) (fr_setD w1 p 3 (.slice A1 m1 c1)) (fun k hk e=>by have:=hge k hk;omega)) TG.out rfl rfl rfl rfl rfl GF.out.1 GF.out.2.1 GF.out.2.2 N1.out.cmo id
 have t4:=T1.out.tr w34
 obtain⟨w4,hw4⟩:∃w4,w1.setCell ⟨p,3,none⟩ (.slice A1 m1 c1)=w4:=⟨_,rfl⟩
 rw[hw4] at n4 t4⊢
 obtain⟨vs,mk,kv⟩:=n4.kn
 have c4:w4.cell? ⟨p,4,none⟩=some (.map (some b.kn)):=CbB.cell n4.box (k:=4) rfl
 have N4:=Lib.hid n4
 have T4:=Lib.hid t4
 have MK:=Lib.hid mk
 have KV:=Lib.hid kv
 have OK:Hid (u32Okp n):=Lib.hid (by have:=H2.out;unfold u32Okp;omega)
 clear hw4 n4 t4 mk kv w34 hge hp3 f3 q3
 go_wp2_with (first
  | (refine wpList_mapDel rfl (.tmp 19) (.tmp 20) rfl u32p_K Tryz.underlying98 rfl MK.out n OK.out rfl ?_
     intro w5 h5 g5 s5 _
     have H5:=Lib.hid h5
     have G5:=Lib.hid g5
     clear h5 g5 s5))
 first
  | ((try simp only[Exit.inBlock,Exit.then]);refine bodyPost_ret (results_none rfl _ _ _) rfl ?_)
  | ((try simp only[Exit.inBlock,Exit.then]);refine bodyPost_end (results_none rfl _ _ _) rfl ?_)
 have hp:=N4.out.pos
 have s:Wr (fun t=>t=(p,2)) w4 O1 w5 O1:=Wr.grown G5.out N4.out.tk
 have f0:¬((0:Nat),(0:Nat))=(p,2):=fun e=>by injection e with e;omega
 refine⟨⟨_,rfl⟩,O1,⟨_,N4.out.setKn s ⟨_,H5.out,KnV.drop n (KV.out.wr s f0)⟩,rfl,rfl,rfl⟩,(T4.out.imp fun _ h=>Or.inl h).tr (s.imp fun _ h=>Or.inr h)⟩
theorem zero_bo9 (w:World):(zeroValue 4).run Tryz.prog w = .ok (.bool false) w:=by kernel_rfl
set_option maxRecDepth 100000 in
theorem drop_wait {w:World} {O:Tgm} {p d rg lg:Nat} {T:PgP} (n cm gn:Nat) (h:PgM w O p d rg lg T) {D:DvS} (hD:DvM w O d D) (hf:T.fa=false) (ho:T.cm≠0∧T.fl=false) (hn:1<n∧n<D.n∧n<4096) (hw:lookL n T.wa=some (.bool true)):
 Calls Tryz.prog 17 #[.pointer (some ⟨p,0,none⟩),.agg #[.int .u32 (n:Int),.int .u64 (cm:Int),.int .u16 (gn:Int)]] w fun e w'=>e = .returned (.int .i64 7)∧Below w.heap.size w w':=by
 obtain⟨b,hN,hbd,rfl,rfl⟩:=h
 have N0:=Lib.hid fun W (hW:Below w.heap.size w W)=>hN.wr (Wr.cut (O:=O) hW (fun _=>False)) (fun _=>id) id
 have HM:=Lib.hid fun W hW=>may_any (N0.out W hW).box
 have B1:Hid (Below w.heap.size w (w.alloc (.cells #[.int .u32 (n:Int),.int .u64 (cm:Int),.int .u16 (gn:Int)] 37))):=Lib.hid ((Below.refl _ _).alloc (Nat.le_refl _) _)
 have K1:Hid (CbB (w.alloc (.cells #[.int .u32 (n:Int),.int .u64 (cm:Int),.int .u16 (gn:Int)] 37)) w.heap.size 37 #[.int .u32 (n:Int),.int .u64 (cm:Int),.int .u16 (gn:Int)]):=Lib.hid (CbB.new _ _ _)
 rw[show mayP (pcS b T)=0 from by unfold mayP pcS;rw[hf];rfl] at HM
 have HO:=Lib.hid fun W hW=>open_any (N0.out W hW).box
 rw[show openB (pcS b T)=true from by unfold openB pcS;rw[ho.2,decide_eq_false ho.1];rfl] at HO
 have HH:Hid (∀W,Below w.heap.size w W→Calls Tryz.prog 37 #[.pointer (some ⟨p,0,none⟩),.int .u32 (n:Int)] W fun e w'=>e = .returned (.bool true)∧W=w'):=Lib.hid fun W hW=>by
  obtain⟨g1,g2,wv,k1,_⟩:=hD.wr (Wr.cut (O:=O) hW (fun _=>False)) id
  rw[←hbd] at k1
  refine (phas_any n (by omega) (N0.out W hW).box k1).mono ?_
  rw[decide_eq_true hn.1,decide_eq_true hn.2.1]
  exact fun _ _ h=>h
 have OK:Hid (u32Okp n):=Lib.hid (by unfold u32Okp;omega)
 have hlk:(Instr.lookup 99 (.map (some b.mw)) (.int .u32 (n:Int)) false).run Tryz.prog (w.alloc (.cells #[.int .u32 (n:Int),.int .u64 (cm:Int),.int .u16 (gn:Int)] 37)) = .ok (.bool true) (w.alloc (.cells #[.int .u32 (n:Int),.int .u64 (cm:Int),.int .u16 (gn:Int)] 37)):=(N0.out _ B1.out).wa.look_some u32p_K Tryz.underlying99 OK.out hw false
 clear hN hD hf ho hn hw hbd
 go_enter Tryz.func17,Tryz.ntmps17
 go_wp2_with fail
 refine (HM.out _ B1.out).mono ?_
 rintro e w1 ⟨rfl,rfl⟩
 go_wp2_with fail
 refine (HO.out _ B1.out).mono ?_
 rintro e w1 ⟨rfl,rfl⟩
 have k0:=K1.out.cell (k:=0) rfl
 go_wp2_with fail
 refine (HH.out _ B1.out).mono ?_
 rintro e w1 ⟨rfl,rfl⟩
 have c5:(w.alloc (.cells #[.int .u32 (n:Int),.int .u64 (cm:Int),.int .u16 (gn:Int)] 37)).cell? ⟨p,5,none⟩=some (.map (some b.mw)):=CbB.cell (N0.out _ B1.out).box (k:=5) rfl
 go_wp2_with fail
 go_ret
 exact⟨rfl,B1.out⟩
set_option maxRecDepth 100000 in
theorem drop_new {w:World} {O:Tgm} {p d rg lg:Nat} {T:PgP} (n cm gn:Nat) (h:PgM w O p d rg lg T) {D:DvS} (hD:DvM w O d D) (hf:T.fa=false) (ho:T.cm≠0∧T.fl=false) (hn:1<n∧n<D.n∧n<4096) (hw:lookL n T.wa=none) (hfr:hasR T.fr n=false) (hp:lookL n T.pu=none):
 Calls Tryz.prog 17 #[.pointer (some ⟨p,0,none⟩),.agg #[.int .u32 (n:Int),.int .u64 (cm:Int),.int .u16 (gn:Int)]] w fun e w'=>∃O',e = .returned (.int .i64 0)∧PgM w' O' p d rg lg { T with wa:=putL n (.bool true) T.wa,dr:=putL n (.bool true) T.dr }∧Wr (fun τ=>τ.1=p) w O w' O':=by
 obtain⟨b,hN,hbd,rfl,rfl⟩:=h
 have N0:=Lib.hid fun W (hW:Below w.heap.size w W)=>hN.wr (Wr.cut (O:=O) hW (fun _=>False)) (fun _=>id) id
 have HM:=Lib.hid fun W hW=>may_any (N0.out W hW).box
 have B1:Hid (Below w.heap.size w (w.alloc (.cells #[.int .u32 (n:Int),.int .u64 (cm:Int),.int .u16 (gn:Int)] 37))):=Lib.hid ((Below.refl _ _).alloc (Nat.le_refl _) _)
 have K1:Hid (CbB (w.alloc (.cells #[.int .u32 (n:Int),.int .u64 (cm:Int),.int .u16 (gn:Int)] 37)) w.heap.size 37 #[.int .u32 (n:Int),.int .u64 (cm:Int),.int .u16 (gn:Int)]):=Lib.hid (CbB.new _ _ _)
 rw[show mayP (pcS b T)=0 from by unfold mayP pcS;rw[hf];rfl] at HM
 have HO:=Lib.hid fun W hW=>open_any (N0.out W hW).box
 rw[show openB (pcS b T)=true from by unfold openB pcS;rw[ho.2,decide_eq_false ho.1];rfl] at HO
 have HH:Hid (∀W,Below w.heap.size w W→Calls Tryz.prog 37 #[.pointer (some ⟨p,0,none⟩),.int .u32 (n:Int)] W fun e w'=>e = .returned (.bool true)∧W=w'):=Lib.hid fun W hW=>by
  obtain⟨g1,g2,wv,k1,_⟩:=hD.wr (Wr.cut (O:=O) hW (fun _=>False)) id
  rw[←hbd] at k1
  refine (phas_any n (by omega) (N0.out W hW).box k1).mono ?_
  rw[decide_eq_true hn.1,decide_eq_true hn.2.1]
  exact fun _ _ h=>h
 have OK:Hid (u32Okp n):=Lib.hid (by unfold u32Okp;omega)
 have hlk:(Instr.lookup 99 (.map (some b.mw)) (.int .u32 (n:Int)) false).run Tryz.prog (w.alloc (.cells #[.int .u32 (n:Int),.int .u64 (cm:Int),.int .u16 (gn:Int)] 37)) = .ok (.bool false) (w.alloc (.cells #[.int .u32 (n:Int),.int .u64 (cm:Int),.int .u16 (gn:Int)] 37)):=(N0.out _ B1.out).wa.look_none u32p_K Tryz.underlying99 OK.out hw (zero_bo9 _) false
 have HF:=Lib.hid (isFree_any n (N0.out _ B1.out))
 rw[hfr] at HF
 obtain⟨av,hav⟩:=(hN.opn ho.1).1
 obtain⟨dv,hdv⟩:=(hN.opn ho.1).2
 have HAV:=Lib.hid hav
 have HDV:=Lib.hid hdv
 have HN:=Lib.hid hN
 have HP:=Lib.hid hp
 have HBD:=Lib.hid hbd
 clear hN hD hf ho hn hw hbd hfr hp hav hdv
 go_enter Tryz.func17,Tryz.ntmps17
 go_wp2_with fail
 refine (HM.out _ B1.out).mono ?_
 rintro e w1 ⟨rfl,rfl⟩
 go_wp2_with fail
 refine (HO.out _ B1.out).mono ?_
 rintro e w1 ⟨rfl,rfl⟩
 have k0:=K1.out.cell (k:=0) rfl
 go_wp2_with fail
 refine (HH.out _ B1.out).mono ?_
 rintro e w1 ⟨rfl,rfl⟩
 have c5:(w.alloc (.cells #[.int .u32 (n:Int),.int .u64 (cm:Int),.int .u16 (gn:Int)] 37)).cell? ⟨p,5,none⟩=some (.map (some b.mw)):=CbB.cell (N0.out _ B1.out).box (k:=5) rfl
 go_wp2_with fail
 refine HF.out.mono ?_
 rintro e w2 ⟨rfl,hb2⟩
 have n2:=N0.out _ (below_tr B1.out hb2 B1.out.size)
 have t2:Wr (fun τ=>τ.1=p) w O w2 (cutO O w.heap.size):=Wr.cut (below_tr B1.out hb2 B1.out.size) _
 obtain⟨O2,hO2⟩:∃O2,cutO O w.heap.size=O2:=⟨_,rfl⟩
 rw[hO2] at n2 t2
 have N2:=Lib.hid n2
 have T2:=Lib.hid t2
 have c6:w2.cell? ⟨p,6,none⟩=some (.map (some av)):=by rw[←HAV.out];exact CbB.cell n2.box (k:=6) rfl
 have d5:w2.cell? ⟨p,5,none⟩=some (.map (some b.mw)):=CbB.cell n2.box (k:=5) rfl
 have hl2:(Instr.lookup 99 (.map (some av)) (.int .u32 (n:Int)) false).run Tryz.prog w2 = .ok (.bool false) w2:=(n2.puB HAV.out).1.look_none u32p_K Tryz.underlying99 OK.out HP.out (zero_bo9 _) false
 clear n2 t2 hO2 hb2 HF HM HO HH K1 k0 c5 hlk
 go_wp2_with (first
  | (refine wpList_mapPut rfl (.tmp 52) (.tmp 53) (.const (.bool true)) rfl u32p_K Tryz.underlying99 rfl N2.out.wa n OK.out rfl (.bool true) rfl ?_
     intro w3 h3 g3 s3 _
     have H3:=Lib.hid h3
     have G3:=Lib.hid g3
     clear h3 g3 s3
     have s3:Wr (fun t=>t=(p,3)) w2 O2 w3 O2:=Wr.grown G3.out N2.out.tw
     have n3:=N2.out.setWa s3 H3.out
     have c7:w3.cell? ⟨p,7,none⟩=some (.map (some dv)):=by rw[←HDV.out];exact CbB.cell n3.box (k:=7) rfl
     have N3:=Lib.hid n3
     have T3:=Lib.hid (T2.out.tr (s3.imp fun t ht=>by rw[ht]))
     clear n3 s3)
  | (refine wpList_mapPut rfl (.tmp 57) (.tmp 58) (.const (.bool true)) rfl u32p_K Tryz.underlying99 rfl (N3.out.drB HDV.out).1 n OK.out rfl (.bool true) rfl ?_
     intro w4 h4 g4 s4 _
     have H4:=Lib.hid h4
     have G4:=Lib.hid g4
     clear h4 g4 s4))
 go_ret
 have s4:Wr (fun t=>t=(p,5)) w3 O2 w4 O2:=Wr.grown G4.out (N3.out.drB HDV.out).2
 exact⟨rfl,O2,⟨_,N3.out.setDr s4 HDV.out H4.out (N3.out.drB HDV.out).2,HBD.out,rfl,rfl⟩,T3.out.tr (s4.imp fun t ht=>by rw[ht])⟩
def blankF:List Nat→DvS→Nat×DvS
 | [],D=>(0,D)
 | n::l,D=>if (writeD D n (zeros 256)).1=0 then blankF l (writeD D n (zeros 256)).2 else writeD D n (zeros 256)
theorem blankF_cons {n:Nat} {l:List Nat} {D:DvS} (h:(writeD D n (zeros 256)).1=0):blankF (n::l) D=blankF l (writeD D n (zeros 256)).2:=by
 conv=>lhs;unfold blankF
 rw[if_pos h]
def blankP (l:List Nat) (D:DvS):Nat×DvS:=if (blankF l D).1=0 then (if l.length=0 then (0,(blankF l D).2) else syncD (blankF l D).2) else blankF l D
def WrW (N:Nat) (O:Tgm) (d:Nat) (q:Nat×DvS) (v:Value) (W:World):Prop:=v = .int .i64 (q.1:Int)∧∃O',DvM W O' d q.2∧∀k,k<N→O' k=O k
theorem WrW.ab {N d:Nat} {O:Tgm} {q:Nat×DvS} {v:Value} {W W':World} (h:WrW N O d q v W) (hb:Below W.heap.size W W'):WrW N O d q v W':=by
 obtain⟨h1,O',h2,h3⟩:=h
 exact⟨h1,O',h2.wr (Wr.of hb (fun _=>False) (fun _ _=>rfl)) id,h3⟩
theorem Fr.none {w w':World} {F:Nat→Prop} (h:Fr w w' F) (hn:∀k,¬F k):Below w.heap.size w w':=⟨h.os,h.tape,h.output,h.size,fun k hk=>h.block k hk (hn k)⟩
structure BlI (w:World) (O:Tgm) (p d rg lg:Nat) (T:PgP) (D:DvS) (v:Value) (B:Nat) (L:List Nat) (i:Nat) (wx:World) (O1:Tgm) (D1:DvS):Prop where
 pg:PgM wx O1 p d rg lg T
 dv:DvM wx O1 d D1
 wr:Wr (fun τ=>τ=(0,1)) w O wx O1
 ns:U32.NsB wx B v L
 nt:∀k,v.ownBlock=some k→O1 k=(0,0)
 ok:D1.Ok
 n:D1.n=D.n
 st:D1.st≤D.st+i
 ws:D1.ws.length≤D.ws.length+i
 eq:blankF L D=blankF (L.drop i) D1
theorem yields_make9 {o:Oper} {a:Act} {W w0:World} (n:Nat) (hn:n≤281474976710656) (ho:o.op = .makeSlice 22 (.const (.int .i64 (n:Int))) (.const (.int .i64 (n:Int)))) (hb:w0.heap.size≤W.heap.size):Yields Tryz.prog o a W false (MadeR w0 n):=by
 refine .inl ⟨.slice (some ⟨W.heap.size,0,none⟩) n n,W.alloc (.cells (bts (zeros n)) 5),?_,⟨W.heap.size,rfl,isB_whole (Bk.newAt _ (zeros n) rfl) (byt_zeros n) (zeros_len n) (by omega),hb⟩,(Below.refl _ _).alloc (Nat.le_refl _) _,fresh_no _ _ _⟩
 have:=make_u8 n n (Nat.le_refl _) hn W
 unfold execOp
 simp only[ho,Act.eval,this,Sem.run_bind,Result.andThen_ok,Sem.run_pure]
section
variable {w wx wy:World} {O O1 O2:Tgm} {p d rg lg i B:Nat} {T:PgP} {D D1:DvS} {v:Value} {L:List Nat}
theorem byt_zero:Byt (zeros 256):=byt_zeros 256
theorem BlI.step (h:BlI w O p d rg lg T D v B L i wx O1 D1) {n:Nat} (hn:L[i]? = some n) (hi:n<D.n) (s:Wr (fun τ=>τ=(0,1)) wx O1 wy O2) (dv:DvM wy O2 d (writeD D1 n (zeros 256)).2):
 ((writeD D1 n (zeros 256)).1=0→BlI w O p d rg lg T D v B L (i+1) wy O2 (writeD D1 n (zeros 256)).2)∧((writeD D1 n (zeros 256)).1≠0→blankF L D=writeD D1 n (zeros 256)):=by
 obtain⟨b,hN,_⟩:=h.pg
 have hp:=hN.pos
 obtain⟨t1,t2,t3⟩:=writeD_st D1 n (zeros 256)
 refine⟨fun h0=>?_,fun h0=>?_⟩
 · exact { pg:=h.pg.wr s (fun i e=>by injection e with e;omega) (fun e=>by cases e),dv:=dv,wr:=h.wr.tr s,ns:=row_fr h.ns s.fr (fun k hk e=>by rw[h.nt k hk] at e;cases e),nt:=fun k hk=>(s.tg k (h.ns.lt hk)).trans (h.nt k hk),ok:=writeD_ok h.ok (by rw[h.n];exact hi) (zeros_len 256) byt_zero,n:=t2.trans h.n,st:=by have:=h.st;omega,ws:=by have:=h.ws;omega,eq:=by rw[h.eq,drop_cons9 hn,blankF_cons h0] }
 · rw[h.eq,drop_cons9 hn]
   unfold blankF
   rw[if_neg h0]
end
set_option maxRecDepth 100000 in
theorem blank_any {w:World} {O:Tgm} {p d rg lg B:Nat} {T:PgP} {D:DvS} {v:Value} {L:List Nat} (h:PgM w O p d rg lg T) (hD:DvM w O d D) (okD:D.Ok) (hst:D.st≤900000000) (hws:D.ws.length≤90000) (hv:U32.NsB w B v L) (hvt:∀k,v.ownBlock=some k→O k=(0,0)) (hL:L.length≤5000) (hin:∀n∈L,n<D.n):
 Calls Tryz.prog 46 #[.pointer (some ⟨p,0,none⟩),v] w fun e w'=>e = .returned (.int .i64 ((blankP L D).1:Int))∧∃O',DvM w' O' d (blankP L D).2∧Wr (fun τ=>τ=(0,1)) w O w' O':=by
 have I0:Hid (BlI w O p d rg lg T D v B L 0 w O D):=Lib.hid ⟨h,hD,Wr.refl _ _ _,hv,hvt,okD,rfl,Nat.le_refl _,Nat.le_refl _,rfl⟩
 have BD:=Lib.hid (And.intro hst hws)
 have LI:=Lib.hid hin
 have NB:=Lib.hid hL
 obtain⟨A,c,rfl,_⟩:=hv.form
 obtain⟨nl,hnl⟩:∃nl,L.length=nl:=⟨_,rfl⟩
 rw[hnl] at I0 NB⊢
 have NL:=Lib.hid hnl
 clear h hD okD hst hws hv hvt hL hin hnl
 have nlb:(nl:Int)≤5000:=by have:=NB.out;omega
 obtain⟨q9,hq9⟩:∃q9,blankP L D=q9:=⟨_,rfl⟩
 rw[hq9]
 have HQ:=Lib.hid hq9
 clear hq9
 go_enter Tryz.func46,Tryz.ntmps46
 go_wp2_with fail
 go_loopw [10] (fun z wx=>∃(i:Nat) (O1:Tgm) (D1:DvS),i≤nl∧z = .int .i64 (i:Int)∧BlI w O p d rg lg T D (.slice A nl c) B L i wx O1 D1) (fun z _=>nl-(intOf z).toNat)
 case atStart=>exact⟨0,_,_,Nat.zero_le _,rfl,I0.out⟩
 case round=>
  obtain⟨i,O1,D1,hi,rfl,hI⟩:=hrel
  have I1:=Lib.hid hI
  clear hI I0
  have hi0:(0:Int)≤(i:Int):=by omega
  by_cases hlt:i<nl
  · have hlti:(i:Int)<(nl:Int):=by omega
    obtain⟨n,hn⟩:∃n,L[i]? = some n:=⟨_,List.getElem?_eq_getElem (by rw[NL.out];exact hlt)⟩
    have hnd:=LI.out n (List.mem_of_getElem? hn)
    obtain⟨A',c',he,hcc⟩:=I1.out.ns.form
    injection he with he1 he2 he3
    subst he1 he3
    clear he2
    obtain⟨ga,rfl,hcell⟩:=hcc i (by rw[NL.out];exact hlt)
    rw[show L[i]'(by rw[NL.out];exact hlt)=n from by have:=(List.getElem?_eq_some_iff.1 hn).2;exact this] at hcell
    have hnw:IntKind.i64.wrap (n:Int)=(n:Int):=wrap_i64P (by omega) (by have:=I1.out.ok.n4;have:=I1.out.n;omega)
    have HN:=Lib.hid hn
    have ND:=Lib.hid hnd
    have HLT:=Lib.hid hlt
    clear hn hnd hcc hi hlt
    go_upto_region 4 with (fail)
    clear hcell
    have CP:Hid (∀W (F:Nat→Prop),Fr wr W F→(∀q,F q→q<wr.heap.size∧O1 q=(0,1))→W.cell? ⟨p,0,none⟩=some (.pointer (some ⟨d,0,none⟩))):=Lib.hid fun W F hW hF=>by
     obtain⟨b2,h2,rfl,_,_⟩:=I1.out.pg
     have hp:=h2.pos
     exact (CbB.fr h2.box hW (fun e=>by have:=(hF _ e).2;rw[h2.tb] at this;injection this with this;omega)).cell (k:=0) rfl
    have WM:Hid (∀W (g:Nat),Below wr.heap.size wr W→IsB W (some ⟨g,0,none⟩) 256 256 (zeros 256)→wr.heap.size≤g→Calls Tryz.prog 44 #[.pointer (some ⟨d,0,none⟩),.int .i64 (n:Int),.slice (some ⟨g,0,none⟩) 256 256] W fun e W1=>e = .returned (.int .i64 ((writeD D1 n (zeros 256)).1:Int))∧WrW wr.heap.size O1 d (writeD D1 n (zeros 256)) (.int .i64 ((writeD D1 n (zeros 256)).1:Int)) W1∧Fr W W1 (fun q=>q<wr.heap.size∧O1 q=(0,1))):=Lib.hid fun W g hW hib hg=>by
     refine (writeM (O:=cutO O1 wr.heap.size) (I1.out.dv.wr (Wr.cut hW (fun _=>False)) id) I1.out.ok (by have:=I1.out.st;have:=BD.out;have:=HLT.out;have:=NB.out;omega) (by have:=I1.out.ws;have:=BD.out;have:=HLT.out;have:=NB.out;omega) (by rw[I1.out.n];exact ND.out) hib (fun x hx e=>by injection hx with hx;subst hx;rw[cutO_at hg] at e;cases e)).mono ?_
     rintro e W1 ⟨O',rfl,h1,h2⟩
     refine⟨rfl,⟨rfl,O',h1,fun k hk=>(h2.tg k (Nat.lt_of_lt_of_le hk hW.size)).trans (cutO_old hk)⟩,h2.fr.imp fun q hq=>?_⟩
     by_cases hlt:q<wr.heap.size
     · rw[cutO_old hlt] at hq;exact⟨hlt,hq⟩
     · rw[cutO_at (by omega)] at hq;cases hq
    refine wp_wide5 (fun i q=>i=7∧q<wr.heap.size∧O1 q=(0,1)) [⟨14,IsR (.pointer (some ⟨p,0,none⟩)),[],false⟩,⟨15,IsR (.pointer (some ⟨p,0,none⟩)),[0],false⟩,⟨16,IsR (.pointer (some ⟨p,0,none⟩)),[1],false⟩,⟨17,IsR (.pointer (some ⟨d,0,none⟩)),[2],false⟩,⟨18,IsR (.int .u32 (n:Int)),[],false⟩,⟨19,IsR (.int .i64 (n:Int)),[4],false⟩,⟨20,MadeR wr 256,[],false⟩,⟨21,WrW wr.heap.size O1 d (writeD D1 n (zeros 256)),[3,5,6],false⟩] (by kernel_rfl) (by kernel_rfl) rfl rfl rfl ⟨?_,?_,?_,?_,?_,?_,?_,?_,trivial⟩ ?_
    · refine⟨rfl,IsR.monoF _ _,fun a W hA hb hd=>Takes.to5 (takes_plain rfl (yields_value _ ?_ rfl)) _⟩
      have h0:a.tmps[0]?.getD undef = .pointer (some ⟨p,0,none⟩):=(eval_get a 0).trans ((hA.eval (by simp)).trans rfl)
      go_simp
    · refine⟨rfl,IsR.monoF _ _,fun a W hA hb hd=>Takes.to5 (takes_plain rfl (yields_value _ ?_ rfl)) _⟩
      have h14:a.tmps[14]?.getD undef = .pointer (some ⟨p,0,none⟩):=(eval_get a 14).trans (hd 0 (by simp) _ rfl)
      go_simp
    · refine⟨rfl,IsR.monoF _ _,fun a W hA hb hd=>Takes.to5 (takes_plain rfl (yields_value _ ?_ rfl)) _⟩
      have h15:a.tmps[15]?.getD undef = .pointer (some ⟨p,0,none⟩):=(eval_get a 15).trans (hd 1 (by simp) _ rfl)
      go_simp
    · refine⟨rfl,IsR.monoF _ _,fun a W hA hb hd=>Takes.to5 (takes_plain rfl (yields_value _ ?_ rfl)) _⟩
      have h16:a.tmps[16]?.getD undef = .pointer (some ⟨p,0,none⟩):=(eval_get a 16).trans (hd 2 (by simp) _ rfl)
      have hc:=CP.out W _ hb (fun q ⟨j,_,hj⟩=>hj.2)
      go_simp
    · refine⟨rfl,IsR.monoF _ _,fun a W hA hb hd=>Takes.to5 (takes_plain rfl (yields_value _ ?_ rfl)) _⟩
      have h6:a.tmps[6]?.getD undef = .int .u32 (n:Int):=(eval_get a 6).trans ((hA.eval (by simp)).trans rfl)
      go_simp
    · refine⟨rfl,IsR.monoF _ _,fun a W hA hb hd=>Takes.to5 (takes_plain rfl (yields_value _ ?_ rfl)) _⟩
      have h18:a.tmps[18]?.getD undef = .int .u32 (n:Int):=(eval_get a 18).trans (hd 4 (by simp) _ rfl)
      have hw:=hnw
      go_simp
    · refine⟨rfl,fun v W W1 ⟨g,h1,h2,h3⟩ hf=>⟨g,h1,h2.fr hf (fun x hx ⟨j,_,_,hj,_⟩=>by injection hx with hx;subst hx;simp only at *;omega),h3⟩,fun a W hA hb hd=>takes5_plain rfl ?_⟩
      exact Yields.to5 (yields_make9 256 (by decide) rfl hb.size) _
    · refine⟨rfl,fun v W W1 h hf=>WrW.ab h (hf.none fun q ⟨j,hj,hj2,_⟩=>hj hj2),fun a W hA hb hd=>takes5_plain rfl ?_⟩
      have h17:a.tmps[17]?.getD undef = .pointer (some ⟨d,0,none⟩):=(eval_get a 17).trans (hd 3 (by simp) _ rfl)
      have h19:a.tmps[19]?.getD undef = .int .i64 (n:Int):=(eval_get a 19).trans (hd 5 (by simp) _ rfl)
      obtain⟨g,hg,hib,hge⟩:=hd 6 (by simp) _ rfl
      have h20:a.tmps[20]?.getD undef = .slice (some ⟨g,0,none⟩) 256 256:=(eval_get a 20).trans hg
      refine .inr ⟨44,#[.pointer (some ⟨d,0,none⟩),.int .i64 (n:Int),.slice (some ⟨g,0,none⟩) 256 256],by go_simp,(WM.out W g (hb.none fun q ⟨j,hj,hj2,_⟩=>hj hj2) hib hge).mono ?_⟩
      rintro e W1 ⟨rfl,h1,h2⟩
      exact⟨_,rfl,h1,h2.imp fun q hq=>⟨rfl,hq⟩⟩
    intro vs w2 hR hb
    have e14:vs 14 = .pointer (some ⟨p,0,none⟩):=hR 0 _ rfl
    have e15:vs 15 = .pointer (some ⟨p,0,none⟩):=hR 1 _ rfl
    have e16:vs 16 = .pointer (some ⟨p,0,none⟩):=hR 2 _ rfl
    have e17:vs 17 = .pointer (some ⟨d,0,none⟩):=hR 3 _ rfl
    have e18:vs 18 = .int .u32 (n:Int):=hR 4 _ rfl
    have e19:vs 19 = .int .i64 (n:Int):=hR 5 _ rfl
    simp only[List.map_cons,List.map_nil,List.foldl_cons,List.foldl_nil,List.length_cons,List.length_nil,List.drop_succ_cons,List.drop_zero,Act.put,List.setIfInBounds_toArray,List.set_cons_zero,List.set_cons_succ,e14,e15,e16,e17,e18,e19]
    generalize vs 20=q20 at *
    obtain⟨e21,O2,hdv,htg⟩:WrW wr.heap.size O1 d (writeD D1 n (zeros 256)) (vs 21) w2:=hR 7 _ rfl
    rw[e21]
    have W2:Hid (Wr (fun τ=>τ=(0,1)) wr O1 w2 O2):=Lib.hid (Wr.mk' hb (fun q ⟨j,_,hj⟩=>hj.2) htg)
    have ST:=Lib.hid (I1.out.step HN.out ND.out W2.out hdv)
    have DV:=Lib.hid hdv
    clear hR hb hdv htg e21 e14 e15 e16 e17 e18 e19
    generalize vs 21=q21 at *
    cases he:(writeD D1 n (zeros 256)).1 with
    | zero=>
      have J:=Lib.hid (ST.out.1 he)
      clear ST he
      go_wp2_with fail
      go_roundw
      case rel=>exact⟨i+1,O2,_,HLT.out,by go_num,J.out⟩
      case measure=>simp[intOf];have:=HLT.out;omega
    | succ e=>
      have hne:¬((e+1:Nat):Int)=0:=by omega
      have hne2:(((e+1:Nat):Int)==0)=false:=by simp;omega
      have J:=Lib.hid (ST.out.2 (by omega))
      have HE:=Lib.hid he
      clear ST he
      go_wp2_with fail
      go_ret
      have hq:q9=writeD D1 n (zeros 256):=by
       rw[←HQ.out]
       unfold blankP
       rw[J.out,if_neg (by rw[HE.out];omega)]
      rw[hq,HE.out]
      exact⟨rfl,O2,DV.out,I1.out.wr.tr W2.out⟩
  · obtain rfl:i=nl:=by omega
    clear hlt hi
    have hF:blankF L D=(0,D1):=by
     rw[I1.out.eq,List.drop_of_length_le (by rw[NL.out];exact Nat.le_refl _)]
     rfl
    have HF:=Lib.hid hF
    clear hF
    by_cases hz:i=0
    · have hzi:(i:Int)=0:=by omega
      have hq:q9=(0,D1):=by
       rw[←HQ.out]
       unfold blankP
       rw[HF.out,if_pos rfl,if_pos (by rw[NL.out];exact hz)]
      have HQ2:=Lib.hid hq
      clear hq
      go_wp2_with fail
      go_ret
      rw[HQ2.out]
      exact⟨rfl,O1,I1.out.dv,I1.out.wr⟩
    · have hzi:¬(i:Int)=0:=by omega
      have hzi2:((i:Int)==0)=false:=by simp;omega
      have hq:q9=syncD D1:=by
       rw[←HQ.out]
       unfold blankP
       rw[HF.out,if_pos rfl,if_neg (by rw[NL.out];exact hz)]
      have HQ2:=Lib.hid hq
      have HS:=Lib.hid (syncM I1.out.dv I1.out.ok (by have:=I1.out.st;have:=BD.out;have:=NB.out;omega))
      have c0:wr.cell? ⟨p,0,none⟩=some (.pointer (some ⟨d,0,none⟩)):=by
       obtain⟨b2,h2,rfl,_,_⟩:=I1.out.pg
       exact CbB.cell h2.box (k:=0) rfl
      clear hq hz
      go_wp2_with fail
      refine HS.out.mono ?_
      rintro e w3 ⟨O3,rfl,h3,h4⟩
      have H3:=Lib.hid (And.intro h3 h4)
      clear h3 h4
      go_wp2_with fail
      go_ret
      rw[HQ2.out]
      exact⟨rfl,O3,H3.out.1,I1.out.wr.tr H3.out.2⟩
def PinOk (l:List (Nat×Value)):Prop:=∀x∈l,∃k:Int,x.2 = .int .i64 k
def pinI (l:List (Nat×Value)) (n:Nat):Int:=match lookL n l with
 | some (.int .i64 k)=>k
 | _=>0
theorem zero_i9 (w:World):(zeroValue 3).run Tryz.prog w = .ok (.int .i64 0) w:=by kernel_rfl
theorem pin_look {w:World} {m n:Nat} {l:List (Nat×Value)} (h:MapB u32Vp u32Okp w m l) (hp:PinOk l) (hn:u32Okp n):(Instr.lookup 100 (.map (some m)) (.int .u32 (n:Int)) false).run Tryz.prog w = .ok (.int .i64 (pinI l n)) w:=by
 cases hl:lookL n l with
 | none=>
   have h1:=h.look_none u32p_K Tryz.underlying100 hn hl (zero_i9 w) false
   have h2:pinI l n=0:=by unfold pinI;rw[hl]
   rw[h2]
   exact h1
 | some v=>
   obtain⟨k,hk⟩:=hp _ (lookL_mem hl)
   simp only at hk
   subst hk
   have h1:=h.look_some u32p_K Tryz.underlying100 hn hl false
   have h2:pinI l n=k:=by unfold pinI;rw[hl]
   rw[h2]
   exact h1
def goneP (T:PgP):List Nat:=(U32.srt (T.wa.map (·.1))).filter fun n=>decide (pinI T.pi n=0)
def scrubF:List Nat→PgP→PgP
 | [],T=>T
 | n::l,T=>scrubF l (relT { T with wa:=dropL n T.wa } n)
def scrubP (T:PgP) (D:DvS):Nat×PgP×DvS:=if (blankP (goneP T) D).1=0 then (0,{ scrubF (goneP T) T with cm:=0 },(blankP (goneP T) D).2) else ((blankP (goneP T) D).1,{ T with fa:=true },(blankP (goneP T) D).2)
theorem blankF_err:∀(l:List Nat) (D:DvS),(blankF l D).1≤1000
 | [],D=>Nat.zero_le _
 | n::l,D=>by
   unfold blankF
   split
   · exact blankF_err l _
   · exact writeD_err D n _
theorem blankP_err (l:List Nat) (D:DvS):(blankP l D).1≤1000:=by
 unfold blankP
 split
 · split
   · exact Nat.zero_le _
   · exact syncD_err _
 · exact blankF_err l D
theorem take_filter {L:List Nat} {i n:Nat} (f:Nat→Bool) (h:L[i]? = some n):(L.take (i+1)).filter f=(L.take i).filter f++(if f n then [n] else []):=by
 rw[List.take_add_one,h,List.filter_append]
 simp only[Option.toList_some]
 cases hf:f n <;> simp[hf]
set_option maxRecDepth 100000 in
theorem scrub_any {w:World} {O:Tgm} {p d rg lg:Nat} {T:PgP} {D:DvS} (h:PgM w O p d rg lg T) (hD:DvM w O d D) (okD:D.Ok) (hst:D.st≤900000000) (hws:D.ws.length≤90000) (hf:T.fa=false) (ho:T.cm=0∨T.fl=true) (hwa:∀x∈T.wa,1<x.1∧x.1<D.n) (hwn:T.wa.length≤5000) (hpi:PinOk T.pi):
 Calls Tryz.prog 13 #[.pointer (some ⟨p,0,none⟩)] w fun e w'=>e = .returned (.int .i64 ((scrubP T D).1:Int))∧∃O',PgM w' O' p d rg lg (scrubP T D).2.1∧DvM w' O' d (scrubP T D).2.2∧Wr (fun τ=>τ=(0,1)∨τ.1=p) w O w' O':=by
 have HF:=Lib.hid hf
 have H0:=Lib.hid h
 have HD0:=Lib.hid hD
 obtain⟨b,hN,rfl,rfl,rfl⟩:=h
 have HM:=Lib.hid (may_any hN.box)
 rw[show mayP (pcS b T)=0 from by unfold mayP pcS;rw[hf];rfl] at HM
 have HO:=Lib.hid (open_any hN.box)
 rw[show openB (pcS b T)=false from by unfold openB pcS;rcases ho with e | e <;> simp[e]] at HO
 have c5:w.cell? ⟨p,5,none⟩=some (.map (some b.mw)):=CbB.cell hN.box (k:=5) rfl
 have RI:=Lib.hid (rising_any b.mw T.wa w hN.wa (by omega))
 have HN:=Lib.hid hN
 obtain⟨L,hL⟩:∃L,U32.srt (T.wa.map (·.1))=L:=⟨_,rfl⟩
 have HL:Hid (L.length≤5000∧∀n∈L,1<n∧n<D.n∧n<4096):=Lib.hid ⟨by rw[←hL,U32.srt_len,List.length_map];exact hwn,fun n hn=>by
  rw[←hL,U32.srt_mem,List.mem_map] at hn
  obtain⟨x,h1,rfl⟩:=hn
  have:=hwa x h1
  have:=okD.n4
  omega⟩
 obtain⟨G,hG⟩:∃G,L.filter (fun n=>decide (pinI T.pi n=0))=G:=⟨_,rfl⟩
 have hGT:goneP T=G:=by unfold goneP;rw[hL];exact hG
 have SQ:Hid (scrubP T D=(if (blankP G D).1=0 then (0,{ scrubF G T with cm:=0 },(blankP G D).2) else ((blankP G D).1,{ T with fa:=true },(blankP G D).2))):=Lib.hid (by unfold scrubP;rw[hGT])
 have GL:Hid (G.length≤5000∧∀n∈G,1<n∧n<D.n∧n<4096):=Lib.hid ⟨by rw[←hG];exact Nat.le_trans (List.length_filter_le _ _) HL.out.1,fun n hn=>HL.out.2 n (by rw[←hG] at hn;exact (List.mem_filter.1 hn).1)⟩
 have HG:=Lib.hid hG
 have PK:=Lib.hid hpi
 have OKD:=Lib.hid (And.intro okD (And.intro hst hws))
 rw[hL] at RI
 obtain⟨q9,hq9⟩:∃q9,scrubP T D=q9:=⟨_,rfl⟩
 rw[hq9] at SQ⊢
 obtain⟨nl,hnl⟩:∃nl,L.length=nl:=⟨_,rfl⟩
 have NL:=Lib.hid hnl
 have NB:Hid (nl≤5000):=Lib.hid (by rw[←hnl];exact HL.out.1)
 clear hf ho hN hL hG hGT hpi okD hst hws hq9 hwa hwn hD
 go_enter Tryz.func13,Tryz.ntmps13
 go_wp2_with fail
 refine HM.out.mono ?_
 rintro e w1 ⟨rfl,rfl⟩
 go_wp2_with fail
 refine HO.out.mono ?_
 rintro e w1 ⟨rfl,rfl⟩
 go_wp2_with fail
 refine RI.out.mono ?_
 rintro e w2 ⟨v,rfl,hv,hb⟩
 obtain⟨A2,c2,rfl,_⟩:=hv.form
 rw[hnl] at hv⊢
 have n2:=HN.out.wr (Wr.cut (O:=O) hb (fun _=>False)) (fun _=>id) id
 have d2:=HD0.out.wr (Wr.cut (O:=O) hb (fun _=>False)) id
 have t2:Wr (fun τ=>τ=(0,1)∨τ.1=p) w O w2 (cutO O w.heap.size):=Wr.cut hb _
 obtain⟨O2,hO2⟩:∃O2,cutO O w.heap.size=O2:=⟨_,rfl⟩
 rw[hO2] at n2 d2 t2
 have N2:=Lib.hid n2
 have D2:=Lib.hid d2
 have T2:=Lib.hid t2
 have V2:=Lib.hid hv
 have VC:Hid (∀W,Below w2.heap.size w2 W→∀(i n:Nat),L[i]? = some n→∃g,A2=some ⟨g,0,none⟩∧W.cell? ⟨g,i,none⟩=some (.int .u32 (n:Int))):=Lib.hid fun W hW i n hi=>by
  obtain⟨A',c',he,hcc⟩:=(U32.NsB.ab hv hW).form
  injection he with he1 he2 he3
  subst he1
  have hil:=(List.getElem?_eq_some_iff.1 hi).1
  obtain⟨g,hg,hc⟩:=hcc i hil
  rw[show L[i]=n from (List.getElem?_eq_some_iff.1 hi).2] at hc
  exact⟨g,hg,hc⟩
 clear hv hb n2 d2 t2 hO2 HM HO RI c5 hnl
 have nlb:(nl:Int)≤5000:=by have:=NB.out;omega
 go_wp2_with fail
 go_loopw [4,23] (fun z1 z2 wx=>∃(i:Nat),i≤nl∧z2 = .int .i64 (i:Int)∧U32.NsB wx w2.heap.size z1 ((L.take i).filter fun n=>decide (pinI T.pi n=0))∧Below w2.heap.size w2 wx) (fun _ z _=>nl-(intOf z).toNat)
 case atStart=>exact⟨0,Nat.zero_le _,rfl,U32.NsB.nil _ _,Below.refl _ _⟩
 case round =>
  obtain⟨i,hi,rfl,hg,hb⟩:=hrel
  have GB:=Lib.hid hg
  have BB:=Lib.hid hb
  have nr:=N2.out.wr (Wr.cut (O:=O2) hb (fun _=>False)) (fun _=>id) id
  obtain⟨v4,hv4⟩:∃v4,u4=v4:=⟨_,rfl⟩
  rw[hv4] at GB⊢
  clear hg hv4
  have hi0:(0:Int)≤(i:Int):=by omega
  by_cases hlt:i<nl
  · have hlti:(i:Int)<(nl:Int):=by omega
    obtain⟨n,hn⟩:∃n,L[i]? = some n:=⟨_,List.getElem?_eq_getElem (by rw[NL.out];exact hlt)⟩
    obtain⟨ga,rfl,hcell⟩:=VC.out wr hb i n hn
    have OK:Hid (u32Okp n):=Lib.hid (by have:=(HL.out.2 n (List.mem_of_getElem? hn)).2.2;unfold u32Okp;omega)
    have c8:wr.cell? ⟨p,8,none⟩=some (.map (some b.mi)):=CbB.cell nr.box (k:=8) rfl
    have hlk:=pin_look nr.pi PK.out OK.out
    have TF:=Lib.hid (take_filter (fun n=>decide (pinI T.pi n=0)) hn)
    have HLT:=Lib.hid hlt
    have GLN:Hid (((L.take i).filter fun n=>decide (pinI T.pi n=0)).length≤100000):=Lib.hid (by
     have h1:=List.length_filter_le (fun n=>decide (pinI T.pi n=0)) (L.take i)
     have h2:(L.take i).length≤L.length:=by rw[List.length_take];omega
     have h3:=HL.out.1
     omega)
    by_cases hz:pinI T.pi n=0
    · rw[hz] at hlk
      rw[if_pos (decide_eq_true hz)] at TF
      have AB:Hid (Below wr.heap.size wr (wr.alloc (.cells #[.int .u32 (n:Int)] 27))):=Lib.hid ((Below.refl _ _).alloc (Nat.le_refl _) _)
      have GC:Hid (CbB (wr.alloc (.cells #[.int .u32 (n:Int)] 27)) wr.heap.size 27 #[.int .u32 (n:Int)]):=Lib.hid (CbB.new _ _ _)
      clear hn hb nr hi hlt hz
      go_wp2_with (first
       | (refine U32.wpList_appN rfl (.tmp 34) (.tmp 36) rfl (B:=w2.heap.size) (GB.out.ab AB.out) rfl n rfl GC.out GLN.out (by have:=BB.out.size;simp;omega) ?_
          intro v5 w5 h5 g5
          have N5:=Lib.hid h5
          have B5:=Lib.hid (U32.below_grownO (below_tr BB.out AB.out BB.out.size) g5 (own_ge9 GB.out) (Nat.le_trans BB.out.size AB.out.size))
          clear h5 g5))
      go_roundw
      case rel=>exact⟨i+1,HLT.out,by go_num,by rw[TF.out];exact N5.out,B5.out⟩
      case measure=>simp[intOf];have:=HLT.out;omega
    · have hz2:(pinI T.pi n==0)=false:=by simp;exact hz
      rw[if_neg (by simpa using hz),List.append_nil] at TF
      clear hn hb nr hi hlt
      generalize pinI T.pi n=pn at hlk hz hz2
      go_wp2_with fail
      go_roundw
      case rel=>exact⟨i+1,HLT.out,by go_num,by rw[TF.out];exact GB.out,BB.out⟩
      case measure=>simp[intOf];have:=HLT.out;omega
  · obtain rfl : i=nl:=by omega
    have GE:Hid ((L.take i).filter (fun n=>decide (pinI T.pi n=0))=G):=Lib.hid (by rw[List.take_of_length_le (by rw[NL.out];exact Nat.le_refl _)];exact HG.out)
    rw[GE.out] at GB
    have dr:=D2.out.wr (Wr.cut (O:=O2) hb (fun _=>False)) id
    have tr:=T2.out.tr (Wr.cut (O:=O2) hb (fun τ=>τ=(0,1)∨τ.1=p))
    have tv:∀k,v4.ownBlock=some k→cutO O2 w2.heap.size k=(0,0):=fun k hk=>cutO_at (own_ge9 GB.out k hk)
    obtain⟨O3,hO3⟩:∃O3,cutO O2 w2.heap.size=O3:=⟨_,rfl⟩
    rw[hO3] at nr dr tr tv
    have pr:PgM wr O3 p b.d b.rg b.lg T:=⟨b,nr,rfl,rfl,rfl⟩
    have HB:=Lib.hid (blank_any (lg:=b.lg) (rg:=b.rg) pr dr OKD.out.1 OKD.out.2.1 OKD.out.2.2 GB.out tv GL.out.1 (fun n hn=>(GL.out.2 n hn).2.1))
    have P3:=Lib.hid pr
    have T3:=Lib.hid tr
    have TV:=Lib.hid tv
    obtain⟨A4,c4,hv4,_⟩:=GB.out.form
    obtain⟨ng,hng⟩:∃ng,G.length=ng:=⟨_,rfl⟩
    rw[hng] at hv4
    subst hv4
    have NG:=Lib.hid hng
    have GBn:Hid (ng≤5000):=Lib.hid (by rw[←hng];exact GL.out.1)
    clear nr dr tr tv hb hO3 pr hlt hi VC V2 N2 D2 T2 HN H0 HD0 hng
    have ngb:(ng:Int)≤5000:=by have:=GBn.out;omega
    go_wp2_with fail
    refine HB.out.mono ?_
    rintro e w4 ⟨rfl,O4,hd4,hw4⟩
    have hp0:0<p:=by obtain⟨b3,h3,_⟩:=P3.out;exact h3.pos
    have p4:=P3.out.wr hw4 (fun i e=>by injection e with e;omega) (fun e=>by cases e)
    have v4:U32.NsB w4 w2.heap.size (.slice A4 ng c4) G:=row_fr GB.out hw4.fr (fun k hk e=>by rw[TV.out k hk] at e;cases e)
    have tv4:∀k,(Value.slice A4 ng c4).ownBlock=some k→O4 k=(0,0):=fun k hk=>(hw4.tg k (GB.out.lt hk)).trans (TV.out k hk)
    have P4:=Lib.hid p4
    have D4:=Lib.hid hd4
    have V4:=Lib.hid v4
    have TV4:=Lib.hid tv4
    have T4:=Lib.hid (T3.out.tr (hw4.imp fun τ hτ=>(Or.inl hτ:τ=(0,1)∨τ.1=p)))
    have HP:=Lib.hid hp0
    clear p4 hd4 v4 tv4 hw4 hp0 HB P3 T3 TV GB
    go_wp2_with fail
    refine (failM P4.out HF.out (blankP G D).1 (blankP_err G D)).mono ?_
    rintro e w5 ⟨rfl,hp5,hw5⟩
    have d5:=D4.out.wr hw5 (fun e=>by have:=HP.out;injection e with e;omega)
    have v5:U32.NsB w5 w2.heap.size (.slice A4 ng c4) G:=row_fr V4.out hw5.fr (fun k hk e=>by rw[TV4.out k hk] at e;have:=HP.out;injection e with e;omega)
    have tv5:∀k,(Value.slice A4 ng c4).ownBlock=some k→O4 k=(0,0):=TV4.out
    have P5:=Lib.hid hp5
    have D5:=Lib.hid d5
    have V5:=Lib.hid v5
    have TV5:=Lib.hid tv5
    have T5:=Lib.hid (T4.out.tr (hw5.imp fun τ hτ=>(Or.inr (by rw[hτ]):τ=(0,1)∨τ.1=p)))
    clear hp5 d5 v5 tv5 hw5 P4 D4 V4 TV4 T4
    by_cases he:(blankP G D).1=0
    · have hq:q9=(0,{ scrubF G T with cm:=0 },(blankP G D).2):=by rw[SQ.out,if_pos he]
      rw[he] at P5⊢
      rw[show ({ T with fa:=!decide ((0:Nat)=0) }:PgP)=T from by rw[←show T.fa = !decide ((0:Nat)=0) from HF.out]] at P5
      have HQ:=Lib.hid hq
      clear hq he SQ
      go_wp2_with fail
      go_loopw [49] (fun z wx=>∃(i:Nat) (O6:Tgm) (T6:PgP),i≤ng∧z = .int .i64 (i:Int)∧PgM wx O6 p b.d b.rg b.lg T6∧scrubF (G.drop i) T6=scrubF G T∧DvM wx O6 b.d (blankP G D).2∧Wr (fun τ=>τ=(0,1)∨τ.1=p) w O wx O6∧U32.NsB wx w2.heap.size (.slice A4 ng c4) G∧∀k,(Value.slice A4 ng c4).ownBlock=some k→O6 k=(0,0)) (fun z _=>ng-(intOf z).toNat)
      case atStart=>exact⟨0,O4,T,Nat.zero_le _,rfl,P5.out,rfl,D5.out,T5.out,V5.out,TV5.out⟩
      case round=>
       clear P5 D5 V5 TV5 T5
       obtain⟨i,O6,T6,hi,rfl,hp6,heq,hd6,ht6,hv6,htv6⟩:=hrel
       have hi0:(0:Int)≤(i:Int):=by omega
       by_cases hlt:i<ng
       · have hlti:(i:Int)<(ng:Int):=by omega
         obtain⟨n,hn⟩:∃n,G[i]? = some n:=⟨_,List.getElem?_eq_getElem (by rw[NG.out];exact hlt)⟩
         have hn3:=GL.out.2 n (List.mem_of_getElem? hn)
         obtain⟨A',c',he',hcc⟩:=hv6.form
         injection he' with he1 he2 he3
         subst he1 he3
         clear he2
         obtain⟨ga,rfl,hcell⟩:=hcc i (by rw[NG.out];exact hlt)
         rw[show G[i]'(by rw[NG.out];exact hlt)=n from by have:=(List.getElem?_eq_some_iff.1 hn).2;exact this] at hcell
         obtain⟨b6,h6,e1,e2,e3⟩:=hp6
         have c5:wr.cell? ⟨p,5,none⟩=some (.map (some b6.mw)):=CbB.cell h6.box (k:=5) rfl
         have OK:Hid (u32Okp n):=Lib.hid (by unfold u32Okp;omega)
         have H6:=Lib.hid h6
         have E6:=Lib.hid (And.intro e1 (And.intro e2 e3))
         have D6:=Lib.hid hd6
         have T6':=Lib.hid ht6
         have V6:=Lib.hid hv6
         have TV6:=Lib.hid htv6
         have N3:=Lib.hid hn3
         have HE:Hid (scrubF (G.drop (i+1)) (relT { T6 with wa:=dropL n T6.wa } n)=scrubF G T):=Lib.hid (by rw[drop_cons9 hn] at heq;exact heq)
         have HLT:=Lib.hid hlt
         clear h6 e1 e2 e3 hd6 ht6 hv6 htv6 hn3 heq hn hcc hi hlt
         go_wp2_with (first
          | (refine wpList_mapDel rfl (.tmp 56) (.tmp 57) rfl u32p_K Tryz.underlying99 rfl H6.out.wa n OK.out rfl ?_
             intro w7 h7 g7 s7 _
             have s7':Wr (fun t=>t=(p,3)) wr O6 w7 O6:=Wr.grown g7 H6.out.tw
             have P7:=Lib.hid (show PgM w7 O6 p b.d b.rg b.lg { T6 with wa:=dropL n T6.wa } from⟨_,H6.out.setWa s7' h7,E6.out.1,E6.out.2.1,E6.out.2.2⟩)
             have S7:Hid (Wr (fun τ=>τ.1=p) wr O6 w7 O6):=Lib.hid (s7'.imp fun τ hτ=>by rw[hτ])
             clear h7 g7 s7 s7'))
         refine (release_any n P7.out ⟨N3.out.1,N3.out.2.2⟩).mono ?_
         rintro e w8 ⟨⟨ve,rfl⟩,O8,hp8,hw8⟩
         have P8:=Lib.hid hp8
         have S8:Hid (Wr (fun τ=>τ.1=p) wr O6 w8 O8):=Lib.hid (S7.out.tr (hw8.imp fun τ hτ=>by rcases hτ with hτ | hτ <;> rw[hτ]))
         clear hp8 hw8
         go_wp2_with fail
         go_roundw
         case rel=>exact⟨i+1,O8,_,HLT.out,by go_num,P8.out,HE.out,D6.out.wr S8.out (fun e=>by have h9:=HP.out;have e':(0:Nat)=p:=e;omega),T6'.out.tr (S8.out.imp fun τ hτ=>Or.inr hτ),row_fr V6.out S8.out.fr (fun k hk e=>by rw[TV6.out k hk] at e;have h9:=HP.out;have e':(0:Nat)=p:=e;omega),fun k hk=>(S8.out.tg k (V6.out.lt hk)).trans (TV6.out k hk)⟩
         case measure=>simp[intOf];have:=HLT.out;omega
       · obtain rfl:i=ng:=by omega
         have heq2:T6=scrubF G T:=by
          rw[←heq,List.drop_of_length_le (by rw[NG.out];exact Nat.le_refl _)]
          rfl
         subst heq2
         obtain⟨b4,hN4,e1,e2,e3⟩:=hp6
         have c9:wr.cell? ⟨p,9,none⟩=some (.int .u64 ((scrubF G T).cm:Int)):=CbB.cell hN4.box (k:=9) rfl
         have f9:wr.frozen? ⟨p,9,none⟩=false:=CbB.free hN4.box 9
         have N4:=Lib.hid hN4
         have E4:=Lib.hid (And.intro e1 (And.intro e2 e3))
         have S4:=Lib.hid ht6
         have D6:=Lib.hid hd6
         clear hN4 e1 e2 e3 ht6 hd6 hv6 htv6 heq hi hlt
         go_wp2_with fail
         go_ret
         have s5:Wr (fun τ=>τ=(p,1)) wr O6 (wr.setCell ⟨p,9,none⟩ (.int .u64 0)) O6:=⟨(fr_setD wr p 9 _).imp fun q hq=>by rw[hq];exact N4.out.tb,fun _ _=>rfl⟩
         rw[HQ.out]
         refine⟨rfl,O6,⟨_,N4.out.upd (T':={ scrubF G T with cm:=0 }) (v:=b4.fv) s5 (CbB.set N4.out.box 9 (.int .u64 0)) (row_fr N4.out.free (fr_setD wr p 9 _) (fun q hq e=>?_)) N4.out.tf rfl rfl rfl rfl rfl N4.out.rgt N4.out.okr N4.out.num ⟨show 0<18446744073709551616 by decide,N4.out.cmo.2⟩ (fun e=>absurd rfl e),E4.out.1,E4.out.2.1,E4.out.2.2⟩,D6.out.wr s5 (fun e=>by have h9:=HP.out;injection e with e;omega),S4.out.tr (s5.imp fun τ hτ=>Or.inr (by rw[hτ]))⟩
         have h1:=N4.out.tf q hq
         rw[e,N4.out.tb] at h1
         have:=N4.out.pos
         injection h1 with h1
         omega
    · have hq:q9=((blankP G D).1,{ T with fa:=true },(blankP G D).2):=by rw[SQ.out,if_neg he]
      rw[show (!decide ((blankP G D).1=0))=true from by rw[decide_eq_false he];rfl] at P5
      have HQ:=Lib.hid hq
      have he1:¬((blankP G D).1:Int)=0:=by omega
      have he2:(((blankP G D).1:Int)==0)=false:=by simp;omega
      clear hq he SQ
      go_wp2_with fail
      go_ret
      rw[HQ.out]
      exact⟨rfl,O4,P5.out,D5.out,T5.out⟩
theorem blkL_at (L:List Nat) (j k:Nat):(blkL L j)[k]? = if k<256 then L[j*256+k]? else none:=by
 unfold blkL
 rw[List.getElem?_take]
 split
 · rw[List.getElem?_drop]
 · rfl
set_option maxRecDepth 20000 in
theorem putD_at {L b:List Nat} {n i:Nat} (hL:L.length=n*256) (hi:i<n) (hb:b.length=256) (m:Nat):(putD L b i)[m]? = if m<i*256 then L[m]? else if m<i*256+256 then b[m-i*256]? else L[m]?:=by
 unfold putD
 have h1:(L.take (i*256)).length=i*256:=by rw[List.length_take];omega
 by_cases h:m<i*256
 · rw[if_pos h,List.getElem?_append_left (by omega),List.getElem?_take,if_pos h]
 · rw[if_neg h,List.getElem?_append_right (by omega),h1]
   by_cases h2:m<i*256+256
   · rw[if_pos h2,List.getElem?_append_left (by omega)]
   · rw[if_neg h2,List.getElem?_append_right (by omega),List.getElem?_drop,hb,show i*256+256+(m-i*256-256)=m from by omega]
set_option maxRecDepth 20000 in
theorem blkL_putN {L b:List Nat} {n i:Nat} (hL:L.length=n*256) (hi:i<n) (hb:b.length=256) (j:Nat):blkL (putD L b i) j=if j=i then b else blkL L j:=by
 apply List.ext_getElem?
 intro k
 rw[blkL_at,putD_at hL hi hb]
 by_cases hj:j=i
 · subst hj
   rw[if_pos rfl]
   by_cases hk:k<256
   · have h8:¬j*256+k<j*256:=by omega
     have h9:j*256+k<j*256+256:=by omega
     rw[if_pos hk,if_neg h8,if_pos h9,show j*256+k-j*256=k from by omega]
   · have h9:b.length≤k:=by omega
     rw[if_neg hk]
     exact (List.getElem?_eq_none h9).symm
 · rw[if_neg hj,blkL_at]
   by_cases hk:k<256
   · rw[if_pos hk,if_pos hk]
     by_cases h1:j*256+k<i*256
     · rw[if_pos h1]
     · have h9:¬j*256+k<i*256+256:=by omega
       rw[if_neg h1,if_neg h9]
   · rw[if_neg hk,if_neg hk]
def Qt (D:DvS):Prop:=D.fail=0∧D.cut = -1∧D.down=false
theorem stepD_qt {D:DvS} (h:Qt D):stepD D=(0,{ D with st:=D.st+1 }):=by
 obtain⟨n,now,firm,ws,st,fail,cut,down⟩:=D
 obtain⟨h1,h2,h3⟩:=h
 simp only at h1 h2 h3
 subst h1 h2 h3
 rfl
theorem writeD_qt {D:DvS} (h:Qt D) (i:Nat) (b:List Nat):writeD D i b=(0,{ D with st:=D.st+1,now:=putD D.now b i,ws:=D.ws++[(i,b)] }):=by
 unfold writeD
 rw[stepD_qt h]
theorem syncD_qt {D:DvS} (h:Qt D):syncD D=(0,{ D with st:=D.st+1,firm:=D.now,ws:=[] }):=by
 unfold syncD
 rw[stepD_qt h]
structure Wn (D D':DvS) (L:List Nat) (S:Nat→List Nat):Prop where
 qt:Qt D'
 ok:D'.Ok
 n:D'.n=D.n
 fm:D'.firm=D.firm
 st:D'.st=D.st+L.length
 ws:D'.ws.length=D.ws.length+L.length
 bl:∀j,blkL D'.now j=if j∈L then S j else blkL D.now j
theorem Wn.nil {D:DvS} {S:Nat→List Nat} (h:Qt D) (ok:D.Ok):Wn D D [] S:=⟨h,ok,rfl,rfl,rfl,rfl,fun j=>by simp⟩
theorem Wn.cons {D D':DvS} {L:List Nat} {S:Nat→List Nat} {i:Nat} (h:Qt D) (ok:D.Ok) (hi:i<D.n) (hl:(S i).length=256) (hb:Byt (S i)) (k:Wn (writeD D i (S i)).2 D' L S):Wn D D' (i::L) S:=by
 have hw:=writeD_qt h i (S i)
 rw[hw] at k
 refine⟨k.qt,k.ok,k.n,k.fm,by have:=k.st;simp only[List.length_cons] at *;omega,by have:=k.ws;simp only[List.length_cons,List.length_append,List.length_nil] at *;omega,fun j=>?_⟩
 rw[k.bl j]
 simp only
 rw[blkL_putN ok.now hi hl]
 by_cases h1:j∈L
 · rw[if_pos h1,if_pos (List.mem_cons_of_mem _ h1)]
 · rw[if_neg h1]
   by_cases h2:j=i
   · subst h2
     rw[if_pos rfl,if_pos (List.mem_cons_self ..)]
   · rw[if_neg h2,if_neg (by simp[h1,h2])]
theorem qt_write {D:DvS} (h:Qt D) (i:Nat) (b:List Nat):Qt (writeD D i b).2∧(writeD D i b).1=0∧(writeD D i b).2.n=D.n:=by
 rw[writeD_qt h]
 exact⟨h,rfl,rfl⟩
theorem flushF_law {R:RgL} {kn:KnL} {S:Nat→List Nat}:∀(L:List Nat) (D:DvS) (al:List Sl),Qt D→D.Ok→(∀n∈L,n<D.n∧(S n).length=256∧Byt (S n)∧∃k key,getK n kn=some k∧getR (k.1.ten,k.1.gn) R=some key∧S n=(sealP key k.1 k.2).1)→
 ∃D' al',flushF R kn L D al=(0,D',al')∧Wn D D' L S∧al'.length=al.length+L.length
 | [],D,al,h,ok,_=>⟨D,al,rfl,Wn.nil h ok,rfl⟩
 | n::L,D,al,h,ok,hL=>by
   obtain⟨h1,h2,h3,k,key,h4,h5,h6⟩:=hL n (List.mem_cons_self ..)
   obtain⟨q1,q2,q3⟩:=qt_write h n (S n)
   obtain⟨D',al',e1,e2,e3⟩:=flushF_law (R:=R) (kn:=kn) (S:=S) L (writeD D n (S n)).2 (al++[⟨k.1,key,k.2,S n⟩]) q1 (writeD_ok ok h1 h2 h3) (fun m hm=>by rw[q3];exact hL m (List.mem_cons_of_mem _ hm))
   refine⟨D',al',?_,Wn.cons h ok h1 h2 h3 e2,by rw[e3];simp;omega⟩
   rw[←e1]
   conv=>lhs;unfold flushF
   unfold flush1
   rw[h4]
   simp only
   rw[h5]
   simp only
   rw[←h6]
   rw[q2]
theorem blankF_law:∀(L:List Nat) (D:DvS),Qt D→D.Ok→(∀n∈L,n<D.n)→∃D',blankF L D=(0,D')∧Wn D D' L (fun _=>zeros 256)
 | [],D,h,ok,_=>⟨D,rfl,Wn.nil h ok⟩
 | n::L,D,h,ok,hL=>by
   obtain⟨q1,q2,q3⟩:=qt_write h n (zeros 256)
   obtain⟨D',e1,e2⟩:=blankF_law L (writeD D n (zeros 256)).2 q1 (writeD_ok ok (hL n (List.mem_cons_self ..)) (zeros_len 256) byt_zero) (fun m hm=>by rw[q3];exact hL m (List.mem_cons_of_mem _ hm))
   refine⟨D',?_,Wn.cons (S:=fun _=>zeros 256) h ok (hL n (List.mem_cons_self ..)) (zeros_len 256) byt_zero e2⟩
   rw[blankF_cons q2,e1]
theorem Wn.sync {D D':DvS} {L:List Nat} {S:Nat→List Nat} (h:Wn D D' L S):(syncD D').1=0∧Qt (syncD D').2∧(syncD D').2.Ok∧(syncD D').2.n=D.n∧(syncD D').2.st=D.st+L.length+1∧(syncD D').2.ws=[]∧(syncD D').2.now=D'.now∧(syncD D').2.firm=D'.now:=by
 have hk:=syncD_ok h.ok
 rw[syncD_qt h.qt] at hk⊢
 exact⟨rfl,h.qt,hk,h.n,by have:=h.st;simp only;omega,rfl,rfl,rfl⟩
def pgs (i n:Nat):List Nat:=List.range' i n
theorem srt_pgs (i n:Nat):U32.srt (pgs i n)=pgs i n:=by
 have hp:(pgs i n).Pairwise (· < ·):=List.pairwise_lt_range'
 exact U32.asc_eq (U32.srt_asc _ (hp.imp fun h=>Nat.ne_of_lt h)) hp fun x=>U32.srt_mem
theorem has_far {l:RnL} {p:Nat} (h:rightR l=true) (hp:∀r∈l,p<r.1∨r.2≤p):hasR l p=false:=by
 unfold hasR
 by_cases hq:placeR l p<l.length
 · have h1:l.getD (placeR l p) (0,0)=l[placeR l p]:=by rw[List.getD_eq_getElem?_getD,List.getElem?_eq_getElem hq];rfl
   have h2:=hp _ (List.getElem_mem hq)
   have h3:=List.findIdx_getElem (p:=fun r:Nat×Nat=>decide (p<r.2)) (xs:=l) (w:=hq)
   rw[decide_eq_true_eq] at h3
   change p<(l[placeR l p]).2 at h3
   rw[h1,decide_eq_false (show ¬(l[placeR l p]).1≤p by omega),Bool.and_false]
 · rw[decide_eq_false hq,Bool.false_and]
theorem give_next {i n:Nat} (hi:i<n) (hn:n<38):(giveP (mkR 2 (2+i)++[(2+n,40)]) (2+i)).1=if i+1=n then [(2,40)] else mkR 2 (2+(i+1))++[(2+n,40)]:=by
 have hr:Rgt (mkR 2 (2+i)++[(2+n,40)]):=by
  refine⟨List.pairwise_append.2 ⟨(Rgt.mk 2 (2+i)).1,List.pairwise_singleton _ _,fun a ha b hb=>?_⟩,fun r hr=>?_⟩
  · rw[(mkR_mem ha).1,List.mem_singleton.1 hb];show 2+i<2+n;omega
  · rcases List.mem_append.1 hr with hr | hr
    · exact (Rgt.mk 2 (2+i)).2 r hr
    · rw[List.mem_singleton.1 hr];show 2+n<40;omega
 have hf:hasR (mkR 2 (2+i)++[(2+n,40)]) (2+i)=false:=has_far hr.right fun r hr=>by
  rcases List.mem_append.1 hr with hr | hr
  · rw[(mkR_mem hr).1];right;exact Nat.le_refl _
  · rw[List.mem_singleton.1 hr];left;show 2+i<2+n;omega
 unfold giveP
 rw[if_neg (by rw[hf];exact Bool.false_ne_true)]
 have e1:mkR (2+i) (2+i+1)=[(2+i,2+i+1)]:=by unfold mkR;rw[if_pos (by omega)]
 simp only[e1]
 unfold bothR
 by_cases h0:i=0
 · subst h0
   have e2:mkR 2 (2+0)=[]:=rfl
   rw[e2,List.nil_append]
   rw[bothN_gt [] (2+n,40) (2+0,2+0+1) [] [] (by show ¬2+n≤2+0;omega),bothN_l,bothN_end]
   rw[show addR [] (2+0,2+0+1)=[(2,3)] from rfl]
   by_cases h1:0+1=n
   · rw[if_pos h1]
     subst h1
     rfl
   · rw[if_neg h1,show ([(2,3)]:RnL)=[]++[(2,3)] from rfl,addR_out (by show ¬2+n≤3;omega)]
     rfl
 · have e2:mkR 2 (2+i)=[(2,2+i)]:=by unfold mkR;rw[if_pos (by omega)]
   rw[e2,List.cons_append,List.nil_append]
   rw[bothN_le [] (2,2+i) (2+i,2+i+1) [(2+n,40)] [] (by show 2≤2+i;omega)]
   rw[show addR [] (2,2+i)=[(2,2+i)] from rfl]
   rw[bothN_gt _ (2+n,40) (2+i,2+i+1) [] [] (by show ¬2+n≤2+i;omega)]
   rw[show ([(2,2+i)]:RnL)=[]++[(2,2+i)] from rfl,addR_in (by show 2+i≤2+i;exact Nat.le_refl _),bothN_l,bothN_end]
   rw[show max (2,2+i).2 (2+i,2+i+1).2=2+i+1 from by show max (2+i) (2+i+1)=_;omega]
   by_cases h1:i+1=n
   · rw[if_pos h1,addR_in (by show 2+n≤2+i+1;omega)]
     show [(2,max (2+i+1) 40)]=_
     rw[show max (2+i+1) 40=40 from by omega]
   · rw[if_neg h1,addR_out (by show ¬2+n≤2+i+1;omega)]
     have e3:mkR 2 (2+(i+1))=[(2,2+i+1)]:=by unfold mkR;rw[if_pos (by omega)];rfl
     rw[e3]
     rfl
end Go.Proofs.YtljmiiiidjeggaaGreat
