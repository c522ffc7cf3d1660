/-
  Parts of the proof, joined.
-/
import Derived.Test.YtgdhinjhbjolgaaGreatBdk
import Derived.Test.YtgdhinjhbjolgaaGreatBdb
namespace Go.Proofs.YtgdhinjhbjolgaaGreat
set_option maxHeartbeats 1000000
open Go.RowKit
set_option linter.unusedVariables false
set_option linter.unusedSimpArgs false
theorem OwB.imB {w:World} {B:Nat} {v:Value} {l:List Nat} {O:Tg} (h:OwB w B v l) (hl:l.length≤100000) (hO:∀k,B≤k→O k=none):ImB w O v l:=by
 obtain⟨A,cap,rfl,h1,h2⟩:=h.shape
 refine⟨A,l.length,cap,rfl,hl,h.isB rfl,fun hn x hx=>?_⟩
 subst hx
 obtain⟨g,cap',e,hb,hg,_⟩:=h.form hn
 simp only[Value.slice.injEq,Option.some.injEq] at e
 rw[e.1]
 exact⟨hg,hO g hb⟩
def OwIR (B:Nat) (l:List Int) (v:Value) (W:World):Prop:=∃zs,OwI W B v zs∧zs.Perm l
theorem OwIR.mono (B:Nat) (l:List Int):Mono (OwIR B l):=fun v W W' h hb=>by
 obtain⟨zs,h1,h2⟩:=h
 exact⟨zs,row_fr h1 (Fr.of hb (fun _=>False)) (fun k hk e=>e),h2⟩
def LimT (t:TnP):Prop:=t.now.length≤90000∧(∀p∈t.sn,p.1.length≤100000)∧t.sn.length≤100000
section
variable {w:World} {O:Tg} {s blocks m:Nat} {T:List TnP} {bs:List (Nat×TnP)} {c:CallP}
set_option maxRecDepth 100000 in
theorem id_batch_many (x:Nat×TnP) (h:IdM w O s blocks T m bs) (hc:c.Ok) (hf:fnd bs (c.hd/4294967296)=some x) (hk:checkH x.2.A (c.hd%4294967296) 2=0) (hn:100<c.oN):
 Calls Tryz.prog 47 #[.pointer (some ⟨s,0,none⟩),.agg c.cs] w (DoR s blocks w O (errA 2) T):=by
 obtain⟨cb,mo,sm,nb,es,ht⟩:=h.all x (fnd_mem hf).1
 have n1:decide ((100:Int)<(c.oN:Int))=true:=by simp;omega
 clear hn
 obtain⟨w0,hw0,ha,hcb,hqb⟩:=preX w c
 unfold CallP.cs at hcb⊢
 go_enter Tryz.func47,Tryz.ntmps47
 go_upto_region 1 with (fail)
 rw[hw0.out]
 clear hw0
 obtain⟨c0,c1,c2,c3,c4,c5,c6,c7,c8,c9,c10,c11,c12,c13⟩:=hcb.c14
 have HA:=zz ha
 have HQ:=zz hqb
 have HB:=zz hcb
 have M0:=h.stp (ctS ha) noF
 have HM:=zz M0
 have T0:=ht.stp (ctS ha) fun h=>h
 have HT:=zz T0
 have HTW:=zz ht
 have HH:=zz (holder_some 2 x cb mo sm nb es M0 hc hf T0)
 rw[hk] at HH
 have CO:=zz hc
 have HFN:=zz hf
 have HF:=zz fun W=>fails_any 2 W
 clear h ha hqb hcb hf hc M0 T0 ht hk
 go_wp2_with fail
 refine HH.out.mono ?_
 rintro e w9 ⟨rfl,hb9⟩
 have B9:=zz hb9
 clear hb9 HH
 have q9:=(HB.out.ab B9.out).cell (k:=9) rfl
 go_wp2_with fail
 refine (HF.out _).mono ?_
 rintro e w1 ⟨rfl,hb⟩
 have B1:Hid (Below w0.heap.size w0 w1):=zz (below_tr B9.out hb B9.out.size)
 have Q1:=zz (HQ.out.ab B1.out)
 have M1:=kpM HM B1
 have S1:=stKp s O HA B1
 clear hb HQ HM B1
 go_wp2_with (first
  | ((with_reducible refine stA 31 ?_ (ansE 2) ?_ Q1 ?_ ?_ (ansE_one _) ?_);rfl;rfl;rfl;rfl;intro wz QZ FZ))
 refine bodyPost_ret (ansR Tryz.results47 QZ rfl rfl) rfl ?_
 exact DoR.fl 2 0 0 0 M1 S1 FZ
set_option maxRecDepth 100000 in
theorem id_batch_bad (x:Nat×TnP) (h:IdM w O s blocks T m bs) (hc:c.Ok) (hf:fnd bs (c.hd/4294967296)=some x) (hk:checkH x.2.A (c.hd%4294967296) 2=0) (hn:c.oN≤100) (ho:OpsB w c.oA c.oN c.oC c.ops) (hbad:c.ops.all opOk=false):
 Calls Tryz.prog 47 #[.pointer (some ⟨s,0,none⟩),.agg c.cs] w (DoR s blocks w O (errA 2) T):=by
 obtain⟨cb,mo,sm,nb,es,ht⟩:=h.all x (fnd_mem hf).1
 have n1:decide ((100:Int)<(c.oN:Int))=false:=by simp;omega
 have n2:(c.oN:Int)≤100:=by omega
 have n3:¬100<c.oN:=by omega
 obtain⟨w0,hw0,ha,hcb,hqb⟩:=preX w c
 unfold CallP.cs at hcb⊢
 go_enter Tryz.func47,Tryz.ntmps47
 go_upto_region 1 with (fail)
 rw[hw0.out]
 clear hw0
 obtain⟨c0,c1,c2,c3,c4,c5,c6,c7,c8,c9,c10,c11,c12,c13⟩:=hcb.c14
 have HA:=zz ha
 have HQ:=zz hqb
 have HB:=zz hcb
 have M0:=h.stp (ctS ha) noF
 have HM:=zz M0
 have T0:=ht.stp (ctS ha) fun h=>h
 have HT:=zz T0
 have HTW:=zz ht
 have HH:=zz (holder_some 2 x cb mo sm nb es M0 hc hf T0)
 rw[hk] at HH
 have CO:=zz hc
 have HFN:=zz hf
 have HBD:=zz fun W h=>hasBad_any c.oA c.oN c.oC c.ops W h (by omega)
 have HO0:=zz (ho.ab ha)
 rw[hbad] at HBD
 have HF:=zz fun W=>fails_any 2 W
 clear h ha hqb hcb hf hc M0 T0 ht hk ho hn hbad
 go_wp2_with fail
 refine HH.out.mono ?_
 rintro e w9 ⟨rfl,hb9⟩
 have B9:=zz hb9
 clear hb9 HH
 have q9:=(HB.out.ab B9.out).cell (k:=9) rfl
 go_wp2_with fail
 refine (HBD.out _ (HO0.out.ab B9.out)).mono ?_
 rintro e w8 ⟨rfl,hb⟩
 have B8:=zz (below_tr B9.out hb B9.out.size)
 clear hb HBD
 go_wp2_with fail
 refine (HF.out _).mono ?_
 rintro e w1 ⟨rfl,hb⟩
 have B1:Hid (Below w0.heap.size w0 w1):=zz (below_tr B8.out hb B8.out.size)
 have Q1:=zz (HQ.out.ab B1.out)
 have M1:=kpM HM B1
 have S1:=stKp s O HA B1
 clear hb HQ HM B1
 go_wp2_with (first
  | ((with_reducible refine stA 31 ?_ (ansE 2) ?_ Q1 ?_ ?_ (ansE_one _) ?_);rfl;rfl;rfl;rfl;intro wz QZ FZ))
 refine bodyPost_ret (ansR Tryz.results47 QZ rfl rfl) rfl ?_
 exact DoR.fl 2 0 0 0 M1 S1 FZ
def batT (t:TnP) (S:Bk2):TnP:=⟨t.n,t.sec,t.q,S,t.A,t.sn,t.tu⟩
def batA (t:TnP) (ops:List OpP):AnsP:=bif overB (t.q:Int) (chg (doAll t.now ops)) (liveC t.sn) then errA 261 else errA 0
def batQ (t:TnP) (ops:List OpP):TnP:=bif overB (t.q:Int) (chg (doAll t.now ops)) (liveC t.sn) then t else batT t (doAll t.now ops)
set_option maxRecDepth 100000 in
theorem id_batch_ok (x:Nat×TnP) (h:IdM w O s blocks T m bs) (hc:c.Ok) (hf:fnd bs (c.hd/4294967296)=some x) (hk:checkH x.2.A (c.hd%4294967296) 2=0) (hn:c.oN≤100) (ho:OpsB w c.oA c.oN c.oC c.ops) (hbad:c.ops.all opOk=true) (hlm:LimT x.2):
 Calls Tryz.prog 47 #[.pointer (some ⟨s,0,none⟩),.agg c.cs] w (DoR s blocks w O (batA x.2 c.ops) (updT (c.hd/4294967296) (batQ x.2 c.ops) T)):=by
 obtain⟨cb,mo,sm,nb,es,ht⟩:=h.all x (fnd_mem hf).1
 have n1:decide ((100:Int)<(c.oN:Int))=false:=by simp;omega
 have n2:(c.oN:Int)≤100:=by omega
 have n3:¬100<c.oN:=by omega
 obtain⟨w0,hw0,ha,hcb,hqb⟩:=preX w c
 unfold CallP.cs at hcb⊢
 go_enter Tryz.func47,Tryz.ntmps47
 go_upto_region 1 with (fail)
 rw[hw0.out]
 clear hw0
 obtain⟨c0,c1,c2,c3,c4,c5,c6,c7,c8,c9,c10,c11,c12,c13⟩:=hcb.c14
 have HA:=zz ha
 have HQ:=zz hqb
 have HB:=zz hcb
 have M0:=h.stp (ctS ha) noF
 have HM:=zz M0
 have T0:=ht.stp (ctS ha) fun h=>h
 have HT:=zz T0
 have HTW:=zz ht
 have HH:=zz (holder_some 2 x cb mo sm nb es M0 hc hf T0)
 rw[hk] at HH
 have CO:=zz hc
 have HFN:=zz hf
 have HBD:=zz fun W h=>hasBad_any c.oA c.oN c.oC c.ops W h (by omega)
 have HO0:=zz (ho.ab ha)
 rw[hbad] at HBD
 have HOK:=zz hbad
 have HLM:=zz hlm
 have HMW:=zz h
 have HOKT:=zz (h.ok x (fnd_mem hf).1)
 have QOK:Hid ((1:Int)≤(x.2.q:Int)∧(x.2.q:Int)≤1000):=zz (by have h1:=h.ok x (fnd_mem hf).1;have:=h1.q1;have:=h1.q2;omega)
 clear h ha hqb hcb hf hc M0 T0 ht hk ho hn hbad hlm
 go_wp2_with fail
 refine HH.out.mono ?_
 rintro e w9 ⟨rfl,hb9⟩
 have B9:=zz hb9
 clear hb9 HH
 have q9:=(HB.out.ab B9.out).cell (k:=9) rfl
 go_wp2_with fail
 refine (HBD.out _ (HO0.out.ab B9.out)).mono ?_
 rintro e w8 ⟨rfl,hb⟩
 have B8:=zz (below_tr B9.out hb B9.out.size)
 clear hb HBD
 obtain⟨es0,l0,hm0,hv0,hp0⟩:=HTW.out.now
 have HC:=zz fun W h=>bokClone nb es0 W h
 have HL0:=zz hp0
 have HN0:Hid ((l0.map (·.1)).Nodup):=zz (by rw[←hv0.keys];exact hm0.nodup ky_K)
 have B80:=zz (below_tr HA.out B8.out HA.out.size)
 have V8:Hid (BvL w8 (batTg O w.heap.size) es0 l0):=zz (hv0.stp (Stp.bat B80.out (fun _=>False)))
 have MM8:=zz (hm0.ab B80.out)
 have d2:=(HT.out.box.ab B8.out).cell (k:=2) rfl
 clear hm0 hv0 hp0
 go_wp2_with fail
 refine (HC.out _ MM8.out).mono ?_
 rintro e w7 ⟨rfl,hm7,hb7⟩
 have B7:=zz (below_tr B8.out hb7 B8.out.size)
 have M7:=zz hm7
 have V7:Hid (BvL w7 (batTg O w.heap.size) es0 l0):=zz (V8.out.stp (Stp.of hb7 (fun _=>False) fun _ _=>rfl))
 have q9:=(HB.out.ab B7.out).cell (k:=9) rfl
 have NX:Hid (w.heap.size+1<w8.heap.size∧w0.heap.size≤w8.heap.size):=zz ⟨Nat.lt_of_lt_of_le HQ.out.lt B8.out.size,B8.out.size⟩
 clear hm7 hb7 HC d2
 obtain⟨nx,hnx⟩:∃nx,w8.heap.size=nx:=⟨_,rfl⟩
 rw[hnx] at M7 NX⊢
 have NXH:=zz hnx
 clear hnx
 go_wp2_with fail
 go_loopw [40] (fun z wr=>∃(k:Nat) (es:List (Ky×Value)),k≤c.oN∧z = .int .i64 (k:Int)∧MapB encStr kyOk wr nx es∧BvL wr (batTg O w.heap.size) es (doAll l0 (c.ops.take k))∧Below w0.heap.size w0 wr) (fun z _=>c.oN-(intOf z).toNat)
 case atStart=>exact⟨0,es0,Nat.zero_le _,rfl,M7.out,V7.out,B7.out⟩
 case round =>
  obtain⟨k,esk,hk,rfl,hmk,hvk,hbk⟩:=hrel
  have OL:=zz HO0.out.len
  have BK:=zz hbk
  have VK:=zz hvk
  have MK:=zz hmk
  by_cases hlt:k<c.oN
  · obtain ⟨o,ho⟩:∃o,c.ops[k]? = some o:=⟨_,List.getElem?_eq_getElem (by rw[OL.out];exact hlt)⟩
    obtain⟨ox,hox,hxl,o0,o1,o2,ik,iv⟩:=(HO0.out.ab hbk).cel k o ho
    rw[hox] at *
    obtain⟨dr,hdr⟩:∃b,o.d=b:=⟨_,rfl⟩
    rw[hdr] at o2
    have DR:=zz hdr
    have hlti:(k:Int)<(c.oN:Int):=by omega
    have hk0:(0:Int)≤(k:Int):=by omega
    have KL:=zz hlt
    have HO:=zz ho
    have IK:=zz ik
    have IV:=zz iv
    have OO:Hid (opOk o=true):=zz (List.all_eq_true.1 HOK.out o (List.mem_of_getElem? ho))
    have hb1:Below wr.heap.size wr (wr.alloc (.cells #[.slice o.k.A o.k.n o.k.c,.slice o.v.A o.v.n o.v.c,.bool dr] 61)):=alB
    have B1:=zz (below_tr hbk hb1 hbk.size)
    have M1:=zz (hmk.ab hb1)
    have V1:Hid (BvL (wr.alloc (.cells #[.slice o.k.A o.k.n o.k.c,.slice o.v.A o.v.n o.v.c,.bool dr] 61)) (batTg O w.heap.size) esk (doAll l0 (c.ops.take k))):=zz (hvk.stp (Stp.of hb1 (fun _=>False) fun _ _=>rfl))
    have hst:=run_str (ik.ab hb1) 32 5 9 Tryz.underlying32 Tryz.underlying5 Tryz.underlying9
    have NK:Hid (doAll l0 (c.ops.take (k+1))=doK (doAll l0 (c.ops.take k)) o):=zz (by rw[List.take_add_one,ho];exact doAll_snoc _ _ _)
    have OB:Hid (o.k.n≤32∧o.v.n≤1024):=zz (by have:=OO.out;unfold opOk at this;simp only[Bool.and_eq_true,decide_eq_true_eq] at this;exact⟨this.1.1.2,this.1.2⟩)
    have KO:Hid (kyOk (k8 o.k.l)):=zz (by unfold kyOk;rw[k8_len,ik.len];exact OB.out.1)
    have NXR:Hid (nx<wr.heap.size):=zz hmk.lt
    clear hk hmk hvk hbk hlt ho ik iv hb1 hdr
    have X1:Hid (CbB (wr.alloc (.cells #[.slice o.k.A o.k.n o.k.c,.slice o.v.A o.v.n o.v.c,.bool dr] 61)) wr.heap.size 61 #[.slice o.k.A o.k.n o.k.c,.slice o.v.A o.v.n o.v.c,.bool dr]):=zz (CbB.newI rfl)
    have HB1:Hid (Below wr.heap.size wr (wr.alloc (.cells #[.slice o.k.A o.k.n o.k.c,.slice o.v.A o.v.n o.v.c,.bool dr] 61))):=zz (alB)
    cases dr with
    | true =>
      go_wp2_with (first
       | (refine wpList_mapDel rfl (.tmp 46) (.tmp 49) rfl ky_K Tryz.underlying67 rfl M1.out (k8 o.k.l) KO.out rfl ?_
          intro w2 h2 g2 s2 b2
          have M2:=zz h2
          have V2:Hid (BvL w2 (batTg O w.heap.size) (dropL (k8 o.k.l) esk) (doAll l0 (c.ops.take (k+1)))):=zz (by
           rw[NK.out]
           unfold doK
           rw[DR.out]
           obtain⟨_,_,hh,_⟩:=M1.out
           exact (V1.out.gm hh g2).drop _)
          have B2:=zz (b2 _ _ B1.out NX.out.2)
          clear h2 g2 s2 b2))
      go_roundw
      case rel=>exact⟨k+1,_,KL.out,by go_num,M2.out,V2.out,B2.out⟩
      case measure=>simp[intOf];have:=KL.out;omega
    | false=>
      go_upto_region 12 with (fail)
      clear hst o0 o1 o2
      obtain⟨w1,hw1⟩:∃w1,wr.alloc (.cells #[.slice o.k.A o.k.n o.k.c,.slice o.v.A o.v.n o.v.c,.bool false] 61)=w1:=⟨_,rfl⟩
      rw[hw1] at B1 M1 V1 X1 HB1⊢
      clear hw1
      refine wp_wide3 [⟨50,IsR (.map (some nx)),[],false⟩,⟨51,IsR (.pointer (some ⟨wr.heap.size,0,none⟩)),[],false⟩,⟨52,IsR (.slice o.k.A o.k.n o.k.c),[1],false⟩,⟨53,IsR (.string (strOf o.k.l)),[2],false⟩,⟨54,IsR (.pointer (some ⟨wr.heap.size,1,none⟩)),[],false⟩,⟨55,IsR (.slice o.v.A o.v.n o.v.c),[4],false⟩,⟨56,OwR w1.heap.size o.v.l,[5],false⟩] (by kernel_rfl) (by kernel_rfl) rfl rfl rfl ⟨?_,?_,?_,?_,?_,?_,?_,trivial⟩ ?_
      · refine okA rfl rfl fun a W hA hb hd=>?_
        have h8:a.tmps[8]?.getD undef = .map (some nx):=gt' hA (by simp) rfl
        go_simp
      · refine okA rfl rfl fun a W hA hb hd=>?_
        have h10:a.tmps[10]?.getD undef = .pointer (some ⟨wr.heap.size,0,none⟩):=gt' hA (by simp) rfl
        go_simp
      · refine okA rfl rfl fun a W hA hb hd=>?_
        have h51:a.tmps[51]?.getD undef = .pointer (some ⟨wr.heap.size,0,none⟩):=gh (hd 1 (by simp) _ rfl)
        have hcc:W.cell? ⟨wr.heap.size,0,none⟩=some (.slice o.k.A o.k.n o.k.c):=(X1.out.ab hb).cell (k:=0) rfl
        go_simp
      · refine okA rfl rfl fun a W hA hb hd=>?_
        have h52:a.tmps[52]?.getD undef = .slice o.k.A o.k.n o.k.c:=gh (hd 2 (by simp) _ rfl)
        have hst:=run_str ((IK.out.ab HB1.out).ab hb) 32 5 9 Tryz.underlying32 Tryz.underlying5 Tryz.underlying9
        go_simp
      · refine okA rfl rfl fun a W hA hb hd=>?_
        have h10:a.tmps[10]?.getD undef = .pointer (some ⟨wr.heap.size,0,none⟩):=gt' hA (by simp) rfl
        go_simp
      · refine okA rfl rfl fun a W hA hb hd=>?_
        have h54:a.tmps[54]?.getD undef = .pointer (some ⟨wr.heap.size,1,none⟩):=gh (hd 4 (by simp) _ rfl)
        have hcc:W.cell? ⟨wr.heap.size,1,none⟩=some (.slice o.v.A o.v.n o.v.c):=(X1.out.ab hb).cell (k:=1) rfl
        go_simp
      · refine⟨rfl,OwR.mono _ _,fun a W hA hb hd=>takes_plain rfl ?_⟩
        have h55:a.tmps[55]?.getD undef = .slice o.v.A o.v.n o.v.c:=gh (hd 5 (by simp) _ rfl)
        refine yields_call 33 #[.slice o.v.A o.v.n o.v.c] (by go_simp) ((bclone_any o.v.A o.v.n o.v.c o.v.l W ((IV.out.ab HB1.out).ab hb) (by have:=OB.out.2;omega)).mono ?_)
        rintro e W2 ⟨v,rfl,hv,hb2⟩
        exact⟨v,rfl,hv.lower hb.size,hb2⟩
      intro vs W9 hR hF hb
      have e50:vs 50 = .map (some nx):=hR 0 _ rfl
      have e53:vs 53 = .string (strOf o.k.l):=hR 3 _ rfl
      simp only[List.map_cons,List.map_nil,List.foldl_cons,List.foldl_nil,List.length_cons,List.length_nil,List.drop_succ_cons,List.drop_zero,Act.put,List.setIfInBounds_toArray,List.set_cons_zero,List.set_cons_succ,e50,e53]
      have hv:OwB W9 w1.heap.size (vs 56) o.v.l:=hR 6 _ rfl
      have hi:=hv.imB (O:=batTg O w.heap.size) (by rw[IV.out.len];have:=OB.out.2;omega) (fun k hk=>by have h1:=NX.out.1;have h2:=NXR.out;have h3:=HB1.out.size;unfold batTg;rw[if_neg (by omega),if_neg (by omega)])
      generalize vs 56=q56 at *
      have hm9:=M1.out.ab hb
      have hv9:=V1.out.stp (Stp.of hb (fun _=>False) fun _ _=>rfl)
      have hb9:=below_tr B1.out hb B1.out.size
      have IM:=zz hi
      have M3:=zz hm9
      have V3:=zz hv9
      have B3:=zz hb9
      clear hi hm9 hv9 hb9 hR hF hb hv e50 e53
      refine wpList_mapPut rfl (.tmp 50) (.tmp 53) (.tmp 56) rfl ky_K Tryz.underlying67 rfl M3.out (k8 o.k.l) KO.out rfl q56 rfl ?_
      intro w2 h2 g2 s2 b2
      have M2:=zz h2
      have V2:Hid (BvL w2 (batTg O w.heap.size) (putL (k8 o.k.l) q56 esk) (doAll l0 (c.ops.take (k+1)))):=zz (by
       rw[NK.out]
       unfold doK
       rw[DR.out]
       obtain⟨_,_,hh,_⟩:=M3.out
       exact (V3.out.put IM.out).gm hh g2)
      have B2:=zz (b2 _ _ B3.out NX.out.2)
      clear h2 g2 s2 b2
      simp only[Act.put]
      go_wp2_with fail
      go_roundw
      case rel=>exact⟨k+1,_,KL.out,by go_num,M2.out,V2.out,B2.out⟩
      case measure=>simp[intOf];have:=KL.out;omega
  · have hke:k=c.oN:=by omega
    subst hke
    have hnw:=doAll_perm c.ops HL0.out HN0.out
    have NL0:(doAll x.2.now c.ops).length≤100000:=by have:=doAll_len c.ops x.2.now;have:=HLM.out.1;have:=OL.out;omega
    rw[List.take_of_length_le (by rw[OL.out];exact Nat.le_refl _)] at VK
    obtain⟨nw,hnw2⟩:∃nw,doAll x.2.now c.ops=nw:=⟨_,rfl⟩
    rw[hnw2] at hnw NL0
    have HPN:=zz hnw
    have NL:=zz NL0
    have NWH:=zz hnw2
    clear hk hmk hvk hbk hlt hnw NL0 hnw2
    go_upto_region 14 with (fail)
    refine wp_wide3 [⟨58,IsR (.pointer (some ⟨x.1,0,none⟩)),[],false⟩,⟨59,IsR (.pointer (some ⟨x.1,0,none⟩)),[0],false⟩,⟨60,IsR (.pointer (some ⟨x.1,1,none⟩)),[1],false⟩,⟨61,IsR (.int .i64 (x.2.q:Int)),[2],false⟩,⟨62,IsR (.map (some nx)),[],false⟩,⟨63,IsR (.int .i64 (chg nw)),[4],false⟩,⟨64,IsR (.pointer (some ⟨x.1,0,none⟩)),[],false⟩,⟨65,OwIR wr.heap.size (liveC x.2.sn),[6],false⟩] (by kernel_rfl) (by kernel_rfl) rfl rfl rfl ⟨?_,?_,?_,?_,?_,?_,?_,?_,trivial⟩ ?_
    · refine okA rfl rfl fun a W hA hb hd=>?_
      have h5:a.tmps[5]?.getD undef = .pointer (some ⟨x.1,0,none⟩):=gt' hA (by simp) rfl
      go_simp
    · refine okA rfl rfl fun a W hA hb hd=>?_
      have h58:a.tmps[58]?.getD undef = .pointer (some ⟨x.1,0,none⟩):=gh (hd 0 (by simp) _ rfl)
      go_simp
    · refine okA rfl rfl fun a W hA hb hd=>?_
      have h59:a.tmps[59]?.getD undef = .pointer (some ⟨x.1,0,none⟩):=gh (hd 1 (by simp) _ rfl)
      go_simp
    · refine okA rfl rfl fun a W hA hb hd=>?_
      have h60:a.tmps[60]?.getD undef = .pointer (some ⟨x.1,1,none⟩):=gh (hd 2 (by simp) _ rfl)
      have hcc:W.cell? ⟨x.1,1,none⟩=some (.int .i64 (x.2.q:Int)):=(HT.out.stp (Stp.of (below_tr BK.out hb BK.out.size) (fun _=>False) fun _ _=>rfl) fun h=>h).box.cell (k:=1) rfl
      go_simp
    · refine okA rfl rfl fun a W hA hb hd=>?_
      have h8:a.tmps[8]?.getD undef = .map (some nx):=gt' hA (by simp) rfl
      go_simp
    · refine⟨rfl,IsR.mono _,fun a W hA hb hd=>takes_plain rfl ?_⟩
      have h62:a.tmps[62]?.getD undef = .map (some nx):=gh (hd 4 (by simp) _ rfl)
      refine yields_call 82 #[.map (some nx)] (by go_simp) ((charge_any nx nw W (batTg O w.heap.size) ⟨esk,_,MK.out.ab hb,VK.out.stp (Stp.of hb (fun _=>False) fun _ _=>rfl),HPN.out⟩ NL.out).mono ?_)
      rintro e W2 ⟨rfl,hb2⟩
      exact⟨_,rfl,rfl,hb2⟩
    · refine okA rfl rfl fun a W hA hb hd=>?_
      have h5:a.tmps[5]?.getD undef = .pointer (some ⟨x.1,0,none⟩):=gt' hA (by simp) rfl
      go_simp
    · refine⟨rfl,OwIR.mono _ _,fun a W hA hb hd=>takes_plain rfl ?_⟩
      have h64:a.tmps[64]?.getD undef = .pointer (some ⟨x.1,0,none⟩):=gh (hd 6 (by simp) _ rfl)
      refine yields_call 83 #[.pointer (some ⟨x.1,0,none⟩)] (by go_simp) ((snapped_any (HT.out.stp (Stp.of (below_tr BK.out hb BK.out.size) (fun _=>False) fun _ _=>rfl) fun h=>h) HLM.out.2.1 HLM.out.2.2).mono ?_)
      rintro e W2 ⟨v,zs,rfl,hv,hp,hb2⟩
      exact⟨v,rfl,⟨zs,row_low hv hb.size,hp⟩,hb2⟩
    intro vs W9 hR hF hb
    have e58:vs 58 = .pointer (some ⟨x.1,0,none⟩):=hR 0 _ rfl
    have e59:vs 59 = .pointer (some ⟨x.1,0,none⟩):=hR 1 _ rfl
    have e60:vs 60 = .pointer (some ⟨x.1,1,none⟩):=hR 2 _ rfl
    have e61:vs 61 = .int .i64 (x.2.q:Int):=hR 3 _ rfl
    have e62:vs 62 = .map (some nx):=hR 4 _ rfl
    have e63:vs 63 = .int .i64 (chg nw):=hR 5 _ rfl
    have e64:vs 64 = .pointer (some ⟨x.1,0,none⟩):=hR 6 _ rfl
    simp only[List.map_cons,List.map_nil,List.foldl_cons,List.foldl_nil,List.length_cons,List.length_nil,List.drop_succ_cons,List.drop_zero,Act.put,List.setIfInBounds_toArray,List.set_cons_zero,List.set_cons_succ,e58,e59,e60,e61,e62,e63,e64]
    have hz0:OwIR wr.heap.size (liveC x.2.sn) (vs 65) W9:=hR 7 _ rfl
    generalize vs 65=q65 at *
    obtain⟨zs,hz1,hz2⟩:=hz0
    obtain⟨zA,zc,hzv⟩:=row_shape hz1
    subst hzv
    have HOV:=zz (qOver_any (x.2.q:Int) (chg nw) zA zs.length zc zs W9 (isRow_own hz1 fun z hz=>liveC_wf HLM.out.2.1 z (hz2.mem_iff.1 hz)) (by rw[hz2.length_eq];exact Nat.le_trans (liveC_len _) HLM.out.2.2) (by have:=QOK.out;omega) (by have:=chg_bd nw;have:=NL.out;omega))
    rw[overB_perm _ _ hz2] at HOV
    have BK9:=zz (below_tr BK.out hb BK.out.size)
    have MK9:=zz (MK.out.ab hb)
    have VK9:Hid (BvL W9 (batTg O w.heap.size) esk (doAll l0 c.ops)):=zz (VK.out.stp (Stp.of hb (fun _=>False) fun _ _=>rfl))
    obtain⟨dec,hdec⟩:∃d,overB (x.2.q:Int) (chg nw) (liveC x.2.sn)=d:=⟨_,rfl⟩
    rw[hdec] at HOV
    rw[←NWH.out] at hdec
    have HD:=zz hdec
    clear hR hF hb hz1 hz2 hdec
    go_wp2_with fail
    refine HOV.out.mono ?_
    rintro e w5 ⟨rfl,hb5⟩
    have B5:=zz (below_tr BK9.out hb5 BK9.out.size)
    have M5:=zz (MK9.out.ab hb5)
    have V5:Hid (BvL w5 (batTg O w.heap.size) esk (doAll l0 c.ops)):=zz (VK9.out.stp (Stp.of hb5 (fun _=>False) fun _ _=>rfl))
    clear hb5 HOV BK9 MK9 VK9
    cases dec with
    | true =>
      have PA:Hid (batA x.2 c.ops=errA 261):=zz (by unfold batA;rw[HD.out];rfl)
      have PT:Hid (updT (c.hd/4294967296) (batQ x.2 c.ops) T=T):=zz (by unfold batQ;rw[HD.out];exact updT_self HMW.out HFN.out)
      have HF:=zz fun W=>fails_any 261 W
      go_wp2_with fail
      refine (HF.out _).mono ?_
      rintro e w1 ⟨rfl,hb⟩
      have B1:Hid (Below w0.heap.size w0 w1):=zz (below_tr B5.out hb B5.out.size)
      have Q1:=zz (HQ.out.ab B1.out)
      have M1:=kpM HM B1
      have S1:=stKp s O HA B1
      clear hb HQ HM B1
      go_wp2_with (first
       | ((with_reducible refine stA 67 ?_ (ansE 261) ?_ Q1 ?_ ?_ (ansE_one _) ?_);rfl;rfl;rfl;rfl;intro wz QZ FZ))
      refine bodyPost_ret (ansR Tryz.results47 QZ rfl rfl) rfl ?_
      rw[PA.out,PT.out]
      exact DoR.fl 261 0 0 0 M1 S1 FZ
    | false=>
      have PA:Hid (batA x.2 c.ops=errA 0):=zz (by unfold batA;rw[HD.out];rfl)
      have PT:Hid (batQ x.2 c.ops=batT x.2 nw):=zz (by unfold batQ;rw[HD.out,NWH.out];rfl)
      have B05:=zz (below_tr HA.out B5.out HA.out.size)
      have st5:Stp (fun τ=>τ=(s,x.2.n)) w O w5 (batTg O w.heap.size):=Stp.bat B05.out _
      have t5:=HTW.out.stp (Stp.bat B05.out (fun _=>False)) fun h=>h
      have K5:=zz st5
      have T5:=zz t5
      have d2':=t5.box.cell (k:=2) rfl
      have f2':=t5.box.free 2
      clear st5 t5
      go_upto_region 17 with (fail)
      have md:=T5.out.mod (w1:=w5.setCell ⟨x.1,2,none⟩ (.map (some nx))) ((fr_set w5 x.1 2 (.map (some nx))).imp fun q e=>.inl e) (T5.out.box.set 2 (.map (some nx))) ⟨esk,_,M5.out,V5.out,HPN.out⟩ (by have h1:=NX.out.1;unfold batTg;rw[if_neg (by omega),if_neg (by omega)]) (T5.out.snm.same (Below.heap_setCell w5 ⟨x.1,2,none⟩ (.map (some nx)) sm fun e=>T5.out.apart.2.2.2 e.symm)) T5.out.sns
      have Q6:Hid (CbB (w5.setCell ⟨x.1,2,none⟩ (.map (some nx))) (w.heap.size+1) 44 (ansE 0)):=zz ((HQ.out.ab B5.out).far (fun e=>by have h1:=HQ.out.ab B5.out;rw[e] at h1;exact absurd rfl (cb_neX h1 T5.out.box (by decide))) _)
      have FR6:=zz (fr_set w5 x.1 2 (.map (some nx)))
      obtain⟨w6,hw6⟩:∃w6,w5.setCell ⟨x.1,2,none⟩ (.map (some nx))=w6:=⟨_,rfl⟩
      rw[hw6] at md Q6 FR6⊢
      obtain⟨md1,md2⟩:=md
      have XN:=(fnd_mem HFN.out).2
      rw[XN] at md1
      have K5':=K5.out
      rw[XN] at K5'
      have K6:=zz (K5'.tr md1)
      have OKT:TnOk (batT x.2 nw):=by have h1:=HOKT.out;exact⟨h1.n1,h1.n32,h1.sec,h1.q1,h1.q2⟩
      have M6:=zz (HMW.out.upd (t':=batT x.2 nw) HFN.out K6.out XN OKT ⟨_,_,_,_,_,md2⟩)
      have S6:Hid (Stp (fun τ=>τ.1=s) w O w6 (batTg O w.heap.size)):=zz (K6.out.imp fun τ e=>by rw[e])
      clear hw6 d2' f2' K5' md1 md2 XN OKT
      go_wp2_with (first
       | ((with_reducible refine stA 72 ?_ (ansE 0) ?_ Q6 ?_ ?_ (ansE_one _) ?_);rfl;rfl;rfl;rfl;intro wz QZ FZ))
      refine bodyPost_ret (ansR Tryz.results47 QZ rfl rfl) rfl ?_
      rw[PA.out,PT.out]
      exact DoR.flat 0 0 0 0 ⟨m,_,M6.out.stp (Stp.box FZ.out (by unfold batTg;rw[if_neg (by omega),if_pos rfl])) fun i e=>by have:=M6.out.pos;injection e with e;omega⟩ (S6.out.fresh FZ.out (Nat.le_succ _))
end
section
variable {P:Program} {Q:Exit→Act→World→Prop}
def Inv8 (tl:Nat→Option Nat) (hs:List Head) (a0:Act) (G:World→Prop) (Pre:Nat→World→Prop) (listed:Array Bool) (a:Act) (W:World):Prop:=
 Agree (hs.map (·.dst)) a0 a∧G W∧(∀j,listed.getD j false=false→Pre j W)∧∀(i:Nat) (h:Head),hs[i]? = some h→listed.getD i false=true→(∀u,tl i=some u→listed.getD u false=false)→h.R (a.eval (.tmp h.dst)) W
theorem wide8_any {l:List Oper} {hs:List Head} {a0:Act} {g:Nat} {G:World→Prop} {Pre:Nat→World→Prop} {S:Nat→World→World→Prop} {tl:Nat→Option Nat} (htd:∀(i:Nat) (h:Head),hs[i]? = some h→∀j∈h.deps,tl j=none∨tl j=some i) (hW:wideB l.toArray hs.length (hs.map (·.deps)).toArray=true) (hg:(l.drop hs.length).length=g)
 (hdst:∀(i:Nat) (h:Head) (o:Oper),hs[i]? = some h→l[i]? = some o→o.dst=some h.dst) (hlen:hs.length≤l.length) (hin:∀h∈hs,h.dst<a0.tmps.size) (hdis:(hs.map (·.dst)).Nodup)
 (hS:∀i j,i≠j→∀W W',S i W W'→Pre j W→Pre j W') (hG:∀i W W',S i W W'→G W→G W') (h0:∀i W,S i W W)
 (hm:∀(i:Nat) (h:Head),hs[i]? = some h→∀j,j≠i→tl i≠some j→∀v W W',h.R v W→S j W W'→h.R v W')
 (hy:∀(i:Nat) (h:Head) (o:Oper),hs[i]? = some h→l[i]? = some o→∀a W,Agree (hs.map (·.dst)) a0 a→G W→Pre i W→(∀j∈h.deps,∀(hj:Head),hs[j]? = some hj→hj.R (a.eval (.tmp hj.dst)) W)→Takes6 P l.toArray o a W (S i) h.R)
 (hk:∀a W,Agree (hs.map (·.dst)) a0 a→G W→(∀(i:Nat) (h:Head),hs[i]? = some h→tl i=none→h.R (a.eval (.tmp h.dst)) W)→wpList P l.toArray Q (l.drop hs.length) a W):
 ∀(f:Nat) (listed:Array Bool) (a:Act) (W:World),HeadInv .any l.toArray hs.length listed→unl listed hs.length=f→Inv8 tl hs a0 G Pre listed a W→wpAny P .any l.toArray Q (f+g) listed a W
 | 0,listed,a,W,inv,hu,hI=>by
   have hWd:=wide_of hW
   have hall:=unl_zero _ hu
   rw[Nat.zero_add]
   have hsq:=hWd.seq
   rw[←all_listed inv hWd.lt hall,show l.toArray.size-hs.length=g by rw[←hg];simp] at hsq
   have:=wpAny_of_seq (md:=.any) (Q':=Q) (P:=P) (l.drop hs.length) hs.length listed a W (fun j=>by simp[List.getElem?_drop]) (by rw[hg];exact hsq) (hk a W hI.1 hI.2.1 (fun i h hi ht=>hI.2.2.2 i h hi (hall i (lt_of_some hi)) (fun u hu=>by rw[ht] at hu;cases hu)))
   rwa [hg] at this
 | f + 1,listed,a,W,inv,hu,hI=>by
   have hWd:=wide_of hW
   obtain⟨i0,hi0,hun0,hlow0⟩:=unl_pos (listed:=listed) hs.length (by omega)
   have hsz:=inv.size
   have hun0':listed.getD i0 true=false:=getD_in (by have:=hWd.lt;omega) hun0
   rw[show f+1+g=(f+g)+1 by omega]
   have hne:i0∈Region.ready .any l.toArray listed:=by
    obtain⟨o,ho,hb⟩:=hWd.low i0 hi0
    exact mem_ready.2 ⟨hun0',o,ho,fun e he hbd=>hlow0 _ (hb e he hbd)⟩
   refine⟨fun e=>(by rw[e] at hne;cases hne),fun i hi=>?_⟩
   have hin2:i<hs.length:=by
    rcases Nat.lt_or_ge i hs.length with h | h
    · exact h
    · exact absurd hi (tail_waits hWd.sink hWd.chain hWd.lt inv _ i0 rfl hi0 hun0' i h)
   have hdep:∀d∈((hs.map (·.deps)).toArray.getD i []),listed.getD d false=true:=fun d hd=>by
    obtain⟨_,oi,hoi,hall⟩:=mem_ready.1 hi
    obtain⟨oj,hoj,e,he,hb,hon⟩:=Region.waitsFor_spec (hWd.dep i hin2 d hd).2
    have:oj=oi:=Option.some.inj (hoj.symm.trans hoi)
    subst this
    rw[←hon]
    exact hall e he hb
   have hrec:unl (listed.setIfInBounds i true) hs.length=f:=by
    have:=unl_set (listed:=listed) (i:=i) (by have:=hWd.lt;omega) (getD_both (mem_ready.1 hi).1) hs.length hin2
    omega
   have hiun:listed.getD i false=false:=getD_both (mem_ready.1 hi).1
   have hil:i<l.length:=by omega
   obtain⟨h,hh⟩:∃h,hs[i]? = some h:=⟨_,List.getElem?_eq_getElem hin2⟩
   obtain⟨o,ho⟩:∃o,l[i]? = some o:=⟨_,List.getElem?_eq_getElem hil⟩
   have hd:=hdst i h o hh ho
   have hmem:h∈hs:=List.mem_of_getElem? hh
   have hdep2:∀j∈h.deps,∀(hj:Head),hs[j]? = some hj→hj.R (a.eval (.tmp hj.dst)) W:=fun j hj hj' hjj=>by
    have hd1:((hs.map (·.deps)).toArray.getD i [])=h.deps:=by simp[hh]
    refine hI.2.2.2 j hj' hjj (hdep j (by rw[hd1];exact hj)) fun u hu=>?_
    rcases htd i h hh j hj with e | e
    · rw[e] at hu;cases hu
    · rw[e] at hu;injection hu with hu;rw[←hu];exact hiun
   have hself:∀v,(a.put (some h.dst) v).eval (.tmp h.dst)=v:=fun v=>by
    have hs1:h.dst<a.tmps.size:=by rw[hI.1.2.1];exact hin h hmem
    simp[Act.put,Act.eval,hs1]
   have hoth:∀v (j:Nat) (hj:Head),hs[j]? = some hj→j≠i→(a.put (some h.dst) v).eval (.tmp hj.dst)=a.eval (.tmp hj.dst):=fun v j hj hjj hij=>by
    refine eval_put_ne (fun e=>hij ?_) _ _
    have hjl:=lt_of_some hjj
    have e1:(hs.map (·.dst))[j]'(by simpa using hjl)=(hs.map (·.dst))[i]'(by simpa using hin2):=by
     rw[List.getElem?_eq_getElem hjl] at hjj
     rw[List.getElem?_eq_getElem hin2] at hh
     injection hjj with hjj
     injection hh with hh
     simp only[List.getElem_map,hjj,hh]
     exact e.symm
    exact (List.getElem_inj hdis).1 e1
   have hlis:∀(j:Nat),j≠i→(listed.setIfInBounds i true).getD j false=listed.getD j false:=fun j hij=>by
    rw[Array.getD_eq_getD_getElem?,Array.getElem?_setIfInBounds_ne (Ne.symm hij),Array.getD_eq_getD_getElem?]
   have key:∀v W',h.R v W'→S i W W'→wpAny P .any l.toArray Q (f+g) (listed.setIfInBounds i true) (a.put (some h.dst) v) W':=fun v W' hR hfr=>by
    refine wide8_any htd hW hg hdst hlen hin hdis hS hG h0 hm hy hk f _ _ _ (inv.set hi hin2) hrec ⟨hI.1.put (List.mem_map.2 ⟨h,hmem,rfl⟩) v,hG i _ _ hfr hI.2.1,fun j hj=>?_,fun j hj hjj hlj hut=>?_⟩
    · have hji:j≠i:=fun e=>by
       subst e
       rw[Array.getD_eq_getD_getElem?,Array.getElem?_setIfInBounds_self_of_lt (by have:=hWd.lt;omega)] at hj
       cases hj
      rw[hlis j hji] at hj
      exact hS i j (Ne.symm hji) _ _ hfr (hI.2.2.1 j hj)
    · by_cases hij:j=i
      · subst hij
        rw[hh] at hjj
        injection hjj with hjj
        subst hjj
        rw[hself]
        exact hR
      · rw[hoth v j hj hjj hij]
        rw[hlis j hij] at hlj
        have hli:(listed.setIfInBounds i true).getD i false=true:=by
         rw[Array.getD_eq_getD_getElem?,Array.getElem?_setIfInBounds_self_of_lt (by have:=hWd.lt;omega)];rfl
        have hne2:∀u,tl j=some u→u≠i:=fun u hu e=>by
         have:=hut u hu
         rw[e,hli] at this
         cases this
        exact hm j hj hjj i (Ne.symm hij) (fun e=>hne2 i e rfl) _ _ _ (hI.2.2.2 j hj hjj hlj fun u hu=>by rw[←hlis u (hne2 u hu)];exact hut u hu) hfr
   unfold wpOp
   rw[show l.toArray[i]? = some o by simpa using ho]
   simp only
   rcases hy i h o hh ho a W hI.1 hI.2.1 (hI.2.2.1 i hiun) hdep2 with ⟨hwt,hyl⟩ | ⟨hwt,hR⟩
   · rw[if_pos hwt]
     refine .inl ?_
     unfold Oper.wp
     rcases hyl with ⟨v,W',hr,hR,hb⟩ | ⟨fn,args,hr,hc⟩
     · rw[hr]
       simp only[Oper.upon,hd]
       exact key v W' hR hb
     · rw[hr]
       simp only[Oper.upon,hd]
       exact hc.mono fun e W' ⟨v,he,hR,hb⟩=>by subst he;exact key v W' hR hb
   · rw[if_neg (by rw[hwt];exact Bool.false_ne_true)]
     rw[hd]
     exact key undef W hR (h0 i W)
def StabN (N:Nat) (R:Value→World→Prop):Prop:=∀v W W',R v W→Below N W W'→R v W'
def Head.okT (P:Program) (ops:Array Oper) (hs:List Head) (a0:Act) (w0:World) (B:Nat) (tl:Nat→Bool) (i:Nat) (h:Head) (o:Oper):Prop:=
 o.dst=some h.dst∧True∧Mono h.R∧(i=B∨tl i=true∨StabN w0.heap.size h.R)∧(h.deps.all (fun j=>!tl j||decide (i=B))=true)∧∀a W,Agree (hs.map (·.dst)) a0 a→Below w0.heap.size w0 W→(∀j∈h.deps,∀(hj:Head),hs[j]? = some hj→hj.R (a.eval (.tmp hj.dst)) W)→
  (i≠B→Takes P ops o a W false h.R)∧(i=B→Takes6 P ops o a W (fun W W'=>Below w0.heap.size W W') h.R)
theorem wp_wideT {id:Nat} {a0:Act} {w0:World} {l:List Oper} (B:Nat) (tl:Nat→Bool) (hs:List Head) (hmx:P.follows .mixedOrders=true)
 (hB:wideB l.toArray hs.length (hs.map (·.deps)).toArray=true)
 (hlen:decide (hs.length≤l.length)=true) (hin:(hs.map (·.dst)).all (fun d=>decide (d<a0.tmps.size))=true) (hdis:decide ((hs.map (·.dst)).Nodup)=true) (htB:tl B=false)
 (hok:All5 (Head.okT P l.toArray hs a0 w0 B tl) 0 hs l)
 (hk:∀(vs:Tmp→Value) W,(∀(i:Nat) (h:Head),hs[i]? = some h→tl i=false→h.R (vs h.dst) W)→Below w0.heap.size w0 W→wpList P l.toArray Q (l.drop hs.length) ((hs.map (·.dst)).foldl (fun x d=>x.put (some d) (vs d)) a0) W):
 (Code.region id l.toArray true).wp P Q a0 w0:=by
 have hlen':=of_decide_eq_true hlen
 have hat:∀(i:Nat) (h:Head) (o:Oper),hs[i]? = some h→l[i]? = some o→Head.okT P l.toArray hs a0 w0 B tl i h o:=fun i h o hi ho=>by
  have:=hok.at i h o hi ho
  rwa [Nat.zero_add] at this
 have hunl:∀n,unl (Array.replicate l.toArray.size false) n=n:=fun n=>by
  induction n with
  | zero=>rfl
  | succ n ih=>rw[unl,ih,getD_replicate_false];simp
 have hop:∀(i:Nat) (h:Head),hs[i]? = some h→∃o,l[i]? = some o:=fun i h hi=>by
  have hil:=lt_of_some hi
  exact⟨_,List.getElem?_eq_getElem (by omega)⟩
 refine wp_region_any hmx ?_
 have hinv:HeadInv .any l.toArray hs.length (Array.replicate l.toArray.size false):=⟨by simp,fun j oj hj hl=>(by rw[getD_replicate_false] at hl;cases hl),fun t ht ht'=>getD_in (by simpa using ht') (getD_replicate_false _ _)⟩
 have h1:=wide8_any (P:=P) (Q:=Q) (l:=l) (hs:=hs) (a0:=a0) (g:=l.length-hs.length) (G:=fun W=>Below w0.heap.size w0 W) (Pre:=fun _ _=>True)
  (S:=fun i W W'=>if i=B then Below w0.heap.size W W' else Below W.heap.size W W') (tl:=fun i=>if tl i then some B else none)
  (fun i h hi j hj=>by
    obtain⟨o,ho⟩:=hop i h hi
    have hq:=List.all_eq_true.1 (hat i h o hi ho).2.2.2.2.1 j hj
    simp only[Bool.or_eq_true,Bool.not_eq_true',decide_eq_true_eq] at hq
    rcases hq with e | e
    · exact .inl (by rw[e];rfl)
    · cases htj:tl j with
      | false=>exact .inl rfl
      | true=>exact .inr (by rw[e];rfl))
  hB (by simp)
  (fun i h o hi ho=>(hat i h o hi ho).1) hlen'
  (fun h hh=>by
    have:=List.all_eq_true.1 hin h.dst (List.mem_map.2 ⟨h,hh,rfl⟩)
    exact of_decide_eq_true this) (of_decide_eq_true hdis) (fun _ _ _ _ _ _ _=>trivial)
  (fun i W W' hs1 hg=>by
    by_cases e:i=B
    · simp only[if_pos e] at hs1;exact hg.trans hs1
    · simp only[if_neg e] at hs1;exact below_tr hg hs1 hg.size)
  (fun i W=>by
    by_cases e:i=B
    · simp only[if_pos e];exact Below.refl _ _
    · simp only[if_neg e];exact Below.refl _ _)
  (fun i h hi j hji htj v W W' hR hs1=>by
    obtain⟨o,ho⟩:=hop i h hi
    have hq:=hat i h o hi ho
    by_cases e:j=B
    · simp only[if_pos e] at hs1
      rcases hq.2.2.2.1 with e2 | e2 | e2
      · exact absurd (e.trans e2.symm) hji
      · exact absurd (by rw[e2,e];rfl) htj
      · exact e2 v W W' hR hs1
    · simp only[if_neg e] at hs1
      exact hq.2.2.1 v W W' hR hs1)
  (fun i h o hi ho a W hA hg _ hd=>by
    have hq:=(hat i h o hi ho).2.2.2.2.2 a W hA hg hd
    by_cases e:i=B
    · simp only[if_pos e];exact hq.2 e
    · simp only[if_neg e];exact (hq.1 e).to6 fun W' hb=>hb)
  (fun a W hA hg hR=>by
    have:=hk (fun d=>a.eval (.tmp d)) W (fun i h hi ht=>hR i h hi (by rw[ht];rfl)) hg
    rw[←Agree.rebuild _ _ hA] at this
    exact this) hs.length (Array.replicate l.toArray.size false) a0 { w0 with drawn:=w0.drawn+1 } hinv (hunl _)
  ⟨Agree.refl _ _,(Below.refl _ w0).drew,fun _ _=>trivial,fun i h hi hl=>(by rw[getD_replicate_false] at hl;cases hl)⟩
 have hsz:l.toArray.size=hs.length+(l.length-hs.length):=by rw[List.size_toArray];omega
 have e:wpAny P .any l.toArray Q l.toArray.size=wpAny P .any l.toArray Q (hs.length+(l.length-hs.length)):=congrArg _ hsz
 rw[e]
 exact h1
end
end Go.Proofs.YtgdhinjhbjolgaaGreat
