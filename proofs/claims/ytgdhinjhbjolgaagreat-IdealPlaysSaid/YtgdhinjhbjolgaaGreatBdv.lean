/-
  Parts of the proof, joined.
-/
import Derived.Test.YtgdhinjhbjolgaaGreatBdu
import Derived.Test.YtgdhinjhbjolgaaGreatBdr
import Derived.Test.YtgdhinjhbjolgaaGreatBds
namespace Go.Proofs.YtgdhinjhbjolgaaGreat
set_option maxHeartbeats 4000000
open Go.RowKit
set_option linter.unusedVariables false
set_option linter.unusedSimpArgs false
def ReadR (w:World) (a:AnsP) (e:Ending) (w':World):Prop:=∃cs,e = .returned (.agg cs)∧AnsI w' cs a∧Below w.heap.size w w'
section
variable {w:World} {O:Tg} {r b cb:Nat} {t:TnP} {mv cv sv:Value} {l:Bk2} {c:CallP}
set_option maxRecDepth 100000 in
theorem rget_low (h:RtM w O r b t mv l cb cv sv) (hc:c.B w) (hkind:c.kind=12) (hn:c.key.n<1):
 Calls Tryz.prog 66 #[.pointer (some ⟨b,0,none⟩),.agg c.cs] w (ReadR w (errA 2)):=by
 have HF:=zz fun e W=>rerr_any e W
 have d1:decide ((c.key.n:Int)<1)=true:=by simp;omega
 have dN:decide (c.key.n<1)=true:=decide_eq_true hn
 obtain⟨w0,hw0,ha,hcb,hqb⟩:=preX w c
 have KD:=zz hkind
 clear hkind
 clear h hc hn
 unfold CallP.cs at hcb⊢
 go_enter Tryz.func66,Tryz.ntmps66
 go_upto_region 1 with (fail)
 rw[hw0.out]
 clear hw0
 have HA:=zz ha
 have Q0:=zz hqb
 have CBX:=zz hcb
 have c0:=cK KD hcb rfl
 have c10:=hcb.cell (k:=10) rfl
 have c4:=hcb.cell (k:=4) rfl
 clear ha hqb
 clear hcb
 go_wp2_with fail
 refine (HF.out _ _).mono ?_
 rintro e w8 ⟨rfl,hb⟩
 have Q8:=zz (Q0.out.ab hb)
 have B8:=zz (below_tr HA.out hb HA.out.size)
 clear hb
 go_wp2_with (first
  | ((with_reducible refine stA 38 ?_ (ansE 2) ?_ Q8 ?_ ?_ (ansE_one _) ?_);rfl;rfl;rfl;rfl;intro wz QZ FZ))
 refine bodyPost_ret (ansR Tryz.results66 QZ rfl rfl) rfl ?_
 exact⟨_,rfl,AnsI.err _ 2,FZ.out.below (fun k e=>e▸Nat.le_succ _) B8.out B8.out.size⟩
set_option maxRecDepth 100000 in
theorem rget_high (h:RtM w O r b t mv l cb cv sv) (hc:c.B w) (hkind:c.kind=12) (hn:32<c.key.n):
 Calls Tryz.prog 66 #[.pointer (some ⟨b,0,none⟩),.agg c.cs] w (ReadR w (errA 2)):=by
 have HF:=zz fun e W=>rerr_any e W
 have d1:decide ((c.key.n:Int)<1)=false:=by simp;omega
 have d2:decide ((32:Int)<(c.key.n:Int))=true:=by simp;omega
 have dM:decide (c.key.n<1)=false:=decide_eq_false (by omega)
 have dN:decide (32<c.key.n)=true:=decide_eq_true hn
 obtain⟨w0,hw0,ha,hcb,hqb⟩:=preX w c
 have KD:=zz hkind
 clear hkind
 clear h hc hn
 unfold CallP.cs at hcb⊢
 go_enter Tryz.func66,Tryz.ntmps66
 go_upto_region 1 with (fail)
 rw[hw0.out]
 clear hw0
 have HA:=zz ha
 have Q0:=zz hqb
 have CBX:=zz hcb
 have c0:=cK KD hcb rfl
 have c10:=hcb.cell (k:=10) rfl
 have c4:=hcb.cell (k:=4) rfl
 clear ha hqb
 clear hcb
 go_wp2_with fail
 refine (HF.out _ _).mono ?_
 rintro e w8 ⟨rfl,hb⟩
 have Q8:=zz (Q0.out.ab hb)
 have B8:=zz (below_tr HA.out hb HA.out.size)
 clear hb
 go_wp2_with (first
  | ((with_reducible refine stA 38 ?_ (ansE 2) ?_ Q8 ?_ ?_ (ansE_one _) ?_);rfl;rfl;rfl;rfl;intro wz QZ FZ))
 refine bodyPost_ret (ansR Tryz.results66 QZ rfl rfl) rfl ?_
 exact⟨_,rfl,AnsI.err _ 2,FZ.out.below (fun k e=>e▸Nat.le_succ _) B8.out B8.out.size⟩
set_option maxRecDepth 100000 in
theorem rscan_low (h:RtM w O r b t mv l cb cv sv) (hc:c.B w) (hkind:c.kind=13) (hn:c.n<0):
 Calls Tryz.prog 66 #[.pointer (some ⟨b,0,none⟩),.agg c.cs] w (ReadR w (errA 2)):=by
 have HF:=zz fun e W=>rerr_any e W
 have d1:decide (c.n<0)=true:=by simp;omega
 obtain⟨w0,hw0,ha,hcb,hqb⟩:=preX w c
 have KD:=zz hkind
 clear hkind
 clear h hc hn
 unfold CallP.cs at hcb⊢
 go_enter Tryz.func66,Tryz.ntmps66
 go_upto_region 1 with (fail)
 rw[hw0.out]
 clear hw0
 have HA:=zz ha
 have Q0:=zz hqb
 have CBX:=zz hcb
 have c0:=cK KD hcb rfl
 have c10:=hcb.cell (k:=10) rfl
 have c4:=hcb.cell (k:=4) rfl
 clear ha hqb
 clear hcb
 go_wp2_with fail
 refine (HF.out _ _).mono ?_
 rintro e w8 ⟨rfl,hb⟩
 have Q8:=zz (Q0.out.ab hb)
 have B8:=zz (below_tr HA.out hb HA.out.size)
 clear hb
 go_wp2_with (first
  | ((with_reducible refine stA 38 ?_ (ansE 2) ?_ Q8 ?_ ?_ (ansE_one _) ?_);rfl;rfl;rfl;rfl;intro wz QZ FZ))
 refine bodyPost_ret (ansR Tryz.results66 QZ rfl rfl) rfl ?_
 exact⟨_,rfl,AnsI.err _ 2,FZ.out.below (fun k e=>e▸Nat.le_succ _) B8.out B8.out.size⟩
set_option maxRecDepth 100000 in
theorem rscan_high (h:RtM w O r b t mv l cb cv sv) (hc:c.B w) (hkind:c.kind=13) (hn:100<c.n):
 Calls Tryz.prog 66 #[.pointer (some ⟨b,0,none⟩),.agg c.cs] w (ReadR w (errA 2)):=by
 have HF:=zz fun e W=>rerr_any e W
 have d1:decide (c.n<0)=false:=by simp;omega
 have d2:decide ((100:Int)<c.n)=true:=by simp;omega
 obtain⟨w0,hw0,ha,hcb,hqb⟩:=preX w c
 have KD:=zz hkind
 clear hkind
 clear h hc hn
 unfold CallP.cs at hcb⊢
 go_enter Tryz.func66,Tryz.ntmps66
 go_upto_region 1 with (fail)
 rw[hw0.out]
 clear hw0
 have HA:=zz ha
 have Q0:=zz hqb
 have CBX:=zz hcb
 have c0:=cK KD hcb rfl
 have c10:=hcb.cell (k:=10) rfl
 have c4:=hcb.cell (k:=4) rfl
 clear ha hqb
 clear hcb
 go_wp2_with fail
 refine (HF.out _ _).mono ?_
 rintro e w8 ⟨rfl,hb⟩
 have Q8:=zz (Q0.out.ab hb)
 have B8:=zz (below_tr HA.out hb HA.out.size)
 clear hb
 go_wp2_with (first
  | ((with_reducible refine stA 38 ?_ (ansE 2) ?_ Q8 ?_ ?_ (ansE_one _) ?_);rfl;rfl;rfl;rfl;intro wz QZ FZ))
 refine bodyPost_ret (ansR Tryz.results66 QZ rfl rfl) rfl ?_
 exact⟨_,rfl,AnsI.err _ 2,FZ.out.below (fun k e=>e▸Nat.le_succ _) B8.out B8.out.size⟩
set_option maxRecDepth 100000 in
theorem rget_none (h:RtM w O r b t mv l cb cv sv) (hc:c.B w) (hkind:c.kind=12) (hsn:t.sn.length≤100000) (h0:1≤c.key.n) (h1:c.key.n≤32) (hs:seenP t c.sn=none):
 Calls Tryz.prog 66 #[.pointer (some ⟨b,0,none⟩),.agg c.cs] w (ReadR w (errA 262)):=by
 have HF:=zz fun e W=>rerr_any e W
 have d1:decide ((c.key.n:Int)<1)=false:=by simp;omega
 have d2:decide ((32:Int)<(c.key.n:Int))=false:=by simp;omega
 have dM:decide (c.key.n<1)=false:=decide_eq_false (by omega)
 have dN:decide (32<c.key.n)=false:=decide_eq_false (by omega)
 obtain⟨w0,hw0,ha,hcb,hqb⟩:=preX w c
 have KD:=zz hkind
 clear hkind
 clear h0 h1
 unfold CallP.cs at hcb⊢
 go_enter Tryz.func66,Tryz.ntmps66
 go_upto_region 1 with (fail)
 rw[hw0.out]
 clear hw0
 have HA:=zz ha
 have Q0:=zz hqb
 have CBX:=zz hcb
 have c0:=cK KD hcb rfl
 have c10:=hcb.cell (k:=10) rfl
 have c4:=hcb.cell (k:=4) rfl
 have c7:=hcb.cell (k:=7) rfl
 clear ha hqb
 have SN:=zz (rseen_any c.sn (h.ab HA.out) hsn hc.ok.sn)
 have SE:=zz hs
 clear h hc hcb hs hsn
 go_wp2_with fail
 refine SN.out.mono ?_
 rintro e w1 ⟨hR,rfl⟩
 rcases hR with ⟨_,rfl⟩ | ⟨S,_,_,_,hS,_⟩
 · clear SN
   go_wp2_with fail
   refine (HF.out _ _).mono ?_
   rintro e w8 ⟨rfl,hb⟩
   have Q8:=zz (Q0.out.ab hb)
   have B8:=zz (below_tr HA.out hb HA.out.size)
   clear hb
   go_wp2_with (first
    | ((with_reducible refine stA 49 ?_ (ansE 262) ?_ Q8 ?_ ?_ (ansE_one _) ?_);rfl;rfl;rfl;rfl;intro wz QZ FZ))
   refine bodyPost_ret (ansR Tryz.results66 QZ rfl rfl) rfl ?_
   exact⟨_,rfl,AnsI.err _ 262,FZ.out.below (fun k e=>e▸Nat.le_succ _) B8.out B8.out.size⟩
 · rw[SE.out] at hS
   cases hS
set_option maxRecDepth 100000 in
theorem rscan_none (h:RtM w O r b t mv l cb cv sv) (hc:c.B w) (hkind:c.kind=13) (hsn:t.sn.length≤100000) (h0:0≤c.n) (h1:c.n≤100) (hs:seenP t c.sn=none):
 Calls Tryz.prog 66 #[.pointer (some ⟨b,0,none⟩),.agg c.cs] w (ReadR w (errA 262)):=by
 have HF:=zz fun e W=>rerr_any e W
 have d1:decide (c.n<0)=false:=by simp;omega
 have d2:decide ((100:Int)<c.n)=false:=by simp;omega
 obtain⟨w0,hw0,ha,hcb,hqb⟩:=preX w c
 have KD:=zz hkind
 clear hkind
 clear h0 h1
 unfold CallP.cs at hcb⊢
 go_enter Tryz.func66,Tryz.ntmps66
 go_upto_region 1 with (fail)
 rw[hw0.out]
 clear hw0
 have HA:=zz ha
 have Q0:=zz hqb
 have CBX:=zz hcb
 have c0:=cK KD hcb rfl
 have c10:=hcb.cell (k:=10) rfl
 have c4:=hcb.cell (k:=4) rfl
 have c7:=hcb.cell (k:=7) rfl
 clear ha hqb
 have SN:=zz (rseen_any c.sn (h.ab HA.out) hsn hc.ok.sn)
 have SE:=zz hs
 clear h hc hcb hs hsn
 go_wp2_with fail
 refine SN.out.mono ?_
 rintro e w1 ⟨hR,rfl⟩
 rcases hR with ⟨_,rfl⟩ | ⟨S,_,_,_,hS,_⟩
 · clear SN
   go_wp2_with fail
   refine (HF.out _ _).mono ?_
   rintro e w8 ⟨rfl,hb⟩
   have Q8:=zz (Q0.out.ab hb)
   have B8:=zz (below_tr HA.out hb HA.out.size)
   clear hb
   go_wp2_with (first
    | ((with_reducible refine stA 49 ?_ (ansE 262) ?_ Q8 ?_ ?_ (ansE_one _) ?_);rfl;rfl;rfl;rfl;intro wz QZ FZ))
   refine bodyPost_ret (ansR Tryz.results66 QZ rfl rfl) rfl ?_
   exact⟨_,rfl,AnsI.err _ 262,FZ.out.below (fun k e=>e▸Nat.le_succ _) B8.out B8.out.size⟩
 · rw[SE.out] at hS
   cases hS
set_option maxRecDepth 100000 in
theorem rget_no (h:RtM w O r b t mv l cb cv sv) (hc:c.B w) (hkind:c.kind=12) (hsn:t.sn.length≤100000) (h0:1≤c.key.n) (h1:c.key.n≤32) (S:Bk2) (hs:seenP t c.sn=some S) (hS:S.length≤90000) (hg:getK (k8 c.key.l) S=none):
 Calls Tryz.prog 66 #[.pointer (some ⟨b,0,none⟩),.agg c.cs] w (ReadR w (errA 7)):=by
 have HF:=zz fun e W=>rerr_any e W
 have d1:decide ((c.key.n:Int)<1)=false:=by simp;omega
 have d2:decide ((32:Int)<(c.key.n:Int))=false:=by simp;omega
 have dM:decide (c.key.n<1)=false:=decide_eq_false (by omega)
 have dN:decide (32<c.key.n)=false:=decide_eq_false (by omega)
 obtain⟨w0,hw0,ha,hcb,hqb⟩:=preX w c
 have KD:=zz hkind
 clear hkind
 clear h0 h1
 unfold CallP.cs at hcb⊢
 go_enter Tryz.func66,Tryz.ntmps66
 go_upto_region 1 with (fail)
 rw[hw0.out]
 clear hw0
 have HA:=zz ha
 have Q0:=zz hqb
 have CBX:=zz hcb
 have c0:=cK KD hcb rfl
 have c10:=hcb.cell (k:=10) rfl
 have c4:=hcb.cell (k:=4) rfl
 have c7:=hcb.cell (k:=7) rfl
 clear ha hqb
 have SN:=zz (rseen_any c.sn (h.ab HA.out) hsn hc.ok.sn)
 have SE:=zz hs
 have SL:=zz hS
 have GH:=zz hg
 have IK:=zz (hc.key.ab HA.out)
 clear h hc hcb hs hsn hS hg
 go_wp2_with fail
 refine SN.out.mono ?_
 rintro e w1 ⟨hR,rfl⟩
 rcases hR with ⟨hS,_⟩ | ⟨S',A1,c1,l1,hS,hm,rfl⟩
 · rw[SE.out] at hS
   cases hS
 rw[SE.out] at hS
 injection hS with hS
 subst hS
 have LL:Hid (l1.length≤90000):=zz (by have:=hm.prm.length_eq;have:=SL.out;omega)
 have HG:=zz (rget_any hm.prs.own hm.asc (by have:=LL.out;omega) IK.out)
 have GE:Hid (getK (k8 c.key.l) l1=getK (k8 c.key.l) S):=zz (getK_perm hm.prm hm.asc.nodup)
 clear hm SN
 go_wp2_with fail
 refine HG.out.mono ?_
 rintro e w2 ⟨hR,hb⟩
 have Q2:=zz (Q0.out.ab hb)
 have B2:=zz (below_tr HA.out hb HA.out.size)
 have HB:=zz hb
 rcases hR with ⟨hg,rfl⟩ | ⟨A2,n2,c2,u',hg,hu,rfl⟩
 · clear hg hb HG
   go_wp2_with (first
    | ((with_reducible refine stA 73 ?_ (ansE 7) ?_ Q2 ?_ ?_ (ansE_one _) ?_);rfl;rfl;rfl;rfl;intro wz QZ FZ))
   refine bodyPost_ret (ansR Tryz.results66 QZ rfl rfl) rfl ?_
   exact⟨_,rfl,AnsI.err _ 7,FZ.out.below (fun k e=>e▸Nat.le_succ _) B2.out B2.out.size⟩
 · rw[GE.out,GH.out] at hg
   cases hg
set_option maxRecDepth 100000 in
theorem rget_yes (h:RtM w O r b t mv l cb cv sv) (hc:c.B w) (hkind:c.kind=12) (hsn:t.sn.length≤100000) (h0:1≤c.key.n) (h1:c.key.n≤32) (S:Bk2) (hs:seenP t c.sn=some S) (hS:S.length≤90000) (u:List Nat) (hg:getK (k8 c.key.l) S=some u):
 Calls Tryz.prog 66 #[.pointer (some ⟨b,0,none⟩),.agg c.cs] w (ReadR w (valA u)):=by
 have HF:=zz fun e W=>rerr_any e W
 have d1:decide ((c.key.n:Int)<1)=false:=by simp;omega
 have d2:decide ((32:Int)<(c.key.n:Int))=false:=by simp;omega
 have dM:decide (c.key.n<1)=false:=decide_eq_false (by omega)
 have dN:decide (32<c.key.n)=false:=decide_eq_false (by omega)
 obtain⟨w0,hw0,ha,hcb,hqb⟩:=preX w c
 have KD:=zz hkind
 clear hkind
 clear h0 h1
 unfold CallP.cs at hcb⊢
 go_enter Tryz.func66,Tryz.ntmps66
 go_upto_region 1 with (fail)
 rw[hw0.out]
 clear hw0
 have HA:=zz ha
 have Q0:=zz hqb
 have CBX:=zz hcb
 have c0:=cK KD hcb rfl
 have c10:=hcb.cell (k:=10) rfl
 have c4:=hcb.cell (k:=4) rfl
 have c7:=hcb.cell (k:=7) rfl
 clear ha hqb
 have SN:=zz (rseen_any c.sn (h.ab HA.out) hsn hc.ok.sn)
 have SE:=zz hs
 have SL:=zz hS
 have GH:=zz hg
 have IK:=zz (hc.key.ab HA.out)
 clear h hc hcb hs hsn hS hg
 go_wp2_with fail
 refine SN.out.mono ?_
 rintro e w1 ⟨hR,rfl⟩
 rcases hR with ⟨hS,_⟩ | ⟨S',A1,c1,l1,hS,hm,rfl⟩
 · rw[SE.out] at hS
   cases hS
 rw[SE.out] at hS
 injection hS with hS
 subst hS
 have LL:Hid (l1.length≤90000):=zz (by have:=hm.prm.length_eq;have:=SL.out;omega)
 have HG:=zz (rget_any hm.prs.own hm.asc (by have:=LL.out;omega) IK.out)
 have GE:Hid (getK (k8 c.key.l) l1=getK (k8 c.key.l) S):=zz (getK_perm hm.prm hm.asc.nodup)
 clear hm SN
 go_wp2_with fail
 refine HG.out.mono ?_
 rintro e w2 ⟨hR,hb⟩
 have Q2:=zz (Q0.out.ab hb)
 have B2:=zz (below_tr HA.out hb HA.out.size)
 have HB:=zz hb
 rcases hR with ⟨hg,rfl⟩ | ⟨A2,n2,c2,u',hg,hu,rfl⟩
 · rw[GE.out,GH.out] at hg
   cases hg
 · rw[GE.out,GH.out] at hg
   injection hg with hg
   subst hg
   have HU:=zz ((hu.ab hb))
   have QL:Hid (w.heap.size+1<w2.heap.size):=zz Q2.out.lt
   clear hb HG hu
   go_wp2_with (first
    | ((with_reducible refine stA 73 ?_ (#[.int .i64 0,.int .u64 0,.int .u64 0,.slice A2 n2 c2,.slice none 0 0,.int .i64 0,.slice none 0 0]) ?_ Q2 ?_ ?_ (by simp[Value.oneCell']) ?_);rfl;rfl;rfl;rfl;intro wz QZ FZ))
   have US:AnsI wz (#[.int .i64 0,.int .u64 0,.int .u64 0,.slice A2 n2 c2,.slice none 0 0,.int .i64 0,.slice none 0 0]) (valA u):=by
    exact AnsI.box (w:=w2) ⟨A2,n2,c2,none,0,0,none,0,0,rfl,HU.out.own,PrU.nil _,U32.NsB.nil _ _⟩ FZ.out Q2.out
   refine bodyPost_ret (ansR Tryz.results66 QZ rfl rfl) rfl ?_
   exact⟨_,rfl,US,FZ.out.below (fun k e=>e▸Nat.le_succ _) B2.out B2.out.size⟩
set_option maxRecDepth 100000 in
theorem rscan_some (h:RtM w O r b t mv l cb cv sv) (hc:c.B w) (hkind:c.kind=13) (hsn:t.sn.length≤100000) (h0:0≤c.n) (h1:c.n≤100) (S:Bk2) (hs:seenP t c.sn=some S) (hS:S.length≤90000):
 Calls Tryz.prog 66 #[.pointer (some ⟨b,0,none⟩),.agg c.cs] w (ReadR w (prsA (prsK S (scanK c S)))):=by
 have HF:=zz fun e W=>rerr_any e W
 have d1:decide (c.n<0)=false:=by simp;omega
 have d2:decide ((100:Int)<c.n)=false:=by simp;omega
 have N0:=zz h0
 have N1:=zz h1
 obtain⟨w0,hw0,ha,hcb,hqb⟩:=preX w c
 have KD:=zz hkind
 clear hkind
 clear h0 h1
 unfold CallP.cs at hcb⊢
 go_enter Tryz.func66,Tryz.ntmps66
 go_upto_region 1 with (fail)
 rw[hw0.out]
 clear hw0
 have HA:=zz ha
 have Q0:=zz hqb
 have CBX:=zz hcb
 have c0:=cK KD hcb rfl
 have c10:=hcb.cell (k:=10) rfl
 have c4:=hcb.cell (k:=4) rfl
 have c11:=hcb.cell (k:=11) rfl
 have c12:=hcb.cell (k:=12) rfl
 have c13:=hcb.cell (k:=13) rfl
 have c7:=hcb.cell (k:=7) rfl
 clear ha hqb
 have SN:=zz (rseen_any c.sn (h.ab HA.out) hsn hc.ok.sn)
 have SE:=zz hs
 have SL:=zz hS
 have IF:=zz (hc.frm.ab HA.out)
 have IU:=zz (hc.upto.ab HA.out)
 clear h hc hcb hs hsn hS
 go_wp2_with fail
 refine SN.out.mono ?_
 rintro e w1 ⟨hR,rfl⟩
 rcases hR with ⟨hS,_⟩ | ⟨S',A1,c1,l1,hS,hm,rfl⟩
 · rw[SE.out] at hS
   cases hS
 rw[SE.out] at hS
 injection hS with hS
 subst hS
 have LL:Hid (l1.length≤90000):=zz (by have:=hm.prm.length_eq;have:=SL.out;omega)
 have HG:=zz (rrange_any c hm.prs.own (by have:=LL.out;omega) IF.out IU.out N0.out N1.out)
 have GE:Hid (prsK S (scanK c S)=rngL c l1):=zz (rngL_scan hm.asc hm.prm c)
 have RL:Hid ((rngL c l1).length≤1000000):=zz (by
  unfold rngL
  refine Nat.le_trans (List.length_take_le' _ _) (Nat.le_trans (List.length_filter_le _ _) ?_)
  have:=LL.out
  cases c.back <;> simp <;> omega)
 clear hm SN
 go_wp2_with fail
 refine HG.out.mono ?_
 rintro e w2 ⟨v2,rfl,hp,hb⟩
 have Q2:=zz (Q0.out.ab hb)
 have B2:=zz (below_tr HA.out hb HA.out.size)
 obtain⟨A2,c2,hv2⟩:=hp.sl
 obtain⟨n2,hn2⟩:∃n2,(rngL c l1).length=n2:=⟨_,rfl⟩
 rw[hn2] at hv2
 subst hv2
 have HP:=zz hp
 have NL:=zz Q0.out.lt
 clear hb HG hp hn2
 go_wp2_with (first
  | ((with_reducible refine stA 63 ?_ (#[.int .i64 0,.int .u64 0,.int .u64 0,.slice none 0 0,.slice A2 n2 c2,.int .i64 0,.slice none 0 0]) ?_ Q2 ?_ ?_ (by simp[Value.oneCell']) ?_);rfl;rfl;rfl;rfl;intro wz QZ FZ))
 have US:AnsI wz (#[.int .i64 0,.int .u64 0,.int .u64 0,.slice none 0 0,.slice A2 n2 c2,.int .i64 0,.slice none 0 0]) (prsA (prsK S (scanK c S))):=by
  rw[GE.out]
  exact AnsI.box (w:=w2) ⟨none,0,0,A2,n2,c2,none,0,0,rfl,OwB.nil _ _,HP.out.u RL.out,U32.NsB.nil _ _⟩ FZ.out Q2.out
 refine bodyPost_ret (ansR Tryz.results66 QZ rfl rfl) rfl ?_
 exact⟨_,rfl,US,FZ.out.below (fun k e=>e▸Nat.le_succ _) B2.out B2.out.size⟩
end
theorem opnT_ok {t:TnP} (h:TnOk t):TnOk (opnT t):=⟨h.n1,h.n32,h.sec,h.q1,h.q2⟩
def metB (d:List (Nat×Value)) (t:TnP):TnP:=if t.n∈d.map (·.1) then opnT t else t
def opnTg (O:Tg) (N s n:Nat):Tg:=fun k=>if k<N then O k else some (s,n)
theorem opnTg_lt {O:Tg} {N s n k:Nat} (h:k<N):opnTg O N s n k=O k:=by unfold opnTg;rw[if_pos h]
theorem opnTg_ge {O:Tg} {N s n k:Nat} (h:N≤k):opnTg O N s n k=some (s,n):=by unfold opnTg;rw[if_neg (by omega)]
structure OpnS (w:World) (O:Tg) (s m rb:Nat) (bs:List (Nat×TnP)) (bk:Nat) (d:List (Nat×Value)) (wr:World) (O1:Tg):Prop where
 rng:RngB u32V u32Ok wr m rb (bs.map fun x=>(x.2.n,ptrV x.1)) d
 st:Stp (fun τ=>τ.1=s) w O wr O1
 tn:∀x∈bs,TnB wr O1 s x.1 (metB d x.2)
 rt:O1 rb=some (s,0)
 box:CbB wr s 58 #[.int .i64 (bk:Int),.map (some m)]
theorem opn_round {w:World} {O:Tg} {s m rb bk:Nat} {bs:List (Nat×TnP)} {d:List (Nat×Value)} {wr w5:World} {O1:Tg} {x:Nat×TnP} {c sm:Nat}
 (h:OpnS w O s m rb bs bk d wr O1) (hx:x∈bs) (hnd:(bs.map fun x=>x.2.n).Nodup) (hok:∀x∈bs,TnOk x.2) (hpd:(x.2.n,ptrV x.1)∉d) (hs:s<w.heap.size) (hrb:w.heap.size≤rb)
 (hw:w.heap.size≤wr.heap.size)
 (hrng:RngB u32V u32Ok w5 m rb (bs.map fun x=>(x.2.n,ptrV x.1)) (d++[(x.2.n,ptrV x.1)])) (hfr:Fr wr w5 (fun k=>k=x.1∨k=rb)) (hc:wr.heap.size≤c) (hsm:wr.heap.size≤sm)
 (hbox:∀v3 v4 v5,CbB wr x.1 71 #[.string (strOf x.2.sec),.int .i64 (x.2.q:Int),v3,v4,v5,.int .u64 (x.2.sn.length:Int),.bool x.2.tu]→CbB w5 x.1 71 #[.string (strOf x.2.sec),.int .i64 (x.2.q:Int),v3,.pointer (some ⟨c,0,none⟩),.map (some sm),.int .u64 0,.bool x.2.tu])
 (hcap:CpA w5 0 c none []) (hmap:MapB u64V u64Ok w5 sm []):OpnS w O s m rb bs bk (d++[(x.2.n,ptrV x.1)]) w5 (opnTg O1 wr.heap.size s x.2.n):=by
 have hxd:x.2.n∉d.map (·.1):=fun hm=>by
  obtain⟨p,hp,hpn⟩:=List.mem_map.1 hm
  obtain⟨_,_,_,_,_,_,_,_,_,_,_,_,_,_,hsub,_⟩:=h.rng
  obtain⟨y,hy,rfl⟩:=List.mem_map.1 (hsub p hp)
  simp only at hpn
  obtain rfl:y=x:=nodup_one hnd hy hx hpn
  exact hpd hp
 have st2:Stp (fun τ=>τ=(s,x.2.n)∨τ=(s,0)) wr O1 w5 (opnTg O1 wr.heap.size s x.2.n):=⟨hfr.imp fun k hk=>by
  rcases hk with rfl | rfl
  · obtain⟨_,_,_,_,_,ht⟩:=h.tn x hx
    have:=ht.tb
    unfold metB at this
    rw[if_neg hxd] at this
    exact⟨_,this,.inl rfl⟩
  · exact⟨_,h.rt,.inr rfl⟩,fun k hk=>opnTg_lt hk⟩
 have hme:∀y∈bs,y.2.n≠x.2.n→metB (d++[(x.2.n,ptrV x.1)]) y.2=metB d y.2:=fun y hy hne=>by
  unfold metB
  rw[List.map_append]
  by_cases h1:y.2.n∈d.map (·.1)
  · rw[if_pos h1,if_pos (List.mem_append_left _ h1)]
  · rw[if_neg h1,if_neg]
    intro h2
    rcases List.mem_append.1 h2 with h2 | h2
    · exact h1 h2
    · exact hne (by simpa using h2)
 have hmn:∀t,(metB d t).n=t.n:=fun t=>by unfold metB;split <;> rfl
 refine⟨hrng,h.st.tr (st2.imp fun τ e=>by rcases e with rfl | rfl <;> rfl),fun y hy=>?_,?_,?_⟩
 · by_cases e:y.2.n=x.2.n
   · obtain rfl:y=x:=nodup_one hnd hy hx e
     obtain⟨c0,mo,sm0,nb,es,ht⟩:=h.tn y hx
     have e1:metB d y.2=y.2:=by unfold metB;rw[if_neg hxd]
     have e2:metB (d++[(y.2.n,ptrV y.1)]) y.2=opnT y.2:=by unfold metB;rw[if_pos (by simp)]
     rw[e1] at ht
     rw[e2]
     obtain⟨_,_,hnb,_⟩:=id ht.now
     exact⟨c,none,sm,nb,[],hbox _ _ _ ht.box,ht.now.stp ht.nowO st2,(st2.im hnb.lt ht.nowO).2,hcap,hmap,⟨fun p hp=>(by cases hp),fun i S hi=>(by simp[opnT] at hi)⟩,(opnTg_lt ht.box.lt).trans ht.tb,opnTg_ge hc,fun q hq=>(by cases hq),opnTg_ge hsm,fun e=>(by cases e)⟩
   · rw[hme y hy e]
     refine (h.tn y hy).stp st2 fun e3=>?_
     rw[hmn] at e3
     rcases e3 with e3 | e3
     · injection e3 with _ e3;exact e e3
     · injection e3 with _ e3;have:=(hok y hy).n1;omega
 · exact (st2.tg rb h.rng.lt).trans h.rt
 · refine h.box.fr hfr fun e=>?_
   rcases e with e | e
   · obtain⟨_,_,_,_,_,ht⟩:=h.tn x hx
     have:=ht.box
     rw[←e] at this
     exact absurd rfl (cb_neX h.box this (by decide))
   · omega
section
variable {w:World} {O:Tg} {s blocks m:Nat} {T:List TnP} {bs:List (Nat×TnP)}
set_option maxRecDepth 100000 in
theorem popen_any (h:IdM w O s blocks T m bs):Calls Tryz.prog 9 #[.pointer (some ⟨s,0,none⟩)] w fun e w'=>∃O',e = .returned (.int .i64 0)∧IdB w' O' s blocks (T.map opnT)∧Stp (fun τ=>τ.1=s) w O w' O':=by
 have HN:=zz (none_no s m _ w h.box)
 have c1:=h.box.cell (k:=1) rfl
 have MP:=zz h.map
 have HM:=zz h
 have ND:=zz h.nodup
 have HC:=zz fun W=>capsNew_any W
 have hmm:∀W:World,(Instr.makeMap 69 none).run Tryz.prog W = .ok (.map (some W.heap.size)) (W.alloc (.map #[] 0)):=fun _=>rfl
 clear h
 go_enter Tryz.func9,Tryz.ntmps9
 go_wp2_with fail
 refine HN.out.mono ?_
 rintro e w1 ⟨rfl,rfl⟩
 clear HN
 go_wp2_with (first
  | (refine wpList_mapRange rfl (.tmp 10) rfl Tryz.underlying56 rfl MP.out ?_
     intro w2 r2 b2 s2
     have R2:=zz r2
     have B2:=zz b2
     clear r2 b2 s2
     simp[Act.put]))
 clear c1
 obtain⟨rb,hrb⟩:∃rb,w.heap.size=rb:=⟨_,rfl⟩
 rw[hrb] at R2⊢
 have RB:=zz hrb
 clear hrb
 have S0:Hid (OpnS w O s m rb bs blocks [] w2 (opnTg O w.heap.size s 0)):=zz (by
  have st:Stp (fun _=>False) w O w2 (opnTg O w.heap.size s 0):=Stp.of B2.out _ fun k hk=>opnTg_lt hk
  refine⟨R2.out,st.imp fun t h=>h.elim,fun x hx=>?_,opnTg_ge (by rw[RB.out];exact Nat.le_refl _),HM.out.box.ab B2.out⟩
  have e1:metB [] x.2=x.2:=by unfold metB;simp
  rw[e1]
  exact (HM.out.all x hx).stp st fun h=>h)
 have W2:Hid (w.heap.size≤w2.heap.size):=zz B2.out.size
 go_loopg [] (bs.length) (fun k wr=>∃d O1,bs.length-d.length≤k∧OpnS w O s m rb bs blocks d wr O1∧w.heap.size≤wr.heap.size)
 case atStart=>exact⟨[],_,by simp,S0.out,W2.out⟩
 case round=>
  obtain⟨d,O1,hk,hs,hsz⟩:=hrel
  have HK:=zz hk
  have OS:=zz hs
  have SZ:=zz hsz
  rcases hs.rng.next u32_K 0 with ⟨hall,hrun⟩ | ⟨p,w3,hp,hd,hrun,hr2,hg2,hs2,hent,hbel⟩
  · have FIN:Hid (IdB wr O1 s blocks (T.map opnT)∧Stp (fun τ=>τ.1=s) w O wr O1):=zz (by
     refine⟨⟨m,bs.map fun x=>(x.1,opnT x.2),OS.out.box,?_,?_,fun y hy=>?_,fun y hy=>?_,(OS.out.st.tg s HM.out.box.lt).trans HM.out.os,(OS.out.st.tg m HM.out.map.lt).trans HM.out.om,HM.out.pos⟩,OS.out.st⟩
     · rw[List.map_map]
       exact OS.out.rng.mapB
     · rw[List.map_map]
       have:=HM.out.prm.map opnT
       rw[List.map_map] at this
       exact this
     · obtain⟨x,hx,rfl⟩:=List.mem_map.1 hy
       have:=OS.out.tn x hx
       have e1:metB d x.2=opnT x.2:=by
        unfold metB
        rw[if_pos (List.mem_map.2 ⟨_,hall _ (List.mem_map.2 ⟨x,hx,rfl⟩),rfl⟩)]
       rw[e1] at this
       exact this
     · obtain⟨x,hx,rfl⟩:=List.mem_map.1 hy
       exact opnT_ok (HM.out.ok x hx))
    clear hk hs hsz hall
    go_wp2_with fail
    go_ret
    exact⟨_,rfl,FIN.out⟩
  · obtain⟨x,hx,rfl⟩:=List.mem_map.1 hp
    have HX:=zz hx
    have HD:=zz hd
    have HR2:=zz hr2
    have HG2:=zz hg2
    have HS2:=zz hs2
    have HMM:Hid (d.length<bs.length):=zz (by have:=hr2.len_le;simp at this;omega)
    have XB:Hid (∃v3 v4 v5,CbB wr x.1 71 #[.string (strOf x.2.sec),.int .i64 (x.2.q:Int),v3,v4,v5,.int .u64 (x.2.sn.length:Int),.bool x.2.tu]):=zz (by
     obtain⟨c0,mo,sm0,nb,es,ht⟩:=hs.tn x hx
     have e1:metB d x.2=x.2:=by
      unfold metB
      rw[if_neg]
      intro hm
      obtain⟨p,hpp,hpn⟩:=List.mem_map.1 hm
      obtain⟨_,_,_,_,_,_,_,_,_,_,_,_,_,_,hsub,_⟩:=hs.rng
      obtain⟨y,hy,rfl⟩:=List.mem_map.1 (hsub p hpp)
      simp only at hpn
      obtain rfl:y=x:=nodup_one ND.out hy hx hpn
      exact hd hpp
     rw[e1] at ht
     exact⟨_,_,_,ht.box⟩)
    obtain⟨v3,v4,v5,hxb⟩:=XB.out
    have XR:Hid (x.1≠rb):=zz fun e=>by
     obtain⟨_,_,_,_,_,_,_,_,_,hh,_⟩:=hs.rng
     have hh2:=hxb
     unfold CbB at hh2
     rw[e,hh] at hh2
     cases hh2
    have XB3:=hxb.grown hg2 XR.out
    have HXB:=zz hxb
    have XBR:=zz XB3
    simp only[u32V,ptrV] at hrun hent
    clear hk hs hsz hp hd hr2 hg2 hs2 hbel hx hxb
    go_upto_region 6 with (fail)
    clear hrun hent
    go_wp2_with fail
    refine (HC.out _).mono ?_
    rintro e w4 ⟨rfl,hc4,hb4⟩
    have B4:=zz hb4
    have C4:=zz hc4
    have X4:=XBR.out.ab hb4
    have ha5:Below w4.heap.size w4 (w4.alloc (.map #[] 0)):=alB
    have X5:=zz (X4.ab ha5)
    have x3:=X5.out.cell (k:=3) rfl
    have x4:=X5.out.cell (k:=4) rfl
    have x5:=X5.out.cell (k:=5) rfl
    have f3:=X5.out.free 3
    have f4:=X5.out.free 4
    have f5:=X5.out.free 5
    clear hc4 hb4 X4 ha5
    have XM:Hid (x.1≠m):=zz fun e=>by
     obtain⟨es',cl,h6,_⟩:=OS.out.rng.mapB
     have h5:=HXB.out
     unfold CbB at h5
     rw[e,h6] at h5
     cases h5
    go_wp2_with fail
    have WS:=HS2.out
    have f1:Fr w3 ((((w4.alloc (.map #[] 0)).setCell ⟨x.1,3,none⟩ (.pointer (some ⟨w3.heap.size,0,none⟩))).setCell ⟨x.1,4,none⟩ (.map (some w4.heap.size))).setCell ⟨x.1,5,none⟩ (.int .u64 0)) (fun k=>k=x.1):=
     ((Fr.of (below_tr B4.out ((Below.refl w4.heap.size w4).alloc (Nat.le_refl _) (.map #[] 0)) B4.out.size) _).tr (fr_set _ _ _ _)).tr ((fr_set _ _ _ _).tr (fr_set _ _ _ _))
    have hbx:∀y3 y4 y5,CbB (w4.alloc (.map #[] 0)) x.1 71 #[.string (strOf x.2.sec),.int .i64 (x.2.q:Int),y3,y4,y5,.int .u64 (x.2.sn.length:Int),.bool x.2.tu]→CbB ((((w4.alloc (.map #[] 0)).setCell ⟨x.1,3,none⟩ (.pointer (some ⟨w3.heap.size,0,none⟩))).setCell ⟨x.1,4,none⟩ (.map (some w4.heap.size))).setCell ⟨x.1,5,none⟩ (.int .u64 0)) x.1 71 #[.string (strOf x.2.sec),.int .i64 (x.2.q:Int),y3,.pointer (some ⟨w3.heap.size,0,none⟩),.map (some w4.heap.size),.int .u64 0,.bool x.2.tu]:=fun y3 y4 y5 hb=>((hb.set 3 _).set 4 _).set 5 _
    have cA:CpA (w4.alloc (.map #[] 0)) 0 w3.heap.size none []:=CpA.ab ⟨⟨[],⟨C4.out.box,Nat.zero_le _,fun q hq=>(by cases hq),C4.out.nil,C4.out.le⟩,fun k=>by simp[getC,atH,nthH],by simp⟩,RightA.nil,by simp[aliveH,aliveF]⟩ ((Below.refl w4.heap.size w4).alloc (Nat.le_refl _) (.map #[] 0))
    have c5:=((cA.set X5.out (by decide) 3 (.pointer (some ⟨w3.heap.size,0,none⟩))).set (X5.out.set 3 _) (by decide) 4 (.map (some w4.heap.size))).set ((X5.out.set 3 _).set 4 _) (by decide) 5 (.int .u64 0)
    have xlt:x.1<w4.heap.size:=Nat.lt_of_lt_of_le XBR.out.lt B4.out.size
    have m5:MapB u64V u64Ok ((((w4.alloc (.map #[] 0)).setCell ⟨x.1,3,none⟩ (.pointer (some ⟨w3.heap.size,0,none⟩))).setCell ⟨x.1,4,none⟩ (.map (some w4.heap.size))).setCell ⟨x.1,5,none⟩ (.int .u64 0)) w4.heap.size []:=
     (MapB.new u64V u64Ok w4).same (((Below.heap_setCell _ ⟨x.1,5,none⟩ _ _ (by show w4.heap.size≠x.1;omega)).trans (Below.heap_setCell _ ⟨x.1,4,none⟩ _ _ (by show w4.heap.size≠x.1;omega))).trans (Below.heap_setCell _ ⟨x.1,3,none⟩ _ _ (by show w4.heap.size≠x.1;omega)))
    obtain⟨w5,hw5⟩:∃w5,((((w4.alloc (.map #[] 0)).setCell ⟨x.1,3,none⟩ (.pointer (some ⟨w3.heap.size,0,none⟩))).setCell ⟨x.1,4,none⟩ (.map (some w4.heap.size))).setCell ⟨x.1,5,none⟩ (.int .u64 0))=w5:=⟨_,rfl⟩
    rw[hw5] at f1 hbx c5 m5⊢
    have R5:=HR2.out.same (f1.block m HR2.out.mapB.lt (fun e=>XM.out e.symm)) (f1.block rb HR2.out.lt (fun e=>XR.out e.symm))
    have W5:w.heap.size≤w5.heap.size:=Nat.le_trans (Nat.le_trans SZ.out (Nat.le_of_eq WS.symm)) f1.size
    have RES:=zz (opn_round (w5:=w5) (c:=w3.heap.size) (sm:=w4.heap.size) OS.out HX.out ND.out HM.out.ok HD.out HM.out.box.lt (by rw[←RB.out];exact Nat.le_refl _) SZ.out R5 (((Fr.grown HG2.out).imp fun k e=>.inr (by injection e with e;exact e.symm)).tr (f1.imp fun k e=>.inl e)) (Nat.le_of_eq WS.symm) (Nat.le_trans (Nat.le_of_eq WS.symm) B4.out.size)
     (fun y3 y4 y5 hb=>hbx y3 y4 y5 (((hb.grown HG2.out XR.out).ab B4.out).ab ((Below.refl w4.heap.size w4).alloc (Nat.le_refl _) (.map #[] 0)))) c5 m5)
    have W5':=zz W5
    clear hw5 f1 hbx cA c5 xlt m5 R5 W5 WS x3 x4 x5 f3 f4 f5
    go_roundg (bs.length-(d.length+1))
    case measure=>have:=HMM.out;have:=HK.out;omega
    case rel=>exact⟨d++[(x.2.n,ptrV x.1)],_,by simp,RES.out,W5'.out⟩
end
theorem wpList_appHS {rest:List Oper} {ops:Array Oper} {o:Oper} {a:Act} {w:World} {Q:Exit→Act→World→Prop} (hgd:o.guard=none) (s x:Operand)
 (ho:o.op = .call { callee:=.builtin .append,args:=#[s,x],argTypes:=#[78,78] })
 {B G:Nat} {v:Value} {A:HL} (hown:w.ownsRow B 145 3 v A.length (hcs A)) (hs:a.eval s=v) (y:Hdl) (hx:a.eval x = .slice (some ⟨G,0,none⟩) 1 1) (hG:CbB w G 145 #[.int .u8 (y.r:Int),.int .u64 (y.up:Int),.bool y.on]) (hl:A.length≤100000) (hB:B≤w.heap.size)
 (h:∀v' w',w'.ownsRow B 145 3 v' (A.length+1) (hcs (A++[y]))→w.grownBy w' v.ownBlock→(v'.ownBlock=v.ownBlock∨v'.ownBlock=some w.heap.size)→wpList Tryz.prog ops Q rest (a.put o.dst v') w'):wpList Tryz.prog ops Q (o::rest) a w:=by
 obtain⟨i0,hi0,hz0,hz1,hz2⟩:=info_parts infoH
 obtain⟨v1,W1,hrun,r1,r2,_,r3⟩:=run_append_own_at (P:=Tryz.prog) w B 78 o.type 145 i0 _ 3 24 Tryz.underlying78 hi0 hz0 hz1 hz2 rfl (by decide) v A.length (hcs A) hown ⟨G,0,none⟩ 1 1 (hc1 y) rfl (row_at hG) (by simp[hc1,Value.oneCell']) (by simp only[maxLen];omega) (by omega) hB
 refine wpList_plain hgd fun K hK=>?_
 unfold Oper.wp execOp
 simp only[ho,resolve,invoke,builtin,Sem.run_bind,Sem.run_pure,Result.andThen_ok,List.map_toArray,List.map_cons,List.map_nil,hs,hx,hrun]
 refine hK _ _ (h v1 W1 ?_ r2 r3)
 rw[hcs_app]
 exact r1
def RcS (B g:Nat) (v:Value) (w:World) (u:Value) (A':HL) (e:Ending) (w':World):Prop:=
 e = .returned u∧∃v',RcB w' B g v' A'∧Fr w w' (fun k=>k=g∨v.ownBlock=some k)∧(v'.ownBlock=v.ownBlock∨∃k,v'.ownBlock=some k∧w.heap.size≤k)
theorem RcS.below {B g:Nat} {v:Value} {w:World} {u:Value} {A:HL} {e:Ending} {w':World} (h:RcB w B g v A) (he:e = .returned u) (hb:Below w.heap.size w w'):RcS B g v w u A e w':=⟨he,v,h.ab hb,Fr.of hb _,.inl rfl⟩
set_option maxRecDepth 100000 in
theorem rmake_anyS {B g r u:Nat} {v:Value} {A:HL} {w:World} (hc:RcB w B g v A) (hm:A.length<900):Calls Tryz.prog 88 #[.pointer (some ⟨g,0,none⟩),.int .u8 (r:Int),.int .u64 (u:Int)] w (RcS B g v w (.tuple #[.int .u64 ((putH A r u).1.1:Int),.int .i64 ((putH A r u).1.2:Int)]) (putH A r u).2):=by
 have HA:=zz (ralive_any hc (by omega))
 have HC:=zz hc
 unfold putH
 by_cases hf:64≤(aliveH A).length
 · rw[if_pos hf]
   have hfi:(64:Int)≤((aliveH A).length:Int):=by omega
   clear hc hm hf
   go_enter Tryz.func88,Tryz.ntmps88
   go_wp2_with fail
   refine HA.out.mono ?_
   rintro e w1 ⟨lv,rfl,hn,hb⟩
   obtain⟨C1,c1,rfl⟩:=row_shape hn
   have B1:=zz hb
   clear hn hb HA
   go_wp2_with fail
   go_ret2
   exact RcS.below HC.out rfl B1.out
 · rw[if_neg hf]
   have hfi:¬(64:Int)≤((aliveH A).length:Int):=by omega
   have HM:Hid (A.length≤100000):=zz (by omega)
   have hw:IntKind.u64.wrap ((A.length:Int)+1)=((A.length:Int)+1):=by
    have:=wide_u64 (A.length+1) (by omega)
    simpa using this
   have hwl:(A.length:Int)<1000:=by omega
   clear hc hm hf
   go_enter Tryz.func88,Tryz.ntmps88
   go_wp2_with fail
   refine HA.out.mono ?_
   rintro e w1 ⟨lv,rfl,hn,hb⟩
   obtain⟨C1,c1,rfl⟩:=row_shape hn
   have B1:=zz hb
   have D1:=zz (HC.out.ab hb)
   have ha:Below w1.heap.size w1 (w1.alloc (.cells #[.int .u8 (r:Int),.int .u64 (u:Int),.bool true] 145)):=alB
   have D2:=zz (D1.out.ab ha)
   have B2:=zz (below_tr B1.out ha B1.out.size)
   have GC:Hid (CbB (w1.alloc (.cells #[.int .u8 (r:Int),.int .u64 (u:Int),.bool true] 145)) w1.heap.size 145 #[.int .u8 (r:Int),.int .u64 (u:Int),.bool true]):=zz (CbB.new _ _ _)
   obtain⟨C2,c2,hv⟩:=D1.out.shape
   have hg:w1.cell? ⟨g,0,none⟩=some (.slice C2 A.length c2):=by
    have:=D1.out.box.cell (k:=0) rfl
    rw[hv] at this
    exact this
   have HV:=zz hv
   clear hn hb HA ha hv
   go_wp2_with (first
    | (refine wpList_appHS rfl (.tmp 16) (.tmp 20) rfl (B:=B) D2.out.own (by rw[HV.out];rfl) ⟨r,u,true⟩ rfl GC.out HM.out D2.out.low ?_
       intro v3 w3 h3 g3 o3
       obtain⟨C3,c3,hv3⟩:=row_shape h3
       subst hv3
       have R3:=zz h3
       have G3:=zz g3
       have O3:=zz o3
       have X3:=zz (D2.out.box.fr (Fr.grown g3) (fun e=>row_ne D2.out.own D2.out.box (by decide) e))
       have hf3:=X3.out.free 0
       have hx3:=X3.out.cell (k:=0) rfl
       have X4:=zz (X3.out.set 0 (.slice C3 (A.length+1) c3))
       clear h3 g3 o3))
   go_ret2
   have hfr:Fr w (w3.setCell ⟨g,0,none⟩ (.slice C3 (A.length+1) c3)) (fun k=>k=g∨v.ownBlock=some k):=((Fr.of B2.out _).tr ((Fr.grown G3.out).imp fun k hk=>.inr hk)).tr ((Fr.grown (grown_cell w3 g 0 _)).imp fun k hk=>.inl (by injection hk with hk;exact hk.symm))
   refine⟨by simp,_,⟨X4.out,?_,Nat.le_trans HC.out.low hfr.size⟩,hfr,O3.out.imp id fun e=>⟨_,e,B2.out.size⟩⟩
   have h4:=row_fr R3.out (Fr.grown (grown_cell w3 g 0 (.slice C3 (A.length+1) c3))) (fun k hk e=>row_ne R3.out X3.out (by decide) (by rw[hk];exact e.symm))
   rw[List.length_append,List.length_singleton]
   exact h4
set_option maxRecDepth 100000 in
theorem rattach_anyS {B g:Nat} {v:Value} {A:HL} {w:World} (hc:RcB w B g v A) (hm:A.length<900):Calls Tryz.prog 57 #[.pointer (some ⟨g,0,none⟩)] w (RcS B g v w (.tuple #[.int .u64 ((putH A 15 0).1.1:Int),.int .i64 ((putH A 15 0).1.2:Int)]) (putH A 15 0).2):=by
 have HM:=zz (rmake_anyS (r:=15) (u:=0) hc hm)
 clear hc hm
 generalize putH A 15 0=P at *
 obtain⟨⟨p1,p2⟩,A'⟩:=P
 try simp only at HM⊢
 go_enter Tryz.func57,Tryz.ntmps57
 go_wp2_with fail
 refine HM.out.mono ?_
 rintro e w1 hp
 have hp2:=zz hp
 obtain⟨rfl,_⟩:=hp
 clear HM
 go_wp2_with fail
 go_ret2
 exact hp2.out
set_option maxRecDepth 100000 in
theorem rgive_anyS {B g h r:Nat} {v:Value} {A:HL} {w:World} (hc:RcB w B g v A) (hm:A.length<900):Calls Tryz.prog 60 #[.pointer (some ⟨g,0,none⟩),.int .u64 (h:Int),.int .u8 (r:Int)] w (RcS B g v w (.tuple #[.int .u64 ((giveH A h r).1.1:Int),.int .i64 ((giveH A h r).1.2:Int)]) (giveH A h r).2):=by
 have HT:=zz (rat25_any (h:=h) hc (by omega))
 have HP:=zz fun W (hW:Below w.heap.size w W)=>rmake_anyS (r:=r) (u:=h) (hc.ab hW) hm
 have HC:=zz hc
 unfold AtR atP hagg at HT
 unfold giveH
 clear hc hm
 cases ha:atH A h with
 | none=>
   rw[ha] at HT
   clear HP ha
   go_enter Tryz.func60,Tryz.ntmps60
   go_wp2_with fail
   refine HT.out.mono ?_
   rintro e w1 ⟨rfl,hb⟩
   have B1:=zz hb
   clear hb HT
   go_wp2_with fail
   go_ret2
   exact RcS.below HC.out rfl (B1.out.alloc B1.out.size _)
 | some x=>
   rw[ha] at HT
   try simp only at HT⊢
   have d1:(bits .and .u8 (x.r:Int) 8==0)=noGive x.r:=rfl
   have d2:(bits .andNot .u8 (r:Int) (x.r:Int) != 0)=overR r x.r:=rfl
   generalize noGive x.r=b1 at *
   generalize overR r x.r=b2 at *
   clear ha
   cases b1
   · cases b2
     · simp only[Bool.or_self,cond_false]
       generalize putH A r h=P at *
       obtain⟨⟨p1,p2⟩,A'⟩:=P
       try simp only at HP⊢
       go_enter Tryz.func60,Tryz.ntmps60
       go_wp2_with fail
       refine HT.out.mono ?_
       rintro e w1 ⟨rfl,hb⟩
       have B2:=zz (hb.alloc hb.size (.cells #[.int .u8 (x.r:Int),.int .u64 (x.up:Int),.bool x.on] 145))
       clear hb HT
       go_wp2_with fail
       refine (HP.out _ B2.out).mono ?_
       rintro e w3 ⟨rfl,v',h1,h2,h3⟩
       have H1:=zz h1
       have H2:=zz ((Fr.of B2.out _).tr h2)
       have H3:=zz h3
       clear h1 h2 h3 HP
       go_wp2_with fail
       go_ret2
       exact⟨rfl,v',H1.out,H2.out,H3.out.imp id fun ⟨k,e,hk⟩=>⟨k,e,Nat.le_trans B2.out.size hk⟩⟩
     · go_enter Tryz.func60,Tryz.ntmps60
       go_wp2_with fail
       refine HT.out.mono ?_
       rintro e w1 ⟨rfl,hb⟩
       have B1:=zz hb
       clear hb HT HP
       go_wp2_with fail
       go_ret2
       exact RcS.below HC.out rfl (B1.out.alloc B1.out.size _)
   · go_enter Tryz.func60,Tryz.ntmps60
     go_wp2_with fail
     refine HT.out.mono ?_
     rintro e w1 ⟨rfl,hb⟩
     have B1:=zz hb
     clear hb HT HP
     go_wp2_with fail
     go_ret2
     exact RcS.below HC.out rfl (B1.out.alloc B1.out.size _)
theorem RtM.capS {w w1:World} {O:Tg} {r b c:Nat} {t:TnP} {mv cv sv:Value} {l:Bk2} {u:Value} {A':HL} {e:Ending} (h:RtM w O r b t mv l c cv sv) (hr:RcS 0 c cv w u A' e w1) (ha:RightA A'):
 e = .returned u∧∃cv',RtM w1 (opnTg O w.heap.size r t.n) r b (setA t A') mv l c cv' sv∧Stp (fun τ=>τ=(r,t.n)) w O w1 (opnTg O w.heap.size r t.n):=by
 obtain⟨he,cv',h1,h2,h3⟩:=hr
 refine⟨he,cv',?_⟩
 have st:Stp (fun τ=>τ=(r,t.n)) w O w1 (opnTg O w.heap.size r t.n):=⟨h2.imp fun k hk=>by
  rcases hk with rfl | hk
  · exact⟨_,h.tc,rfl⟩
  · exact⟨_,h.tv k hk,rfl⟩,fun k hk=>opnTg_lt hk⟩
 refine⟨⟨?_,h.now.stp st,h1,ha,?_,(opnTg_lt h.box.lt).trans h.tb,(opnTg_lt h.caps.box.lt).trans h.tc,fun g hg=>?_,fun g hg=>?_⟩,st⟩
 · refine h.box.fr h2 fun e=>?_
   rcases e with e | e
   · exact absurd e (cb_neX h.box h.caps.box (by decide))
   · exact row_ne h.caps.own h.box (by decide) e
 · obtain⟨vs,r1,r2,r3⟩:=h.sns
   refine⟨vs,row_fr r1 h2 (fun g hg e=>?_),r2,fun i q p hq hp=>?_⟩
   · rcases e with e | e
     · exact row_ne r1 h.caps.box (by decide) (by rw[hg,e])
     · exact row_ne2 h.caps.own r1 (by decide) g hg e
   · obtain⟨a1,l9,a2⟩:=r3 i q p hq hp
     exact⟨a1,l9,a2.stp st⟩
 · rcases h3 with e | ⟨k,e,hk⟩
   · rw[e] at hg
     exact (opnTg_lt (row_ltR h.caps.own g hg)).trans (h.tv g hg)
   · rw[e] at hg
     injection hg with hg
     subst hg
     exact opnTg_ge hk
 · obtain⟨xs,hs⟩:=h.sns.own
   exact (opnTg_lt (row_ltR hs g hg)).trans (h.ts g hg)
theorem RtM.turnS {w w1:World} {O:Tg} {r b c:Nat} {t:TnP} {mv cv sv:Value} {l:Bk2} (h:RtM w O r b t mv l c cv sv) (k:Fr w w1 (fun q=>q=b)) (tu:Bool)
 (hb:CbB w1 b 83 #[.int .u32 (t.n:Int),.string (strOf t.sec),.int .i64 (t.q:Int),mv,.pointer (some ⟨c,0,none⟩),sv,.bool tu]):
 RtM w1 O r b (setTu t tu) mv l c cv sv∧Stp (fun τ=>τ=(r,t.n)) w O w1 O:=by
 have st:Stp (fun τ=>τ=(r,t.n)) w O w1 O:=⟨k.imp fun q hq=>⟨_,hq▸h.tb,rfl⟩,fun _ _=>rfl⟩
 refine⟨⟨hb,h.now.stp st,h.caps.fr k (fun e=>absurd e (cb_neX h.caps.box h.box (by decide))) (fun g hg e=>row_ne h.caps.own h.box (by decide) (by rw[hg,e])),h.ra,?_,h.tb,h.tc,h.tv,h.ts⟩,st⟩
 obtain⟨vs,r1,r2,r3⟩:=h.sns
 refine⟨vs,row_fr r1 k (fun g hg e=>row_ne r1 h.box (by decide) (by rw[hg,e])),r2,fun i q p hq hp=>?_⟩
 obtain⟨a1,l9,a2⟩:=r3 i q p hq hp
 exact⟨a1,l9,a2.stp st⟩
section
variable {w:World} {O:Tg} {r blocks:Nat} {T:List TnP} {av:Value} {bs:List (Nat×TnP)} {c:CallP}
set_option maxRecDepth 100000 in
theorem rat_none (h:RfM w O r blocks T av bs) (hl:bs.length≤100000) (hc:c.B w) (hf:fnd bs c.ten=none):
 Calls Tryz.prog 30 #[.pointer (some ⟨r,0,none⟩),.agg c.cs] w (RdR r blocks w O (errA 7) (T)):=by
 have HF:=zz fun e W=>rerr_any e W
 have HW:=zz h
 have HLN:=zz hl
 have HFN:=zz hf
 obtain⟨w0,hw0,ha,hcb,hqb⟩:=preX w c
 clear h hl hc hf
 unfold CallP.cs at hcb⊢
 go_enter Tryz.func30,Tryz.ntmps30
 go_upto_region 1 with (fail)
 rw[hw0.out]
 clear hw0
 have HA:=zz ha
 have Q0:=zz hqb
 have CBX:=zz hcb
 have c1:=hcb.cell (k:=1) rfl
 clear ha hqb
 have M0:=zz (HW.out.stp (ctS HA.out) noF)
 have NP:Hid (0<r):=zz HW.out.pos
 have HFD:=zz (rfind_any c.ten M0.out HLN.out)
 rw[HFN.out] at HFD
 clear hcb
 go_wp2_with fail
 simp only[Option.map_none] at HFD
 refine HFD.out.mono ?_
 rintro e w1 ⟨rfl,rfl⟩
 clear HFD
 go_wp2_with fail
 refine (HF.out _ _).mono ?_
 rintro e w8 ⟨rfl,hb⟩
 have Q8:=zz (Q0.out.ab hb)
 have S8:=stKp r O HA (zz hb)
 have M8:=zz (M0.out.ab hb)
 clear hb
 go_wp2_with (first
  | ((with_reducible refine stA 13 ?_ (ansE 7) ?_ Q8 ?_ ?_ (ansE_one _) ?_);rfl;rfl;rfl;rfl;intro wz QZ FZ))
 refine bodyPost_ret (ansR Tryz.results30 QZ rfl rfl) rfl ?_
 exact RdR.er 7 M8 S8 FZ (cutTg_at (Nat.le_succ _)) NP
set_option maxRecDepth 100000 in
theorem rat_sec (x:Nat×TnP) (h:RfM w O r blocks T av bs) (hl:bs.length≤100000) (hc:c.B w) (hf:fnd bs c.ten=some x) (hs:c.sec.l≠x.2.sec):
 Calls Tryz.prog 30 #[.pointer (some ⟨r,0,none⟩),.agg c.cs] w (RdR r blocks w O (errA 260) (T)):=by
 have HF:=zz fun e W=>rerr_any e W
 have HW:=zz h
 have HLN:=zz hl
 obtain⟨mv,l,cb,cv,sv,ht⟩:=h.all x (fnd_mem hf).1
 have HT:=zz ht
 have HFN:=zz hf
 have HS:=zz (hc.sec)
 have SB:=zz (h.ok x (fnd_mem hf).1).sec
 have NS:=zz hs
 obtain⟨w0,hw0,ha,hcb,hqb⟩:=preX w c
 clear h hl hc hf hs ht
 unfold CallP.cs at hcb⊢
 go_enter Tryz.func30,Tryz.ntmps30
 go_upto_region 1 with (fail)
 rw[hw0.out]
 clear hw0
 have HA:=zz ha
 have Q0:=zz hqb
 have CBX:=zz hcb
 have c1:=hcb.cell (k:=1) rfl
 have c2:=hcb.cell (k:=2) rfl
 clear ha hqb
 have M0:=zz (HW.out.stp (ctS HA.out) noF)
 have NP:Hid (0<r):=zz HW.out.pos
 have T0:=zz (HT.out.stp (ctS HA.out) fun h=>h)
 have HFD:=zz (rfind_any c.ten M0.out HLN.out)
 rw[HFN.out] at HFD
 have d1:w0.cell? ⟨x.1,1,none⟩=some (.string (strOf x.2.sec)):=T0.out.box.cell (k:=1) rfl
 have s1:=fun k=>run_str ((HS.out.ab HA.out).drewN k) 32 5 9 Tryz.underlying32 Tryz.underlying5 Tryz.underlying9
 have e1:((strOf c.sec.l).toList==(strOf x.2.sec).toList)=false:=by rw[str_eqI HS.out.2 SB.out];exact decide_eq_false NS.out
 clear hcb
 go_wp2_with fail
 simp only[Option.map_some] at HFD
 refine HFD.out.mono ?_
 rintro e w1 ⟨rfl,rfl⟩
 clear HFD
 go_wp2_with fail
 go_quiet (fail)
 have BQ:Hid (Below w.heap.size w (w0.drewN nq)):=zz (bel_drewN HA.out nq)
 have QQ:=zz (Q0.out.ab (bel_drewN (Below.refl w0.heap.size w0) nq))
 have MQ:=zz (M0.out.ab (bel_drewN (Below.refl w0.heap.size w0) nq))
 go_wp2_with fail
 refine (HF.out _ _).mono ?_
 rintro e w8 ⟨rfl,hb⟩
 have Q8:=zz (QQ.out.ab hb)
 have S8:Hid (Stp (fun τ=>τ.1=r) w O w8 (cutTg O w.heap.size)):=zz ((Stp.cut BQ.out _).ab hb)
 have M8:=zz (MQ.out.ab hb)
 clear hb
 go_wp2_with (first
  | ((with_reducible refine stA 23 ?_ (ansE 260) ?_ Q8 ?_ ?_ (ansE_one _) ?_);rfl;rfl;rfl;rfl;intro wz QZ FZ))
 refine bodyPost_ret (ansR Tryz.results30 QZ rfl rfl) rfl ?_
 exact RdR.er 260 M8 S8 FZ (cutTg_at (Nat.le_succ _)) NP
set_option maxRecDepth 100000 in
theorem rat_full (x:Nat×TnP) (h:RfM w O r blocks T av bs) (hl:bs.length≤100000) (hc:c.B w) (hf:fnd bs c.ten=some x) (hs:c.sec.l=x.2.sec) (hA:x.2.A.length<900) (A':HL) (hp:putH x.2.A 15 0=((0,9),A')):
 Calls Tryz.prog 30 #[.pointer (some ⟨r,0,none⟩),.agg c.cs] w (RdR r blocks w O (errA 9) (updT c.ten (attT x.2) T)):=by
 have HF:=zz fun e W=>rerr_any e W
 have HW:=zz h
 have HLN:=zz hl
 obtain⟨mv,l,cb,cv,sv,ht⟩:=h.all x (fnd_mem hf).1
 have HT:=zz ht
 have HFN:=zz hf
 have HS:=zz (hc.sec)
 have SB:=zz (h.ok x (fnd_mem hf).1).sec
 have OKX:=zz (h.ok x (fnd_mem hf).1)
 have XN:=zz (fnd_mem hf).2
 have NS:=zz hs
 have HAL:=zz hA
 have PE:=zz hp
 obtain⟨w0,hw0,ha,hcb,hqb⟩:=preX w c
 clear h hl hc hf hs ht hp hA
 unfold CallP.cs at hcb⊢
 go_enter Tryz.func30,Tryz.ntmps30
 go_upto_region 1 with (fail)
 rw[hw0.out]
 clear hw0
 have HA:=zz ha
 have Q0:=zz hqb
 have CBX:=zz hcb
 have c1:=hcb.cell (k:=1) rfl
 have c2:=hcb.cell (k:=2) rfl
 clear ha hqb
 have M0:=zz (HW.out.stp (ctS HA.out) noF)
 have NP:Hid (0<r):=zz HW.out.pos
 have T0:=zz (HT.out.stp (ctS HA.out) fun h=>h)
 have HFD:=zz (rfind_any c.ten M0.out HLN.out)
 rw[HFN.out] at HFD
 have d1:w0.cell? ⟨x.1,1,none⟩=some (.string (strOf x.2.sec)):=T0.out.box.cell (k:=1) rfl
 have d4:w0.cell? ⟨x.1,4,none⟩=some (.pointer (some ⟨cb,0,none⟩)):=T0.out.box.cell (k:=4) rfl
 have s1:=fun k=>run_str ((HS.out.ab HA.out).drewN k) 32 5 9 Tryz.underlying32 Tryz.underlying5 Tryz.underlying9
 have e1:((strOf c.sec.l).toList==(strOf x.2.sec).toList)=true:=by rw[str_eqI HS.out.2 SB.out];exact decide_eq_true NS.out
 have HAT:=zz fun W (hb:Below w0.heap.size w0 W)=>rattach_anyS (T0.out.ab hb).caps HAL.out
 rw[PE.out] at HAT
 clear hcb
 go_wp2_with fail
 simp only[Option.map_some] at HFD
 refine HFD.out.mono ?_
 rintro e w1 ⟨rfl,rfl⟩
 clear HFD
 go_wp2_with fail
 go_quiet (fail)
 have bq:Below w0.heap.size w0 (w0.drewN nq):=bel_drewN (Below.refl w0.heap.size w0) nq
 have HQ:=zz (HAT.out _ bq)
 have BQ:Hid (Below w0.heap.size w0 (w0.drewN nq)):=zz bq
 have QQ:=zz (Q0.out.ab bq)
 have TQ:=zz (T0.out.ab bq)
 have d4':(w0.drewN nq).cell? ⟨x.1,4,none⟩=some (.pointer (some ⟨cb,0,none⟩)):=TQ.out.box.cell (k:=4) rfl
 obtain⟨wq,hwq⟩:∃wq,w0.drewN nq=wq:=⟨_,rfl⟩
 rw[hwq] at HQ BQ QQ TQ d4'⊢
 clear hwq bq HAT d4 d1 s1 e1
 go_wp2_with fail
 refine HQ.out.mono ?_
 intro e w2 hr
 have F2:Hid (Fr wq w2 (fun k=>k=cb∨cv.ownBlock=some k)):=zz (by obtain⟨_,_,_,h2,_⟩:=hr;exact h2)
 obtain⟨rfl,cv',ht2,hst2⟩:=TQ.out.capS hr (by have:=putH_right TQ.out.ra 15;rw[PE.out] at this;exact this)
 have Q2:=zz (QQ.out.fr F2.out (fun e=>by
  rcases e with e | e
  · exact absurd e (cb_neX QQ.out TQ.out.caps.box (by decide))
  · exact row_ne TQ.out.caps.own QQ.out (by decide) e))
 have T2:=zz ht2
 have K2:=zz (((Stp.of (O':=cutTg O w.heap.size) BQ.out _ fun _ _=>rfl):Stp (fun τ=>τ=(r,x.2.n)) w0 (cutTg O w.heap.size) wq (cutTg O w.heap.size)).tr hst2)
 have OA:Hid (opnTg (cutTg O w.heap.size) wq.heap.size r x.2.n (w.heap.size+1)=some (0,0)):=zz (by rw[opnTg_lt (Nat.lt_of_lt_of_le Q0.out.lt BQ.out.size)];exact cutTg_at (Nat.le_succ _))
 obtain⟨O2,hO2⟩:∃O2,opnTg (cutTg O w.heap.size) wq.heap.size r x.2.n=O2:=⟨_,rfl⟩
 rw[hO2] at T2 K2 OA
 have HH:=zz (rhandle_no 0 0 9 (by decide) w2 x.1)
 clear hr ht2 hst2 HQ hO2 d4'
 go_wp2_with fail
 refine HH.out.mono ?_
 rintro e w3 ⟨rfl,hb⟩
 have Q3:=zz (Q2.out.ab hb)
 have T3:=zz (T2.out.ab hb)
 have K3:=zz (K2.out.ab hb)
 have TB3:RtB w3 O2 r x.1 (attT x.2):=by
  have e:setA x.2 A'=attT x.2:=by unfold setA attT;rw[PE.out]
  rw[←e]
  exact⟨_,_,_,_,_,T3.out⟩
 have M3:=zz (M0.out.upd (n:=x.2.n) (t':=attT x.2) (by rw[XN.out];exact HFN.out) K3.out rfl (setA_ok _ OKX.out) TB3)
 clear TB3
 have S3:Hid (Stp (fun τ=>τ.1=r) w O w3 O2):=zz ((Stp.cut HA.out _).tr (K3.out.imp fun τ e=>by rw[e]))
 clear hb
 go_wp2_with (first
  | ((with_reducible refine stA 32 ?_ (ansE 9) ?_ Q3 ?_ ?_ (ansE_one _) ?_);rfl;rfl;rfl;rfl;intro wz QZ FZ))
 refine bodyPost_ret (ansR Tryz.results30 QZ rfl rfl) rfl ?_
 have M4:=M3.out.stp (Stp.box FZ.out OA.out) fun i e=>by injection e with e;have:=NP.out;omega
 rw[XN.out] at M4
 exact⟨_,_,rfl,AnsI.err _ 9,⟨_,_,M4⟩,S3.out.fresh FZ.out (Nat.le_succ _)⟩
set_option maxRecDepth 100000 in
theorem rat_yes (x:Nat×TnP) (h:RfM w O r blocks T av bs) (hl:bs.length≤100000) (hc:c.B w) (hf:fnd bs c.ten=some x) (hs:c.sec.l=x.2.sec) (hA:x.2.A.length<900) (nh:Nat) (A':HL) (hp:putH x.2.A 15 0=((nh,0),A')) (hnh:nh<4294967296):
 Calls Tryz.prog 30 #[.pointer (some ⟨r,0,none⟩),.agg c.cs] w (RdR r blocks w O (hdA (c.ten*4294967296+nh)) (updT c.ten (attT x.2) T)):=by
 have HF:=zz fun e W=>rerr_any e W
 have HW:=zz h
 have HLN:=zz hl
 obtain⟨mv,l,cb,cv,sv,ht⟩:=h.all x (fnd_mem hf).1
 have HT:=zz ht
 have HFN:=zz hf
 have HS:=zz (hc.sec)
 have SB:=zz (h.ok x (fnd_mem hf).1).sec
 have OKX:=zz (h.ok x (fnd_mem hf).1)
 have XN:=zz (fnd_mem hf).2
 have NS:=zz hs
 have HAL:=zz hA
 have PE:=zz hp
 have NH:=zz hnh
 obtain⟨w0,hw0,ha,hcb,hqb⟩:=preX w c
 clear h hl hc hf hs ht hp hA hnh
 unfold CallP.cs at hcb⊢
 go_enter Tryz.func30,Tryz.ntmps30
 go_upto_region 1 with (fail)
 rw[hw0.out]
 clear hw0
 have HA:=zz ha
 have Q0:=zz hqb
 have CBX:=zz hcb
 have c1:=hcb.cell (k:=1) rfl
 have c2:=hcb.cell (k:=2) rfl
 clear ha hqb
 have M0:=zz (HW.out.stp (ctS HA.out) noF)
 have NP:Hid (0<r):=zz HW.out.pos
 have T0:=zz (HT.out.stp (ctS HA.out) fun h=>h)
 have HFD:=zz (rfind_any c.ten M0.out HLN.out)
 rw[HFN.out] at HFD
 have d1:w0.cell? ⟨x.1,1,none⟩=some (.string (strOf x.2.sec)):=T0.out.box.cell (k:=1) rfl
 have d4:w0.cell? ⟨x.1,4,none⟩=some (.pointer (some ⟨cb,0,none⟩)):=T0.out.box.cell (k:=4) rfl
 have s1:=fun k=>run_str ((HS.out.ab HA.out).drewN k) 32 5 9 Tryz.underlying32 Tryz.underlying5 Tryz.underlying9
 have e1:((strOf c.sec.l).toList==(strOf x.2.sec).toList)=true:=by rw[str_eqI HS.out.2 SB.out];exact decide_eq_true NS.out
 have HAT:=zz fun W (hb:Below w0.heap.size w0 W)=>rattach_anyS (T0.out.ab hb).caps HAL.out
 rw[PE.out] at HAT
 clear hcb
 go_wp2_with fail
 simp only[Option.map_some] at HFD
 refine HFD.out.mono ?_
 rintro e w1 ⟨rfl,rfl⟩
 clear HFD
 go_wp2_with fail
 go_quiet (fail)
 have bq:Below w0.heap.size w0 (w0.drewN nq):=bel_drewN (Below.refl w0.heap.size w0) nq
 have HQ:=zz (HAT.out _ bq)
 have BQ:Hid (Below w0.heap.size w0 (w0.drewN nq)):=zz bq
 have QQ:=zz (Q0.out.ab bq)
 have TQ:=zz (T0.out.ab bq)
 have d4':(w0.drewN nq).cell? ⟨x.1,4,none⟩=some (.pointer (some ⟨cb,0,none⟩)):=TQ.out.box.cell (k:=4) rfl
 obtain⟨wq,hwq⟩:∃wq,w0.drewN nq=wq:=⟨_,rfl⟩
 rw[hwq] at HQ BQ QQ TQ d4'⊢
 clear hwq bq HAT d4 d1 s1 e1
 go_wp2_with fail
 refine HQ.out.mono ?_
 intro e w2 hr
 have F2:Hid (Fr wq w2 (fun k=>k=cb∨cv.ownBlock=some k)):=zz (by obtain⟨_,_,_,h2,_⟩:=hr;exact h2)
 obtain⟨rfl,cv',ht2,hst2⟩:=TQ.out.capS hr (by have:=putH_right TQ.out.ra 15;rw[PE.out] at this;exact this)
 have Q2:=zz (QQ.out.fr F2.out (fun e=>by
  rcases e with e | e
  · exact absurd e (cb_neX QQ.out TQ.out.caps.box (by decide))
  · exact row_ne TQ.out.caps.own QQ.out (by decide) e))
 have T2:=zz ht2
 have K2:=zz (((Stp.of (O':=cutTg O w.heap.size) BQ.out _ fun _ _=>rfl):Stp (fun τ=>τ=(r,x.2.n)) w0 (cutTg O w.heap.size) wq (cutTg O w.heap.size)).tr hst2)
 have OA:Hid (opnTg (cutTg O w.heap.size) wq.heap.size r x.2.n (w.heap.size+1)=some (0,0)):=zz (by rw[opnTg_lt (Nat.lt_of_lt_of_le Q0.out.lt BQ.out.size)];exact cutTg_at (Nat.le_succ _))
 obtain⟨O2,hO2⟩:∃O2,opnTg (cutTg O w.heap.size) wq.heap.size r x.2.n=O2:=⟨_,rfl⟩
 rw[hO2] at T2 K2 OA
 have HH:=zz (rhandle_yes nh NH.out T2.out OKX.out.n32)
 clear hr ht2 hst2 HQ hO2 d4'
 go_wp2_with fail
 refine HH.out.mono ?_
 rintro e w3 ⟨rfl,hb⟩
 have Q3:=zz (Q2.out.ab hb)
 have T3:=zz (T2.out.ab hb)
 have K3:=zz (K2.out.ab hb)
 have TB3:RtB w3 O2 r x.1 (attT x.2):=by
  have e:setA x.2 A'=attT x.2:=by unfold setA attT;rw[PE.out]
  rw[←e]
  exact⟨_,_,_,_,_,T3.out⟩
 have M3:=zz (M0.out.upd (n:=x.2.n) (t':=attT x.2) (by rw[XN.out];exact HFN.out) K3.out rfl (setA_ok _ OKX.out) TB3)
 clear TB3
 have S3:Hid (Stp (fun τ=>τ.1=r) w O w3 O2):=zz ((Stp.cut HA.out _).tr (K3.out.imp fun τ e=>by rw[e]))
 clear hb
 go_wp2_with (first
  | ((with_reducible refine stA 32 ?_ (ansH (x.2.n*4294967296+nh)) ?_ Q3 ?_ ?_ (ansH_one _) ?_);rfl;rfl;rfl;rfl;intro wz QZ FZ))
 refine bodyPost_ret (ansR Tryz.results30 QZ rfl rfl) rfl ?_
 have M4:=M3.out.stp (Stp.box FZ.out OA.out) fun i e=>by injection e with e;have:=NP.out;omega
 rw[XN.out] at M4
 rw[XN.out]
 exact⟨_,_,rfl,AnsI.flat _ 0 _ 0 0,⟨_,_,M4⟩,S3.out.fresh FZ.out (Nat.le_succ _)⟩
end
end Go.Proofs.YtgdhinjhbjolgaaGreat
