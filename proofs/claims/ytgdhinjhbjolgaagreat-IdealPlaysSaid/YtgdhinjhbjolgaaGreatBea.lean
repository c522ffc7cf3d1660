/-
  Parts of the proof, joined.
-/
import Derived.Test.YtgdhinjhbjolgaaGreatBdz
import Derived.Test.YtgdhinjhbjolgaaGreatBds
namespace Go.Proofs.YtgdhinjhbjolgaaGreat
set_option maxHeartbeats 16000000
open Go.RowKit
set_option linter.unusedVariables false
set_option linter.unusedSimpArgs false
section
variable {w:World} {O:Tg} {r blocks:Nat} {T:List TnP} {av:Value} {bs:List (Nat×TnP)} {c:CallP}
set_option maxRecDepth 100000 in
theorem rdo_k1 (h:RfM w O r blocks T av bs) (hl:bs.length≤100000) (hc:c.B w) (hkind:c.kind=1) (a:AnsP) (T':List TnP) (hF:∀W O' av' bs',RfM W O' r blocks T av' bs'→bs'.length≤100000→c.B W→Calls Tryz.prog 27 #[.pointer (some ⟨r,0,none⟩),.agg c.cs] W (RdR r blocks W O' a T')):
 Calls Tryz.prog 15 #[.pointer (some ⟨r,0,none⟩),.agg c.cs] w (RdR r blocks w O (a) (T')):=by
 have HF:=zz fun e W=>rerr_any e W
 have HW:=zz h
 have HLN:=zz hl
 have HC:=zz hc
 have HFF:=zz hF
 obtain⟨w0,hw0,ha,hcb,hqb⟩:=preX w c
 have KD:=zz hkind
 clear hkind
 clear h hl hc hF
 unfold CallP.cs at hcb⊢
 go_enter Tryz.func15,Tryz.ntmps15
 go_upto_region 1 with (fail)
 rw[hw0.out]
 clear hw0
 have HA:=zz ha
 have Q0:=zz hqb
 have CBX:=zz hcb
 have c0:=cK KD hcb rfl
 have c1:=hcb.cell (k:=1) rfl
 have c2:=hcb.cell (k:=2) rfl
 have c3:=hcb.cell (k:=3) rfl
 have c4:=hcb.cell (k:=4) rfl
 have c5:=hcb.cell (k:=5) rfl
 have c6:=hcb.cell (k:=6) rfl
 have c7:=hcb.cell (k:=7) rfl
 have c8:=hcb.cell (k:=8) rfl
 have c9:=hcb.cell (k:=9) rfl
 have c10:=hcb.cell (k:=10) rfl
 have c11:=hcb.cell (k:=11) rfl
 have c12:=hcb.cell (k:=12) rfl
 have c13:=hcb.cell (k:=13) rfl
 clear ha hqb
 have M0:=zz (HW.out.stp (ctS HA.out) noF)
 have NP:Hid (0<r):=zz HW.out.pos
 have OA:=oaT O w
 have HR:=HFF.out w0 (cutTg O w.heap.size) _ _ M0.out HLN.out (HC.out.ab HA.out)
 unfold CallP.cs at HR
 rw[KD.out] at HR
 have HRR:=zz HR
 clear HR HFF hcb
 go_wp2_with fail
 refine HRR.out.mono ?_
 rintro e w6 ⟨cs,O6,rfl,hans,hrf,hst⟩
 have AN:=zz hans
 obtain⟨A1,n1,c1,A2,n2,c2,A3,n3,c3,rfl,_⟩:=hans.sh
 have q6:=hst.ot Q0.out.lt OA.out (fun e=>by have:=NP.out;simp only at e;omega)
 have Q6:=zz (show CbB w6 (w.heap.size+1) 44 (ansE 0) from q6.1.trans Q0.out)
 have OA6:Hid (O6 (w.heap.size+1)=some (0,0)):=zz q6.2
 obtain⟨av6,bs6,m6⟩:=hrf
 have M6:=zz m6
 have S6:Hid (Stp (fun τ=>τ.1=r) w O w6 O6):=zz ((Stp.cut HA.out _).tr hst)
 clear HRR hans hst q6 m6 OA
 have OA:=OA6
 clear OA6
 go_wp2_with (first
  | ((with_reducible refine stA 13 ?_ (#[.int .i64 a.err,.int .u64 (a.hd:Int),.int .u64 (a.sn:Int),.slice A1 n1 c1,.slice A2 n2 c2,.int .i64 a.cnt,.slice A3 n3 c3]) ?_ Q6 ?_ ?_ (by simp[Value.oneCell']) ?_);rfl;rfl;rfl;rfl;intro wz QZ FZ))
 refine bodyPost_ret (ansR Tryz.results15 QZ rfl rfl) rfl ?_
 exact RdR.bx AN Q6 M6 S6 FZ OA NP
set_option maxRecDepth 100000 in
theorem rdo_g2 (h:RfM w O r blocks T av bs) (hl:bs.length≤100000) (hc:c.B w) (hkind:c.kind=2∨c.kind=3∨c.kind=4∨c.kind=5) (a:AnsP) (T':List TnP) (hF:∀W O' av' bs',RfM W O' r blocks T av' bs'→bs'.length≤100000→c.B W→Calls Tryz.prog 28 #[.pointer (some ⟨r,0,none⟩),.agg c.cs] W (RdR r blocks W O' a T')):
 Calls Tryz.prog 15 #[.pointer (some ⟨r,0,none⟩),.agg c.cs] w (RdR r blocks w O (a) (T')):=by
 have HF:=zz fun e W=>rerr_any e W
 have HW:=zz h
 have HLN:=zz hl
 have HC:=zz hc
 have HFF:=zz hF
 obtain⟨w0,hw0,ha,hcb,hqb⟩:=preX w c
 have KD:=zz hkind
 clear hkind
 clear h hl hc hF
 unfold CallP.cs at hcb⊢
 go_enter Tryz.func15,Tryz.ntmps15
 go_upto_region 1 with (fail)
 rw[hw0.out]
 clear hw0
 have HA:=zz ha
 have Q0:=zz hqb
 have CBX:=zz hcb
 have c0:=hcb.cell (k:=0) rfl
 have c1:=hcb.cell (k:=1) rfl
 have c2:=hcb.cell (k:=2) rfl
 have c3:=hcb.cell (k:=3) rfl
 have c4:=hcb.cell (k:=4) rfl
 have c5:=hcb.cell (k:=5) rfl
 have c6:=hcb.cell (k:=6) rfl
 have c7:=hcb.cell (k:=7) rfl
 have c8:=hcb.cell (k:=8) rfl
 have c9:=hcb.cell (k:=9) rfl
 have c10:=hcb.cell (k:=10) rfl
 have c11:=hcb.cell (k:=11) rfl
 have c12:=hcb.cell (k:=12) rfl
 have c13:=hcb.cell (k:=13) rfl
 clear ha hqb
 have M0:=zz (HW.out.stp (ctS HA.out) noF)
 have NP:Hid (0<r):=zz HW.out.pos
 have OA:=oaT O w
 have HR:=HFF.out w0 (cutTg O w.heap.size) _ _ M0.out HLN.out (HC.out.ab HA.out)
 unfold CallP.cs at HR
 clear HFF hcb
 rcases KD.out with e | e | e | e
 all_goals
  rw[e] at c0 HR
  have HRR:=zz HR
  clear HR e
  go_wp2_with fail
  refine HRR.out.mono ?_
  rintro e w6 ⟨cs,O6,rfl,hans,hrf,hst⟩
  have AN:=zz hans
  obtain⟨A1,n1,c1,A2,n2,c2,A3,n3,c3,rfl,_⟩:=hans.sh
  have q6:=hst.ot Q0.out.lt OA.out (fun e=>by have:=NP.out;simp only at e;omega)
  have Q6:=zz (show CbB w6 (w.heap.size+1) 44 (ansE 0) from q6.1.trans Q0.out)
  have OA6:Hid (O6 (w.heap.size+1)=some (0,0)):=zz q6.2
  obtain⟨av6,bs6,m6⟩:=hrf
  have M6:=zz m6
  have S6:Hid (Stp (fun τ=>τ.1=r) w O w6 O6):=zz ((Stp.cut HA.out _).tr hst)
  clear HRR hans hst q6 m6 OA
  have OA:=OA6
  clear OA6
  go_wp2_with (first
   | ((with_reducible refine stA 21 ?_ (#[.int .i64 a.err,.int .u64 (a.hd:Int),.int .u64 (a.sn:Int),.slice A1 n1 c1,.slice A2 n2 c2,.int .i64 a.cnt,.slice A3 n3 c3]) ?_ Q6 ?_ ?_ (by simp[Value.oneCell']) ?_);rfl;rfl;rfl;rfl;intro wz QZ FZ))
  refine bodyPost_ret (ansR Tryz.results15 QZ rfl rfl) rfl ?_
  exact RdR.bx AN Q6 M6 S6 FZ OA NP
set_option maxRecDepth 100000 in
theorem rdo_k8 (h:RfM w O r blocks T av bs) (hl:bs.length≤100000) (hc:c.B w) (hkind:c.kind=8) (a:AnsP) (T':List TnP) (hF:∀W O' av' bs',RfM W O' r blocks T av' bs'→bs'.length≤100000→c.B W→Calls Tryz.prog 30 #[.pointer (some ⟨r,0,none⟩),.agg c.cs] W (RdR r blocks W O' a T')):
 Calls Tryz.prog 15 #[.pointer (some ⟨r,0,none⟩),.agg c.cs] w (RdR r blocks w O (a) (T')):=by
 have HF:=zz fun e W=>rerr_any e W
 have HW:=zz h
 have HLN:=zz hl
 have HC:=zz hc
 have HFF:=zz hF
 obtain⟨w0,hw0,ha,hcb,hqb⟩:=preX w c
 have KD:=zz hkind
 clear hkind
 clear h hl hc hF
 unfold CallP.cs at hcb⊢
 go_enter Tryz.func15,Tryz.ntmps15
 go_upto_region 1 with (fail)
 rw[hw0.out]
 clear hw0
 have HA:=zz ha
 have Q0:=zz hqb
 have CBX:=zz hcb
 have c0:=cK KD hcb rfl
 have c1:=hcb.cell (k:=1) rfl
 have c2:=hcb.cell (k:=2) rfl
 have c3:=hcb.cell (k:=3) rfl
 have c4:=hcb.cell (k:=4) rfl
 have c5:=hcb.cell (k:=5) rfl
 have c6:=hcb.cell (k:=6) rfl
 have c7:=hcb.cell (k:=7) rfl
 have c8:=hcb.cell (k:=8) rfl
 have c9:=hcb.cell (k:=9) rfl
 have c10:=hcb.cell (k:=10) rfl
 have c11:=hcb.cell (k:=11) rfl
 have c12:=hcb.cell (k:=12) rfl
 have c13:=hcb.cell (k:=13) rfl
 clear ha hqb
 have M0:=zz (HW.out.stp (ctS HA.out) noF)
 have NP:Hid (0<r):=zz HW.out.pos
 have OA:=oaT O w
 have HR:=HFF.out w0 (cutTg O w.heap.size) _ _ M0.out HLN.out (HC.out.ab HA.out)
 unfold CallP.cs at HR
 rw[KD.out] at HR
 have HRR:=zz HR
 clear HR HFF hcb
 go_wp2_with fail
 refine HRR.out.mono ?_
 rintro e w6 ⟨cs,O6,rfl,hans,hrf,hst⟩
 have AN:=zz hans
 obtain⟨A1,n1,c1,A2,n2,c2,A3,n3,c3,rfl,_⟩:=hans.sh
 have q6:=hst.ot Q0.out.lt OA.out (fun e=>by have:=NP.out;simp only at e;omega)
 have Q6:=zz (show CbB w6 (w.heap.size+1) 44 (ansE 0) from q6.1.trans Q0.out)
 have OA6:Hid (O6 (w.heap.size+1)=some (0,0)):=zz q6.2
 obtain⟨av6,bs6,m6⟩:=hrf
 have M6:=zz m6
 have S6:Hid (Stp (fun τ=>τ.1=r) w O w6 O6):=zz ((Stp.cut HA.out _).tr hst)
 clear HRR hans hst q6 m6 OA
 have OA:=OA6
 clear OA6
 go_wp2_with (first
  | ((with_reducible refine stA 55 ?_ (#[.int .i64 a.err,.int .u64 (a.hd:Int),.int .u64 (a.sn:Int),.slice A1 n1 c1,.slice A2 n2 c2,.int .i64 a.cnt,.slice A3 n3 c3]) ?_ Q6 ?_ ?_ (by simp[Value.oneCell']) ?_);rfl;rfl;rfl;rfl;intro wz QZ FZ))
 refine bodyPost_ret (ansR Tryz.results15 QZ rfl rfl) rfl ?_
 exact RdR.bx AN Q6 M6 S6 FZ OA NP
set_option maxRecDepth 100000 in
theorem rdo_g9 (h:RfM w O r blocks T av bs) (hl:bs.length≤100000) (hc:c.B w) (hkind:c.kind=9∨c.kind=10∨c.kind=11∨c.kind=12∨c.kind=13∨c.kind=14∨c.kind=15∨c.kind=16) (a:AnsP) (T':List TnP) (hF:∀W O' av' bs',RfM W O' r blocks T av' bs'→bs'.length≤100000→c.B W→Calls Tryz.prog 31 #[.pointer (some ⟨r,0,none⟩),.agg c.cs] W (RdR r blocks W O' a T')):
 Calls Tryz.prog 15 #[.pointer (some ⟨r,0,none⟩),.agg c.cs] w (RdR r blocks w O (a) (T')):=by
 have HF:=zz fun e W=>rerr_any e W
 have HW:=zz h
 have HLN:=zz hl
 have HC:=zz hc
 have HFF:=zz hF
 obtain⟨w0,hw0,ha,hcb,hqb⟩:=preX w c
 have KD:=zz hkind
 clear hkind
 clear h hl hc hF
 unfold CallP.cs at hcb⊢
 go_enter Tryz.func15,Tryz.ntmps15
 go_upto_region 1 with (fail)
 rw[hw0.out]
 clear hw0
 have HA:=zz ha
 have Q0:=zz hqb
 have CBX:=zz hcb
 have c0:=hcb.cell (k:=0) rfl
 have c1:=hcb.cell (k:=1) rfl
 have c2:=hcb.cell (k:=2) rfl
 have c3:=hcb.cell (k:=3) rfl
 have c4:=hcb.cell (k:=4) rfl
 have c5:=hcb.cell (k:=5) rfl
 have c6:=hcb.cell (k:=6) rfl
 have c7:=hcb.cell (k:=7) rfl
 have c8:=hcb.cell (k:=8) rfl
 have c9:=hcb.cell (k:=9) rfl
 have c10:=hcb.cell (k:=10) rfl
 have c11:=hcb.cell (k:=11) rfl
 have c12:=hcb.cell (k:=12) rfl
 have c13:=hcb.cell (k:=13) rfl
 clear ha hqb
 have M0:=zz (HW.out.stp (ctS HA.out) noF)
 have NP:Hid (0<r):=zz HW.out.pos
 have OA:=oaT O w
 have HR:=HFF.out w0 (cutTg O w.heap.size) _ _ M0.out HLN.out (HC.out.ab HA.out)
 unfold CallP.cs at HR
 clear HFF hcb
 rcases KD.out with e | e | e | e | e | e | e | e
 all_goals
  rw[e] at c0 HR
  have HRR:=zz HR
  clear HR e
  go_wp2_with fail
  refine HRR.out.mono ?_
  rintro e w6 ⟨cs,O6,rfl,hans,hrf,hst⟩
  have AN:=zz hans
  obtain⟨A1,n1,c1,A2,n2,c2,A3,n3,c3,rfl,_⟩:=hans.sh
  have q6:=hst.ot Q0.out.lt OA.out (fun e=>by have:=NP.out;simp only at e;omega)
  have Q6:=zz (show CbB w6 (w.heap.size+1) 44 (ansE 0) from q6.1.trans Q0.out)
  have OA6:Hid (O6 (w.heap.size+1)=some (0,0)):=zz q6.2
  obtain⟨av6,bs6,m6⟩:=hrf
  have M6:=zz m6
  have S6:Hid (Stp (fun τ=>τ.1=r) w O w6 O6):=zz ((Stp.cut HA.out _).tr hst)
  clear HRR hans hst q6 m6 OA
  have OA:=OA6
  clear OA6
  go_wp2_with (first
   | ((with_reducible refine stA 67 ?_ (#[.int .i64 a.err,.int .u64 (a.hd:Int),.int .u64 (a.sn:Int),.slice A1 n1 c1,.slice A2 n2 c2,.int .i64 a.cnt,.slice A3 n3 c3]) ?_ Q6 ?_ ?_ (by simp[Value.oneCell']) ?_);rfl;rfl;rfl;rfl;intro wz QZ FZ))
  refine bodyPost_ret (ansR Tryz.results15 QZ rfl rfl) rfl ?_
  exact RdR.bx AN Q6 M6 S6 FZ OA NP
set_option maxRecDepth 100000 in
theorem rdo_k6 (h:RfM w O r blocks T av bs) (hl:bs.length≤100000) (hc:c.B w) (hkind:c.kind=6):
 Calls Tryz.prog 15 #[.pointer (some ⟨r,0,none⟩),.agg c.cs] w (RdR r blocks w O (errA 0) (T)):=by
 have HF:=zz fun e W=>rerr_any e W
 have HW:=zz h
 have HLN:=zz hl
 obtain⟨w0,hw0,ha,hcb,hqb⟩:=preX w c
 have KD:=zz hkind
 clear hkind
 clear h hl hc
 unfold CallP.cs at hcb⊢
 go_enter Tryz.func15,Tryz.ntmps15
 go_upto_region 1 with (fail)
 rw[hw0.out]
 clear hw0
 have HA:=zz ha
 have Q0:=zz hqb
 have CBX:=zz hcb
 have c0:=cK KD hcb rfl
 clear ha hqb
 have M0:=zz (HW.out.stp (ctS HA.out) noF)
 have NP:Hid (0<r):=zz HW.out.pos
 clear hcb
 go_wp2_with fail
 refine (HF.out _ _).mono ?_
 rintro e w8 ⟨rfl,hb⟩
 have Q8:=zz (Q0.out.ab hb)
 have S8:=stKp r O HA (zz hb)
 have M8:=zz (M0.out.ab hb)
 clear hb
 go_wp2_with (first
  | ((with_reducible refine stA 24 ?_ (ansE 0) ?_ Q8 ?_ ?_ (ansE_one _) ?_);rfl;rfl;rfl;rfl;intro wz QZ FZ))
 refine bodyPost_ret (ansR Tryz.results15 QZ rfl rfl) rfl ?_
 exact RdR.er 0 M8 S8 FZ (cutTg_at (Nat.le_succ _)) NP
set_option maxRecDepth 100000 in
theorem rdo_bad (h:RfM w O r blocks T av bs) (hl:bs.length≤100000) (hc:c.B w) (hne:∀k:Int,1≤k→k≤16→c.kind≠k):
 Calls Tryz.prog 15 #[.pointer (some ⟨r,0,none⟩),.agg c.cs] w (RdR r blocks w O (errA 2) (T)):=by
 have HF:=zz fun e W=>rerr_any e W
 have HW:=zz h
 have HLN:=zz hl
 have NE:=zz hne
 obtain⟨w0,hw0,ha,hcb,hqb⟩:=preX w c
 clear h hl hc hne
 unfold CallP.cs at hcb⊢
 go_enter Tryz.func15,Tryz.ntmps15
 go_upto_region 1 with (fail)
 rw[hw0.out]
 clear hw0
 have HA:=zz ha
 have Q0:=zz hqb
 have CBX:=zz hcb
 have c0:=hcb.cell (k:=0) rfl
 clear ha hqb
 have M0:=zz (HW.out.stp (ctS HA.out) noF)
 have NP:Hid (0<r):=zz HW.out.pos
 clear hcb
 have e1:(c.kind==(1:Int))=false:=by have:=NE.out 1 (by decide) (by decide);simpa using this
 have f1:¬c.kind=(1:Int):=NE.out 1 (by decide) (by decide)
 have e2:(c.kind==(2:Int))=false:=by have:=NE.out 2 (by decide) (by decide);simpa using this
 have f2:¬c.kind=(2:Int):=NE.out 2 (by decide) (by decide)
 have e3:(c.kind==(3:Int))=false:=by have:=NE.out 3 (by decide) (by decide);simpa using this
 have f3:¬c.kind=(3:Int):=NE.out 3 (by decide) (by decide)
 have e4:(c.kind==(4:Int))=false:=by have:=NE.out 4 (by decide) (by decide);simpa using this
 have f4:¬c.kind=(4:Int):=NE.out 4 (by decide) (by decide)
 have e5:(c.kind==(5:Int))=false:=by have:=NE.out 5 (by decide) (by decide);simpa using this
 have f5:¬c.kind=(5:Int):=NE.out 5 (by decide) (by decide)
 have e6:(c.kind==(6:Int))=false:=by have:=NE.out 6 (by decide) (by decide);simpa using this
 have f6:¬c.kind=(6:Int):=NE.out 6 (by decide) (by decide)
 have e7:(c.kind==(7:Int))=false:=by have:=NE.out 7 (by decide) (by decide);simpa using this
 have f7:¬c.kind=(7:Int):=NE.out 7 (by decide) (by decide)
 have e8:(c.kind==(8:Int))=false:=by have:=NE.out 8 (by decide) (by decide);simpa using this
 have f8:¬c.kind=(8:Int):=NE.out 8 (by decide) (by decide)
 have e9:(c.kind==(9:Int))=false:=by have:=NE.out 9 (by decide) (by decide);simpa using this
 have f9:¬c.kind=(9:Int):=NE.out 9 (by decide) (by decide)
 have e10:(c.kind==(10:Int))=false:=by have:=NE.out 10 (by decide) (by decide);simpa using this
 have f10:¬c.kind=(10:Int):=NE.out 10 (by decide) (by decide)
 have e11:(c.kind==(11:Int))=false:=by have:=NE.out 11 (by decide) (by decide);simpa using this
 have f11:¬c.kind=(11:Int):=NE.out 11 (by decide) (by decide)
 have e12:(c.kind==(12:Int))=false:=by have:=NE.out 12 (by decide) (by decide);simpa using this
 have f12:¬c.kind=(12:Int):=NE.out 12 (by decide) (by decide)
 have e13:(c.kind==(13:Int))=false:=by have:=NE.out 13 (by decide) (by decide);simpa using this
 have f13:¬c.kind=(13:Int):=NE.out 13 (by decide) (by decide)
 have e14:(c.kind==(14:Int))=false:=by have:=NE.out 14 (by decide) (by decide);simpa using this
 have f14:¬c.kind=(14:Int):=NE.out 14 (by decide) (by decide)
 have e15:(c.kind==(15:Int))=false:=by have:=NE.out 15 (by decide) (by decide);simpa using this
 have f15:¬c.kind=(15:Int):=NE.out 15 (by decide) (by decide)
 have e16:(c.kind==(16:Int))=false:=by have:=NE.out 16 (by decide) (by decide);simpa using this
 have f16:¬c.kind=(16:Int):=NE.out 16 (by decide) (by decide)
 go_wp2_with fail
 refine (HF.out _ _).mono ?_
 rintro e w8 ⟨rfl,hb⟩
 have Q8:=zz (Q0.out.ab hb)
 have S8:=stKp r O HA (zz hb)
 have M8:=zz (M0.out.ab hb)
 clear hb
 go_wp2_with (first
  | ((with_reducible refine stA 68 ?_ (ansE 2) ?_ Q8 ?_ ?_ (ansE_one _) ?_);rfl;rfl;rfl;rfl;intro wz QZ FZ))
 refine bodyPost_ret (ansR Tryz.results15 QZ rfl rfl) rfl ?_
 exact RdR.er 2 M8 S8 FZ (cutTg_at (Nat.le_succ _)) NP
theorem srt_of_asc {a b:List Nat} (hp:a.Perm b) (hs:a.Pairwise (· < ·)):U32.srt b=a:=by
 rw[←U32.srt_perm hp]
 unfold U32.srt
 exact List.mergeSort_of_pairwise (hs.imp fun e=>by simp;omega)
set_option maxRecDepth 100000 in
theorem rdo_k7 (h:RfM w O r blocks T av bs) (hl:bs.length≤100000) (hc:c.B w) (hkind:c.kind=7):
 Calls Tryz.prog 15 #[.pointer (some ⟨r,0,none⟩),.agg c.cs] w (RdR r blocks w O (lstA (U32.srt (T.map (·.n)))) (T)):=by
 have HF:=zz fun e W=>rerr_any e W
 have HW:=zz h
 have HLN:=zz hl
 obtain⟨w0,hw0,ha,hcb,hqb⟩:=preX w c
 have KD:=zz hkind
 clear hkind
 clear h hl hc
 unfold CallP.cs at hcb⊢
 go_enter Tryz.func15,Tryz.ntmps15
 go_upto_region 1 with (fail)
 rw[hw0.out]
 clear hw0
 have HA:=zz ha
 have Q0:=zz hqb
 have CBX:=zz hcb
 have c0:=cK KD hcb rfl
 clear ha hqb
 have M0:=zz (HW.out.stp (ctS HA.out) noF)
 have NP:Hid (0<r):=zz HW.out.pos
 have OA:=oaT O w
 obtain⟨A,cc,hav,hrow⟩:=M0.out.row_at
 obtain⟨m,hm⟩:∃m,bs.length=m:=⟨_,rfl⟩
 rw[hm] at hav
 subst hav
 have HM:=zz hm
 have HROW:=zz hrow
 have m0:(m:Int)≤100000:=by have:=HLN.out;omega
 clear hcb hrow hm
 go_wp2_with fail
 go_loopw [5,6] (fun s z wr=>∃i:Nat,i≤m∧z = .int .i64 (i:Int)∧U32.NsB wr w0.heap.size s ((bs.take i).map fun y=>y.2.n)∧Below w0.heap.size w0 wr) (fun _ z _=>m-(intOf z).toNat)
 case atStart=>exact⟨0,Nat.zero_le _,rfl,U32.NsB.nil _ _,Below.refl _ _⟩
 case round=>
  obtain⟨i,hi,rfl,hp,hb⟩:=hrel
  have BW:=zz hb
  have PP:=zz hp
  have s1:wr.cell? ⟨r,1,none⟩=some (.slice A m cc):=(M0.out.box.ab hb).cell (k:=1) rfl
  by_cases hlt:i<m
  · obtain⟨y,hy⟩:∃y,bs[i]? = some y:=⟨_,List.getElem?_eq_getElem (by rw[HM.out];exact hlt)⟩
    obtain⟨gr,rfl,a1,a3,_⟩:=HROW.out i y hy
    have a2:wr.cell? ⟨gr,i,none⟩=some (.pointer (some ⟨y.1,0,none⟩)):=(World.cell?_of_block (hb.block gr (cell_lt a1))).trans a1
    have a4:wr.cell? ⟨y.1,0,none⟩=some (.int .u32 (y.2.n:Int)):=(World.cell?_of_block (hb.block y.1 (cell_lt a3))).trans a3
    have hlti:(i:Int)<(m:Int):=by omega
    have hi0:(0:Int)≤(i:Int):=by omega
    have KL:=zz hlt
    have ST:Hid ((bs.take (i+1)).map (fun y=>y.2.n)=(bs.take i).map (fun y=>y.2.n)++[y.2.n]):=zz (by
     rw[List.take_add_one,hy,List.map_append]
     rfl)
    obtain⟨yn,hyn⟩:∃yn,y.2.n=yn:=⟨_,rfl⟩
    rw[hyn] at a4 ST
    have ha:Below wr.heap.size wr (wr.alloc (.cells #[.int .u32 (yn:Int)] 31)):=alB
    have PA:=zz (PP.out.ab ha)
    have BA:=zz (below_tr BW.out ha BW.out.size)
    have GC:=zz (CbB.new wr 31 #[.int .u32 (yn:Int)])
    have FL:Hid (((bs.take i).map fun y=>y.2.n).length≤100000):=zz (by rw[List.length_map,List.length_take];have:=HLN.out;omega)
    clear hi hlt hp hb hy a1 a3 ha hyn
    go_wp2_with (first
     | (refine U32.wpList_appN rfl (.tmp 36) (.tmp 47) rfl (B:=w0.heap.size) PA.out rfl yn rfl GC.out FL.out BA.out.size ?_
        intro v8 w8 hp8 hb8
        have P8:=zz hp8
        have B8:=zz (BA.out.grown hb8 BA.out.size (own_ge9 PA.out))
        clear hp8 hb8))
    go_roundw
    case rel=>exact⟨i+1,KL.out,by go_num,by rw[ST.out];exact P8.out,B8.out⟩
    case measure=>simp[intOf];have:=KL.out;omega
  · obtain rfl:i=m:=by omega
    have E:Hid ((bs.take i).map (fun y=>y.2.n)=bs.map fun y=>y.2.n):=zz (by rw[List.take_of_length_le (by rw[HM.out];exact Nat.le_refl _)])
    rw[E.out] at PP
    have SR:Hid (U32.srt (T.map (·.n))=bs.map fun y=>y.2.n):=zz (srt_of_asc (by have:=M0.out.prm.map (·.n);rw[List.map_map] at this;exact this) M0.out.asc)
    rw[←SR.out] at PP
    obtain⟨lst,hlst⟩:∃lst,U32.srt (T.map (·.n))=lst:=⟨_,rfl⟩
    rw[hlst] at PP
    have HLS:=zz hlst
    obtain⟨vA,vc,hv⟩:=row_shape PP.out
    obtain⟨n0,hn0⟩:∃n0,lst.length=n0:=⟨_,rfl⟩
    rw[hn0] at hv
    subst hv
    have Q2:=zz (Q0.out.ab hb)
    have M2:=zz (M0.out.ab hb)
    have S2:=stKp r O HA (zz hb)
    have AN:Hid (AnsI wr #[.int .i64 0,.int .u64 0,.int .u64 0,.slice none 0 0,.slice none 0 0,.int .i64 0,.slice vA n0 vc] (lstA (U32.srt (T.map (·.n))))):=zz (by
     rw[HLS.out]
     exact⟨_,_,_,_,_,_,_,_,_,rfl,OwB.nil _ _,PrU.nil _,row_low PP.out (Nat.zero_le _)⟩)
    clear hi hlt hp hb hn0 hlst
    go_wp2_with (first
     | ((with_reducible refine stA 50 ?_ (#[.int .i64 0,.int .u64 0,.int .u64 0,.slice none 0 0,.slice none 0 0,.int .i64 0,.slice vA n0 vc]) ?_ Q2 ?_ ?_ (by simp[Value.oneCell']) ?_);rfl;rfl;rfl;rfl;intro wz QZ FZ))
    refine bodyPost_ret (ansR Tryz.results15 QZ rfl rfl) rfl ?_
    exact RdR.bx AN Q2 M2 S2 FZ OA NP
theorem rdo_any (h:RfM w O r blocks T av bs) (hl:bs.length≤100000) (hc:c.B w) (hk:∀t∈T,LimK 800 t):
 Calls Tryz.prog 15 #[.pointer (some ⟨r,0,none⟩),.agg c.cs] w (RdR r blocks w O (stepP blocks T c).1 (stepP blocks T c).2):=by
 by_cases q1:c.kind=1
 · unfold stepP
   rw[if_pos q1]
   exact rdo_k1 h hl hc q1 _ _ fun W O' av' bs' h9 l9 c9=>R_create h9 l9 c9
 by_cases q2:c.kind=2
 · unfold stepP
   rw[if_neg q1,if_pos q2]
   exact rdo_g2 h hl hc (.inl q2) _ _ fun W O' av' bs' h9 l9 c9=>R_remove h9 l9 c9 q2
 by_cases q3:c.kind=3
 · unfold stepP
   rw[if_neg q1,if_neg q2,if_pos q3]
   exact rdo_g2 h hl hc (.inr (.inl q3)) _ _ fun W O' av' bs' h9 l9 c9=>R_turn h9 l9 c9 q3
 by_cases q4:c.kind=4
 · unfold stepP
   rw[if_neg q1,if_neg q2,if_neg q3,if_pos q4]
   exact rdo_g2 h hl hc (.inr (.inr (.inl q4))) _ _ fun W O' av' bs' h9 l9 c9=>R_step h9 l9 c9 q4
 by_cases q5:c.kind=5
 · unfold stepP
   rw[if_neg q1,if_neg q2,if_neg q3,if_neg q4,if_pos q5]
   exact rdo_g2 h hl hc (.inr (.inr (.inr (q5)))) _ _ fun W O' av' bs' h9 l9 c9=>R_finish h9 l9 c9 q5 hk
 by_cases q6:c.kind=6
 · unfold stepP
   rw[if_neg q1,if_neg q2,if_neg q3,if_neg q4,if_neg q5,if_pos q6]
   exact rdo_k6 h hl hc q6
 by_cases q7:c.kind=7
 · unfold stepP
   rw[if_neg q1,if_neg q2,if_neg q3,if_neg q4,if_neg q5,if_neg q6,if_pos q7]
   exact rdo_k7 h hl hc q7
 by_cases q8:c.kind=8
 · unfold stepP
   rw[if_neg q1,if_neg q2,if_neg q3,if_neg q4,if_neg q5,if_neg q6,if_neg q7,if_pos q8]
   exact rdo_k8 h hl hc q8 _ _ fun W O' av' bs' h9 l9 c9=>R_attach h9 l9 c9 hk
 by_cases q9:c.kind=9
 · unfold stepP
   rw[if_neg q1,if_neg q2,if_neg q3,if_neg q4,if_neg q5,if_neg q6,if_neg q7,if_neg q8,if_pos q9]
   exact rdo_g9 h hl hc (.inl q9) _ _ fun W O' av' bs' h9 l9 c9=>R_give h9 l9 c9 hk q9
 by_cases q10:c.kind=10
 · unfold stepP
   rw[if_neg q1,if_neg q2,if_neg q3,if_neg q4,if_neg q5,if_neg q6,if_neg q7,if_neg q8,if_neg q9,if_pos q10]
   exact rdo_g9 h hl hc (.inr (.inl q10)) _ _ fun W O' av' bs' h9 l9 c9=>R_revoke h9 l9 c9 hk q10
 by_cases q11:c.kind=11
 · unfold stepP
   rw[if_neg q1,if_neg q2,if_neg q3,if_neg q4,if_neg q5,if_neg q6,if_neg q7,if_neg q8,if_neg q9,if_neg q10,if_pos q11]
   exact rdo_g9 h hl hc (.inr (.inr (.inl q11))) _ _ fun W O' av' bs' h9 l9 c9=>R_batch h9 l9 c9 hk q11
 by_cases q12:c.kind=12
 · unfold stepP
   rw[if_neg q1,if_neg q2,if_neg q3,if_neg q4,if_neg q5,if_neg q6,if_neg q7,if_neg q8,if_neg q9,if_neg q10,if_neg q11,if_pos q12]
   exact rdo_g9 h hl hc (.inr (.inr (.inr (.inl q12)))) _ _ fun W O' av' bs' h9 l9 c9=>R_get h9 l9 c9 hk q12
 by_cases q13:c.kind=13
 · unfold stepP
   rw[if_neg q1,if_neg q2,if_neg q3,if_neg q4,if_neg q5,if_neg q6,if_neg q7,if_neg q8,if_neg q9,if_neg q10,if_neg q11,if_neg q12,if_pos q13]
   exact rdo_g9 h hl hc (.inr (.inr (.inr (.inr (.inl q13))))) _ _ fun W O' av' bs' h9 l9 c9=>R_scan h9 l9 c9 hk q13
 by_cases q14:c.kind=14
 · unfold stepP
   rw[if_neg q1,if_neg q2,if_neg q3,if_neg q4,if_neg q5,if_neg q6,if_neg q7,if_neg q8,if_neg q9,if_neg q10,if_neg q11,if_neg q12,if_neg q13,if_pos q14]
   exact rdo_g9 h hl hc (.inr (.inr (.inr (.inr (.inr (.inl q14)))))) _ _ fun W O' av' bs' h9 l9 c9=>R_snap h9 l9 c9 hk q14
 by_cases q15:c.kind=15
 · unfold stepP
   rw[if_neg q1,if_neg q2,if_neg q3,if_neg q4,if_neg q5,if_neg q6,if_neg q7,if_neg q8,if_neg q9,if_neg q10,if_neg q11,if_neg q12,if_neg q13,if_neg q14,if_pos q15]
   exact rdo_g9 h hl hc (.inr (.inr (.inr (.inr (.inr (.inr (.inl q15))))))) _ _ fun W O' av' bs' h9 l9 c9=>R_release h9 l9 c9 hk q15
 by_cases q16:c.kind=16
 · unfold stepP
   rw[if_neg q1,if_neg q2,if_neg q3,if_neg q4,if_neg q5,if_neg q6,if_neg q7,if_neg q8,if_neg q9,if_neg q10,if_neg q11,if_neg q12,if_neg q13,if_neg q14,if_neg q15,if_pos q16]
   exact rdo_g9 h hl hc (.inr (.inr (.inr (.inr (.inr (.inr (.inr (q16)))))))) _ _ fun W O' av' bs' h9 l9 c9=>R_usage h9 l9 c9 hk q16
 unfold stepP
 rw[if_neg q1,if_neg q2,if_neg q3,if_neg q4,if_neg q5,if_neg q6,if_neg q7,if_neg q8,if_neg q9,if_neg q10,if_neg q11,if_neg q12,if_neg q13,if_neg q14,if_neg q15,if_neg q16]
 exact rdo_bad h hl hc fun k h1 h2 e=>by
  have hk':k=1∨k=2∨k=3∨k=4∨k=5∨k=6∨k=7∨k=8∨k=9∨k=10∨k=11∨k=12∨k=13∨k=14∨k=15∨k=16:=by omega
  rcases hk' with rfl | rfl | rfl | rfl | rfl | rfl | rfl | rfl | rfl | rfl | rfl | rfl | rfl | rfl | rfl | rfl
  · exact q1 e
  · exact q2 e
  · exact q3 e
  · exact q4 e
  · exact q5 e
  · exact q6 e
  · exact q7 e
  · exact q8 e
  · exact q9 e
  · exact q10 e
  · exact q11 e
  · exact q12 e
  · exact q13 e
  · exact q14 e
  · exact q15 e
  · exact q16 e
end
def rnwTg (O:Tg) (r:Nat):Tg:=fun k=>if k=r then some (r,0) else O k
theorem rnew_any (blocks:Nat) (w:World) (O:Tg) (h0:0<w.heap.size):Calls Tryz.prog 6 #[.int .i64 (blocks:Int)] w fun e w'=>
 e = .returned (.pointer (some ⟨w.heap.size,0,none⟩))∧RfB w' (rnwTg O w.heap.size) w.heap.size blocks []∧Below w.heap.size w w':=by
 go_enter Tryz.func6,Tryz.ntmps6
 go_wp2_with fail
 go_ret
 refine⟨rfl,⟨.slice none 0 0,[],?_⟩,alB⟩
 exact⟨CbB.new _ _ _,World.ownsRow_nil _ _ _ _,fun g hg=>(by cases hg),List.Pairwise.nil,List.Perm.refl _,fun x hx=>(by cases hx),fun x hx=>(by cases hx),by simp[rnwTg],h0⟩
def opnF (x:Nat×TnP):Nat×TnP:=(x.1,opnT x.2)
def bsI (bs:List (Nat×TnP)) (i:Nat):List (Nat×TnP):=(bs.take i).map opnF++bs.drop i
theorem bsI_at {bs:List (Nat×TnP)} {i:Nat} {x:Nat×TnP} (h:bs[i]? = some x):(bsI bs i)[i]? = some x:=by
 have hi:=(List.getElem?_eq_some_iff.1 h).1
 unfold bsI
 rw[List.getElem?_append_right (by simp;omega),List.length_map,List.length_take,Nat.min_eq_left (by omega),Nat.sub_self,List.getElem?_drop,Nat.add_zero]
 exact h
theorem map_off {x:Nat×TnP} {l:List (Nat×TnP)} {t':TnP} (h:∀y∈l,y.2.n≠x.2.n):(l.map fun y=>if y.2.n=x.2.n then (y.1,t') else y)=l:=by
 induction l with
 | nil=>rfl
 | cons p r ih=>
   rw[List.map_cons,ih fun y hy=>h y (List.mem_cons_of_mem _ hy),if_neg (h p (List.mem_cons_self ..))]
theorem bsI_step {bs:List (Nat×TnP)} {i:Nat} {x:Nat×TnP} (h:bs[i]? = some x) (hn:(bs.map fun y=>y.2.n).Nodup):
 ((bsI bs i).map fun y=>if y.2.n=x.2.n then (y.1,opnT x.2) else y)=bsI bs (i+1):=by
 have hi:=(List.getElem?_eq_some_iff.1 h).1
 have hx:bs[i]=x:=(List.getElem?_eq_some_iff.1 h).2
 have hd:bs.drop i=x::bs.drop (i+1):=by rw[List.drop_eq_getElem_cons hi,hx]
 have hs:bs=bs.take i++(x::bs.drop (i+1)):=by rw[←hd,List.take_append_drop]
 rw[hs,List.map_append,List.map_cons,List.nodup_append] at hn
 obtain⟨h1,h2,h3⟩:=hn
 rw[List.nodup_cons] at h2
 unfold bsI
 rw[hd,List.map_append,List.map_cons,if_pos rfl,map_off,map_off,List.take_add_one,h,List.map_append]
 · simp[opnF]
 · intro y hy e
   exact h2.1 (by rw[←e];exact List.mem_map.2 ⟨y,hy,rfl⟩)
 · intro y hy e
   obtain⟨z,hz,rfl⟩:=List.mem_map.1 hy
   exact h3 z.2.n (List.mem_map.2 ⟨z,hz,rfl⟩) x.2.n (List.mem_cons_self ..) e
theorem bsI_all (bs:List (Nat×TnP)):bsI bs bs.length=bs.map opnF:=by
 unfold bsI
 rw[List.take_length,List.drop_length,List.append_nil]
section
variable {w w1:World} {O O1:Tg} {r blocks:Nat} {T T':List TnP} {av:Value} {bs:List (Nat×TnP)}
theorem RfM.reT (h:RfM w O r blocks T av bs) (hp:(bs.map (·.2)).Perm T'):RfM w O r blocks T' av bs:=⟨h.box,h.row,h.rtag,h.asc,hp,h.all,h.ok,h.tr,h.pos⟩
theorem RtM.opnS {b c:Nat} {t:TnP} {mv cv sv:Value} {l:Bk2} (h:RtM w O r b t mv l c cv sv) {w2 w3:World}
 (h1:w1=w.alloc (.cells #[.slice none 0 0] 80)) (h2:w2=w1.setCell ⟨b,4,none⟩ (.pointer (some ⟨w.heap.size,0,none⟩))) (h3:w3=w2.setCell ⟨b,5,none⟩ (.slice none 0 0)):
 RtM w3 (opnTg O w.heap.size r t.n) r b (opnT t) mv l w.heap.size (.slice none 0 0) (.slice none 0 0)∧Stp (fun τ=>τ=(r,t.n)) w O w3 (opnTg O w.heap.size r t.n):=by
 have b1:Below w.heap.size w w1:=by rw[h1];exact alB
 have x1:=h.box.ab b1
 have x2:=x1.set 4 (.pointer (some ⟨w.heap.size,0,none⟩))
 rw[←h2] at x2
 have x3:=x2.set 5 (.slice none 0 0)
 rw[←h3] at x3
 have f2:Fr w1 w2 (fun q=>q=b):=by rw[h2];exact fr_set _ _ _ _
 have f3:Fr w2 w3 (fun q=>q=b):=by rw[h3];exact fr_set _ _ _ _
 have hfr:Fr w w3 (fun q=>q=b):=((Fr.of b1 _).tr f2).tr f3
 have st:Stp (fun τ=>τ=(r,t.n)) w O w3 (opnTg O w.heap.size r t.n):=⟨hfr.imp fun q hq=>⟨_,hq▸h.tb,rfl⟩,fun k hk=>opnTg_lt hk⟩
 have c1:CbB w1 w.heap.size 80 #[.slice none 0 0]:=by rw[h1];exact CbB.new _ _ _
 have c3:=(c1.fr f2 (by have:=h.box.lt;omega)).fr f3 (by have:=h.box.lt;omega)
 exact⟨⟨x3,h.now.stp st,⟨c3,World.ownsRow_nil _ _ _ _,Nat.zero_le _⟩,RightA.nil,⟨[],World.ownsRow_nil _ _ _ _,rfl,fun i q p hi=>(by simp at hi)⟩,(opnTg_lt h.box.lt).trans h.tb,opnTg_ge (Nat.le_refl _),fun g hg=>(by cases hg),fun g hg=>(by cases hg)⟩,st⟩
set_option maxRecDepth 100000 in
theorem ropen_any (h:RfM w O r blocks T av bs) (hl:bs.length≤100000):Calls Tryz.prog 10 #[.pointer (some ⟨r,0,none⟩)] w fun e w'=>∃O' v,e = .returned v∧RfB w' O' r blocks (T.map opnT)∧Stp (fun τ=>τ.1=r) w O w' O':=by
 have HW:=zz h
 have M0:Hid (RfM w O r blocks ((bsI bs 0).map (·.2)) av (bsI bs 0)):=zz (by
  have:bsI bs 0=bs:=by unfold bsI;simp
  rw[this]
  exact h.reT (List.Perm.refl _))
 obtain⟨A,cc,hav⟩:=row_shape h.row
 obtain⟨m,hm⟩:∃m,bs.length=m:=⟨_,rfl⟩
 rw[hm] at hav
 subst hav
 have HM:=zz hm
 have m0:(m:Int)≤100000:=by omega
 have ND:=zz h.nodup
 clear h hl hm
 go_enter Tryz.func10,Tryz.ntmps10
 go_wp2_with fail
 go_loopw [2] (fun z wr=>∃(i:Nat) (O':Tg),i≤m∧z = .int .i64 (i:Int)∧RfM wr O' r blocks ((bsI bs i).map (·.2)) (.slice A m cc) (bsI bs i)∧Stp (fun τ=>τ.1=r) w O wr O') (fun z _=>m-(intOf z).toNat)
 case atStart=>exact⟨0,O,Nat.zero_le _,rfl,M0.out,Stp.refl _ _ _⟩
 case round=>
  obtain⟨i,O',hi,rfl,hr,hs⟩:=hrel
  have RR:=zz hr
  have SS:=zz hs
  have s1:wr.cell? ⟨r,1,none⟩=some (.slice A m cc):=hr.box.cell (k:=1) rfl
  by_cases hlt:i<m
  · obtain⟨x,hx⟩:∃x,bs[i]? = some x:=⟨_,List.getElem?_eq_getElem (by rw[HM.out];exact hlt)⟩
    have HX:=zz hx
    obtain⟨A',cc',hav',hrow⟩:=hr.row_at
    obtain⟨g,hg,a1,_,_⟩:=hrow i x (bsI_at hx)
    simp only[Value.slice.injEq] at hav'
    obtain⟨rfl,_,_⟩:=hav'
    subst hg
    have hxm:x∈bsI bs i:=List.mem_of_getElem? (bsI_at hx)
    obtain⟨mv,l,c,cv,sv,ht⟩:=hr.all x hxm
    have TT:=zz ht
    have hlti:(i:Int)<(m:Int):=by omega
    have hi0:(0:Int)≤(i:Int):=by omega
    have KL:=zz hlt
    have hbr:r≠x.1:=cb_neX hr.box ht.box (by decide)
    have hbg:g≠x.1:=fun e=>row_ne hr.row ht.box (by decide) (by rw[e];rfl)
    have B1:Hid (Below wr.heap.size wr (wr.alloc (.cells #[.slice none 0 0] 80))):=zz (alB)
    have hf4:=(ht.box.ab B1.out).free 4
    have hx4:=(ht.box.ab B1.out).cell (k:=4) rfl
    clear hi hlt hx hrow hr hs
    go_upto_region 4 with (fail)
    obtain⟨W1,hW1⟩:∃W1,wr.alloc (.cells #[.slice none 0 0] 80)=W1:=⟨_,rfl⟩
    have b1:=B1.out
    clear B1
    rw[hW1] at hf4 hx4 b1⊢
    obtain⟨W2,hW2⟩:∃W2,W1.setCell ⟨x.1,4,none⟩ (.pointer (some ⟨wr.heap.size,0,none⟩))=W2:=⟨_,rfl⟩
    have f2:Fr W1 W2 (fun q=>q=x.1):=by rw[←hW2];exact fr_set _ _ _ _
    have B2:=(ht.box.ab b1).set 4 (.pointer (some ⟨wr.heap.size,0,none⟩))
    rw[hW2] at B2
    have hf5:=B2.free 5
    have hx5:=B2.cell (k:=5) rfl
    have s2:W2.cell? ⟨r,1,none⟩=some (.slice (some ⟨g,0,none⟩) m cc):=((RR.out.box.ab b1).fr f2 hbr).cell (k:=1) rfl
    have a2:W2.cell? ⟨g,i,none⟩=some (.pointer (some ⟨x.1,0,none⟩)):=(World.cell?_of_block ((f2.block g (Nat.lt_of_lt_of_le (cell_lt a1) b1.size) hbg).trans (b1.block g (cell_lt a1)))).trans a1
    rw[hW2]
    have HW1:=zz hW1
    have HW2:=zz hW2
    clear s1 a1 hf4 hx4 f2 B2 hW1 hW2 b1
    go_wp2_with fail
    obtain⟨W3,hW3⟩:∃W3,W2.setCell ⟨x.1,5,none⟩ (.slice none 0 0)=W3:=⟨_,rfl⟩
    obtain⟨t3,st3⟩:=TT.out.opnS HW1.out.symm HW2.out.symm hW3.symm
    have hfn:fnd (bsI bs i) x.2.n=some x:=fnd_of RR.out.nodup hxm
    have hok:=RR.out.ok x hxm
    have m3:=RR.out.upd hfn st3 (t':=opnT x.2) rfl ⟨hok.n1,hok.n32,hok.sec,hok.q1,hok.q2⟩ ⟨_,_,_,_,_,t3⟩
    rw[bsI_step HX.out ND.out] at m3
    have M3:=zz (m3.reT (List.Perm.refl _))
    have S3:=zz (SS.out.tr (st3.imp fun τ e=>by rw[e]))
    rw[hW3]
    clear t3 st3 hfn hok m3 hW3 s2 a2 hf5 hx5 hbr hbg hxm ht
    go_roundw
    case rel=>exact⟨i+1,_,KL.out,by go_num,M3.out,S3.out⟩
    case measure=>simp[intOf];have:=KL.out;omega
  · obtain rfl:i=m:=by omega
    rw[←HM.out,bsI_all,HM.out] at hr
    have M3:=zz hr
    clear hi hlt hr hs
    go_wp2_with fail
    first
     | ((try simp only[Exit.inBlock,Exit.then]);refine bodyPost_ret (results_none rfl _ _ _) rfl ?_)
     | ((try simp only[Exit.inBlock,Exit.then]);refine bodyPost_end (results_none rfl _ _ _) rfl ?_)
    refine⟨O',_,rfl,⟨_,_,M3.out.reT ?_⟩,SS.out⟩
    have:=HW.out.prm.map opnT
    rw[List.map_map] at this⊢
    exact this
end
theorem PrU.rd {w:World} {A:Option Addr} {n c:Nat} {l:Bk2} (h:PrU w (.slice A n c) l):PrR w A n c l:=by
 obtain⟨h0,vs,h1,h3,h4⟩:=h
 obtain⟨B,cb,e⟩:=row_shape h1
 simp only[Value.slice.injEq] at e
 obtain⟨rfl,rfl,rfl⟩:=e
 refine⟨rfl,h0,fun i q hq=>?_⟩
 have hi:=(List.getElem?_eq_some_iff.1 hq).1
 obtain⟨g,hA,hc⟩:=row_cells h1 (by omega)
 obtain⟨p,hp⟩:∃p,vs[i]? = some p:=⟨_,List.getElem?_eq_getElem (by omega)⟩
 obtain⟨⟨kl,k1,k2⟩,k3⟩:=h4 i p q hp hq
 obtain⟨f1,f2⟩:=flat_at vs i p hp
 obtain⟨kA,kc,e1,_⟩:=k1.shape
 obtain⟨vA,vc,e2,_⟩:=k3.shape
 rw[e1] at k1
 rw[e2] at k3
 exact⟨g,kA,_,kc,vA,_,vc,kl,hA,by rw[←e1];exact hc _ _ f1,by rw[←e2];exact hc _ _ f2,k1.isB rfl,k2,k3.isB rfl⟩
theorem PrN.rd {w:World} {C:Nat} {A:Option Addr} {n c:Nat} {l:Bk2} (h:PrN w C (.slice A n c) l) (hl:l.length≤1000000):PrR w A n c l:=by
 obtain⟨vs,h1,h3,h4⟩:=h
 obtain⟨B,cb,e⟩:=row_shape h1
 simp only[Value.slice.injEq] at e
 obtain⟨rfl,rfl,rfl⟩:=e
 refine⟨rfl,hl,fun i q hq=>?_⟩
 have hi:=(List.getElem?_eq_some_iff.1 hq).1
 obtain⟨g,hA,hc⟩:=row_cells h1 (by omega)
 obtain⟨p,hp⟩:∃p,vs[i]? = some p:=⟨_,List.getElem?_eq_getElem (by omega)⟩
 obtain⟨⟨kl,k1,k2⟩,k3⟩:=h4 i p q hp hq
 obtain⟨f1,f2⟩:=flat_at vs i p hp
 obtain⟨kA,kn,kc,e1⟩:∃kA kn kc,p.1 = .slice kA kn kc:=by obtain⟨g,n,cap,cs,fr,e,_⟩:=id k1;exact⟨_,_,_,e⟩
 obtain⟨vA,vc,e2,_⟩:=k3.shape
 rw[e2] at k3
 exact⟨g,kA,kn,kc,vA,_,vc,kl,hA,by rw[←e1];exact hc _ _ f1,by rw[←e2];exact hc _ _ f2,k1.isB e1,k2,k3.isB rfl⟩
set_option maxRecDepth 100000 in
theorem ansSameI (w:World) (C:Nat) (O:Tg) (cs cs':Array Value) (a:AnsP) (h:AnsB w C O cs a) (k:AnsI w cs' a) (hp:a.prs.length≤1000000) (hl:a.lst.length≤1000000) (hv:Byt a.val):
 Calls Tryz.prog 14 #[.agg cs,.agg cs'] w fun e w'=>e = .returned (.bool true)∧Below w.heap.size w w':=by
 obtain⟨⟨v,p,l,rfl,h1,h2,h3,h4,h5⟩⟩:=h
 obtain⟨⟨B1,m1,d1,B2,m2,d2,B3,m3,d3,rfl,k1,k3,k4⟩⟩:=k
 obtain⟨A1,n1,c1,rfl⟩:=row_sl h1.own
 obtain⟨A2,n2,c2,rfl⟩:∃A n c,p = .slice A n c:=by obtain⟨vs,q1,_⟩:=h3;exact row_sl q1
 obtain⟨A3,n3,c3,rfl⟩:=row_sl h4
 have i1:IsB w A1 n1 c1 a.val:=by
  obtain⟨X,cx,e,_⟩:=h1.shape
  simp only[Value.slice.injEq] at e
  obtain⟨rfl,rfl,rfl⟩:=e
  exact h1.isB rfl
 have j1:IsB w B1 m1 d1 a.val:=by
  obtain⟨X,cx,e,_⟩:=k1.shape
  simp only[Value.slice.injEq] at e
  obtain⟨rfl,rfl,rfl⟩:=e
  exact k1.isB rfl
 have r1:=h3.rd hp
 have r2:=k3.rd
 obtain⟨l1,l2⟩:=nums_at h4
 obtain⟨g1,g2⟩:=nums_at k4
 obtain rfl:n3=m3:=l1.symm.trans g1
 have ha:Below w.heap.size w ((w.alloc (.cells #[.int .i64 a.err,.int .u64 (a.hd:Int),.int .u64 (a.sn:Int),.slice A1 n1 c1,.slice A2 n2 c2,.int .i64 a.cnt,.slice A3 n3 c3] 44)).alloc (.cells #[.int .i64 a.err,.int .u64 (a.hd:Int),.int .u64 (a.sn:Int),.slice B1 m1 d1,.slice B2 m2 d2,.int .i64 a.cnt,.slice B3 n3 d3] 44)):=alB.alloc (by simp) _
 have x1:CbB ((w.alloc (.cells #[.int .i64 a.err,.int .u64 (a.hd:Int),.int .u64 (a.sn:Int),.slice A1 n1 c1,.slice A2 n2 c2,.int .i64 a.cnt,.slice A3 n3 c3] 44)).alloc (.cells #[.int .i64 a.err,.int .u64 (a.hd:Int),.int .u64 (a.sn:Int),.slice B1 m1 d1,.slice B2 m2 d2,.int .i64 a.cnt,.slice B3 n3 d3] 44)) w.heap.size 44 #[.int .i64 a.err,.int .u64 (a.hd:Int),.int .u64 (a.sn:Int),.slice A1 n1 c1,.slice A2 n2 c2,.int .i64 a.cnt,.slice A3 n3 c3]:=(CbB.new w _ _).ab (alB)
 have x2:CbB ((w.alloc (.cells #[.int .i64 a.err,.int .u64 (a.hd:Int),.int .u64 (a.sn:Int),.slice A1 n1 c1,.slice A2 n2 c2,.int .i64 a.cnt,.slice A3 n3 c3] 44)).alloc (.cells #[.int .i64 a.err,.int .u64 (a.hd:Int),.int .u64 (a.sn:Int),.slice B1 m1 d1,.slice B2 m2 d2,.int .i64 a.cnt,.slice B3 n3 d3] 44)) (w.heap.size+1) 44 #[.int .i64 a.err,.int .u64 (a.hd:Int),.int .u64 (a.sn:Int),.slice B1 m1 d1,.slice B2 m2 d2,.int .i64 a.cnt,.slice B3 n3 d3]:=CbB.newI (by simp)
 have n30:(n3:Int)≤1000000:=by omega
 have L1:=zz fun (i x:Nat) (hi:a.lst[i]? = some x)=>l2 i x hi
 have G1:=zz fun (i x:Nat) (hi:a.lst[i]? = some x)=>g2 i x hi
 have LN:=zz l1
 clear h1 h2 h3 h4 h5 k1 k3 k4 hv l2 g2 g1
 go_enter Tryz.func14,Tryz.ntmps14
 go_upto_region 1 with (fail)
 obtain⟨w0,hw0⟩:∃w0,((w.alloc (.cells #[.int .i64 a.err,.int .u64 (a.hd:Int),.int .u64 (a.sn:Int),.slice A1 n1 c1,.slice A2 n2 c2,.int .i64 a.cnt,.slice A3 n3 c3] 44)).alloc (.cells #[.int .i64 a.err,.int .u64 (a.hd:Int),.int .u64 (a.sn:Int),.slice B1 m1 d1,.slice B2 m2 d2,.int .i64 a.cnt,.slice B3 n3 d3] 44))=w0:=⟨_,rfl⟩
 rw[hw0] at ha x1 x2⊢
 clear hw0
 have s1:=run_str (i1.ab ha) 32 5 9 Tryz.underlying32 Tryz.underlying5 Tryz.underlying9
 have s2:=run_str (j1.ab ha) 32 5 9 Tryz.underlying32 Tryz.underlying5 Tryz.underlying9
 have HP:=zz (prsSame_yes A2 B2 n2 c2 m2 d2 a.prs w0 (r1.ab ha) (r2.ab ha))
 have u0:w0.cell? ⟨w.heap.size,0,none⟩=some (.int .i64 a.err):=x1.cell (k:=0) rfl
 have u1:w0.cell? ⟨w.heap.size,1,none⟩=some (.int .u64 (a.hd:Int)):=x1.cell (k:=1) rfl
 have u2:w0.cell? ⟨w.heap.size,2,none⟩=some (.int .u64 (a.sn:Int)):=x1.cell (k:=2) rfl
 have u3:w0.cell? ⟨w.heap.size,3,none⟩=some (.slice A1 n1 c1):=x1.cell (k:=3) rfl
 have u4:w0.cell? ⟨w.heap.size,4,none⟩=some (.slice A2 n2 c2):=x1.cell (k:=4) rfl
 have u5:w0.cell? ⟨w.heap.size,5,none⟩=some (.int .i64 a.cnt):=x1.cell (k:=5) rfl
 have t0:w0.cell? ⟨w.heap.size+1,0,none⟩=some (.int .i64 a.err):=x2.cell (k:=0) rfl
 have t1:w0.cell? ⟨w.heap.size+1,1,none⟩=some (.int .u64 (a.hd:Int)):=x2.cell (k:=1) rfl
 have t2:w0.cell? ⟨w.heap.size+1,2,none⟩=some (.int .u64 (a.sn:Int)):=x2.cell (k:=2) rfl
 have t3:w0.cell? ⟨w.heap.size+1,3,none⟩=some (.slice B1 m1 d1):=x2.cell (k:=3) rfl
 have t4:w0.cell? ⟨w.heap.size+1,4,none⟩=some (.slice B2 m2 d2):=x2.cell (k:=4) rfl
 have t5:w0.cell? ⟨w.heap.size+1,5,none⟩=some (.int .i64 a.cnt):=x2.cell (k:=5) rfl
 have X1:=zz x1
 have X2:=zz x2
 have HA:=zz ha
 clear ha x1 x2 i1 j1 r1 r2
 go_wp2_with fail
 refine HP.out.mono ?_
 rintro e w1 ⟨rfl,hb⟩
 have v6:∀q,(w1.drewN q).cell? ⟨w.heap.size,6,none⟩=some (.slice A3 n3 c3):=fun q=>(X1.out.ab hb).cell (k:=6) rfl
 have z6:∀q,(w1.drewN q).cell? ⟨w.heap.size+1,6,none⟩=some (.slice B3 n3 d3):=fun q=>(X2.out.ab hb).cell (k:=6) rfl
 have v60:w1.cell? ⟨w.heap.size,6,none⟩=some (.slice A3 n3 c3):=v6 0
 have z60:w1.cell? ⟨w.heap.size+1,6,none⟩=some (.slice B3 n3 d3):=z6 0
 have B1:=zz (below_tr HA.out hb HA.out.size)
 have HB1:=zz hb
 clear hb HP u0 u1 u2 u3 u4 u5 t0 t1 t2 t3 t4 t5 s1 s2
 go_wp2_with fail
 go_loopw [5] (fun z wr=>∃i:Nat,i≤n3∧z = .int .i64 (i:Int)∧∃q,wr=w1.drewN q) (fun z _=>n3-(intOf z).toNat)
 case atStart=>exact⟨0,Nat.zero_le _,rfl,0,rfl⟩
 case round=>
  obtain⟨i,hi,rfl,q0,rfl⟩:=hrel
  by_cases hlt:i<n3
  · obtain⟨x,hx⟩:∃x,a.lst[i]? = some x:=⟨_,List.getElem?_eq_getElem (by rw[LN.out];exact hlt)⟩
    obtain⟨g,rfl,al,a1⟩:=L1.out i x hx
    obtain⟨g',rfl,bl,b1⟩:=G1.out i x hx
    have a2:w1.cell? ⟨g,i,none⟩=some (.int .u32 (x:Int)):=(World.cell?_of_block (B1.out.block g al)).trans a1
    have b2:w1.cell? ⟨g',i,none⟩=some (.int .u32 (x:Int)):=(World.cell?_of_block (B1.out.block g' bl)).trans b1
    have hlti:(i:Int)<(n3:Int):=by omega
    have hi0:(0:Int)≤(i:Int):=by omega
    have KL:=zz hlt
    clear a1 b1 al bl hx hi hlt
    go_wp2_with fail
    go_quiet (fail)
    go_wp2_with fail
    go_roundw
    case rel=>exact⟨i+1,KL.out,by go_num,_,rfl⟩
    case measure=>simp[intOf];have:=KL.out;omega
  · obtain rfl:i=n3:=by omega
    clear hi hlt
    go_wp2_with fail
    go_ret
    exact⟨rfl,bel_drewN B1.out _⟩
open Go.RowKit Go.ChangeShapes Go.WideShapes
section
variable {H:Type} {enc:TypeId×Value→H} {W:World}
def CallQ (W:World) (a:Addr) (c:CallP):Prop:=(∀(i:Nat) (v:Value),c.cs[i]? = some v→W.cell? (a.add i)=some v)∧c.B W
end
theorem CallQ.ab {w w':World} {a:Addr} {c:CallP} (h:CallQ w a c) (hb:Below w.heap.size w w') (ha:a.block<w.heap.size):CallQ w' a c:=
 ⟨fun i v hv=>(World.cell?_of_block (hb.block _ (by rw[add_block];exact ha))).trans (h.1 i v hv),h.2.ab hb⟩
def RetB (e:Ending):Prop:=∃b,e = .returned (.bool b)
set_option maxRecDepth 100000 in
theorem tame_any (c:CallP) (w:World) (hb:c.B w):Calls Tryz.prog 11 #[.agg c.cs] w fun e w'=>RetB e∧Below w.heap.size w w':=by
 have B0:Hid (Below w.heap.size w (w.alloc (.cells c.cs 37))):=zz (alB)
 have HO:=zz (hb.ops.ab B0.out)
 have hcell:∀(k:Nat) (v:Value),c.cs[k]? = some v→(w.alloc (.cells c.cs 37)).cell? ⟨w.heap.size,k,none⟩=some v:=fun k v hv=>(CbB.new w 37 c.cs).cell hv
 have k2:(w.alloc (.cells c.cs 37)).cell? ⟨w.heap.size,2,none⟩=some (.slice c.sec.A c.sec.n c.sec.c):=hcell 2 _ rfl
 have k9:(w.alloc (.cells c.cs 37)).cell? ⟨w.heap.size,9,none⟩=some (.slice c.oA c.oN c.oC):=hcell 9 _ rfl
 have k10:(w.alloc (.cells c.cs 37)).cell? ⟨w.heap.size,10,none⟩=some (.slice c.key.A c.key.n c.key.c):=hcell 10 _ rfl
 have k11:(w.alloc (.cells c.cs 37)).cell? ⟨w.heap.size,11,none⟩=some (.slice c.frm.A c.frm.n c.frm.c):=hcell 11 _ rfl
 have k12:(w.alloc (.cells c.cs 37)).cell? ⟨w.heap.size,12,none⟩=some (.slice c.upto.A c.upto.n c.upto.c):=hcell 12 _ rfl
 clear hb hcell
 go_enter Tryz.func11,Tryz.ntmps11
 have CEL:=zz HO.out.cel
 have NL:=zz HO.out.len
 have NM:=zz (show c.oN≤maxLen by have:=HO.out.cap;have:=HO.out.max;omega)
 go_upto_region 2 with (fail)
 obtain⟨V,hV⟩:∃V,w.alloc (.cells c.cs 37)=V:=⟨_,rfl⟩
 rw[hV] at B0 HO CEL k2 k9 k10 k11 k12⊢
 clear hV
 go_wp2_with fail
 go_loopw [3,4] (fun y z wr=>∃i:Nat,i≤c.oN∧(∃u,y = .int .i64 u)∧z = .int .i64 (i:Int)∧∃q,wr=V.drewN q) (fun y z _=>c.oN-(intOf z).toNat)
 case atStart=>exact⟨0,Nat.zero_le _,⟨_,rfl⟩,rfl,0,rfl⟩
 case round=>
  obtain⟨i,hi,⟨u,rfl⟩,rfl,q0,rfl⟩:=hrel
  by_cases hlt:i<c.oN
  · by_cases h2:i<200
    · obtain⟨o,ho⟩:∃o,c.ops[i]? = some o:=⟨_,List.getElem?_eq_getElem (by rw[NL.out];exact hlt)⟩
      obtain⟨x,hx,hxl,o1,o2,o3,o4,o5⟩:=CEL.out i o ho
      rw[hx] at k9⊢
      have hlti:(i:Int)<(c.oN:Int):=by omega
      have hi0:(0:Int)≤(i:Int):=by omega
      have hi2:(i:Int)<200:=by omega
      have KL:=zz hlt
      clear o3 o4 o5 ho hi hlt h2
      go_wp2_with fail
      go_quiet (fail)
      go_wp2_with fail
      go_roundw
      case rel=>exact⟨i+1,KL.out,⟨_,rfl⟩,by go_num,_,rfl⟩
      case measure=>simp[intOf];have:=KL.out;omega
    · have hi2:¬(i:Int)<200:=by omega
      clear hi hlt h2
      go_wp2_with fail
      all_goals go_ret
      all_goals exact⟨⟨_,rfl⟩,bel_drewN B0.out _⟩
  · obtain rfl:i=c.oN:=by omega
    clear hi hlt
    go_wp2_with fail
    go_ret
    exact⟨⟨_,rfl⟩,bel_drewN B0.out _⟩
def AtX (W:World) (O:Tg) (g:Nat) (t:TypeId) (cs:Array Value):Prop:=CbB W g t cs∧O g=some (0,0)
theorem AtX.stp {P:Nat×Nat→Prop} {w w':World} {O O':Tg} {g:Nat} {t:TypeId} {cs:Array Value} (h:AtX w O g t cs) (k:Stp P w O w' O') (hn:¬P (0,0)):AtX w' O' g t cs:=box_stp h.1 h.2 k hn
theorem AtX.new (w:World) (O:Tg) (t:TypeId) (cs:Array Value):AtX (w.alloc (.cells cs t)) (cutTg O w.heap.size) w.heap.size t cs:=⟨CbB.new w t cs,cutTg_at (Nat.le_refl _)⟩
set_option maxRecDepth 100000 in
theorem idNew_bad (b:Int) (hb:b<8∨4096<b) (w:World):Calls Tryz.prog 4 #[.int .i64 b] w fun e w'=>
 e = .returned (.tuple #[.pointer none,.int .i64 2])∧Below w.heap.size w w':=by
 rcases hb with h | h
 · have d0:decide (b<8)=true:=by simp;omega
   go_enter Tryz.func4,Tryz.ntmps4
   go_wp2_with fail
   go_ret2
   exact⟨rfl,Below.refl _ _⟩
 · have d0:decide (b<8)=false:=by simp;omega
   have d1:decide (4096<b)=true:=by simp;omega
   go_enter Tryz.func4,Tryz.ntmps4
   go_wp2_with fail
   go_ret2
   exact⟨rfl,Below.refl _ _⟩
theorem add_addr (a:Addr) (i:Nat) (h:i≠0):a.add i=⟨a.block,a.off+i,none⟩:=by unfold Addr.add;rw[if_neg h]
def CallC (w:World) (a:Addr) (q:CallP):Prop:=w.cell? a=some (.int .i64 q.kind)∧w.cell? ⟨a.block,a.off+1,none⟩=some (.int .u32 (q.ten:Int))∧w.cell? ⟨a.block,a.off+2,none⟩=some (.slice q.sec.A q.sec.n q.sec.c)∧w.cell? ⟨a.block,a.off+3,none⟩=some (.int .i64 q.quota)∧w.cell? ⟨a.block,a.off+4,none⟩=some (.int .i64 q.n)∧w.cell? ⟨a.block,a.off+5,none⟩=some (.int .u64 (q.hd:Int))∧w.cell? ⟨a.block,a.off+6,none⟩=some (.int .u64 (q.oth:Int))∧w.cell? ⟨a.block,a.off+7,none⟩=some (.int .u64 (q.sn:Int))∧w.cell? ⟨a.block,a.off+8,none⟩=some (.int .u8 (q.rt:Int))∧w.cell? ⟨a.block,a.off+9,none⟩=some (.slice q.oA q.oN q.oC)∧w.cell? ⟨a.block,a.off+10,none⟩=some (.slice q.key.A q.key.n q.key.c)∧w.cell? ⟨a.block,a.off+11,none⟩=some (.slice q.frm.A q.frm.n q.frm.c)∧w.cell? ⟨a.block,a.off+12,none⟩=some (.slice q.upto.A q.upto.n q.upto.c)∧w.cell? ⟨a.block,a.off+13,none⟩=some (.bool q.back)
theorem CallC.fr {w w':World} {a:Addr} {q:CallP} (h:CallC w a q) (hb:w'.heap[a.block]? = w.heap[a.block]?):CallC w' a q:=by
 obtain⟨c0,c1,c2,c3,c4,c5,c6,c7,c8,c9,c10,c11,c12,c13⟩:=h
 have f:∀(x:Addr),x.block=a.block→w'.cell? x=w.cell? x:=fun x e=>World.cell?_of_block (by rw[e];exact hb)
 exact⟨(f a rfl).trans c0,(f ⟨a.block,a.off+1,none⟩ rfl).trans c1,(f ⟨a.block,a.off+2,none⟩ rfl).trans c2,(f ⟨a.block,a.off+3,none⟩ rfl).trans c3,(f ⟨a.block,a.off+4,none⟩ rfl).trans c4,(f ⟨a.block,a.off+5,none⟩ rfl).trans c5,(f ⟨a.block,a.off+6,none⟩ rfl).trans c6,(f ⟨a.block,a.off+7,none⟩ rfl).trans c7,(f ⟨a.block,a.off+8,none⟩ rfl).trans c8,(f ⟨a.block,a.off+9,none⟩ rfl).trans c9,(f ⟨a.block,a.off+10,none⟩ rfl).trans c10,(f ⟨a.block,a.off+11,none⟩ rfl).trans c11,(f ⟨a.block,a.off+12,none⟩ rfl).trans c12,(f ⟨a.block,a.off+13,none⟩ rfl).trans c13⟩
theorem CallQ.cz {w:World} {a:Addr} {q:CallP} (h:CallQ w a q):CallC w a q:=by
 refine⟨addZ a (h.1 0 _ rfl),?_,?_,?_,?_,?_,?_,?_,?_,?_,?_,?_,?_,?_⟩
 · rw[←add_addr a 1 (by decide)];exact h.1 1 _ rfl
 · rw[←add_addr a 2 (by decide)];exact h.1 2 _ rfl
 · rw[←add_addr a 3 (by decide)];exact h.1 3 _ rfl
 · rw[←add_addr a 4 (by decide)];exact h.1 4 _ rfl
 · rw[←add_addr a 5 (by decide)];exact h.1 5 _ rfl
 · rw[←add_addr a 6 (by decide)];exact h.1 6 _ rfl
 · rw[←add_addr a 7 (by decide)];exact h.1 7 _ rfl
 · rw[←add_addr a 8 (by decide)];exact h.1 8 _ rfl
 · rw[←add_addr a 9 (by decide)];exact h.1 9 _ rfl
 · rw[←add_addr a 10 (by decide)];exact h.1 10 _ rfl
 · rw[←add_addr a 11 (by decide)];exact h.1 11 _ rfl
 · rw[←add_addr a 12 (by decide)];exact h.1 12 _ rfl
 · rw[←add_addr a 13 (by decide)];exact h.1 13 _ rfl
def tgF (O6:Tg) (s2:Nat) (k:Nat):Prop:=∃τ,O6 k=some τ∧τ.1=s2
structure StepI where
 c:CallP
 op:Bool
 cp:Bool
section
variable {H:Type} {enc:TypeId×Value→H} {W:World}
def StepQ (W:World) (a:Addr) (q:StepI):Prop:=CallQ W a q.c∧W.cell? (a.add 14)=some (.bool q.op)∧W.cell? (a.add 15)=some (.bool q.cp)
structure StepsB (w:World) (A:Option Addr) (n c:Nat) (l:List StepI):Prop where
 len:l.length=n
 le:n≤c
 max:c≤maxLen
 cel:∀(i:Nat) (q:StepI),l[i]? = some q→∃x,A=some x∧x.block<w.heap.size∧StepQ w (x.add (i*16)) q
end
theorem StepQ.ab {w w':World} {a:Addr} {q:StepI} (h:StepQ w a q) (hb:Below w.heap.size w w') (ha:a.block<w.heap.size):StepQ w' a q:=
 ⟨h.1.ab hb ha,(World.cell?_of_block (hb.block _ (by rw[add_block];exact ha))).trans h.2.1,(World.cell?_of_block (hb.block _ (by rw[add_block];exact ha))).trans h.2.2⟩
theorem StepsB.ab {w w':World} {A:Option Addr} {n c:Nat} {l:List StepI} (h:StepsB w A n c l) (hb:Below w.heap.size w w'):StepsB w' A n c l:=⟨h.len,h.le,h.max,fun i q hi=>by
 obtain⟨x,h1,h2,h3⟩:=h.cel i q hi
 exact⟨x,h1,Nat.lt_of_lt_of_le h2 hb.size,h3.ab hb (by rw[add_block];exact h2)⟩⟩
end Go.Proofs.YtgdhinjhbjolgaaGreat
