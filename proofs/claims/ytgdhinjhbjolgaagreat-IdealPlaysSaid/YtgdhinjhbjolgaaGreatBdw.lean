/-
  Parts of the proof, joined.
-/
import Derived.Test.YtgdhinjhbjolgaaGreatBdv
import Derived.LaidEql
namespace Go.Proofs.YtgdhinjhbjolgaaGreat
set_option maxHeartbeats 4000000
open Go.RowKit
set_option linter.unusedVariables false
set_option linter.unusedSimpArgs false
theorem updT_selfT {T:List TnP} {n:Nat} {t:TnP} (hn:(T.map (·.n)).Nodup) (hf:fndT T n=some t):updT n t T=T:=by
 unfold updT
 have:T.map (fun u=>if u.n=n then t else u)=T.map id:=List.map_congr_left fun u hu=>by
  by_cases e:u.n=n
  · rw[if_pos e]
    have:=fndT_of hn hu
    rw[e,hf] at this
    injection this
  · rw[if_neg e];rfl
 rw[this,List.map_id]
section
variable {w:World} {O:Tg} {r blocks:Nat} {T:List TnP} {av:Value} {bs:List (Nat×TnP)} {c:CallP}
set_option maxRecDepth 100000 in
theorem rad_none (h:RfM w O r blocks T av bs) (hl:bs.length≤100000) (hc:c.B w) (hf:fnd bs c.ten=none):
 Calls Tryz.prog 28 #[.pointer (some ⟨r,0,none⟩),.agg c.cs] w (RdR r blocks w O (errA 7) (T)):=by
 have HF:=zz fun e W=>rerr_any e W
 have HW:=zz h
 have HLN:=zz hl
 have HFN:=zz hf
 obtain⟨w0,hw0,ha,hcb,hqb⟩:=preX w c
 clear h hl hc hf
 unfold CallP.cs at hcb⊢
 go_enter Tryz.func28,Tryz.ntmps28
 go_upto_region 1 with (fail)
 rw[hw0.out]
 clear hw0
 have HA:=zz ha
 have Q0:=zz hqb
 have CBX:=zz hcb
 have c1:=hcb.cell (k:=1) rfl
 clear ha hqb
 have M0:=zz (HW.out.stp (ctS HA.out) noF)
 have NP:Hid (0<r):=zz HW.out.pos
 have HFD:=zz (rfind_any c.ten M0.out HLN.out)
 rw[HFN.out] at HFD
 clear hcb
 go_wp2_with fail
 simp only[Option.map_none] at HFD
 refine HFD.out.mono ?_
 rintro e w1 ⟨rfl,rfl⟩
 clear HFD
 go_wp2_with fail
 refine (HF.out _ _).mono ?_
 rintro e w8 ⟨rfl,hb⟩
 have Q8:=zz (Q0.out.ab hb)
 have S8:=stKp r O HA (zz hb)
 have M8:=zz (M0.out.ab hb)
 clear hb
 go_wp2_with (first
  | ((with_reducible refine stA 21 ?_ (ansE 7) ?_ Q8 ?_ ?_ (ansE_one _) ?_);rfl;rfl;rfl;rfl;intro wz QZ FZ))
 refine bodyPost_ret (ansR Tryz.results28 QZ rfl rfl) rfl ?_
 exact RdR.er 7 M8 S8 FZ (cutTg_at (Nat.le_succ _)) NP
set_option maxRecDepth 100000 in
theorem rturn_busy (x:Nat×TnP) (h:RfM w O r blocks T av bs) (hl:bs.length≤100000) (hc:c.B w) (hkind:c.kind=3) (hf:fnd bs c.ten=some x) (hu:x.2.tu=true):
 Calls Tryz.prog 28 #[.pointer (some ⟨r,0,none⟩),.agg c.cs] w (RdR r blocks w O (errA 263) (T)):=by
 have HF:=zz fun e W=>rerr_any e W
 have HW:=zz h
 have HLN:=zz hl
 obtain⟨mv,l,cb,cv,sv,ht⟩:=h.all x (fnd_mem hf).1
 have HT:=zz ht
 have HFN:=zz hf
 have HU:=zz hu
 obtain⟨w0,hw0,ha,hcb,hqb⟩:=preX w c
 have KD:=zz hkind
 clear hkind
 clear h hl hc hf ht hu
 unfold CallP.cs at hcb⊢
 go_enter Tryz.func28,Tryz.ntmps28
 go_upto_region 1 with (fail)
 rw[hw0.out]
 clear hw0
 have HA:=zz ha
 have Q0:=zz hqb
 have CBX:=zz hcb
 have c0:=cK KD hcb rfl
 have c1:=hcb.cell (k:=1) rfl
 have c4:=hcb.cell (k:=4) rfl
 clear ha hqb
 have M0:=zz (HW.out.stp (ctS HA.out) noF)
 have NP:Hid (0<r):=zz HW.out.pos
 have T0:=zz (HT.out.stp (ctS HA.out) fun h=>h)
 have HFD:=zz (rfind_any c.ten M0.out HLN.out)
 rw[HFN.out] at HFD
 have d6:w0.cell? ⟨x.1,6,none⟩=some (.bool true):=by rw[←HU.out];exact T0.out.box.cell (k:=6) rfl
 clear hcb
 go_wp2_with fail
 simp only[Option.map_some] at HFD
 refine HFD.out.mono ?_
 rintro e w1 ⟨rfl,rfl⟩
 clear HFD
 go_wp2_with fail
 refine (HF.out _ _).mono ?_
 rintro e w8 ⟨rfl,hb⟩
 have Q8:=zz (Q0.out.ab hb)
 have S8:=stKp r O HA (zz hb)
 have M8:=zz (M0.out.ab hb)
 clear hb
 go_wp2_with (first
  | ((with_reducible refine stA 68 ?_ (ansE 263) ?_ Q8 ?_ ?_ (ansE_one _) ?_);rfl;rfl;rfl;rfl;intro wz QZ FZ))
 refine bodyPost_ret (ansR Tryz.results28 QZ rfl rfl) rfl ?_
 exact RdR.er 263 M8 S8 FZ (cutTg_at (Nat.le_succ _)) NP
set_option maxRecDepth 100000 in
theorem rstep_low (x:Nat×TnP) (h:RfM w O r blocks T av bs) (hl:bs.length≤100000) (hc:c.B w) (hkind:c.kind=4) (hf:fnd bs c.ten=some x) (n0:decide (c.n<1)=true):
 Calls Tryz.prog 28 #[.pointer (some ⟨r,0,none⟩),.agg c.cs] w (RdR r blocks w O (errA 2) (T)):=by
 have HF:=zz fun e W=>rerr_any e W
 have HW:=zz h
 have HLN:=zz hl
 obtain⟨mv,l,cb,cv,sv,ht⟩:=h.all x (fnd_mem hf).1
 have HT:=zz ht
 have HFN:=zz hf
 obtain⟨w0,hw0,ha,hcb,hqb⟩:=preX w c
 have KD:=zz hkind
 clear hkind
 clear h hl hc hf ht
 unfold CallP.cs at hcb⊢
 go_enter Tryz.func28,Tryz.ntmps28
 go_upto_region 1 with (fail)
 rw[hw0.out]
 clear hw0
 have HA:=zz ha
 have Q0:=zz hqb
 have CBX:=zz hcb
 have c0:=cK KD hcb rfl
 have c1:=hcb.cell (k:=1) rfl
 have c4:=hcb.cell (k:=4) rfl
 clear ha hqb
 have M0:=zz (HW.out.stp (ctS HA.out) noF)
 have NP:Hid (0<r):=zz HW.out.pos
 have T0:=zz (HT.out.stp (ctS HA.out) fun h=>h)
 have HFD:=zz (rfind_any c.ten M0.out HLN.out)
 rw[HFN.out] at HFD
 have d6:w0.cell? ⟨x.1,6,none⟩=some (.bool x.2.tu):=T0.out.box.cell (k:=6) rfl
 clear hcb
 go_wp2_with fail
 simp only[Option.map_some] at HFD
 refine HFD.out.mono ?_
 rintro e w1 ⟨rfl,rfl⟩
 clear HFD
 go_wp2_with fail
 refine (HF.out _ _).mono ?_
 rintro e w8 ⟨rfl,hb⟩
 have Q8:=zz (Q0.out.ab hb)
 have S8:=stKp r O HA (zz hb)
 have M8:=zz (M0.out.ab hb)
 clear hb
 go_wp2_with (first
  | ((with_reducible refine stA 83 ?_ (ansE 2) ?_ Q8 ?_ ?_ (ansE_one _) ?_);rfl;rfl;rfl;rfl;intro wz QZ FZ))
 refine bodyPost_ret (ansR Tryz.results28 QZ rfl rfl) rfl ?_
 exact RdR.er 2 M8 S8 FZ (cutTg_at (Nat.le_succ _)) NP
set_option maxRecDepth 100000 in
theorem rstep_high (x:Nat×TnP) (h:RfM w O r blocks T av bs) (hl:bs.length≤100000) (hc:c.B w) (hkind:c.kind=4) (hf:fnd bs c.ten=some x) (n0:decide (c.n<1)=false) (n1:decide ((100:Int)<c.n)=true):
 Calls Tryz.prog 28 #[.pointer (some ⟨r,0,none⟩),.agg c.cs] w (RdR r blocks w O (errA 2) (T)):=by
 have HF:=zz fun e W=>rerr_any e W
 have HW:=zz h
 have HLN:=zz hl
 obtain⟨mv,l,cb,cv,sv,ht⟩:=h.all x (fnd_mem hf).1
 have HT:=zz ht
 have HFN:=zz hf
 obtain⟨w0,hw0,ha,hcb,hqb⟩:=preX w c
 have KD:=zz hkind
 clear hkind
 clear h hl hc hf ht
 unfold CallP.cs at hcb⊢
 go_enter Tryz.func28,Tryz.ntmps28
 go_upto_region 1 with (fail)
 rw[hw0.out]
 clear hw0
 have HA:=zz ha
 have Q0:=zz hqb
 have CBX:=zz hcb
 have c0:=cK KD hcb rfl
 have c1:=hcb.cell (k:=1) rfl
 have c4:=hcb.cell (k:=4) rfl
 clear ha hqb
 have M0:=zz (HW.out.stp (ctS HA.out) noF)
 have NP:Hid (0<r):=zz HW.out.pos
 have T0:=zz (HT.out.stp (ctS HA.out) fun h=>h)
 have HFD:=zz (rfind_any c.ten M0.out HLN.out)
 rw[HFN.out] at HFD
 have d6:w0.cell? ⟨x.1,6,none⟩=some (.bool x.2.tu):=T0.out.box.cell (k:=6) rfl
 clear hcb
 go_wp2_with fail
 simp only[Option.map_some] at HFD
 refine HFD.out.mono ?_
 rintro e w1 ⟨rfl,rfl⟩
 clear HFD
 go_wp2_with fail
 refine (HF.out _ _).mono ?_
 rintro e w8 ⟨rfl,hb⟩
 have Q8:=zz (Q0.out.ab hb)
 have S8:=stKp r O HA (zz hb)
 have M8:=zz (M0.out.ab hb)
 clear hb
 go_wp2_with (first
  | ((with_reducible refine stA 83 ?_ (ansE 2) ?_ Q8 ?_ ?_ (ansE_one _) ?_);rfl;rfl;rfl;rfl;intro wz QZ FZ))
 refine bodyPost_ret (ansR Tryz.results28 QZ rfl rfl) rfl ?_
 exact RdR.er 2 M8 S8 FZ (cutTg_at (Nat.le_succ _)) NP
set_option maxRecDepth 100000 in
theorem rstep_state (x:Nat×TnP) (h:RfM w O r blocks T av bs) (hl:bs.length≤100000) (hc:c.B w) (hkind:c.kind=4) (hf:fnd bs c.ten=some x) (n0:decide (c.n<1)=false) (n1:decide ((100:Int)<c.n)=false) (hu:x.2.tu=false):
 Calls Tryz.prog 28 #[.pointer (some ⟨r,0,none⟩),.agg c.cs] w (RdR r blocks w O (errA 264) (T)):=by
 have HF:=zz fun e W=>rerr_any e W
 have HW:=zz h
 have HLN:=zz hl
 obtain⟨mv,l,cb,cv,sv,ht⟩:=h.all x (fnd_mem hf).1
 have HT:=zz ht
 have HFN:=zz hf
 have HU:=zz hu
 obtain⟨w0,hw0,ha,hcb,hqb⟩:=preX w c
 have KD:=zz hkind
 clear hkind
 clear h hl hc hf ht hu
 unfold CallP.cs at hcb⊢
 go_enter Tryz.func28,Tryz.ntmps28
 go_upto_region 1 with (fail)
 rw[hw0.out]
 clear hw0
 have HA:=zz ha
 have Q0:=zz hqb
 have CBX:=zz hcb
 have c0:=cK KD hcb rfl
 have c1:=hcb.cell (k:=1) rfl
 have c4:=hcb.cell (k:=4) rfl
 clear ha hqb
 have M0:=zz (HW.out.stp (ctS HA.out) noF)
 have NP:Hid (0<r):=zz HW.out.pos
 have T0:=zz (HT.out.stp (ctS HA.out) fun h=>h)
 have HFD:=zz (rfind_any c.ten M0.out HLN.out)
 rw[HFN.out] at HFD
 have d6:w0.cell? ⟨x.1,6,none⟩=some (.bool false):=by rw[←HU.out];exact T0.out.box.cell (k:=6) rfl
 clear hcb
 go_wp2_with fail
 simp only[Option.map_some] at HFD
 refine HFD.out.mono ?_
 rintro e w1 ⟨rfl,rfl⟩
 clear HFD
 go_wp2_with fail
 refine (HF.out _ _).mono ?_
 rintro e w8 ⟨rfl,hb⟩
 have Q8:=zz (Q0.out.ab hb)
 have S8:=stKp r O HA (zz hb)
 have M8:=zz (M0.out.ab hb)
 clear hb
 go_wp2_with (first
  | ((with_reducible refine stA 95 ?_ (ansE 264) ?_ Q8 ?_ ?_ (ansE_one _) ?_);rfl;rfl;rfl;rfl;intro wz QZ FZ))
 refine bodyPost_ret (ansR Tryz.results28 QZ rfl rfl) rfl ?_
 exact RdR.er 264 M8 S8 FZ (cutTg_at (Nat.le_succ _)) NP
set_option maxRecDepth 100000 in
theorem rfin_state (x:Nat×TnP) (h:RfM w O r blocks T av bs) (hl:bs.length≤100000) (hc:c.B w) (hkind:c.kind=5) (hf:fnd bs c.ten=some x) (hu:x.2.tu=false):
 Calls Tryz.prog 28 #[.pointer (some ⟨r,0,none⟩),.agg c.cs] w (RdR r blocks w O (errA 264) (T)):=by
 have HF:=zz fun e W=>rerr_any e W
 have HW:=zz h
 have HLN:=zz hl
 obtain⟨mv,l,cb,cv,sv,ht⟩:=h.all x (fnd_mem hf).1
 have HT:=zz ht
 have HFN:=zz hf
 have HU:=zz hu
 obtain⟨w0,hw0,ha,hcb,hqb⟩:=preX w c
 have KD:=zz hkind
 clear hkind
 clear h hl hc hf ht hu
 unfold CallP.cs at hcb⊢
 go_enter Tryz.func28,Tryz.ntmps28
 go_upto_region 1 with (fail)
 rw[hw0.out]
 clear hw0
 have HA:=zz ha
 have Q0:=zz hqb
 have CBX:=zz hcb
 have c0:=cK KD hcb rfl
 have c1:=hcb.cell (k:=1) rfl
 have c4:=hcb.cell (k:=4) rfl
 clear ha hqb
 have M0:=zz (HW.out.stp (ctS HA.out) noF)
 have NP:Hid (0<r):=zz HW.out.pos
 have T0:=zz (HT.out.stp (ctS HA.out) fun h=>h)
 have HFD:=zz (rfind_any c.ten M0.out HLN.out)
 rw[HFN.out] at HFD
 have d6:w0.cell? ⟨x.1,6,none⟩=some (.bool false):=by rw[←HU.out];exact T0.out.box.cell (k:=6) rfl
 clear hcb
 go_wp2_with fail
 simp only[Option.map_some] at HFD
 refine HFD.out.mono ?_
 rintro e w1 ⟨rfl,rfl⟩
 clear HFD
 go_wp2_with fail
 refine (HF.out _ _).mono ?_
 rintro e w8 ⟨rfl,hb⟩
 have Q8:=zz (Q0.out.ab hb)
 have S8:=stKp r O HA (zz hb)
 have M8:=zz (M0.out.ab hb)
 clear hb
 go_wp2_with (first
  | ((with_reducible refine stA 95 ?_ (ansE 264) ?_ Q8 ?_ ?_ (ansE_one _) ?_);rfl;rfl;rfl;rfl;intro wz QZ FZ))
 refine bodyPost_ret (ansR Tryz.results28 QZ rfl rfl) rfl ?_
 exact RdR.er 264 M8 S8 FZ (cutTg_at (Nat.le_succ _)) NP
set_option maxRecDepth 100000 in
theorem rfin_busy (x:Nat×TnP) (h:RfM w O r blocks T av bs) (hl:bs.length≤100000) (hc:c.B w) (hkind:c.kind=5) (hf:fnd bs c.ten=some x) (hsn:x.2.sn.length≤100000) (hv:liveC x.2.sn≠[]) (hu:x.2.tu=true):
 Calls Tryz.prog 28 #[.pointer (some ⟨r,0,none⟩),.agg c.cs] w (RdR r blocks w O (errA 263) (T)):=by
 have HF:=zz fun e W=>rerr_any e W
 have HW:=zz h
 have HLN:=zz hl
 obtain⟨mv,l,cb,cv,sv,ht⟩:=h.all x (fnd_mem hf).1
 have HT:=zz ht
 have HFN:=zz hf
 have HSN:=zz hsn
 have HV:=zz hv
 have HU:=zz hu
 obtain⟨w0,hw0,ha,hcb,hqb⟩:=preX w c
 have KD:=zz hkind
 clear hkind
 clear h hl hc hf ht hu hsn hv
 unfold CallP.cs at hcb⊢
 go_enter Tryz.func28,Tryz.ntmps28
 go_upto_region 1 with (fail)
 rw[hw0.out]
 clear hw0
 have HA:=zz ha
 have Q0:=zz hqb
 have CBX:=zz hcb
 have c0:=cK KD hcb rfl
 have c1:=hcb.cell (k:=1) rfl
 have c4:=hcb.cell (k:=4) rfl
 clear ha hqb
 have M0:=zz (HW.out.stp (ctS HA.out) noF)
 have NP:Hid (0<r):=zz HW.out.pos
 have T0:=zz (HT.out.stp (ctS HA.out) fun h=>h)
 have HFD:=zz (rfind_any c.ten M0.out HLN.out)
 rw[HFN.out] at HFD
 have d6:w0.cell? ⟨x.1,6,none⟩=some (.bool true):=by rw[←HU.out];exact T0.out.box.cell (k:=6) rfl
 have HS:=zz (rsnapped_any T0.out HSN.out)
 rw[decide_eq_false HV.out] at HS
 clear hcb
 go_wp2_with fail
 simp only[Option.map_some] at HFD
 refine HFD.out.mono ?_
 rintro e w1 ⟨rfl,rfl⟩
 clear HFD
 go_wp2_with fail
 refine HS.out.mono ?_
 rintro e w1 ⟨rfl,rfl⟩
 clear HS
 go_wp2_with fail
 refine (HF.out _ _).mono ?_
 rintro e w8 ⟨rfl,hb⟩
 have Q8:=zz (Q0.out.ab hb)
 have S8:=stKp r O HA (zz hb)
 have M8:=zz (M0.out.ab hb)
 clear hb
 go_wp2_with (first
  | ((with_reducible refine stA 104 ?_ (ansE 263) ?_ Q8 ?_ ?_ (ansE_one _) ?_);rfl;rfl;rfl;rfl;intro wz QZ FZ))
 refine bodyPost_ret (ansR Tryz.results28 QZ rfl rfl) rfl ?_
 exact RdR.er 263 M8 S8 FZ (cutTg_at (Nat.le_succ _)) NP
set_option maxRecDepth 100000 in
theorem rturn_ok (x:Nat×TnP) (h:RfM w O r blocks T av bs) (hl:bs.length≤100000) (hc:c.B w) (hkind:c.kind=3) (hf:fnd bs c.ten=some x) (hu:x.2.tu=false):
 Calls Tryz.prog 28 #[.pointer (some ⟨r,0,none⟩),.agg c.cs] w (RdR r blocks w O (errA 0) (updT c.ten (setTu x.2 true) T)):=by
 have HF:=zz fun e W=>rerr_any e W
 have HW:=zz h
 have HLN:=zz hl
 obtain⟨mv,l,cb,cv,sv,ht⟩:=h.all x (fnd_mem hf).1
 have HT:=zz ht
 have HFN:=zz hf
 have OKX:=zz (h.ok x (fnd_mem hf).1)
 have XN:=zz (fnd_mem hf).2
 have HU:=zz hu
 obtain⟨w0,hw0,ha,hcb,hqb⟩:=preX w c
 have KD:=zz hkind
 clear hkind
 clear h hl hc hf ht hu
 unfold CallP.cs at hcb⊢
 go_enter Tryz.func28,Tryz.ntmps28
 go_upto_region 1 with (fail)
 rw[hw0.out]
 clear hw0
 have HA:=zz ha
 have Q0:=zz hqb
 have CBX:=zz hcb
 have c0:=cK KD hcb rfl
 have c1:=hcb.cell (k:=1) rfl
 have c4:=hcb.cell (k:=4) rfl
 clear ha hqb
 have M0:=zz (HW.out.stp (ctS HA.out) noF)
 have NP:Hid (0<r):=zz HW.out.pos
 have T0:=zz (HT.out.stp (ctS HA.out) fun h=>h)
 have HFD:=zz (rfind_any c.ten M0.out HLN.out)
 rw[HFN.out] at HFD
 have d6:w0.cell? ⟨x.1,6,none⟩=some (.bool false):=by rw[←HU.out];exact T0.out.box.cell (k:=6) rfl
 clear hcb
 go_wp2_with fail
 simp only[Option.map_some] at HFD
 refine HFD.out.mono ?_
 rintro e w1 ⟨rfl,rfl⟩
 clear HFD
 have f6:w0.frozen? ⟨x.1,6,none⟩=false:=T0.out.box.free 6
 go_upto_region 21 with (fail)
 have BS:=T0.out.box.set 6 (.bool true)
 have FS:=fr_set w0 x.1 6 (.bool true)
 obtain⟨w4,hw4⟩:∃w4,w0.setCell ⟨x.1,6,none⟩ (.bool true)=w4:=⟨_,rfl⟩
 rw[hw4] at BS FS⊢
 obtain⟨t4,k4⟩:=T0.out.turnS FS true BS
 have Q4:=zz (Q0.out.fr FS (fun e=>absurd e (cb_neX Q0.out T0.out.box (by decide))))
 have M4:=zz (M0.out.upd (n:=x.2.n) (t':=setTu x.2 true) (by rw[XN.out];exact HFN.out) k4 rfl (by have h1:=OKX.out;exact⟨h1.n1,h1.n32,h1.sec,h1.q1,h1.q2⟩) ⟨_,_,_,_,_,t4⟩)
 rw[XN.out] at M4
 have S4:Hid (Stp (fun τ=>τ.1=r) w O w4 (cutTg O w.heap.size)):=zz ((Stp.cut HA.out _).tr (k4.imp fun τ e=>by rw[e]))
 have OA:=oaT O w
 clear hw4 BS FS t4 k4 d6 f6
 go_wp2_with fail
 refine (HF.out _ _).mono ?_
 rintro e w8 ⟨rfl,hb⟩
 have Q8:=zz (Q4.out.ab hb)
 have S8:=zz (S4.out.ab hb)
 have M8:=zz (M4.out.ab hb)
 clear hb
 go_wp2_with (first
  | ((with_reducible refine stA 105 ?_ (ansE 0) ?_ Q8 ?_ ?_ (ansE_one _) ?_);rfl;rfl;rfl;rfl;intro wz QZ FZ))
 refine bodyPost_ret (ansR Tryz.results28 QZ rfl rfl) rfl ?_
 exact RdR.er 0 M8 S8 FZ OA.out NP
set_option maxRecDepth 100000 in
theorem rstep_ok (x:Nat×TnP) (h:RfM w O r blocks T av bs) (hl:bs.length≤100000) (hc:c.B w) (hkind:c.kind=4) (hf:fnd bs c.ten=some x) (n0:decide (c.n<1)=false) (n1:decide ((100:Int)<c.n)=false) (hu:x.2.tu=true):
 Calls Tryz.prog 28 #[.pointer (some ⟨r,0,none⟩),.agg c.cs] w (RdR r blocks w O (errA 0) (updT c.ten (setTu x.2 true) T)):=by
 have HF:=zz fun e W=>rerr_any e W
 have HW:=zz h
 have HLN:=zz hl
 obtain⟨mv,l,cb,cv,sv,ht⟩:=h.all x (fnd_mem hf).1
 have HT:=zz ht
 have HFN:=zz hf
 have OKX:=zz (h.ok x (fnd_mem hf).1)
 have XN:=zz (fnd_mem hf).2
 have HU:=zz hu
 obtain⟨w0,hw0,ha,hcb,hqb⟩:=preX w c
 have KD:=zz hkind
 clear hkind
 clear h hl hc hf ht hu
 unfold CallP.cs at hcb⊢
 go_enter Tryz.func28,Tryz.ntmps28
 go_upto_region 1 with (fail)
 rw[hw0.out]
 clear hw0
 have HA:=zz ha
 have Q0:=zz hqb
 have CBX:=zz hcb
 have c0:=cK KD hcb rfl
 have c1:=hcb.cell (k:=1) rfl
 have c4:=hcb.cell (k:=4) rfl
 clear ha hqb
 have M0:=zz (HW.out.stp (ctS HA.out) noF)
 have NP:Hid (0<r):=zz HW.out.pos
 have T0:=zz (HT.out.stp (ctS HA.out) fun h=>h)
 have HFD:=zz (rfind_any c.ten M0.out HLN.out)
 rw[HFN.out] at HFD
 have d6:w0.cell? ⟨x.1,6,none⟩=some (.bool true):=by rw[←HU.out];exact T0.out.box.cell (k:=6) rfl
 clear hcb
 go_wp2_with fail
 simp only[Option.map_some] at HFD
 refine HFD.out.mono ?_
 rintro e w1 ⟨rfl,rfl⟩
 clear HFD
 have f6:w0.frozen? ⟨x.1,6,none⟩=false:=T0.out.box.free 6
 go_upto_region 21 with (fail)
 have BS:=T0.out.box.set 6 (.bool true)
 have FS:=fr_set w0 x.1 6 (.bool true)
 obtain⟨w4,hw4⟩:∃w4,w0.setCell ⟨x.1,6,none⟩ (.bool true)=w4:=⟨_,rfl⟩
 rw[hw4] at BS FS⊢
 obtain⟨t4,k4⟩:=T0.out.turnS FS true BS
 have Q4:=zz (Q0.out.fr FS (fun e=>absurd e (cb_neX Q0.out T0.out.box (by decide))))
 have M4:=zz (M0.out.upd (n:=x.2.n) (t':=setTu x.2 true) (by rw[XN.out];exact HFN.out) k4 rfl (by have h1:=OKX.out;exact⟨h1.n1,h1.n32,h1.sec,h1.q1,h1.q2⟩) ⟨_,_,_,_,_,t4⟩)
 rw[XN.out] at M4
 have S4:Hid (Stp (fun τ=>τ.1=r) w O w4 (cutTg O w.heap.size)):=zz ((Stp.cut HA.out _).tr (k4.imp fun τ e=>by rw[e]))
 have OA:=oaT O w
 clear hw4 BS FS t4 k4 d6 f6
 go_wp2_with fail
 refine (HF.out _ _).mono ?_
 rintro e w8 ⟨rfl,hb⟩
 have Q8:=zz (Q4.out.ab hb)
 have S8:=zz (S4.out.ab hb)
 have M8:=zz (M4.out.ab hb)
 clear hb
 go_wp2_with (first
  | ((with_reducible refine stA 105 ?_ (ansE 0) ?_ Q8 ?_ ?_ (ansE_one _) ?_);rfl;rfl;rfl;rfl;intro wz QZ FZ))
 refine bodyPost_ret (ansR Tryz.results28 QZ rfl rfl) rfl ?_
 exact RdR.er 0 M8 S8 FZ OA.out NP
set_option maxRecDepth 100000 in
theorem rfin_ok (x:Nat×TnP) (h:RfM w O r blocks T av bs) (hl:bs.length≤100000) (hc:c.B w) (hkind:c.kind=5) (hf:fnd bs c.ten=some x) (hsn:x.2.sn.length≤100000) (hv:liveC x.2.sn=[]) (hu:x.2.tu=true):
 Calls Tryz.prog 28 #[.pointer (some ⟨r,0,none⟩),.agg c.cs] w (RdR r blocks w O (errA 0) (updT c.ten (setTu x.2 false) T)):=by
 have HF:=zz fun e W=>rerr_any e W
 have HW:=zz h
 have HLN:=zz hl
 obtain⟨mv,l,cb,cv,sv,ht⟩:=h.all x (fnd_mem hf).1
 have HT:=zz ht
 have HFN:=zz hf
 have HSN:=zz hsn
 have HV:=zz hv
 have OKX:=zz (h.ok x (fnd_mem hf).1)
 have XN:=zz (fnd_mem hf).2
 have HU:=zz hu
 obtain⟨w0,hw0,ha,hcb,hqb⟩:=preX w c
 have KD:=zz hkind
 clear hkind
 clear h hl hc hf ht hu hsn hv
 unfold CallP.cs at hcb⊢
 go_enter Tryz.func28,Tryz.ntmps28
 go_upto_region 1 with (fail)
 rw[hw0.out]
 clear hw0
 have HA:=zz ha
 have Q0:=zz hqb
 have CBX:=zz hcb
 have c0:=cK KD hcb rfl
 have c1:=hcb.cell (k:=1) rfl
 have c4:=hcb.cell (k:=4) rfl
 clear ha hqb
 have M0:=zz (HW.out.stp (ctS HA.out) noF)
 have NP:Hid (0<r):=zz HW.out.pos
 have T0:=zz (HT.out.stp (ctS HA.out) fun h=>h)
 have HFD:=zz (rfind_any c.ten M0.out HLN.out)
 rw[HFN.out] at HFD
 have d6:w0.cell? ⟨x.1,6,none⟩=some (.bool true):=by rw[←HU.out];exact T0.out.box.cell (k:=6) rfl
 have HS:=zz (rsnapped_any T0.out HSN.out)
 rw[decide_eq_true HV.out] at HS
 clear hcb
 go_wp2_with fail
 simp only[Option.map_some] at HFD
 refine HFD.out.mono ?_
 rintro e w1 ⟨rfl,rfl⟩
 clear HFD
 have f6:w0.frozen? ⟨x.1,6,none⟩=false:=T0.out.box.free 6
 go_wp2_with fail
 refine HS.out.mono ?_
 rintro e w1 ⟨rfl,rfl⟩
 clear HS
 go_upto_region 21 with (fail)
 have BS:=T0.out.box.set 6 (.bool false)
 have FS:=fr_set w0 x.1 6 (.bool false)
 obtain⟨w4,hw4⟩:∃w4,w0.setCell ⟨x.1,6,none⟩ (.bool false)=w4:=⟨_,rfl⟩
 rw[hw4] at BS FS⊢
 obtain⟨t4,k4⟩:=T0.out.turnS FS false BS
 have Q4:=zz (Q0.out.fr FS (fun e=>absurd e (cb_neX Q0.out T0.out.box (by decide))))
 have M4:=zz (M0.out.upd (n:=x.2.n) (t':=setTu x.2 false) (by rw[XN.out];exact HFN.out) k4 rfl (by have h1:=OKX.out;exact⟨h1.n1,h1.n32,h1.sec,h1.q1,h1.q2⟩) ⟨_,_,_,_,_,t4⟩)
 rw[XN.out] at M4
 have S4:Hid (Stp (fun τ=>τ.1=r) w O w4 (cutTg O w.heap.size)):=zz ((Stp.cut HA.out _).tr (k4.imp fun τ e=>by rw[e]))
 have OA:=oaT O w
 clear hw4 BS FS t4 k4 d6 f6
 go_wp2_with fail
 refine (HF.out _ _).mono ?_
 rintro e w8 ⟨rfl,hb⟩
 have Q8:=zz (Q4.out.ab hb)
 have S8:=zz (S4.out.ab hb)
 have M8:=zz (M4.out.ab hb)
 clear hb
 go_wp2_with (first
  | ((with_reducible refine stA 105 ?_ (ansE 0) ?_ Q8 ?_ ?_ (ansE_one _) ?_);rfl;rfl;rfl;rfl;intro wz QZ FZ))
 refine bodyPost_ret (ansR Tryz.results28 QZ rfl rfl) rfl ?_
 exact RdR.er 0 M8 S8 FZ OA.out NP
end
theorem ptr_same (b:Nat) (W:World):(binOp .neq 84 (.pointer (some ⟨b,0,none⟩)) (.pointer (some ⟨b,0,none⟩))).run Tryz.prog W = .ok (.bool false) W:=by
 have h:(Op.equalIn 10000 84 (.pointer (some ⟨b,0,none⟩)) (.pointer (some ⟨b,0,none⟩))).run Tryz.prog W = .ok true W:=by
  unfold Op.equalIn
  simp[run_underlying Tryz.underlying84,Result.andThen,run_sameAddr_same]
 simp only[binOp,Op.equal,Op.maxDepth,Sem.run_bind,h,Result.andThen_ok,Sem.run_pure]
 rfl
theorem ptr_other {b b':Nat} {W:World} {t t':TypeId} {cs cs':Array Value} (hne:b≠b') (h1:CbB W b t cs) (h2:CbB W b' t' cs'):(binOp .neq 84 (.pointer (some ⟨b,0,none⟩)) (.pointer (some ⟨b',0,none⟩))).run Tryz.prog W = .ok (.bool true) W:=by
 have hs:(sameAddr ⟨b,0,none⟩ ⟨b',0,none⟩).run Tryz.prog W = .ok false W:=run_sameAddr_other W (a:=⟨b,0,none⟩) (b:=⟨b',0,none⟩) (fun e=>hne (by injection e)) h1 h2
 have h:(Op.equalIn 10000 84 (.pointer (some ⟨b,0,none⟩)) (.pointer (some ⟨b',0,none⟩))).run Tryz.prog W = .ok false W:=by
  unfold Op.equalIn
  simp[run_underlying Tryz.underlying84,Result.andThen,hs]
 simp only[binOp,Op.equal,Op.maxDepth,Sem.run_bind,h,Result.andThen_ok,Sem.run_pure]
 rfl
def PtB (w:World) (C:Nat) (v:Value) (L:List (Nat×TnP)):Prop:=w.ownsRow C 84 1 v L.length (L.map fun x=>ptrV x.1)
theorem PtB.nil (w:World) (C:Nat):PtB w C (.slice none 0 0) []:=World.ownsRow_nil _ _ _ _
theorem PtB.ab {w w':World} {C:Nat} {v:Value} {L:List (Nat×TnP)} (h:PtB w C v L) (hb:Below w.heap.size w w'):PtB w' C v L:=row_fr h (Fr.of hb (fun _=>False)) (fun _ _ e=>e)
theorem one_ptr {W:World} {G b:Nat} (hG:CbB W G 84 #[.pointer (some ⟨b,0,none⟩)]):∀x:Addr,(some ⟨G,0,none⟩:Option Addr)=some x→∀(j:Nat) (u:Value),[ptrV b][j]? = some u→W.cell? (x.add j)=some u:=fun x hx j u hj=>by
 injection hx with hx
 subst hx
 exact row_at (cs:=[ptrV b]) hG j u hj
theorem ptr_one (L:List (Nat×TnP)):∀u∈L.map (fun x=>ptrV x.1),u.oneCell'=true:=fun u hu=>by
 obtain⟨x,_,rfl⟩:=List.mem_map.1 hu
 rfl
set_option maxRecDepth 100000 in
theorem wpList_appPt {rest:List Oper} {ops:Array Oper} {o:Oper} {a:Act} {w:World} {C:Nat} {v:Value} {L K:List (Nat×TnP)} {Q:Exit→Act→World→Prop} (hgd:o.guard=none) (s x:Operand)
 (ho:o.op = .call { callee:=.builtin .append,args:=#[s,x],argTypes:=#[62,62] })
 (hown:PtB w C v L) (hs:a.eval s=v) {A:Option Addr} {m c:Nat} (hx:a.eval x = .slice A m c) (hl:K.length=m)
 (hA:A=none→m=0∧c=0) (hc:∀y,A=some y→∀(j:Nat) (u:Value),(K.map fun x=>ptrV x.1)[j]? = some u→w.cell? (y.add j)=some u) (hb:L.length+m≤1000000) (hB:C≤w.heap.size)
 (h:∀v' w',PtB w' C v' (L++K)→Below C w w'→wpList Tryz.prog ops Q rest (a.put o.dst v') w'):wpList Tryz.prog ops Q (o::rest) a w:=by
 refine wpList_appRow hgd s x ho Tryz.underlying62 infoTen rfl (by decide) hown hs hx hA (by rw[List.length_map,hl];omega) hc (ptr_one K) hb (by decide) hB fun v' w' r1 r2 _=>?_
 refine h v' w' ?_ ((Below.refl C w).grown r2 hB (own_ge9 hown))
 unfold PtB
 rw[List.length_append,List.map_append,hl]
 exact r1
section
variable {w w1:World} {O:Tg} {r blocks:Nat} {T T':List TnP} {av av':Value} {bs bs':List (Nat×TnP)} {c:CallP}
theorem RfM.list (h:RfM w O r blocks T av bs) (k:Fr w w1 (fun q=>q=r)) (hb:CbB w1 r 64 #[.int .i64 (blocks:Int),av']) (hrow:PtB w1 0 av' bs') (htag:∀g,av'.ownBlock=some g→O g=none)
 (hasc:(bs'.map fun x=>x.2.n).Pairwise (· < ·)) (hprm:(bs'.map (·.2)).Perm T') (hall:∀x∈bs',RtB w O r x.1 x.2∧TnOk x.2):RfM w1 O r blocks T' av' bs'∧Stp (fun τ=>τ=(r,0)) w O w1 O:=by
 have st:Stp (fun τ=>τ=(r,0)) w O w1 O:=⟨k.imp fun q hq=>⟨_,hq▸h.tr,rfl⟩,fun _ _=>rfl⟩
 exact⟨⟨hb,hrow,htag,hasc,hprm,fun x hx=>(hall x hx).1.stp st fun e=>by injection e with _ e;have:=(hall x hx).2.n1;omega,fun x hx=>(hall x hx).2,h.tr,h.pos⟩,st⟩
theorem RfM.blk (h:RfM w O r blocks T av bs) {x y:Nat×TnP} (hx:x∈bs) (hy:y∈bs):y.1=x.1↔y.2.n=x.2.n:=by
 constructor
 · intro e
   obtain⟨_,_,_,_,_,h1⟩:=h.all x hx
   obtain⟨_,_,_,_,_,h2⟩:=h.all y hy
   have e1:w.cell? ⟨x.1,0,none⟩=some (.int .u32 (x.2.n:Int)):=h1.box.cell (k:=0) rfl
   have e2:w.cell? ⟨y.1,0,none⟩=some (.int .u32 (y.2.n:Int)):=h2.box.cell (k:=0) rfl
   rw[e,e1] at e2
   injection e2 with e2
   injection e2 with _ e2
   omega
 · intro e
   rw[nodup_one h.nodup hy hx e]
set_option maxRecDepth 100000 in
theorem rdel_ok (x:Nat×TnP) (h:RfM w O r blocks T av bs) (hl:bs.length≤100000) (hc:c.B w) (hkind:c.kind=2) (hf:fnd bs c.ten=some x):
 Calls Tryz.prog 28 #[.pointer (some ⟨r,0,none⟩),.agg c.cs] w (RdR r blocks w O (errA 0) (T.filter fun t=>!decide (t.n=c.ten))):=by
 have HF:=zz fun e W=>rerr_any e W
 have HW:=zz h
 have HLN:=zz hl
 have HFN:=zz hf
 have XM:=zz (fnd_mem hf).1
 have XN:=zz (fnd_mem hf).2
 obtain⟨w0,hw0,ha,hcb,hqb⟩:=preX w c
 have KD:=zz hkind
 clear hkind
 clear h hl hc hf
 unfold CallP.cs at hcb⊢
 go_enter Tryz.func28,Tryz.ntmps28
 go_upto_region 1 with (fail)
 rw[hw0.out]
 clear hw0
 have HA:=zz ha
 have Q0:=zz hqb
 have CBX:=zz hcb
 have c0:=cK KD hcb rfl
 have c1:=hcb.cell (k:=1) rfl
 clear ha hqb
 have M0:=zz (HW.out.stp (ctS HA.out) noF)
 have NP:Hid (0<r):=zz HW.out.pos
 have HFD:=zz (rfind_any c.ten M0.out HLN.out)
 rw[HFN.out] at HFD
 obtain⟨O1,hO1⟩:∃O1,nonTg (cutTg O w.heap.size) w0.heap.size=O1:=⟨_,rfl⟩
 have N1:Hid (∀k,w0.heap.size≤k→O1 k=none):=zz fun k hk=>by rw[←hO1];exact nonTg_ge hk
 have C1:Hid (∀k,k<w0.heap.size→O1 k=cutTg O w.heap.size k):=zz fun k hk=>by rw[←hO1];exact nonTg_lt hk
 have M1:=zz (M0.out.stp (Stp.of (O':=O1) (Below.refl w0.heap.size w0) (fun _=>False) (fun k hk=>C1.out k hk)) fun _ h=>h)
 obtain⟨A,cc,hav,hrow⟩:=M1.out.row_at
 obtain⟨m,hm⟩:∃m,bs.length=m:=⟨_,rfl⟩
 rw[hm] at hav
 subst hav
 have HM:=zz hm
 have HROW:=zz hrow
 have m0:(m:Int)≤100000:=by have:=HLN.out;omega
 have LL:Hid (m≤100000):=zz (by have:=HLN.out;omega)
 clear hcb hO1 hrow hm
 go_wp2_with fail
 simp only[Option.map_some] at HFD
 refine HFD.out.mono ?_
 rintro e w1 ⟨rfl,rfl⟩
 clear HFD
 go_wp2_with fail
 go_loopw [6,7] (fun s z wr=>∃i:Nat,i≤m∧z = .int .i64 (i:Int)∧PtB wr w0.heap.size s ((bs.take i).filter fun y=>!decide (y.2.n=c.ten))∧Below w0.heap.size w0 wr) (fun _ z _=>m-(intOf z).toNat)
 case atStart=>exact⟨0,Nat.zero_le _,rfl,PtB.nil _ _,Below.refl _ _⟩
 case round =>
  obtain⟨i,hi,rfl,hp,hb⟩:=hrel
  have BW:=zz hb
  have PP:=zz hp
  have s1:wr.cell? ⟨r,1,none⟩=some (.slice A m cc):=(M1.out.box.ab hb).cell (k:=1) rfl
  by_cases hlt:i<m
  · obtain ⟨y,hy⟩:∃y,bs[i]? = some y:=⟨_,List.getElem?_eq_getElem (by rw[HM.out];exact hlt)⟩
    obtain⟨g,rfl,a1,_⟩:=HROW.out i y hy
    have a2:wr.cell? ⟨g,i,none⟩=some (.pointer (some ⟨y.1,0,none⟩)):=(World.cell?_of_block (hb.block g (cell_lt a1))).trans a1
    have hlti:(i:Int)<(m:Int):=by omega
    have hi0:(0:Int)≤(i:Int):=by omega
    have KL:=zz hlt
    have hblk:=M1.out.blk XM.out (List.mem_of_getElem? hy)
    rw[XN.out] at hblk
    have ST:Hid ((bs.take (i+1)).filter (fun y=>!decide (y.2.n=c.ten))=(bs.take i).filter (fun y=>!decide (y.2.n=c.ten))++(if y.2.n=c.ten then [] else [y])):=zz (by
     rw[List.take_add_one,hy,List.filter_append]
     congr 1
     simp only[Option.toList_some]
     rw[List.filter_cons,List.filter_nil]
     by_cases e:y.2.n=c.ten <;> simp[e])
    by_cases he:y.2.n=c.ten
    · have eb:=hblk.2 he
      rw[if_pos he,List.append_nil] at ST
      rw[eb] at a2
      have hpt:=ptr_same x.1 wr
      clear hi hlt hp hb hy a1 hblk he eb
      go_wp2_with fail
      go_roundw
      case rel=>exact⟨i+1,KL.out,by go_num,by rw[ST.out];exact PP.out,BW.out⟩
      case measure=>simp[intOf];have:=KL.out;omega
    · have eb:y.1≠x.1:=fun e=>he (hblk.1 e)
      obtain⟨_,_,_,_,_,ty⟩:=M1.out.all y (List.mem_of_getElem? hy)
      obtain⟨_,_,_,_,_,tx⟩:=M1.out.all x XM.out
      have hpt:=ptr_other eb (ty.box.ab hb) (tx.box.ab hb)
      rw[if_neg he] at ST
      have ha:Below wr.heap.size wr (wr.alloc (.cells #[.pointer (some ⟨y.1,0,none⟩)] 84)):=alB
      have PA:=zz (PP.out.ab ha)
      have BA:=zz (below_tr BW.out ha BW.out.size)
      have GC:=zz (one_ptr (CbB.new wr 84 #[.pointer (some ⟨y.1,0,none⟩)]))
      have FL:Hid (((bs.take i).filter fun y=>!decide (y.2.n=c.ten)).length≤100000):=zz (Nat.le_trans (List.length_filter_le _ _) (by rw[List.length_take];have:=HLN.out;omega))
      clear hi hlt hp hb hy a1 hblk he ha ty tx eb
      go_wp2_with (first
       | (refine wpList_appPt rfl (.tmp 44) (.tmp 52) rfl PA.out rfl (A:=some ⟨wr.heap.size,0,none⟩) (m:=1) (c:=1) (K:=[y]) rfl rfl (fun e=>by cases e) GC.out (by have:=FL.out;omega) BA.out.size ?_
          intro v8 w8 hp8 hb8
          have P8:=zz hp8
          have B8:=zz (BA.out.trans hb8)
          clear hp8 hb8))
      go_roundw
      case rel=>exact⟨i+1,KL.out,by go_num,by rw[ST.out];exact P8.out,B8.out⟩
      case measure=>simp[intOf];have:=KL.out;omega
  · obtain rfl:i=m:=by omega
    have E:Hid ((bs.take i).filter (fun y=>!decide (y.2.n=c.ten))=bs.filter fun y=>!decide (y.2.n=c.ten)):=zz (by rw[List.take_of_length_le (by rw[HM.out];exact Nat.le_refl _)])
    rw[E.out] at PP
    obtain⟨vA,vc,hv⟩:=row_shape PP.out
    subst hv
    have Q2:=zz (Q0.out.ab hb)
    have M2:=zz (M1.out.ab hb)
    have f1:=M2.out.box.free 1
    clear hi hlt hp hb
    go_upto_region 21 with (fail)
    have BS:=M2.out.box.set 1 (.slice vA (bs.filter fun y=>!decide (y.2.n=c.ten)).length vc)
    have FS:=fr_set wr r 1 (.slice vA (bs.filter fun y=>!decide (y.2.n=c.ten)).length vc)
    obtain⟨len,hlen⟩:∃len,(bs.filter fun y=>!decide (y.2.n=c.ten)).length=len:=⟨_,rfl⟩
    rw[hlen] at BS FS⊢
    obtain⟨w4,hw4⟩:∃w4,wr.setCell ⟨r,1,none⟩ (.slice vA len vc)=w4:=⟨_,rfl⟩
    rw[hw4] at BS FS⊢
    rw[hlen] at PP
    have P4:PtB w4 0 (.slice vA len vc) (bs.filter fun y=>!decide (y.2.n=c.ten)):=by
     have h1:=row_low PP.out (Nat.zero_le _)
     exact row_fr h1 FS (fun g hg e=>row_ne h1 M2.out.box (by decide) (by rw[hg,e]))
    have PT:∀g,(Value.slice vA len vc).ownBlock=some g→O1 g=none:=fun g hg=>N1.out g (own_ge9 PP.out g hg)
    have PRM:((bs.filter fun y=>!decide (y.2.n=c.ten)).map (·.2)).Perm (T.filter fun t=>!decide (t.n=c.ten)):=by
     have h1:=M2.out.prm.filter fun t=>!decide (t.n=c.ten)
     rw[List.filter_map] at h1
     exact h1
    obtain⟨m4,k4⟩:=M2.out.list FS BS P4 PT (M2.out.asc.sublist (List.filter_sublist.map _)) PRM (fun y hy=>⟨M2.out.all y ((List.mem_filter.1 hy).1),M2.out.ok y ((List.mem_filter.1 hy).1)⟩)
    have M4:=zz m4
    have Q4:=zz (Q2.out.fr FS (fun e=>absurd e (cb_neX Q2.out M2.out.box (by decide))))
    have OA:Hid (O1 (w.heap.size+1)=some (0,0)):=zz (by rw[C1.out _ Q0.out.lt];exact cutTg_at (Nat.le_succ _))
    have S4:Hid (Stp (fun τ=>τ.1=r) w O w4 O1):=zz (((Stp.of (below_tr HA.out BW.out HA.out.size) _ fun k hk=>by
     rw[C1.out k (Nat.lt_of_lt_of_le hk HA.out.size)]
     unfold cutTg
     rw[if_pos hk]):Stp (fun τ=>τ.1=r) w O wr O1).tr (k4.imp fun τ e=>by rw[e]))
    clear hw4 BS FS P4 PT PRM m4 k4 hlen f1
    go_wp2_with fail
    refine (HF.out _ _).mono ?_
    rintro e w8 ⟨rfl,hb⟩
    have Q8:=zz (Q4.out.ab hb)
    have S8:=zz (S4.out.ab hb)
    have M8:=zz (M4.out.ab hb)
    clear hb
    go_wp2_with (first
     | ((with_reducible refine stA 105 ?_ (ansE 0) ?_ Q8 ?_ ?_ (ansE_one _) ?_);rfl;rfl;rfl;rfl;intro wz QZ FZ))
    refine bodyPost_ret (ansR Tryz.results28 QZ rfl rfl) rfl ?_
    exact RdR.er 0 M8 S8 FZ OA.out NP
end
set_option maxRecDepth 100000 in
theorem rrevoke_yesS {B g h vv:Nat} {v:Value} {A:HL} {w:World} {x0 y0:Hdl} (hc:RcB w B g v A) (hA:RightA A) (hm:A.length<900) (ha:atH A h=some x0) (hb:atH A vv=some y0) (hn:mayRv A x0 h vv=true):Calls Tryz.prog 61 #[.pointer (some ⟨g,0,none⟩),.int .u64 (h:Int),.int .u64 (vv:Int)] w (RcS B g v w (.int .i64 0) (killH A vv)):=by
 have H1:=zz (rat25_any (h:=h) hc (by omega))
 have H2:=zz fun W (hW:Below w.heap.size w W)=>rat25_any (h:=vv) (hc.ab hW) (by omega)
 have HB:=zz fun W (hW:Below w.heap.size w W)=>rbelow_any (h:=h) (k:=vv) (hc.ab hW) hA hm
 unfold AtR atP hagg at H1 H2
 rw[ha] at H1
 rw[hb] at H2
 try simp only at H1 H2
 have HC:=zz hc
 have HA:=zz hA
 obtain⟨n,hnl⟩:∃n,A.length=n:=⟨_,rfl⟩
 have HN:=zz hnl
 have HM:Hid (n<900):=zz (by omega)
 have hmb:(n:Int)<900:=by omega
 obtain⟨C,cap,hv⟩:=hc.shape
 rw[hnl] at hv
 unfold mayRv at hn
 have d1:(bits .and .u8 (x0.r:Int) 8==0)=noGive x0.r:=rfl
 by_cases hhv:h=vv
 · have d0 : ((h:Int) != (vv:Int))=false:=by simp[hhv]
   clear hc hA hm ha hb hn hhv HB d1 hnl
   go_enter Tryz.func61,Tryz.ntmps61
   go_wp2_with fail
   refine H1.out.mono ?_
   rintro e w1 ⟨rfl,hb⟩
   have B2:=zz (hb.alloc hb.size (.cells #[.int .u8 (x0.r:Int),.int .u64 (x0.up:Int),.bool x0.on] 145))
   have X2:=zz (CbB.new w1 145 #[.int .u8 (x0.r:Int),.int .u64 (x0.up:Int),.bool x0.on])
   clear hb H1
   go_wp2_with fail
   refine (H2.out _ B2.out).mono ?_
   rintro e w3 ⟨rfl,hb⟩
   have B3:=zz (below_tr B2.out hb B2.out.size)
   have B4:=zz (B3.out.alloc B3.out.size (.cells #[.int .u8 (y0.r:Int),.int .u64 (y0.up:Int),.bool y0.on] 145))
   have X4:=zz ((X2.out.ab hb).ab ((Below.refl _ _).alloc (Nat.le_refl _) (.cells #[.int .u8 (y0.r:Int),.int .u64 (y0.up:Int),.bool y0.on] 145)))
   have x40:=X4.out.cell (k:=0) rfl
   clear hb H2 X2
   have B5:=B4
   clear X4 x40
   go_wp2_with fail
   go_loopw [11,12] (fun lv z wr=>∃i:Nat,i≤n∧z = .int .i64 (i:Int)∧U64.NsB wr w.heap.size lv (gonL A vv i)∧Below w.heap.size w wr) (fun _ z _=>n-(intOf z).toNat)
   case atStart=>exact⟨0,Nat.zero_le _,rfl,U64.NsB.nil _ _,B5.out⟩
   case round=>
    obtain⟨i,hi,rfl,hns,hb⟩:=hrel
    have N1:=zz hns
    have B1:=zz hb
    have C1:=zz (HC.out.ab hb)
    have hg:wr.cell? ⟨g,0,none⟩=some (.slice C n cap):=by
     have:=C1.out.box.cell (k:=0) rfl
     rw[hv] at this
     exact this
    clear hns hb
    by_cases hlt:i<n
    · obtain⟨i1,hi1⟩:∃i1:Nat,i1=i+1:=⟨_,rfl⟩
      have hw1:IntKind.u64.wrap ((i:Int)+1)=(i1:Int):=by rw[hi1];exact wide_u64 (i+1) (by have:=HM.out;omega)
      have hlti:(i:Int)<(n:Int):=by omega
      have HLT:=zz hlt
      have HBL:=zz fun W (hW:Below w.heap.size w W)=>rbelow_any (h:=vv) (k:=i1) (HC.out.ab hW) HA.out (by rw[HN.out];exact HM.out)
      have GS:Hid (gonL A vv (i+1)=gonL A vv i++(bif klH A vv i1 then [i1] else [])):=zz (by rw[hi1];exact gonL_succ A vv i)
      have LN:Hid ((gonL A vv i).length≤100000):=zz (by have:=gonL_len A vv i;have:=HM.out;omega)
      cases hkl:klH A vv i1
      · have d1:((i1:Int)==(vv:Int))=false:=by
         unfold klH at hkl
         rw[Bool.or_eq_false_iff,decide_eq_false_iff_not] at hkl
         simp
         omega
        have d2:belowH A vv i1=false:=by
         unfold klH at hkl
         rw[Bool.or_eq_false_iff] at hkl
         exact hkl.2
        have HB2:=zz (HBL.out wr B1.out)
        rw[d2] at HB2
        rw[hkl] at GS
        clear hkl hlt hi hi1 HBL d2
        go_wp2_with fail
        refine HB2.out.mono ?_
        rintro e w6 ⟨rfl,hb⟩
        have B6:=zz (below_tr B1.out hb B1.out.size)
        have N6:=zz (N1.out.ab hb)
        clear hb HB2
        go_wp2_with fail
        go_roundw
        case rel=>exact⟨i+1,HLT.out,by go_num,by rw[GS.out];simpa using N6.out,B6.out⟩
        case measure=>simp[intOf];have:=HLT.out;omega
      · rw[hkl] at GS
        by_cases hiv:i1=vv
        · have d1:((i1:Int)==(vv:Int))=true:=by simp[hiv]
          have ha:Below wr.heap.size wr (wr.alloc (.cells #[.int .u64 (i1:Int)] 33)):=alB
          have NA:=zz (N1.out.ab ha)
          have BA:=zz (below_tr B1.out ha B1.out.size)
          have GC:Hid (CbB (wr.alloc (.cells #[.int .u64 (i1:Int)] 33)) wr.heap.size 33 #[.int .u64 (i1:Int)]):=zz (CbB.new _ _ _)
          clear hkl hlt hi hi1 HBL hiv ha
          go_wp2_with (first
           | (refine U64.wpList_appN rfl (.tmp 72) (.tmp 74) rfl (B:=w.heap.size) NA.out rfl i1 rfl GC.out LN.out BA.out.size ?_
              intro v5 w5 h5 g5
              have N5:=zz h5
              have B5:=zz (U64.below_grownO BA.out g5 (own_ge9 NA.out) BA.out.size)
              clear h5 g5))
          go_roundw
          case rel=>exact⟨i+1,HLT.out,by go_num,by rw[GS.out];simpa using N5.out,B5.out⟩
          case measure=>simp[intOf];have:=HLT.out;omega
        · have d1:((i1:Int)==(vv:Int))=false:=by simp;omega
          have d2:belowH A vv i1=true:=by unfold klH at hkl;simpa[hiv] using hkl
          have HB2:=zz (HBL.out wr B1.out)
          rw[d2] at HB2
          clear hkl hlt hi hi1 HBL hiv d2
          go_wp2_with fail
          refine HB2.out.mono ?_
          rintro e w6 ⟨rfl,hb⟩
          have B6:=zz (below_tr B1.out hb B1.out.size)
          have N6:=zz (N1.out.ab hb)
          have ha:Below w6.heap.size w6 (w6.alloc (.cells #[.int .u64 (i1:Int)] 33)):=alB
          have NA:=zz (N6.out.ab ha)
          have BA:=zz (below_tr B6.out ha B6.out.size)
          have GC:Hid (CbB (w6.alloc (.cells #[.int .u64 (i1:Int)] 33)) w6.heap.size 33 #[.int .u64 (i1:Int)]):=zz (CbB.new _ _ _)
          clear hb HB2 ha
          go_wp2_with (first
           | (refine U64.wpList_appN rfl (.tmp 72) (.tmp 74) rfl (B:=w.heap.size) NA.out rfl i1 rfl GC.out LN.out BA.out.size ?_
              intro v5 w5 h5 g5
              have N5:=zz h5
              have B5:=zz (U64.below_grownO BA.out g5 (own_ge9 NA.out) BA.out.size)
              clear h5 g5))
          go_roundw
          case rel=>exact⟨i+1,HLT.out,by go_num,by rw[GS.out];simpa using N5.out,B5.out⟩
          case measure=>simp[intOf];have:=HLT.out;omega
    · obtain rfl:i=n:=by omega
      obtain⟨G,hG⟩:∃G,gonL A vv i=G:=⟨_,rfl⟩
      have OFF:Hid (offL A G=killH A vv):=zz (by rw[←hG];exact offL_kill fun j hj=>by rw[gonL_mem,HN.out] at *;constructor;exact fun h=>h.2;exact fun h=>⟨hj,h⟩)
      have GB:Hid (∀x∈G,∃j,x=j+1∧j<A.length):=zz fun x hx=>by
       rw[←hG] at hx
       exact gonL_in (by rw[HN.out];exact hx)
      rw[hG] at N1
      obtain⟨gA,gc,hlv,hgc⟩:=N1.out.form
      have F1:Hid (Fr w wr (fun k=>k=g∨v.ownBlock=some k)):=zz (Fr.of B1.out _)
      subst hlv
      have GL:Hid (G.length≤1000):=zz (by rw[←hG];have:=gonL_len A vv i;have:=HM.out;omega)
      have hglb:(G.length:Int)≤1000:=by have:=GL.out;omega
      clear hlt hi hG hgc
      go_wp2_with fail
      clear hg
      have C2:=zz C1.out
      clear C1 B1
      generalize wr=wo at *
      go_loopw [14] (fun z wr=>∃j:Nat,j≤G.length∧z = .int .i64 (j:Int)∧RcB wr B g v (offL A (G.take j))∧U64.NsB wr w.heap.size (.slice gA G.length gc) G∧Fr w wr (fun k=>k=g∨v.ownBlock=some k)) (fun z _=>G.length-(intOf z).toNat)
      case atStart=>exact⟨0,Nat.zero_le _,rfl,by rw[List.take_zero,offL_nil];exact C2.out,N1.out,F1.out⟩
      case round=>
       obtain⟨j,hj,rfl,hr,hn,hf⟩:=hrel
       have R1:=zz hr
       have N2:=zz hn
       have F2:=zz hf
       clear hr hn hf
       by_cases hjl:j<G.length
       · obtain⟨q,hq,hql⟩:=GB.out (G[j]) (List.getElem_mem hjl)
         obtain⟨x,hx⟩:∃x,A[q]? = some x:=⟨_,List.getElem?_eq_getElem hql⟩
         have hx':(offL A (G.take j))[q]? = some ⟨x.r,x.up,x.on && !decide (q+1∈G.take j)⟩:=by rw[offL_at,hx];rfl
         obtain⟨gb,cap',hv',x0',x1,x2,hfz⟩:=R1.out.form hx'
         rw[hv,offL_len,HN.out] at hv'
         injection hv' with hv1 _ hv2
         subst hv1 hv2
         have hf2:=hfz (q*3+2)
         obtain⟨ga,gc',hsl,hcells⟩:=N2.out.form
         obtain⟨gg,hga,hgcell⟩:=hcells j hjl
         injection hsl with hs1 _ hs2
         subst hga
         subst hs1 hs2
         rw[hq] at hgcell
         have hcast:((q+1:Nat):Int)=(q:Int)+1:=by omega
         rw[hcast] at hgcell
         have hg:wr.cell? ⟨g,0,none⟩=some (.slice (some ⟨gb,0,none⟩) i cap):=by
          have:=R1.out.box.cell (k:=0) rfl
          rw[hv] at this
          exact this
         have d3:IntKind.u64.wrap ((q:Int)+1-1)=(q:Int):=by rw[show (q:Int)+1-1=(q:Int) by omega];exact wide_u64 q (by have:=HM.out;have:=HN.out;omega)
         have d4:(q:Int)<(i:Int):=by have:=HN.out;omega
         have hjli:(j:Int)<(G.length:Int):=by omega
         have HJ:=zz hjl
         have R2:Hid (RcB (wr.setCell ⟨gb,q*3+2,none⟩ (.bool false)) B g v (offL A (G.take (j+1)))):=zz (by
          have h1:=R1.out
          have hv3:v = .slice (some ⟨gb,0,none⟩) (offL A (G.take j)).length cap:=by rw[offL_len,HN.out];exact hv
          rw[hv3] at h1⊢
          have h2:=h1.off hx'
          rw[List.take_add_one,List.getElem?_eq_getElem hjl,Option.toList_some,hq,←offL_snoc hx]
          exact h2)
         have FW:Hid (Fr wr (wr.setCell ⟨gb,q*3+2,none⟩ (.bool false)) (fun k=>v.ownBlock=some k)):=zz ((Fr.grown (grown_cell wr gb (q*3+2) (.bool false))).imp fun k hk=>by rw[hv];exact hk)
         have F3:Hid (Fr w (wr.setCell ⟨gb,q*3+2,none⟩ (.bool false)) (fun k=>k=g∨v.ownBlock=some k)):=zz (F2.out.tr (FW.out.imp fun k hk=>.inr hk))
         have N3:Hid (U64.NsB (wr.setCell ⟨gb,q*3+2,none⟩ (.bool false)) w.heap.size (.slice (some ⟨gg,0,none⟩) G.length gc) G):=zz (row_fr N2.out FW.out (fun k hk e=>(ns_row_ne R1.out N2.out).1 k hk e))
         clear hx hx' hjl hj x0' x1 hfz R1 F2 FW N2 hcells hq hql hcast
         go_wp2_with fail
         go_region
         go_wp2_with fail
         go_roundw
         case rel=>exact⟨j+1,HJ.out,by go_num,R2.out.ab ⟨rfl,rfl,rfl,Nat.le_refl _,fun i hi=>rfl⟩,N3.out,⟨F3.out.os,F3.out.tape,F3.out.output,F3.out.size,F3.out.block⟩⟩
         case measure=>simp[intOf];have:=HJ.out;omega
       · obtain rfl:j=G.length:=by omega
         have h1:=R1.out
         rw[List.take_length,OFF.out] at h1
         have R2:=zz h1
         clear h1 hjl hj R1
         go_wp2_with fail
         go_ret
         exact⟨rfl,v,R2.out,F2.out,.inl rfl⟩
 · have d0 : ((h:Int) != (vv:Int))=true:=by simp;omega
   have hn2:noGive x0.r=false∧belowH A h vv=true:=by simpa[hhv] using hn
   rw[hn2.1] at d1
   rw[hn2.2] at HB
   clear hc hA hm ha hb hn hhv hn2 hnl
   go_enter Tryz.func61,Tryz.ntmps61
   go_wp2_with fail
   refine H1.out.mono ?_
   rintro e w1 ⟨rfl,hb⟩
   have B2:=zz (hb.alloc hb.size (.cells #[.int .u8 (x0.r:Int),.int .u64 (x0.up:Int),.bool x0.on] 145))
   have X2:=zz (CbB.new w1 145 #[.int .u8 (x0.r:Int),.int .u64 (x0.up:Int),.bool x0.on])
   clear hb H1
   go_wp2_with fail
   refine (H2.out _ B2.out).mono ?_
   rintro e w3 ⟨rfl,hb⟩
   have B3:=zz (below_tr B2.out hb B2.out.size)
   have B4:=zz (B3.out.alloc B3.out.size (.cells #[.int .u8 (y0.r:Int),.int .u64 (y0.up:Int),.bool y0.on] 145))
   have X4:=zz ((X2.out.ab hb).ab ((Below.refl _ _).alloc (Nat.le_refl _) (.cells #[.int .u8 (y0.r:Int),.int .u64 (y0.up:Int),.bool y0.on] 145)))
   have x40:=X4.out.cell (k:=0) rfl
   clear hb H2 X2
   go_wp2_with fail
   refine (HB.out _ B4.out).mono ?_
   rintro e w5 ⟨rfl,hb⟩
   have B5:=zz (below_tr B4.out hb B4.out.size)
   clear hb HB X4 x40
   go_wp2_with fail
   go_loopw [11,12] (fun lv z wr=>∃i:Nat,i≤n∧z = .int .i64 (i:Int)∧U64.NsB wr w.heap.size lv (gonL A vv i)∧Below w.heap.size w wr) (fun _ z _=>n-(intOf z).toNat)
   case atStart=>exact⟨0,Nat.zero_le _,rfl,U64.NsB.nil _ _,B5.out⟩
   case round=>
    obtain⟨i,hi,rfl,hns,hb⟩:=hrel
    have N1:=zz hns
    have B1:=zz hb
    have C1:=zz (HC.out.ab hb)
    have hg:wr.cell? ⟨g,0,none⟩=some (.slice C n cap):=by
     have:=C1.out.box.cell (k:=0) rfl
     rw[hv] at this
     exact this
    clear hns hb
    by_cases hlt:i<n
    · obtain⟨i1,hi1⟩:∃i1:Nat,i1=i+1:=⟨_,rfl⟩
      have hw1:IntKind.u64.wrap ((i:Int)+1)=(i1:Int):=by rw[hi1];exact wide_u64 (i+1) (by have:=HM.out;omega)
      have hlti:(i:Int)<(n:Int):=by omega
      have HLT:=zz hlt
      have HBL:=zz fun W (hW:Below w.heap.size w W)=>rbelow_any (h:=vv) (k:=i1) (HC.out.ab hW) HA.out (by rw[HN.out];exact HM.out)
      have GS:Hid (gonL A vv (i+1)=gonL A vv i++(bif klH A vv i1 then [i1] else [])):=zz (by rw[hi1];exact gonL_succ A vv i)
      have LN:Hid ((gonL A vv i).length≤100000):=zz (by have:=gonL_len A vv i;have:=HM.out;omega)
      cases hkl:klH A vv i1
      · have d1:((i1:Int)==(vv:Int))=false:=by
         unfold klH at hkl
         rw[Bool.or_eq_false_iff,decide_eq_false_iff_not] at hkl
         simp
         omega
        have d2:belowH A vv i1=false:=by
         unfold klH at hkl
         rw[Bool.or_eq_false_iff] at hkl
         exact hkl.2
        have HB2:=zz (HBL.out wr B1.out)
        rw[d2] at HB2
        rw[hkl] at GS
        clear hkl hlt hi hi1 HBL d2
        go_wp2_with fail
        refine HB2.out.mono ?_
        rintro e w6 ⟨rfl,hb⟩
        have B6:=zz (below_tr B1.out hb B1.out.size)
        have N6:=zz (N1.out.ab hb)
        clear hb HB2
        go_wp2_with fail
        go_roundw
        case rel=>exact⟨i+1,HLT.out,by go_num,by rw[GS.out];simpa using N6.out,B6.out⟩
        case measure=>simp[intOf];have:=HLT.out;omega
      · rw[hkl] at GS
        by_cases hiv:i1=vv
        · have d1:((i1:Int)==(vv:Int))=true:=by simp[hiv]
          have ha:Below wr.heap.size wr (wr.alloc (.cells #[.int .u64 (i1:Int)] 33)):=alB
          have NA:=zz (N1.out.ab ha)
          have BA:=zz (below_tr B1.out ha B1.out.size)
          have GC:Hid (CbB (wr.alloc (.cells #[.int .u64 (i1:Int)] 33)) wr.heap.size 33 #[.int .u64 (i1:Int)]):=zz (CbB.new _ _ _)
          clear hkl hlt hi hi1 HBL hiv ha
          go_wp2_with (first
           | (refine U64.wpList_appN rfl (.tmp 72) (.tmp 74) rfl (B:=w.heap.size) NA.out rfl i1 rfl GC.out LN.out BA.out.size ?_
              intro v5 w5 h5 g5
              have N5:=zz h5
              have B5:=zz (U64.below_grownO BA.out g5 (own_ge9 NA.out) BA.out.size)
              clear h5 g5))
          go_roundw
          case rel=>exact⟨i+1,HLT.out,by go_num,by rw[GS.out];simpa using N5.out,B5.out⟩
          case measure=>simp[intOf];have:=HLT.out;omega
        · have d1:((i1:Int)==(vv:Int))=false:=by simp;omega
          have d2:belowH A vv i1=true:=by unfold klH at hkl;simpa[hiv] using hkl
          have HB2:=zz (HBL.out wr B1.out)
          rw[d2] at HB2
          clear hkl hlt hi hi1 HBL hiv d2
          go_wp2_with fail
          refine HB2.out.mono ?_
          rintro e w6 ⟨rfl,hb⟩
          have B6:=zz (below_tr B1.out hb B1.out.size)
          have N6:=zz (N1.out.ab hb)
          have ha:Below w6.heap.size w6 (w6.alloc (.cells #[.int .u64 (i1:Int)] 33)):=alB
          have NA:=zz (N6.out.ab ha)
          have BA:=zz (below_tr B6.out ha B6.out.size)
          have GC:Hid (CbB (w6.alloc (.cells #[.int .u64 (i1:Int)] 33)) w6.heap.size 33 #[.int .u64 (i1:Int)]):=zz (CbB.new _ _ _)
          clear hb HB2 ha
          go_wp2_with (first
           | (refine U64.wpList_appN rfl (.tmp 72) (.tmp 74) rfl (B:=w.heap.size) NA.out rfl i1 rfl GC.out LN.out BA.out.size ?_
              intro v5 w5 h5 g5
              have N5:=zz h5
              have B5:=zz (U64.below_grownO BA.out g5 (own_ge9 NA.out) BA.out.size)
              clear h5 g5))
          go_roundw
          case rel=>exact⟨i+1,HLT.out,by go_num,by rw[GS.out];simpa using N5.out,B5.out⟩
          case measure=>simp[intOf];have:=HLT.out;omega
    · obtain rfl:i=n:=by omega
      obtain⟨G,hG⟩:∃G,gonL A vv i=G:=⟨_,rfl⟩
      have OFF:Hid (offL A G=killH A vv):=zz (by rw[←hG];exact offL_kill fun j hj=>by rw[gonL_mem,HN.out] at *;constructor;exact fun h=>h.2;exact fun h=>⟨hj,h⟩)
      have GB:Hid (∀x∈G,∃j,x=j+1∧j<A.length):=zz fun x hx=>by
       rw[←hG] at hx
       exact gonL_in (by rw[HN.out];exact hx)
      rw[hG] at N1
      obtain⟨gA,gc,hlv,hgc⟩:=N1.out.form
      have F1:Hid (Fr w wr (fun k=>k=g∨v.ownBlock=some k)):=zz (Fr.of B1.out _)
      subst hlv
      have GL:Hid (G.length≤1000):=zz (by rw[←hG];have:=gonL_len A vv i;have:=HM.out;omega)
      have hglb:(G.length:Int)≤1000:=by have:=GL.out;omega
      clear hlt hi hG hgc
      go_wp2_with fail
      clear hg
      have C2:=zz C1.out
      clear C1 B1
      generalize wr=wo at *
      go_loopw [14] (fun z wr=>∃j:Nat,j≤G.length∧z = .int .i64 (j:Int)∧RcB wr B g v (offL A (G.take j))∧U64.NsB wr w.heap.size (.slice gA G.length gc) G∧Fr w wr (fun k=>k=g∨v.ownBlock=some k)) (fun z _=>G.length-(intOf z).toNat)
      case atStart=>exact⟨0,Nat.zero_le _,rfl,by rw[List.take_zero,offL_nil];exact C2.out,N1.out,F1.out⟩
      case round=>
       obtain⟨j,hj,rfl,hr,hn,hf⟩:=hrel
       have R1:=zz hr
       have N2:=zz hn
       have F2:=zz hf
       clear hr hn hf
       by_cases hjl:j<G.length
       · obtain⟨q,hq,hql⟩:=GB.out (G[j]) (List.getElem_mem hjl)
         obtain⟨x,hx⟩:∃x,A[q]? = some x:=⟨_,List.getElem?_eq_getElem hql⟩
         have hx':(offL A (G.take j))[q]? = some ⟨x.r,x.up,x.on && !decide (q+1∈G.take j)⟩:=by rw[offL_at,hx];rfl
         obtain⟨gb,cap',hv',x0',x1,x2,hfz⟩:=R1.out.form hx'
         rw[hv,offL_len,HN.out] at hv'
         injection hv' with hv1 _ hv2
         subst hv1 hv2
         have hf2:=hfz (q*3+2)
         obtain⟨ga,gc',hsl,hcells⟩:=N2.out.form
         obtain⟨gg,hga,hgcell⟩:=hcells j hjl
         injection hsl with hs1 _ hs2
         subst hga
         subst hs1 hs2
         rw[hq] at hgcell
         have hcast:((q+1:Nat):Int)=(q:Int)+1:=by omega
         rw[hcast] at hgcell
         have hg:wr.cell? ⟨g,0,none⟩=some (.slice (some ⟨gb,0,none⟩) i cap):=by
          have:=R1.out.box.cell (k:=0) rfl
          rw[hv] at this
          exact this
         have d3:IntKind.u64.wrap ((q:Int)+1-1)=(q:Int):=by rw[show (q:Int)+1-1=(q:Int) by omega];exact wide_u64 q (by have:=HM.out;have:=HN.out;omega)
         have d4:(q:Int)<(i:Int):=by have:=HN.out;omega
         have hjli:(j:Int)<(G.length:Int):=by omega
         have HJ:=zz hjl
         have R2:Hid (RcB (wr.setCell ⟨gb,q*3+2,none⟩ (.bool false)) B g v (offL A (G.take (j+1)))):=zz (by
          have h1:=R1.out
          have hv3:v = .slice (some ⟨gb,0,none⟩) (offL A (G.take j)).length cap:=by rw[offL_len,HN.out];exact hv
          rw[hv3] at h1⊢
          have h2:=h1.off hx'
          rw[List.take_add_one,List.getElem?_eq_getElem hjl,Option.toList_some,hq,←offL_snoc hx]
          exact h2)
         have FW:Hid (Fr wr (wr.setCell ⟨gb,q*3+2,none⟩ (.bool false)) (fun k=>v.ownBlock=some k)):=zz ((Fr.grown (grown_cell wr gb (q*3+2) (.bool false))).imp fun k hk=>by rw[hv];exact hk)
         have F3:Hid (Fr w (wr.setCell ⟨gb,q*3+2,none⟩ (.bool false)) (fun k=>k=g∨v.ownBlock=some k)):=zz (F2.out.tr (FW.out.imp fun k hk=>.inr hk))
         have N3:Hid (U64.NsB (wr.setCell ⟨gb,q*3+2,none⟩ (.bool false)) w.heap.size (.slice (some ⟨gg,0,none⟩) G.length gc) G):=zz (row_fr N2.out FW.out (fun k hk e=>(ns_row_ne R1.out N2.out).1 k hk e))
         clear hx hx' hjl hj x0' x1 hfz R1 F2 FW N2 hcells hq hql hcast
         go_wp2_with fail
         go_region
         go_wp2_with fail
         go_roundw
         case rel=>exact⟨j+1,HJ.out,by go_num,R2.out.ab ⟨rfl,rfl,rfl,Nat.le_refl _,fun i hi=>rfl⟩,N3.out,⟨F3.out.os,F3.out.tape,F3.out.output,F3.out.size,F3.out.block⟩⟩
         case measure=>simp[intOf];have:=HJ.out;omega
       · obtain rfl:j=G.length:=by omega
         have h1:=R1.out
         rw[List.take_length,OFF.out] at h1
         have R2:=zz h1
         clear h1 hjl hj R1
         go_wp2_with fail
         go_ret
         exact⟨rfl,v,R2.out,F2.out,.inl rfl⟩
theorem rrevoke_anyS {B g h vv:Nat} {v:Value} {A:HL} {w:World} (hc:RcB w B g v A) (hA:RightA A) (hm:A.length<900):Calls Tryz.prog 61 #[.pointer (some ⟨g,0,none⟩),.int .u64 (h:Int),.int .u64 (vv:Int)] w (RcS B g v w (.int .i64 ((revokeH A h vv).1:Int)) (revokeH A h vv).2):=by
 unfold revokeH
 cases ha:atH A h with
 | none=>exact (rrevoke_none hc hm (fun ⟨h1,_⟩=>by unfold atP at h1;rw[ha] at h1;cases h1)).mono fun e w' ⟨he,hb⟩=>RcS.below hc he hb
 | some x=>
   simp only
   cases hb:atH A vv with
   | none=>exact (rrevoke_none hc hm (fun ⟨_,h1⟩=>by unfold atP at h1;rw[hb] at h1;cases h1)).mono fun e w' ⟨he,hb⟩=>RcS.below hc he hb
   | some y=>
     simp only
     cases hn:mayRv A x h vv
     · exact (rrevoke_no hc hA hm ha hb hn).mono fun e w' ⟨he,hb⟩=>RcS.below hc he hb
     · exact rrevoke_yesS hc hA hm ha hb hn
end Go.Proofs.YtgdhinjhbjolgaaGreat
