/-
  Parts of the proof, joined.
-/
import Derived.Test.YtgdhinjhbjolgaaGreatBdi
namespace Go.Proofs.YtgdhinjhbjolgaaGreat
set_option maxHeartbeats 1000000
open Go.RowKit
set_option linter.unusedVariables false
set_option linter.unusedSimpArgs false
section
variable {w:World} {O:Tg} {s blocks m:Nat} {T:List TnP} {bs:List (Nat×TnP)} {c:CallP}
set_option maxRecDepth 100000 in
theorem id_give_none (h:IdM w O s blocks T m bs) (hc:c.Ok) (hf:fnd bs (c.hd/4294967296)=none):
 Calls Tryz.prog 45 #[.pointer (some ⟨s,0,none⟩),.agg c.cs] w (DoR s blocks w O (errA 7) T):=by
 obtain⟨w0,hw0,ha,hcb,hqb⟩:=preX w c
 unfold CallP.cs at hcb⊢
 go_enter Tryz.func45,Tryz.ntmps45
 go_upto_region 1 with (fail)
 rw[hw0.out]
 clear hw0
 obtain⟨c0,c1,c2,c3,c4,c5,c6,c7,c8,c9,c10,c11,c12,c13⟩:=hcb.c14
 have HA:=zz ha
 have HQ:=zz hqb
 have HB:=zz hcb
 have M0:=h.stp (ctS ha) noF
 have HM:=zz M0
 have HH:=zz (holder_none 0 M0 hc hf)
 have HF:=zz fun W=>fails_any 7 W
 clear h ha hqb hcb hf hc M0
 go_wp2_with fail
 refine HH.out.mono ?_
 rintro e w9 ⟨rfl,hb9⟩
 have B9:=zz hb9
 clear hb9 HH
 go_wp2_with fail
 refine (HF.out _).mono ?_
 rintro e w1 ⟨rfl,hb⟩
 have B1:Hid (Below w0.heap.size w0 w1):=zz (below_tr B9.out hb B9.out.size)
 have Q1:=zz (HQ.out.ab B1.out)
 have M1:=kpM HM B1
 have S1:=stKp s O HA B1
 clear hb HQ HM B1
 go_wp2_with (first
  | ((with_reducible refine stA 19 ?_ (ansE 7) ?_ Q1 ?_ ?_ (ansE_one _) ?_);rfl;rfl;rfl;rfl;intro wz QZ FZ))
 refine bodyPost_ret (ansR Tryz.results45 QZ rfl rfl) rfl ?_
 exact DoR.fl 7 0 0 0 M1 S1 FZ
set_option maxRecDepth 100000 in
theorem id_give_deny (x:Nat×TnP) (h:IdM w O s blocks T m bs) (hc:c.Ok) (hf:fnd bs (c.hd/4294967296)=some x) (er:Nat) (hk:checkH x.2.A (c.hd%4294967296) 0=er) (he:0<er):
 Calls Tryz.prog 45 #[.pointer (some ⟨s,0,none⟩),.agg c.cs] w (DoR s blocks w O (errA er) T):=by
 obtain⟨cb,mo,sm,nb,es,ht⟩:=h.all x (fnd_mem hf).1
 obtain⟨w0,hw0,ha,hcb,hqb⟩:=preX w c
 unfold CallP.cs at hcb⊢
 go_enter Tryz.func45,Tryz.ntmps45
 go_upto_region 1 with (fail)
 rw[hw0.out]
 clear hw0
 obtain⟨c0,c1,c2,c3,c4,c5,c6,c7,c8,c9,c10,c11,c12,c13⟩:=hcb.c14
 have HA:=zz ha
 have HQ:=zz hqb
 have HB:=zz hcb
 have M0:=h.stp (ctS ha) noF
 have HM:=zz M0
 have HH:=zz (holder_some 0 x cb mo sm nb es M0 hc hf (ht.stp (ctS ha) fun h=>h))
 rw[hk] at HH
 have e0:((er:Int) != 0)=true:=by simp;omega
 have e1:¬er=0:=by omega
 have HF:=zz fun W=>fails_any (er:Int) W
 clear h ha hqb hcb hf hc M0 ht hk he
 go_wp2_with fail
 refine HH.out.mono ?_
 rintro e w9 ⟨rfl,hb9⟩
 have B9:=zz hb9
 clear hb9 HH
 go_wp2_with fail
 refine (HF.out _).mono ?_
 rintro e w1 ⟨rfl,hb⟩
 have B1:Hid (Below w0.heap.size w0 w1):=zz (below_tr B9.out hb B9.out.size)
 have Q1:=zz (HQ.out.ab B1.out)
 have M1:=kpM HM B1
 have S1:=stKp s O HA B1
 clear hb HQ HM B1
 go_wp2_with (first
  | ((with_reducible refine stA 19 ?_ (ansE (er:Int)) ?_ Q1 ?_ ?_ (ansE_one _) ?_);rfl;rfl;rfl;rfl;intro wz QZ FZ))
 refine bodyPost_ret (ansR Tryz.results45 QZ rfl rfl) rfl ?_
 exact DoR.fl (er:Int) 0 0 0 M1 S1 FZ
set_option maxRecDepth 100000 in
theorem id_revoke_none (h:IdM w O s blocks T m bs) (hc:c.Ok) (hf:fnd bs (c.hd/4294967296)=none):
 Calls Tryz.prog 46 #[.pointer (some ⟨s,0,none⟩),.agg c.cs] w (DoR s blocks w O (errA 7) T):=by
 obtain⟨w0,hw0,ha,hcb,hqb⟩:=preX w c
 unfold CallP.cs at hcb⊢
 go_enter Tryz.func46,Tryz.ntmps46
 go_upto_region 1 with (fail)
 rw[hw0.out]
 clear hw0
 obtain⟨c0,c1,c2,c3,c4,c5,c6,c7,c8,c9,c10,c11,c12,c13⟩:=hcb.c14
 have HA:=zz ha
 have HQ:=zz hqb
 have HB:=zz hcb
 have M0:=h.stp (ctS ha) noF
 have HM:=zz M0
 have HH:=zz (holder_none 0 M0 hc hf)
 have HF:=zz fun W=>fails_any 7 W
 clear h ha hqb hcb hf hc M0
 go_wp2_with fail
 refine HH.out.mono ?_
 rintro e w9 ⟨rfl,hb9⟩
 have B9:=zz hb9
 clear hb9 HH
 go_wp2_with fail
 refine (HF.out _).mono ?_
 rintro e w1 ⟨rfl,hb⟩
 have B1:Hid (Below w0.heap.size w0 w1):=zz (below_tr B9.out hb B9.out.size)
 have Q1:=zz (HQ.out.ab B1.out)
 have M1:=kpM HM B1
 have S1:=stKp s O HA B1
 clear hb HQ HM B1
 go_wp2_with (first
  | ((with_reducible refine stA 19 ?_ (ansE 7) ?_ Q1 ?_ ?_ (ansE_one _) ?_);rfl;rfl;rfl;rfl;intro wz QZ FZ))
 refine bodyPost_ret (ansR Tryz.results46 QZ rfl rfl) rfl ?_
 exact DoR.fl 7 0 0 0 M1 S1 FZ
set_option maxRecDepth 100000 in
theorem id_revoke_deny (x:Nat×TnP) (h:IdM w O s blocks T m bs) (hc:c.Ok) (hf:fnd bs (c.hd/4294967296)=some x) (er:Nat) (hk:checkH x.2.A (c.hd%4294967296) 0=er) (he:0<er):
 Calls Tryz.prog 46 #[.pointer (some ⟨s,0,none⟩),.agg c.cs] w (DoR s blocks w O (errA er) T):=by
 obtain⟨cb,mo,sm,nb,es,ht⟩:=h.all x (fnd_mem hf).1
 obtain⟨w0,hw0,ha,hcb,hqb⟩:=preX w c
 unfold CallP.cs at hcb⊢
 go_enter Tryz.func46,Tryz.ntmps46
 go_upto_region 1 with (fail)
 rw[hw0.out]
 clear hw0
 obtain⟨c0,c1,c2,c3,c4,c5,c6,c7,c8,c9,c10,c11,c12,c13⟩:=hcb.c14
 have HA:=zz ha
 have HQ:=zz hqb
 have HB:=zz hcb
 have M0:=h.stp (ctS ha) noF
 have HM:=zz M0
 have HH:=zz (holder_some 0 x cb mo sm nb es M0 hc hf (ht.stp (ctS ha) fun h=>h))
 rw[hk] at HH
 have e0:((er:Int) != 0)=true:=by simp;omega
 have e1:¬er=0:=by omega
 have HF:=zz fun W=>fails_any (er:Int) W
 clear h ha hqb hcb hf hc M0 ht hk he
 go_wp2_with fail
 refine HH.out.mono ?_
 rintro e w9 ⟨rfl,hb9⟩
 have B9:=zz hb9
 clear hb9 HH
 go_wp2_with fail
 refine (HF.out _).mono ?_
 rintro e w1 ⟨rfl,hb⟩
 have B1:Hid (Below w0.heap.size w0 w1):=zz (below_tr B9.out hb B9.out.size)
 have Q1:=zz (HQ.out.ab B1.out)
 have M1:=kpM HM B1
 have S1:=stKp s O HA B1
 clear hb HQ HM B1
 go_wp2_with (first
  | ((with_reducible refine stA 19 ?_ (ansE (er:Int)) ?_ Q1 ?_ ?_ (ansE_one _) ?_);rfl;rfl;rfl;rfl;intro wz QZ FZ))
 refine bodyPost_ret (ansR Tryz.results46 QZ rfl rfl) rfl ?_
 exact DoR.fl (er:Int) 0 0 0 M1 S1 FZ
set_option maxRecDepth 100000 in
theorem id_batch_none (h:IdM w O s blocks T m bs) (hc:c.Ok) (hf:fnd bs (c.hd/4294967296)=none):
 Calls Tryz.prog 47 #[.pointer (some ⟨s,0,none⟩),.agg c.cs] w (DoR s blocks w O (errA 7) T):=by
 obtain⟨w0,hw0,ha,hcb,hqb⟩:=preX w c
 unfold CallP.cs at hcb⊢
 go_enter Tryz.func47,Tryz.ntmps47
 go_upto_region 1 with (fail)
 rw[hw0.out]
 clear hw0
 obtain⟨c0,c1,c2,c3,c4,c5,c6,c7,c8,c9,c10,c11,c12,c13⟩:=hcb.c14
 have HA:=zz ha
 have HQ:=zz hqb
 have HB:=zz hcb
 have M0:=h.stp (ctS ha) noF
 have HM:=zz M0
 have HH:=zz (holder_none 2 M0 hc hf)
 have HF:=zz fun W=>fails_any 7 W
 clear h ha hqb hcb hf hc M0
 go_wp2_with fail
 refine HH.out.mono ?_
 rintro e w9 ⟨rfl,hb9⟩
 have B9:=zz hb9
 clear hb9 HH
 go_wp2_with fail
 refine (HF.out _).mono ?_
 rintro e w1 ⟨rfl,hb⟩
 have B1:Hid (Below w0.heap.size w0 w1):=zz (below_tr B9.out hb B9.out.size)
 have Q1:=zz (HQ.out.ab B1.out)
 have M1:=kpM HM B1
 have S1:=stKp s O HA B1
 clear hb HQ HM B1
 go_wp2_with (first
  | ((with_reducible refine stA 21 ?_ (ansE 7) ?_ Q1 ?_ ?_ (ansE_one _) ?_);rfl;rfl;rfl;rfl;intro wz QZ FZ))
 refine bodyPost_ret (ansR Tryz.results47 QZ rfl rfl) rfl ?_
 exact DoR.fl 7 0 0 0 M1 S1 FZ
set_option maxRecDepth 100000 in
theorem id_batch_deny (x:Nat×TnP) (h:IdM w O s blocks T m bs) (hc:c.Ok) (hf:fnd bs (c.hd/4294967296)=some x) (er:Nat) (hk:checkH x.2.A (c.hd%4294967296) 2=er) (he:0<er):
 Calls Tryz.prog 47 #[.pointer (some ⟨s,0,none⟩),.agg c.cs] w (DoR s blocks w O (errA er) T):=by
 obtain⟨cb,mo,sm,nb,es,ht⟩:=h.all x (fnd_mem hf).1
 obtain⟨w0,hw0,ha,hcb,hqb⟩:=preX w c
 unfold CallP.cs at hcb⊢
 go_enter Tryz.func47,Tryz.ntmps47
 go_upto_region 1 with (fail)
 rw[hw0.out]
 clear hw0
 obtain⟨c0,c1,c2,c3,c4,c5,c6,c7,c8,c9,c10,c11,c12,c13⟩:=hcb.c14
 have HA:=zz ha
 have HQ:=zz hqb
 have HB:=zz hcb
 have M0:=h.stp (ctS ha) noF
 have HM:=zz M0
 have HH:=zz (holder_some 2 x cb mo sm nb es M0 hc hf (ht.stp (ctS ha) fun h=>h))
 rw[hk] at HH
 have e0:((er:Int) != 0)=true:=by simp;omega
 have e1:¬er=0:=by omega
 have HF:=zz fun W=>fails_any (er:Int) W
 clear h ha hqb hcb hf hc M0 ht hk he
 go_wp2_with fail
 refine HH.out.mono ?_
 rintro e w9 ⟨rfl,hb9⟩
 have B9:=zz hb9
 clear hb9 HH
 go_wp2_with fail
 refine (HF.out _).mono ?_
 rintro e w1 ⟨rfl,hb⟩
 have B1:Hid (Below w0.heap.size w0 w1):=zz (below_tr B9.out hb B9.out.size)
 have Q1:=zz (HQ.out.ab B1.out)
 have M1:=kpM HM B1
 have S1:=stKp s O HA B1
 clear hb HQ HM B1
 go_wp2_with (first
  | ((with_reducible refine stA 21 ?_ (ansE (er:Int)) ?_ Q1 ?_ ?_ (ansE_one _) ?_);rfl;rfl;rfl;rfl;intro wz QZ FZ))
 refine bodyPost_ret (ansR Tryz.results47 QZ rfl rfl) rfl ?_
 exact DoR.fl (er:Int) 0 0 0 M1 S1 FZ
set_option maxRecDepth 100000 in
theorem id_get_none (h:IdM w O s blocks T m bs) (hc:c.Ok) (hf:fnd bs (c.hd/4294967296)=none):
 Calls Tryz.prog 48 #[.pointer (some ⟨s,0,none⟩),.agg c.cs] w (DoR s blocks w O (errA 7) T):=by
 obtain⟨w0,hw0,ha,hcb,hqb⟩:=preX w c
 unfold CallP.cs at hcb⊢
 go_enter Tryz.func48,Tryz.ntmps48
 go_upto_region 1 with (fail)
 rw[hw0.out]
 clear hw0
 obtain⟨c0,c1,c2,c3,c4,c5,c6,c7,c8,c9,c10,c11,c12,c13⟩:=hcb.c14
 have HA:=zz ha
 have HQ:=zz hqb
 have HB:=zz hcb
 have M0:=h.stp (ctS ha) noF
 have HM:=zz M0
 have HH:=zz (holder_none 1 M0 hc hf)
 have HF:=zz fun W=>fails_any 7 W
 clear h ha hqb hcb hf hc M0
 go_wp2_with fail
 refine HH.out.mono ?_
 rintro e w9 ⟨rfl,hb9⟩
 have B9:=zz hb9
 clear hb9 HH
 go_wp2_with fail
 refine (HF.out _).mono ?_
 rintro e w1 ⟨rfl,hb⟩
 have B1:Hid (Below w0.heap.size w0 w1):=zz (below_tr B9.out hb B9.out.size)
 have Q1:=zz (HQ.out.ab B1.out)
 have M1:=kpM HM B1
 have S1:=stKp s O HA B1
 clear hb HQ HM B1
 go_wp2_with (first
  | ((with_reducible refine stA 22 ?_ (ansE 7) ?_ Q1 ?_ ?_ (ansE_one _) ?_);rfl;rfl;rfl;rfl;intro wz QZ FZ))
 refine bodyPost_ret (ansR Tryz.results48 QZ rfl rfl) rfl ?_
 exact DoR.fl 7 0 0 0 M1 S1 FZ
set_option maxRecDepth 100000 in
theorem id_get_deny (x:Nat×TnP) (h:IdM w O s blocks T m bs) (hc:c.Ok) (hf:fnd bs (c.hd/4294967296)=some x) (er:Nat) (hk:checkH x.2.A (c.hd%4294967296) 1=er) (he:0<er):
 Calls Tryz.prog 48 #[.pointer (some ⟨s,0,none⟩),.agg c.cs] w (DoR s blocks w O (errA er) T):=by
 obtain⟨cb,mo,sm,nb,es,ht⟩:=h.all x (fnd_mem hf).1
 obtain⟨w0,hw0,ha,hcb,hqb⟩:=preX w c
 unfold CallP.cs at hcb⊢
 go_enter Tryz.func48,Tryz.ntmps48
 go_upto_region 1 with (fail)
 rw[hw0.out]
 clear hw0
 obtain⟨c0,c1,c2,c3,c4,c5,c6,c7,c8,c9,c10,c11,c12,c13⟩:=hcb.c14
 have HA:=zz ha
 have HQ:=zz hqb
 have HB:=zz hcb
 have M0:=h.stp (ctS ha) noF
 have HM:=zz M0
 have HH:=zz (holder_some 1 x cb mo sm nb es M0 hc hf (ht.stp (ctS ha) fun h=>h))
 rw[hk] at HH
 have e0:((er:Int) != 0)=true:=by simp;omega
 have e1:¬er=0:=by omega
 have HF:=zz fun W=>fails_any (er:Int) W
 clear h ha hqb hcb hf hc M0 ht hk he
 go_wp2_with fail
 refine HH.out.mono ?_
 rintro e w9 ⟨rfl,hb9⟩
 have B9:=zz hb9
 clear hb9 HH
 go_wp2_with fail
 refine (HF.out _).mono ?_
 rintro e w1 ⟨rfl,hb⟩
 have B1:Hid (Below w0.heap.size w0 w1):=zz (below_tr B9.out hb B9.out.size)
 have Q1:=zz (HQ.out.ab B1.out)
 have M1:=kpM HM B1
 have S1:=stKp s O HA B1
 clear hb HQ HM B1
 go_wp2_with (first
  | ((with_reducible refine stA 22 ?_ (ansE (er:Int)) ?_ Q1 ?_ ?_ (ansE_one _) ?_);rfl;rfl;rfl;rfl;intro wz QZ FZ))
 refine bodyPost_ret (ansR Tryz.results48 QZ rfl rfl) rfl ?_
 exact DoR.fl (er:Int) 0 0 0 M1 S1 FZ
set_option maxRecDepth 100000 in
theorem id_scan_none (h:IdM w O s blocks T m bs) (hc:c.Ok) (hf:fnd bs (c.hd/4294967296)=none):
 Calls Tryz.prog 49 #[.pointer (some ⟨s,0,none⟩),.agg c.cs] w (DoR s blocks w O (errA 7) T):=by
 obtain⟨w0,hw0,ha,hcb,hqb⟩:=preX w c
 unfold CallP.cs at hcb⊢
 go_enter Tryz.func49,Tryz.ntmps49
 go_upto_region 1 with (fail)
 rw[hw0.out]
 clear hw0
 obtain⟨c0,c1,c2,c3,c4,c5,c6,c7,c8,c9,c10,c11,c12,c13⟩:=hcb.c14
 have HA:=zz ha
 have HQ:=zz hqb
 have HB:=zz hcb
 have M0:=h.stp (ctS ha) noF
 have HM:=zz M0
 have HH:=zz (holder_none 1 M0 hc hf)
 have HF:=zz fun W=>fails_any 7 W
 clear h ha hqb hcb hf hc M0
 go_wp2_with fail
 refine HH.out.mono ?_
 rintro e w9 ⟨rfl,hb9⟩
 have B9:=zz hb9
 clear hb9 HH
 go_wp2_with fail
 refine (HF.out _).mono ?_
 rintro e w1 ⟨rfl,hb⟩
 have B1:Hid (Below w0.heap.size w0 w1):=zz (below_tr B9.out hb B9.out.size)
 have Q1:=zz (HQ.out.ab B1.out)
 have M1:=kpM HM B1
 have S1:=stKp s O HA B1
 clear hb HQ HM B1
 go_wp2_with (first
  | ((with_reducible refine stA 24 ?_ (ansE 7) ?_ Q1 ?_ ?_ (ansE_one _) ?_);rfl;rfl;rfl;rfl;intro wz QZ FZ))
 refine bodyPost_ret (ansR Tryz.results49 QZ rfl rfl) rfl ?_
 exact DoR.fl 7 0 0 0 M1 S1 FZ
set_option maxRecDepth 100000 in
theorem id_scan_deny (x:Nat×TnP) (h:IdM w O s blocks T m bs) (hc:c.Ok) (hf:fnd bs (c.hd/4294967296)=some x) (er:Nat) (hk:checkH x.2.A (c.hd%4294967296) 1=er) (he:0<er):
 Calls Tryz.prog 49 #[.pointer (some ⟨s,0,none⟩),.agg c.cs] w (DoR s blocks w O (errA er) T):=by
 obtain⟨cb,mo,sm,nb,es,ht⟩:=h.all x (fnd_mem hf).1
 obtain⟨w0,hw0,ha,hcb,hqb⟩:=preX w c
 unfold CallP.cs at hcb⊢
 go_enter Tryz.func49,Tryz.ntmps49
 go_upto_region 1 with (fail)
 rw[hw0.out]
 clear hw0
 obtain⟨c0,c1,c2,c3,c4,c5,c6,c7,c8,c9,c10,c11,c12,c13⟩:=hcb.c14
 have HA:=zz ha
 have HQ:=zz hqb
 have HB:=zz hcb
 have M0:=h.stp (ctS ha) noF
 have HM:=zz M0
 have HH:=zz (holder_some 1 x cb mo sm nb es M0 hc hf (ht.stp (ctS ha) fun h=>h))
 rw[hk] at HH
 have e0:((er:Int) != 0)=true:=by simp;omega
 have e1:¬er=0:=by omega
 have HF:=zz fun W=>fails_any (er:Int) W
 clear h ha hqb hcb hf hc M0 ht hk he
 go_wp2_with fail
 refine HH.out.mono ?_
 rintro e w9 ⟨rfl,hb9⟩
 have B9:=zz hb9
 clear hb9 HH
 go_wp2_with fail
 refine (HF.out _).mono ?_
 rintro e w1 ⟨rfl,hb⟩
 have B1:Hid (Below w0.heap.size w0 w1):=zz (below_tr B9.out hb B9.out.size)
 have Q1:=zz (HQ.out.ab B1.out)
 have M1:=kpM HM B1
 have S1:=stKp s O HA B1
 clear hb HQ HM B1
 go_wp2_with (first
  | ((with_reducible refine stA 24 ?_ (ansE (er:Int)) ?_ Q1 ?_ ?_ (ansE_one _) ?_);rfl;rfl;rfl;rfl;intro wz QZ FZ))
 refine bodyPost_ret (ansR Tryz.results49 QZ rfl rfl) rfl ?_
 exact DoR.fl (er:Int) 0 0 0 M1 S1 FZ
set_option maxRecDepth 100000 in
theorem id_snap_none (h:IdM w O s blocks T m bs) (hc:c.Ok) (hf:fnd bs (c.hd/4294967296)=none):
 Calls Tryz.prog 50 #[.pointer (some ⟨s,0,none⟩),.agg c.cs] w (DoR s blocks w O (errA 7) T):=by
 obtain⟨w0,hw0,ha,hcb,hqb⟩:=preX w c
 unfold CallP.cs at hcb⊢
 go_enter Tryz.func50,Tryz.ntmps50
 go_upto_region 1 with (fail)
 rw[hw0.out]
 clear hw0
 obtain⟨c0,c1,c2,c3,c4,c5,c6,c7,c8,c9,c10,c11,c12,c13⟩:=hcb.c14
 have HA:=zz ha
 have HQ:=zz hqb
 have HB:=zz hcb
 have M0:=h.stp (ctS ha) noF
 have HM:=zz M0
 have HH:=zz (holder_none 4 M0 hc hf)
 have HF:=zz fun W=>fails_any 7 W
 clear h ha hqb hcb hf hc M0
 go_wp2_with fail
 refine HH.out.mono ?_
 rintro e w9 ⟨rfl,hb9⟩
 have B9:=zz hb9
 clear hb9 HH
 go_wp2_with fail
 refine (HF.out _).mono ?_
 rintro e w1 ⟨rfl,hb⟩
 have B1:Hid (Below w0.heap.size w0 w1):=zz (below_tr B9.out hb B9.out.size)
 have Q1:=zz (HQ.out.ab B1.out)
 have M1:=kpM HM B1
 have S1:=stKp s O HA B1
 clear hb HQ HM B1
 go_wp2_with (first
  | ((with_reducible refine stA 19 ?_ (ansE 7) ?_ Q1 ?_ ?_ (ansE_one _) ?_);rfl;rfl;rfl;rfl;intro wz QZ FZ))
 refine bodyPost_ret (ansR Tryz.results50 QZ rfl rfl) rfl ?_
 exact DoR.fl 7 0 0 0 M1 S1 FZ
set_option maxRecDepth 100000 in
theorem id_snap_deny (x:Nat×TnP) (h:IdM w O s blocks T m bs) (hc:c.Ok) (hf:fnd bs (c.hd/4294967296)=some x) (er:Nat) (hk:checkH x.2.A (c.hd%4294967296) 4=er) (he:0<er):
 Calls Tryz.prog 50 #[.pointer (some ⟨s,0,none⟩),.agg c.cs] w (DoR s blocks w O (errA er) T):=by
 obtain⟨cb,mo,sm,nb,es,ht⟩:=h.all x (fnd_mem hf).1
 obtain⟨w0,hw0,ha,hcb,hqb⟩:=preX w c
 unfold CallP.cs at hcb⊢
 go_enter Tryz.func50,Tryz.ntmps50
 go_upto_region 1 with (fail)
 rw[hw0.out]
 clear hw0
 obtain⟨c0,c1,c2,c3,c4,c5,c6,c7,c8,c9,c10,c11,c12,c13⟩:=hcb.c14
 have HA:=zz ha
 have HQ:=zz hqb
 have HB:=zz hcb
 have M0:=h.stp (ctS ha) noF
 have HM:=zz M0
 have HH:=zz (holder_some 4 x cb mo sm nb es M0 hc hf (ht.stp (ctS ha) fun h=>h))
 rw[hk] at HH
 have e0:((er:Int) != 0)=true:=by simp;omega
 have e1:¬er=0:=by omega
 have HF:=zz fun W=>fails_any (er:Int) W
 clear h ha hqb hcb hf hc M0 ht hk he
 go_wp2_with fail
 refine HH.out.mono ?_
 rintro e w9 ⟨rfl,hb9⟩
 have B9:=zz hb9
 clear hb9 HH
 go_wp2_with fail
 refine (HF.out _).mono ?_
 rintro e w1 ⟨rfl,hb⟩
 have B1:Hid (Below w0.heap.size w0 w1):=zz (below_tr B9.out hb B9.out.size)
 have Q1:=zz (HQ.out.ab B1.out)
 have M1:=kpM HM B1
 have S1:=stKp s O HA B1
 clear hb HQ HM B1
 go_wp2_with (first
  | ((with_reducible refine stA 19 ?_ (ansE (er:Int)) ?_ Q1 ?_ ?_ (ansE_one _) ?_);rfl;rfl;rfl;rfl;intro wz QZ FZ))
 refine bodyPost_ret (ansR Tryz.results50 QZ rfl rfl) rfl ?_
 exact DoR.fl (er:Int) 0 0 0 M1 S1 FZ
set_option maxRecDepth 100000 in
theorem id_release_none (h:IdM w O s blocks T m bs) (hc:c.Ok) (hf:fnd bs (c.hd/4294967296)=none):
 Calls Tryz.prog 51 #[.pointer (some ⟨s,0,none⟩),.agg c.cs] w (DoR s blocks w O (errA 7) T):=by
 obtain⟨w0,hw0,ha,hcb,hqb⟩:=preX w c
 unfold CallP.cs at hcb⊢
 go_enter Tryz.func51,Tryz.ntmps51
 go_upto_region 1 with (fail)
 rw[hw0.out]
 clear hw0
 obtain⟨c0,c1,c2,c3,c4,c5,c6,c7,c8,c9,c10,c11,c12,c13⟩:=hcb.c14
 have HA:=zz ha
 have HQ:=zz hqb
 have HB:=zz hcb
 have M0:=h.stp (ctS ha) noF
 have HM:=zz M0
 have HH:=zz (holder_none 4 M0 hc hf)
 have HF:=zz fun W=>fails_any 7 W
 clear h ha hqb hcb hf hc M0
 go_wp2_with fail
 refine HH.out.mono ?_
 rintro e w9 ⟨rfl,hb9⟩
 have B9:=zz hb9
 clear hb9 HH
 go_wp2_with fail
 refine (HF.out _).mono ?_
 rintro e w1 ⟨rfl,hb⟩
 have B1:Hid (Below w0.heap.size w0 w1):=zz (below_tr B9.out hb B9.out.size)
 have Q1:=zz (HQ.out.ab B1.out)
 have M1:=kpM HM B1
 have S1:=stKp s O HA B1
 clear hb HQ HM B1
 go_wp2_with (first
  | ((with_reducible refine stA 20 ?_ (ansE 7) ?_ Q1 ?_ ?_ (ansE_one _) ?_);rfl;rfl;rfl;rfl;intro wz QZ FZ))
 refine bodyPost_ret (ansR Tryz.results51 QZ rfl rfl) rfl ?_
 exact DoR.fl 7 0 0 0 M1 S1 FZ
set_option maxRecDepth 100000 in
theorem id_release_deny (x:Nat×TnP) (h:IdM w O s blocks T m bs) (hc:c.Ok) (hf:fnd bs (c.hd/4294967296)=some x) (er:Nat) (hk:checkH x.2.A (c.hd%4294967296) 4=er) (he:0<er):
 Calls Tryz.prog 51 #[.pointer (some ⟨s,0,none⟩),.agg c.cs] w (DoR s blocks w O (errA er) T):=by
 obtain⟨cb,mo,sm,nb,es,ht⟩:=h.all x (fnd_mem hf).1
 obtain⟨w0,hw0,ha,hcb,hqb⟩:=preX w c
 unfold CallP.cs at hcb⊢
 go_enter Tryz.func51,Tryz.ntmps51
 go_upto_region 1 with (fail)
 rw[hw0.out]
 clear hw0
 obtain⟨c0,c1,c2,c3,c4,c5,c6,c7,c8,c9,c10,c11,c12,c13⟩:=hcb.c14
 have HA:=zz ha
 have HQ:=zz hqb
 have HB:=zz hcb
 have M0:=h.stp (ctS ha) noF
 have HM:=zz M0
 have HH:=zz (holder_some 4 x cb mo sm nb es M0 hc hf (ht.stp (ctS ha) fun h=>h))
 rw[hk] at HH
 have e0:((er:Int) != 0)=true:=by simp;omega
 have e1:¬er=0:=by omega
 have HF:=zz fun W=>fails_any (er:Int) W
 clear h ha hqb hcb hf hc M0 ht hk he
 go_wp2_with fail
 refine HH.out.mono ?_
 rintro e w9 ⟨rfl,hb9⟩
 have B9:=zz hb9
 clear hb9 HH
 go_wp2_with fail
 refine (HF.out _).mono ?_
 rintro e w1 ⟨rfl,hb⟩
 have B1:Hid (Below w0.heap.size w0 w1):=zz (below_tr B9.out hb B9.out.size)
 have Q1:=zz (HQ.out.ab B1.out)
 have M1:=kpM HM B1
 have S1:=stKp s O HA B1
 clear hb HQ HM B1
 go_wp2_with (first
  | ((with_reducible refine stA 20 ?_ (ansE (er:Int)) ?_ Q1 ?_ ?_ (ansE_one _) ?_);rfl;rfl;rfl;rfl;intro wz QZ FZ))
 refine bodyPost_ret (ansR Tryz.results51 QZ rfl rfl) rfl ?_
 exact DoR.fl (er:Int) 0 0 0 M1 S1 FZ
set_option maxRecDepth 100000 in
theorem id_usage_none (h:IdM w O s blocks T m bs) (hc:c.Ok) (hf:fnd bs (c.hd/4294967296)=none):
 Calls Tryz.prog 52 #[.pointer (some ⟨s,0,none⟩),.agg c.cs] w (DoR s blocks w O (errA 7) T):=by
 obtain⟨w0,hw0,ha,hcb,hqb⟩:=preX w c
 unfold CallP.cs at hcb⊢
 go_enter Tryz.func52,Tryz.ntmps52
 go_upto_region 1 with (fail)
 rw[hw0.out]
 clear hw0
 obtain⟨c0,c1,c2,c3,c4,c5,c6,c7,c8,c9,c10,c11,c12,c13⟩:=hcb.c14
 have HA:=zz ha
 have HQ:=zz hqb
 have HB:=zz hcb
 have M0:=h.stp (ctS ha) noF
 have HM:=zz M0
 have HH:=zz (holder_none 1 M0 hc hf)
 have HF:=zz fun W=>fails_any 7 W
 clear h ha hqb hcb hf hc M0
 go_wp2_with fail
 refine HH.out.mono ?_
 rintro e w9 ⟨rfl,hb9⟩
 have B9:=zz hb9
 clear hb9 HH
 go_wp2_with fail
 refine (HF.out _).mono ?_
 rintro e w1 ⟨rfl,hb⟩
 have B1:Hid (Below w0.heap.size w0 w1):=zz (below_tr B9.out hb B9.out.size)
 have Q1:=zz (HQ.out.ab B1.out)
 have M1:=kpM HM B1
 have S1:=stKp s O HA B1
 clear hb HQ HM B1
 go_wp2_with (first
  | ((with_reducible refine stA 21 ?_ (ansE 7) ?_ Q1 ?_ ?_ (ansE_one _) ?_);rfl;rfl;rfl;rfl;intro wz QZ FZ))
 refine bodyPost_ret (ansR Tryz.results52 QZ rfl rfl) rfl ?_
 exact DoR.fl 7 0 0 0 M1 S1 FZ
set_option maxRecDepth 100000 in
theorem id_usage_deny (x:Nat×TnP) (h:IdM w O s blocks T m bs) (hc:c.Ok) (hf:fnd bs (c.hd/4294967296)=some x) (er:Nat) (hk:checkH x.2.A (c.hd%4294967296) 1=er) (he:0<er):
 Calls Tryz.prog 52 #[.pointer (some ⟨s,0,none⟩),.agg c.cs] w (DoR s blocks w O (errA er) T):=by
 obtain⟨cb,mo,sm,nb,es,ht⟩:=h.all x (fnd_mem hf).1
 obtain⟨w0,hw0,ha,hcb,hqb⟩:=preX w c
 unfold CallP.cs at hcb⊢
 go_enter Tryz.func52,Tryz.ntmps52
 go_upto_region 1 with (fail)
 rw[hw0.out]
 clear hw0
 obtain⟨c0,c1,c2,c3,c4,c5,c6,c7,c8,c9,c10,c11,c12,c13⟩:=hcb.c14
 have HA:=zz ha
 have HQ:=zz hqb
 have HB:=zz hcb
 have M0:=h.stp (ctS ha) noF
 have HM:=zz M0
 have HH:=zz (holder_some 1 x cb mo sm nb es M0 hc hf (ht.stp (ctS ha) fun h=>h))
 rw[hk] at HH
 have e0:((er:Int) != 0)=true:=by simp;omega
 have e1:¬er=0:=by omega
 have HF:=zz fun W=>fails_any (er:Int) W
 clear h ha hqb hcb hf hc M0 ht hk he
 go_wp2_with fail
 refine HH.out.mono ?_
 rintro e w9 ⟨rfl,hb9⟩
 have B9:=zz hb9
 clear hb9 HH
 go_wp2_with fail
 refine (HF.out _).mono ?_
 rintro e w1 ⟨rfl,hb⟩
 have B1:Hid (Below w0.heap.size w0 w1):=zz (below_tr B9.out hb B9.out.size)
 have Q1:=zz (HQ.out.ab B1.out)
 have M1:=kpM HM B1
 have S1:=stKp s O HA B1
 clear hb HQ HM B1
 go_wp2_with (first
  | ((with_reducible refine stA 21 ?_ (ansE (er:Int)) ?_ Q1 ?_ ?_ (ansE_one _) ?_);rfl;rfl;rfl;rfl;intro wz QZ FZ))
 refine bodyPost_ret (ansR Tryz.results52 QZ rfl rfl) rfl ?_
 exact DoR.fl (er:Int) 0 0 0 M1 S1 FZ
end
section
variable {w:World} {O:Tg} {s blocks m:Nat} {T:List TnP} {bs:List (Nat×TnP)} {c:CallP}
set_option maxRecDepth 100000 in
theorem id_get_short (x:Nat×TnP) (h:IdM w O s blocks T m bs) (hc:c.Ok) (hf:fnd bs (c.hd/4294967296)=some x) (hk:checkH x.2.A (c.hd%4294967296) 1=0) (hn:c.key.n=0):
 Calls Tryz.prog 48 #[.pointer (some ⟨s,0,none⟩),.agg c.cs] w (DoR s blocks w O (errA 2) T):=by
 obtain⟨cb,mo,sm,nb,es,ht⟩:=h.all x (fnd_mem hf).1
 have n1:((c.key.n:Int)==0)=true:=by rw[hn];rfl
 clear hn
 obtain⟨w0,hw0,ha,hcb,hqb⟩:=preX w c
 unfold CallP.cs at hcb⊢
 go_enter Tryz.func48,Tryz.ntmps48
 go_upto_region 1 with (fail)
 rw[hw0.out]
 clear hw0
 obtain⟨c0,c1,c2,c3,c4,c5,c6,c7,c8,c9,c10,c11,c12,c13⟩:=hcb.c14
 have HA:=zz ha
 have HQ:=zz hqb
 have HB:=zz hcb
 have M0:=h.stp (ctS ha) noF
 have HM:=zz M0
 have T0:=ht.stp (ctS ha) fun h=>h
 have HT:=zz T0
 have HH:=zz (holder_some 1 x cb mo sm nb es M0 hc hf T0)
 rw[hk] at HH
 have CO:=zz hc
 have HFN:=zz hf
 have HF:=zz fun W=>fails_any 2 W
 clear h ha hqb hcb hf hc M0 T0 ht hk
 go_wp2_with fail
 refine HH.out.mono ?_
 rintro e w9 ⟨rfl,hb9⟩
 have B9:=zz hb9
 clear hb9 HH
 have q10:=(HB.out.ab B9.out).cell (k:=10) rfl
 go_wp2_with fail
 refine (HF.out _).mono ?_
 rintro e w1 ⟨rfl,hb⟩
 have B1:Hid (Below w0.heap.size w0 w1):=zz (below_tr B9.out hb B9.out.size)
 have Q1:=zz (HQ.out.ab B1.out)
 have M1:=kpM HM B1
 have S1:=stKp s O HA B1
 clear hb HQ HM B1
 go_wp2_with (first
  | ((with_reducible refine stA 34 ?_ (ansE 2) ?_ Q1 ?_ ?_ (ansE_one _) ?_);rfl;rfl;rfl;rfl;intro wz QZ FZ))
 refine bodyPost_ret (ansR Tryz.results48 QZ rfl rfl) rfl ?_
 exact DoR.fl 2 0 0 0 M1 S1 FZ
set_option maxRecDepth 100000 in
theorem id_get_long (x:Nat×TnP) (h:IdM w O s blocks T m bs) (hc:c.Ok) (hf:fnd bs (c.hd/4294967296)=some x) (hk:checkH x.2.A (c.hd%4294967296) 1=0) (hn:32<c.key.n):
 Calls Tryz.prog 48 #[.pointer (some ⟨s,0,none⟩),.agg c.cs] w (DoR s blocks w O (errA 2) T):=by
 obtain⟨cb,mo,sm,nb,es,ht⟩:=h.all x (fnd_mem hf).1
 have n1:((c.key.n:Int)==0)=false:=by simp;omega
 have n2:decide ((32:Int)<(c.key.n:Int))=true:=by simp;omega
 clear hn
 obtain⟨w0,hw0,ha,hcb,hqb⟩:=preX w c
 unfold CallP.cs at hcb⊢
 go_enter Tryz.func48,Tryz.ntmps48
 go_upto_region 1 with (fail)
 rw[hw0.out]
 clear hw0
 obtain⟨c0,c1,c2,c3,c4,c5,c6,c7,c8,c9,c10,c11,c12,c13⟩:=hcb.c14
 have HA:=zz ha
 have HQ:=zz hqb
 have HB:=zz hcb
 have M0:=h.stp (ctS ha) noF
 have HM:=zz M0
 have T0:=ht.stp (ctS ha) fun h=>h
 have HT:=zz T0
 have HH:=zz (holder_some 1 x cb mo sm nb es M0 hc hf T0)
 rw[hk] at HH
 have CO:=zz hc
 have HFN:=zz hf
 have HF:=zz fun W=>fails_any 2 W
 clear h ha hqb hcb hf hc M0 T0 ht hk
 go_wp2_with fail
 refine HH.out.mono ?_
 rintro e w9 ⟨rfl,hb9⟩
 have B9:=zz hb9
 clear hb9 HH
 have q10:=(HB.out.ab B9.out).cell (k:=10) rfl
 go_wp2_with fail
 refine (HF.out _).mono ?_
 rintro e w1 ⟨rfl,hb⟩
 have B1:Hid (Below w0.heap.size w0 w1):=zz (below_tr B9.out hb B9.out.size)
 have Q1:=zz (HQ.out.ab B1.out)
 have M1:=kpM HM B1
 have S1:=stKp s O HA B1
 clear hb HQ HM B1
 go_wp2_with (first
  | ((with_reducible refine stA 34 ?_ (ansE 2) ?_ Q1 ?_ ?_ (ansE_one _) ?_);rfl;rfl;rfl;rfl;intro wz QZ FZ))
 refine bodyPost_ret (ansR Tryz.results48 QZ rfl rfl) rfl ?_
 exact DoR.fl 2 0 0 0 M1 S1 FZ
set_option maxRecDepth 100000 in
theorem id_get_snap (x:Nat×TnP) (h:IdM w O s blocks T m bs) (hc:c.Ok) (hf:fnd bs (c.hd/4294967296)=some x) (hk:checkH x.2.A (c.hd%4294967296) 1=0) (hn:1≤c.key.n∧c.key.n≤32) (hs:seenP x.2 c.sn=none):
 Calls Tryz.prog 48 #[.pointer (some ⟨s,0,none⟩),.agg c.cs] w (DoR s blocks w O (errA 262) T):=by
 obtain⟨cb,mo,sm,nb,es,ht⟩:=h.all x (fnd_mem hf).1
 have n1:((c.key.n:Int)==0)=false:=by simp;omega
 have n2:decide ((32:Int)<(c.key.n:Int))=false:=by simp;omega
 have n3:¬c.key.n=0:=by omega
 have n4:¬32<c.key.n:=by omega
 clear hn
 obtain⟨w0,hw0,ha,hcb,hqb⟩:=preX w c
 unfold CallP.cs at hcb⊢
 go_enter Tryz.func48,Tryz.ntmps48
 go_upto_region 1 with (fail)
 rw[hw0.out]
 clear hw0
 obtain⟨c0,c1,c2,c3,c4,c5,c6,c7,c8,c9,c10,c11,c12,c13⟩:=hcb.c14
 have HA:=zz ha
 have HQ:=zz hqb
 have HB:=zz hcb
 have M0:=h.stp (ctS ha) noF
 have HM:=zz M0
 have T0:=ht.stp (ctS ha) fun h=>h
 have HT:=zz T0
 have HH:=zz (holder_some 1 x cb mo sm nb es M0 hc hf T0)
 rw[hk] at HH
 have CO:=zz hc
 have HFN:=zz hf
 have HF:=zz fun W=>fails_any 262 W
 have HSN:=zz hs
 clear h ha hqb hcb hf hc M0 T0 ht hk hs
 go_wp2_with fail
 refine HH.out.mono ?_
 rintro e w9 ⟨rfl,hb9⟩
 have B9:=zz hb9
 clear hb9 HH
 obtain⟨q0,q1,q2,q3,q4,q5,q6,q7,q8,q9,q10,q11,q12,q13⟩:=(HB.out.ab B9.out).c14
 have HS:=zz (seen_any (c:=c) CO.out (HT.out.stp (Stp.of B9.out (fun _=>False) fun _ _=>rfl) fun h=>h))
 go_wp2_with fail
 refine HS.out.mono ?_
 rintro e w8 ⟨hr,hb⟩
 rcases hr with ⟨_,rfl⟩ | ⟨S,k,h1,_⟩
 · have B8:=zz (below_tr B9.out hb B9.out.size)
   clear hb HS
   go_wp2_with fail
   refine (HF.out _).mono ?_
   rintro e w1 ⟨rfl,hb⟩
   have B1:Hid (Below w0.heap.size w0 w1):=zz (below_tr B8.out hb B8.out.size)
   have Q1:=zz (HQ.out.ab B1.out)
   have M1:=kpM HM B1
   have S1:=stKp s O HA B1
   clear hb HQ HM B1
   go_wp2_with (first
    | ((with_reducible refine stA 44 ?_ (ansE 262) ?_ Q1 ?_ ?_ (ansE_one _) ?_);rfl;rfl;rfl;rfl;intro wz QZ FZ))
   refine bodyPost_ret (ansR Tryz.results48 QZ rfl rfl) rfl ?_
   exact DoR.fl 262 0 0 0 M1 S1 FZ
 · rw[HSN.out] at h1;cases h1
theorem zero_bs {w:World}:(zeroValue 32).run Tryz.prog w = .ok (.slice none 0 0) w:=by kernel_rfl
theorem szAn7 (a b c d e f g:Value):(Tryz.prog.info? 44).map (·.size)=some (#[a,b,c,d,e,f,g]:Array Value).size:=szAns
def valA (v:List Nat):AnsP:=⟨0,0,0,v,[],0,[]⟩
set_option maxRecDepth 100000 in
theorem id_get_miss (x:Nat×TnP) (h:IdM w O s blocks T m bs) (hc:c.Ok) (hf:fnd bs (c.hd/4294967296)=some x) (hk:checkH x.2.A (c.hd%4294967296) 1=0) (hn:1≤c.key.n∧c.key.n≤32) (hkey:IsB w c.key.A c.key.n c.key.c c.key.l) (S:Bk2) (hs:seenP x.2 c.sn=some S) (hg:getK (k8 c.key.l) S=none):
 Calls Tryz.prog 48 #[.pointer (some ⟨s,0,none⟩),.agg c.cs] w (DoR s blocks w O (errA 7) T):=by
 obtain⟨cb,mo,sm,nb,es,ht⟩:=h.all x (fnd_mem hf).1
 have n1:((c.key.n:Int)==0)=false:=by simp;omega
 have n2:decide ((32:Int)<(c.key.n:Int))=false:=by simp;omega
 have n3:¬c.key.n=0:=by omega
 have n4:¬32<c.key.n:=by omega
 obtain⟨w0,hw0,ha,hcb,hqb⟩:=preX w c
 unfold CallP.cs at hcb⊢
 go_enter Tryz.func48,Tryz.ntmps48
 go_upto_region 1 with (fail)
 rw[hw0.out]
 clear hw0
 obtain⟨c0,c1,c2,c3,c4,c5,c6,c7,c8,c9,c10,c11,c12,c13⟩:=hcb.c14
 have HA:=zz ha
 have HQ:=zz hqb
 have HB:=zz hcb
 have M0:=h.stp (ctS ha) noF
 have HM:=zz M0
 have T0:=ht.stp (ctS ha) fun h=>h
 have HT:=zz T0
 have HH:=zz (holder_some 1 x cb mo sm nb es M0 hc hf T0)
 rw[hk] at HH
 have CO:=zz hc
 have HFN:=zz hf
 have HF:=zz fun W=>fails_any 7 W
 have HSN:=zz hs
 have HG:=zz hg
 have HK:=zz (hkey.ab ha)
 have KO:Hid (kyOk (k8 c.key.l)):=zz (by unfold kyOk;rw[k8_len,hkey.len];exact hn.2)
 clear h ha hqb hcb hf hc M0 T0 ht hk hs hg hkey hn
 go_wp2_with fail
 refine HH.out.mono ?_
 rintro e w9 ⟨rfl,hb9⟩
 have B9:=zz hb9
 clear hb9 HH
 obtain⟨q0,q1,q2,q3,q4,q5,q6,q7,q8,q9,q10,q11,q12,q13⟩:=(HB.out.ab B9.out).c14
 have HS:=zz (seen_any (c:=c) CO.out (HT.out.stp (Stp.of B9.out (fun _=>False) fun _ _=>rfl) fun h=>h))
 go_wp2_with fail
 refine HS.out.mono ?_
 rintro e w8 ⟨hr,hb⟩
 rcases hr with ⟨hz,_⟩ | ⟨S',k,h1,hbk,hko,rfl⟩
 · rw[HSN.out] at hz;cases hz
 rw[HSN.out] at h1
 injection h1 with h1
 subst h1
 have B8:=zz (below_tr B9.out hb B9.out.size)
 have BK:=zz (hbk.stp hko (Stp.of (O':=cutTg O w.heap.size) hb (fun _=>False) fun _ _=>rfl))
 clear hb HS hbk hko
 have q10:=(HB.out.ab B8.out).cell (k:=10) rfl
 have hst:=run_str (HK.out.ab B8.out) 32 5 9 Tryz.underlying32 Tryz.underlying5 Tryz.underlying9
 rcases BK.out.look (k8 c.key.l) KO.out with ⟨_,hlk⟩ | ⟨v,u',hu,_⟩
 · have hlk:=hlk w8 rfl _ zero_bs 67 true Tryz.underlying67
   rw[←strOf_k8] at hlk
   simp only[if_true] at hlk
   go_wp2_with fail
   refine (HF.out _).mono ?_
   rintro e w1 ⟨rfl,hb⟩
   have B1:Hid (Below w0.heap.size w0 w1):=zz (below_tr B8.out hb B8.out.size)
   have Q1:=zz (HQ.out.ab B1.out)
   have M1:=kpM HM B1
   have S1:=stKp s O HA B1
   clear hb HQ HM B1
   go_wp2_with (first
    | ((with_reducible refine stA 55 ?_ (ansE 7) ?_ Q1 ?_ ?_ (ansE_one _) ?_);rfl;rfl;rfl;rfl;intro wz QZ FZ))
   refine bodyPost_ret (ansR Tryz.results48 QZ rfl rfl) rfl ?_
   exact DoR.fl 7 0 0 0 M1 S1 FZ
 · rw[HG.out] at hu;cases hu
set_option maxRecDepth 100000 in
theorem id_get_hit (x:Nat×TnP) (h:IdM w O s blocks T m bs) (hc:c.Ok) (hf:fnd bs (c.hd/4294967296)=some x) (hk:checkH x.2.A (c.hd%4294967296) 1=0) (hn:1≤c.key.n∧c.key.n≤32) (hkey:IsB w c.key.A c.key.n c.key.c c.key.l) (S:Bk2) (hs:seenP x.2 c.sn=some S) (u:List Nat) (hg:getK (k8 c.key.l) S=some u):
 Calls Tryz.prog 48 #[.pointer (some ⟨s,0,none⟩),.agg c.cs] w (DoR s blocks w O (valA u) T):=by
 obtain⟨cb,mo,sm,nb,es,ht⟩:=h.all x (fnd_mem hf).1
 have n1:((c.key.n:Int)==0)=false:=by simp;omega
 have n2:decide ((32:Int)<(c.key.n:Int))=false:=by simp;omega
 have n3:¬c.key.n=0:=by omega
 have n4:¬32<c.key.n:=by omega
 obtain⟨w0,hw0,ha,hcb,hqb⟩:=preX w c
 unfold CallP.cs at hcb⊢
 go_enter Tryz.func48,Tryz.ntmps48
 go_upto_region 1 with (fail)
 rw[hw0.out]
 clear hw0
 obtain⟨c0,c1,c2,c3,c4,c5,c6,c7,c8,c9,c10,c11,c12,c13⟩:=hcb.c14
 have HA:=zz ha
 have HQ:=zz hqb
 have HB:=zz hcb
 have M0:=h.stp (ctS ha) noF
 have HM:=zz M0
 have T0:=ht.stp (ctS ha) fun h=>h
 have HT:=zz T0
 have HH:=zz (holder_some 1 x cb mo sm nb es M0 hc hf T0)
 rw[hk] at HH
 have CO:=zz hc
 have HFN:=zz hf
 have HSN:=zz hs
 have HG:=zz hg
 have HK:=zz (hkey.ab ha)
 have KO:Hid (kyOk (k8 c.key.l)):=zz (by unfold kyOk;rw[k8_len,hkey.len];exact hn.2)
 clear h ha hqb hcb hf hc M0 T0 ht hk hs hg hkey hn
 go_wp2_with fail
 refine HH.out.mono ?_
 rintro e w9 ⟨rfl,hb9⟩
 have B9:=zz hb9
 clear hb9 HH
 obtain⟨q0,q1,q2,q3,q4,q5,q6,q7,q8,q9,q10,q11,q12,q13⟩:=(HB.out.ab B9.out).c14
 have HS:=zz (seen_any (c:=c) CO.out (HT.out.stp (Stp.of B9.out (fun _=>False) fun _ _=>rfl) fun h=>h))
 go_wp2_with fail
 refine HS.out.mono ?_
 rintro e w8 ⟨hr,hb⟩
 rcases hr with ⟨hz,_⟩ | ⟨S',k,h1,hbk,hko,rfl⟩
 · rw[HSN.out] at hz;cases hz
 rw[HSN.out] at h1
 injection h1 with h1
 subst h1
 have B8:=zz (below_tr B9.out hb B9.out.size)
 have BK:=zz (hbk.stp hko (Stp.of (O':=cutTg O w.heap.size) hb (fun _=>False) fun _ _=>rfl))
 clear hb HS hbk hko
 have q10:=(HB.out.ab B8.out).cell (k:=10) rfl
 have hst:=run_str (HK.out.ab B8.out) 32 5 9 Tryz.underlying32 Tryz.underlying5 Tryz.underlying9
 rcases BK.out.look (k8 c.key.l) KO.out with ⟨hz,_⟩ | ⟨v,u',hu,him,hlk⟩
 · rw[HG.out] at hz;cases hz
 rw[HG.out] at hu
 injection hu with hu
 subst hu
 obtain⟨vA,vn,vc,rfl,hvn,hvi,_⟩:=him
 have hlk:=hlk w8 rfl 67 true Tryz.underlying67
 rw[←strOf_k8] at hlk
 simp only[if_true] at hlk
 have HC:=zz (bclone_any vA vn vc u w8 hvi hvn)
 clear hvi hvn
 go_wp2_with fail
 refine HC.out.mono ?_
 rintro e w7 ⟨v7,rfl,ho,hb⟩
 obtain⟨A7,c7',rfl,_,_⟩:=ho.shape
 have OW:=zz ho
 have B7:=zz (below_tr B8.out hb B8.out.size)
 have G8:Hid (w.heap.size≤w8.heap.size):=zz (Nat.le_trans HA.out.size B8.out.size)
 have Q7:=zz (HQ.out.ab B7.out)
 have M7:=zz (HM.out.stp (Stp.of B7.out (fun _=>False) fun _ _=>rfl) fun _ h=>h)
 have S7:Hid (Stp (fun τ=>τ.1=s) w O w7 (cutTg O w.heap.size)):=zz ((Stp.cut HA.out _).ab B7.out)
 clear ho hb HC hlk hst
 go_wp2_with (first
  | ((with_reducible refine stA 58 ?_ (#[.int .i64 0,.int .u64 0,.int .u64 0,.slice A7 u.length c7',.slice none 0 0,.int .i64 0,.slice none 0 0]) ?_ Q7 ?_ ?_ (by simp[Value.oneCell']) ?_);rfl;rfl;rfl;rfl;intro wz QZ FZ))
 refine bodyPost_ret (ansR Tryz.results48 QZ rfl rfl) rfl ?_
 have nb:∀q,(Value.slice A7 u.length c7').ownBlock=some q→w8.heap.size≤q∧q<w7.heap.size:=fun q hq=>OW.out.lt q hq
 have hbx:w.heap.size+1<w8.heap.size:=Nat.lt_of_lt_of_le HQ.out.lt B8.out.size
 refine⟨_,cutTg O w.heap.size,rfl,⟨_,_,_,rfl,(OW.out.fr FZ.out (fun q hq e=>by have:=nb q hq;omega)).lower G8.out,fun q hq=>cutTg_at (by have:=nb q hq;have:=G8.out;omega),⟨[],World.ownsRow_nil _ _ _ _,fun g hg=>(by cases hg),rfl,fun i p q hi=>(by simp at hi)⟩,U32.NsB.nil _ _,fun g hg=>(by cases hg)⟩,⟨m,bs,M7.out.stp (Stp.box FZ.out (cutTg_at (Nat.le_succ _))) fun i e=>by have:=M7.out.pos;injection e with e;omega⟩,S7.out.fresh FZ.out (Nat.le_succ _)⟩
end
end Go.Proofs.YtgdhinjhbjolgaaGreat
