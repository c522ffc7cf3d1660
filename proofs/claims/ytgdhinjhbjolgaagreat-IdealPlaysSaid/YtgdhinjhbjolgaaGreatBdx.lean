/-
  Parts of the proof, joined.
-/
import Derived.Test.YtgdhinjhbjolgaaGreatBdw
import Derived.Test.YtgdhinjhbjolgaaGreatBdb
namespace Go.Proofs.YtgdhinjhbjolgaaGreat
set_option maxHeartbeats 4000000
open Go.RowKit
set_option linter.unusedVariables false
set_option linter.unusedSimpArgs false
section
variable {w:World} {O:Tg} {r blocks:Nat} {T:List TnP} {av:Value} {bs:List (Nat×TnP)} {c:CallP}
set_option maxRecDepth 100000 in
theorem rtn_none (h:RfM w O r blocks T av bs) (hl:bs.length≤100000) (hc:c.B w) (hf:fnd bs (c.hd/4294967296)=none):
 Calls Tryz.prog 31 #[.pointer (some ⟨r,0,none⟩),.agg c.cs] w (RdR r blocks w O (errA 7) (T)):=by
 have HF:=zz fun e W=>rerr_any e W
 have HW:=zz h
 have HLN:=zz hl
 obtain⟨q,hq⟩:∃q,c.hd/4294967296=q:=⟨_,rfl⟩
 obtain⟨hh,hrm⟩:∃hh,c.hd%4294967296=hh:=⟨_,rfl⟩
 have hdv:(c.hd:Int)/4294967296=(q:Int):=by omega
 have hd0:(0:Int)≤(q:Int):=by omega
 have hd1:(q:Int)<4294967296:=by have:=hc.ok.hd;omega
 have hmk:=u64_mask32 c.hd hc.ok.hd
 have HH1:Hid (hh<4294967296):=zz (by omega)
 rw[hq] at hf
 rw[hrm] at hmk
 have HFN:=zz hf
 obtain⟨w0,hw0,ha,hcb,hqb⟩:=preX w c
 clear h hl hc hf hq hrm
 unfold CallP.cs at hcb⊢
 go_enter Tryz.func31,Tryz.ntmps31
 go_upto_region 1 with (fail)
 rw[hw0.out]
 clear hw0
 have HA:=zz ha
 have Q0:=zz hqb
 have CBX:=zz hcb
 have c5:=hcb.cell (k:=5) rfl
 clear ha hqb
 have M0:=zz (HW.out.stp (ctS HA.out) noF)
 have NP:Hid (0<r):=zz HW.out.pos
 have HFD:=zz (rfind_any q M0.out HLN.out)
 rw[HFN.out] at HFD
 clear hcb
 go_wp2_with fail
 simp only[Option.map_none] at HFD
 refine HFD.out.mono ?_
 rintro e w1 ⟨rfl,rfl⟩
 clear HFD
 go_wp2_with fail
 refine (HF.out _ _).mono ?_
 rintro e w8 ⟨rfl,hb⟩
 have Q8:=zz (Q0.out.ab hb)
 have S8:=stKp r O HA (zz hb)
 have M8:=zz (M0.out.ab hb)
 clear hb
 go_wp2_with (first
  | ((with_reducible refine stA 20 ?_ (ansE 7) ?_ Q8 ?_ ?_ (ansE_one _) ?_);rfl;rfl;rfl;rfl;intro wz QZ FZ))
 refine bodyPost_ret (ansR Tryz.results31 QZ rfl rfl) rfl ?_
 exact RdR.er 7 M8 S8 FZ (cutTg_at (Nat.le_succ _)) NP
end
end Go.Proofs.YtgdhinjhbjolgaaGreat
