/-
  Parts of the proof, joined.
-/
import Derived.Test.YtgdhinjhbjolgaaGreatBdw
import Derived.Test.YtgdhinjhbjolgaaGreatBdy
namespace Go.Proofs.YtgdhinjhbjolgaaGreat
set_option maxHeartbeats 4000000
open Go.RowKit
set_option linter.unusedVariables false
set_option linter.unusedSimpArgs false
section
variable {w:World} {O:Tg} {r blocks:Nat} {T:List TnP} {av:Value} {bs:List (Nat×TnP)} {c:CallP}
set_option maxRecDepth 100000 in
theorem rcre_bad0 (h:RfM w O r blocks T av bs) (hl:bs.length≤100000) (hc:c.B w) (t0:((c.ten:Int)==0)=true):
 Calls Tryz.prog 27 #[.pointer (some ⟨r,0,none⟩),.agg c.cs] w (RdR r blocks w O (errA 2) (T)):=by
 have HF:=zz fun e W=>rerr_any e W
 have HW:=zz h
 have HLN:=zz hl
 obtain⟨w0,hw0,ha,hcb,hqb⟩:=preX w c
 clear h hl hc
 unfold CallP.cs at hcb⊢
 go_enter Tryz.func27,Tryz.ntmps27
 go_upto_region 1 with (fail)
 rw[hw0.out]
 clear hw0
 have HA:=zz ha
 have Q0:=zz hqb
 have CBX:=zz hcb
 have c1:=hcb.cell (k:=1) rfl
 have c2:=hcb.cell (k:=2) rfl
 have c3:=hcb.cell (k:=3) rfl
 clear ha hqb
 have M0:=zz (HW.out.stp (ctS HA.out) noF)
 have NP:Hid (0<r):=zz HW.out.pos
 clear hcb
 go_wp2_with fail
 refine (HF.out _ _).mono ?_
 rintro e w8 ⟨rfl,hb⟩
 have Q8:=zz (Q0.out.ab hb)
 have S8:=stKp r O HA (zz hb)
 have M8:=zz (M0.out.ab hb)
 clear hb
 go_wp2_with (first
  | ((with_reducible refine stA 27 ?_ (ansE 2) ?_ Q8 ?_ ?_ (ansE_one _) ?_);rfl;rfl;rfl;rfl;intro wz QZ FZ))
 refine bodyPost_ret (ansR Tryz.results27 QZ rfl rfl) rfl ?_
 exact RdR.er 2 M8 S8 FZ (cutTg_at (Nat.le_succ _)) NP
set_option maxRecDepth 100000 in
theorem rcre_bad1 (h:RfM w O r blocks T av bs) (hl:bs.length≤100000) (hc:c.B w) (t0:((c.ten:Int)==0)=false) (t1:((c.sec.n:Int) != 16)=true):
 Calls Tryz.prog 27 #[.pointer (some ⟨r,0,none⟩),.agg c.cs] w (RdR r blocks w O (errA 2) (T)):=by
 have HF:=zz fun e W=>rerr_any e W
 have HW:=zz h
 have HLN:=zz hl
 obtain⟨w0,hw0,ha,hcb,hqb⟩:=preX w c
 clear h hl hc
 unfold CallP.cs at hcb⊢
 go_enter Tryz.func27,Tryz.ntmps27
 go_upto_region 1 with (fail)
 rw[hw0.out]
 clear hw0
 have HA:=zz ha
 have Q0:=zz hqb
 have CBX:=zz hcb
 have c1:=hcb.cell (k:=1) rfl
 have c2:=hcb.cell (k:=2) rfl
 have c3:=hcb.cell (k:=3) rfl
 clear ha hqb
 have M0:=zz (HW.out.stp (ctS HA.out) noF)
 have NP:Hid (0<r):=zz HW.out.pos
 clear hcb
 go_wp2_with fail
 refine (HF.out _ _).mono ?_
 rintro e w8 ⟨rfl,hb⟩
 have Q8:=zz (Q0.out.ab hb)
 have S8:=stKp r O HA (zz hb)
 have M8:=zz (M0.out.ab hb)
 clear hb
 go_wp2_with (first
  | ((with_reducible refine stA 27 ?_ (ansE 2) ?_ Q8 ?_ ?_ (ansE_one _) ?_);rfl;rfl;rfl;rfl;intro wz QZ FZ))
 refine bodyPost_ret (ansR Tryz.results27 QZ rfl rfl) rfl ?_
 exact RdR.er 2 M8 S8 FZ (cutTg_at (Nat.le_succ _)) NP
set_option maxRecDepth 100000 in
theorem rcre_bad2 (h:RfM w O r blocks T av bs) (hl:bs.length≤100000) (hc:c.B w) (t0:((c.ten:Int)==0)=false) (t1:((c.sec.n:Int) != 16)=false) (hq:c.quota<1∨1000<c.quota):
 Calls Tryz.prog 27 #[.pointer (some ⟨r,0,none⟩),.agg c.cs] w (RdR r blocks w O (errA 2) (T)):=by
 have HF:=zz fun e W=>rerr_any e W
 have HW:=zz h
 have HLN:=zz hl
 have HQ:=zz fun W=>rQuota_bad c.quota W hq
 obtain⟨w0,hw0,ha,hcb,hqb⟩:=preX w c
 clear h hl hc hq
 unfold CallP.cs at hcb⊢
 go_enter Tryz.func27,Tryz.ntmps27
 go_upto_region 1 with (fail)
 rw[hw0.out]
 clear hw0
 have HA:=zz ha
 have Q0:=zz hqb
 have CBX:=zz hcb
 have c1:=hcb.cell (k:=1) rfl
 have c2:=hcb.cell (k:=2) rfl
 have c3:=hcb.cell (k:=3) rfl
 clear ha hqb
 have M0:=zz (HW.out.stp (ctS HA.out) noF)
 have NP:Hid (0<r):=zz HW.out.pos
 clear hcb
 go_wp2_with fail
 refine (HQ.out _).mono ?_
 rintro e w1 ⟨rfl,rfl⟩
 go_wp2_with fail
 refine (HF.out _ _).mono ?_
 rintro e w8 ⟨rfl,hb⟩
 have Q8:=zz (Q0.out.ab hb)
 have S8:=stKp r O HA (zz hb)
 have M8:=zz (M0.out.ab hb)
 clear hb
 go_wp2_with (first
  | ((with_reducible refine stA 27 ?_ (ansE 2) ?_ Q8 ?_ ?_ (ansE_one _) ?_);rfl;rfl;rfl;rfl;intro wz QZ FZ))
 refine bodyPost_ret (ansR Tryz.results27 QZ rfl rfl) rfl ?_
 exact RdR.er 2 M8 S8 FZ (cutTg_at (Nat.le_succ _)) NP
set_option maxRecDepth 100000 in
theorem rcre_twice (x:Nat×TnP) (h:RfM w O r blocks T av bs) (hl:bs.length≤100000) (hc:c.B w) (t0:((c.ten:Int)==0)=false) (t1:((c.sec.n:Int) != 16)=false) (hq0:1≤c.quota) (hq1:c.quota≤1000) (hf:fnd bs c.ten=some x):
 Calls Tryz.prog 27 #[.pointer (some ⟨r,0,none⟩),.agg c.cs] w (RdR r blocks w O (errA 8) (T)):=by
 have HF:=zz fun e W=>rerr_any e W
 have HW:=zz h
 have HLN:=zz hl
 have HQ:=zz fun W=>rQuota_ok c.quota W hq0 hq1
 have HFN:=zz hf
 obtain⟨w0,hw0,ha,hcb,hqb⟩:=preX w c
 clear h hl hc hq0 hq1 hf
 unfold CallP.cs at hcb⊢
 go_enter Tryz.func27,Tryz.ntmps27
 go_upto_region 1 with (fail)
 rw[hw0.out]
 clear hw0
 have HA:=zz ha
 have Q0:=zz hqb
 have CBX:=zz hcb
 have c1:=hcb.cell (k:=1) rfl
 have c2:=hcb.cell (k:=2) rfl
 have c3:=hcb.cell (k:=3) rfl
 clear ha hqb
 have M0:=zz (HW.out.stp (ctS HA.out) noF)
 have NP:Hid (0<r):=zz HW.out.pos
 have HFD:=zz (rfind_any c.ten M0.out HLN.out)
 rw[HFN.out] at HFD
 clear hcb
 go_wp2_with fail
 refine (HQ.out _).mono ?_
 rintro e w1 ⟨rfl,rfl⟩
 clear HQ
 go_wp2_with fail
 simp only[Option.map_some] at HFD
 refine HFD.out.mono ?_
 rintro e w1 ⟨rfl,rfl⟩
 clear HFD
 go_wp2_with fail
 refine (HF.out _ _).mono ?_
 rintro e w8 ⟨rfl,hb⟩
 have Q8:=zz (Q0.out.ab hb)
 have S8:=stKp r O HA (zz hb)
 have M8:=zz (M0.out.ab hb)
 clear hb
 go_wp2_with (first
  | ((with_reducible refine stA 33 ?_ (ansE 8) ?_ Q8 ?_ ?_ (ansE_one _) ?_);rfl;rfl;rfl;rfl;intro wz QZ FZ))
 refine bodyPost_ret (ansR Tryz.results27 QZ rfl rfl) rfl ?_
 exact RdR.er 8 M8 S8 FZ (cutTg_at (Nat.le_succ _)) NP
def aheadN (bs:List (Nat×TnP)) (n:Nat):Nat:=(bs.takeWhile fun x=>decide (x.2.n<n)).length
theorem aheadN_le (bs:List (Nat×TnP)) (n:Nat):aheadN bs n≤bs.length:=(List.takeWhile_sublist _).length_le
theorem aheadN_at {n:Nat}:∀{bs:List (Nat×TnP)},(bs.map fun x=>x.2.n).Pairwise (· < ·)→∀{i:Nat} {x:Nat×TnP},bs[i]? = some x→(x.2.n<n↔i<aheadN bs n)
 | [],_,i,x,h=>by simp at h
 | y :: r,hs,i,x,h=>by
   have hp:=List.pairwise_cons.1 hs
   unfold aheadN
   by_cases e:y.2.n<n
   · rw[List.takeWhile_cons_of_pos (by simpa using e)]
     cases i with
     | zero=>
       simp only[List.getElem?_cons_zero,Option.some.injEq] at h
       subst h
       simp[e]
     | succ i=>
       have:=aheadN_at (n:=n) hp.2 (i:=i) (x:=x) (by simpa using h)
       unfold aheadN at this
       simp only[List.length_cons]
       omega
   · rw[List.takeWhile_cons_of_neg (by simpa using e)]
     simp only[List.length_nil,Nat.not_lt_zero,iff_false]
     cases i with
     | zero=>
       simp only[List.getElem?_cons_zero,Option.some.injEq] at h
       subst h
       exact e
     | succ i=>
       have hm:x∈r:=List.mem_of_getElem? (by simpa using h)
       have h1:y.2.n<x.2.n:=hp.1 _ (List.mem_map.2 ⟨x,hm,rfl⟩)
       omega
theorem ins_asc {bs:List (Nat×TnP)} {x:Nat×TnP} (hs:(bs.map fun x=>x.2.n).Pairwise (· < ·)) (hn:∀y∈bs,y.2.n≠x.2.n):
 ((bs.take (aheadN bs x.2.n)++[x]++bs.drop (aheadN bs x.2.n)).map fun x=>x.2.n).Pairwise (· < ·):=by
 induction bs with
 | nil=>simp[aheadN]
 | cons y r ih=>
   have hp:=List.pairwise_cons.1 hs
   have ih:=ih hp.2 fun z hz=>hn z (List.mem_cons_of_mem _ hz)
   unfold aheadN at ih⊢
   by_cases e:y.2.n<x.2.n
   · rw[List.takeWhile_cons_of_pos (by simpa using e),List.length_cons,List.take_succ_cons,List.drop_succ_cons]
     refine List.pairwise_cons.2 ⟨fun z hz=>?_,ih⟩
     obtain⟨u,hu,rfl⟩:=List.mem_map.1 hz
     rcases List.mem_append.1 hu with hu | hu
     · rcases List.mem_append.1 hu with hu | hu
       · exact hp.1 _ (List.mem_map.2 ⟨u,List.mem_of_mem_take hu,rfl⟩)
       · simp only[List.mem_singleton] at hu
         subst hu
         exact e
     · exact hp.1 _ (List.mem_map.2 ⟨u,List.mem_of_mem_drop hu,rfl⟩)
   · rw[List.takeWhile_cons_of_neg (by simpa using e)]
     simp only[List.length_nil,List.take_zero,List.drop_zero,List.nil_append]
     refine List.pairwise_cons.2 ⟨fun z hz=>?_,hs⟩
     obtain⟨u,hu,rfl⟩:=List.mem_map.1 hz
     have h1:x.2.n<y.2.n:=by have:=hn y List.mem_cons_self;omega
     rcases List.mem_cons.1 hu with rfl | hu
     · exact h1
     · exact Nat.lt_trans h1 (hp.1 _ (List.mem_map.2 ⟨u,hu,rfl⟩))
theorem ins_prm (bs:List (Nat×TnP)) (x:Nat×TnP) (k:Nat):((bs.take k++[x]++bs.drop k).map (·.2)).Perm (bs.map (·.2)++[x.2]):=by
 have h:(bs.take k++[x]++bs.drop k).Perm (bs++[x]):=by
  have h1:(bs.take k++[x]++bs.drop k).Perm (bs.take k++(bs.drop k++[x])):=by
   rw[List.append_assoc]
   exact List.Perm.append_left _ List.perm_append_comm
  rw[←List.append_assoc,List.take_append_drop] at h1
  exact h1
 have:=h.map (·.2)
 rwa [List.map_append (l₁:=bs)] at this
set_option maxRecDepth 100000 in
theorem rcre_some (h:RfM w O r blocks T av bs) (hl:bs.length≤100000) (hc:c.B w) (t0:((c.ten:Int)==0)=false) (t1:((c.sec.n:Int) != 16)=false) (hq0:1≤c.quota) (hq1:c.quota≤1000) (hf:fnd bs c.ten=none) (ft:Bool) (hft:fitsQ blocks (c.quota::T.map fun t=>(t.q:Int))=ft):
 Calls Tryz.prog 27 #[.pointer (some ⟨r,0,none⟩),.agg c.cs] w (RdR r blocks w O (bif ft then errA 0 else errA 9) (bif ft then T++[newT c] else T)):=by
 have HF:=zz fun e W=>rerr_any e W
 have HW:=zz h
 have HLN:=zz hl
 have HQ:=zz fun W=>rQuota_ok c.quota W hq0 hq1
 have HFN:=zz hf
 have HS:=zz hc.sec
 have CT1:Hid (1≤c.ten):=zz (by simp at t0;omega)
 have CT2:=zz hc.ok.ten
 have CS16:Hid (c.sec.n=16):=zz (by simp at t1;omega)
 have CQ:Hid (1≤c.quota∧c.quota≤1000):=zz ⟨hq0,hq1⟩
 have FT:=zz hft
 obtain⟨w0,hw0,ha,hcb,hqb⟩:=preX w c
 clear h hl hc hq0 hq1 hf hft
 unfold CallP.cs at hcb⊢
 go_enter Tryz.func27,Tryz.ntmps27
 go_upto_region 1 with (fail)
 rw[hw0.out]
 clear hw0
 have HA:=zz ha
 have Q0:=zz hqb
 have CBX:=zz hcb
 have c1:=hcb.cell (k:=1) rfl
 have c2:=hcb.cell (k:=2) rfl
 have c3:=hcb.cell (k:=3) rfl
 clear ha hqb
 have M0:=zz (HW.out.stp (ctS HA.out) noF)
 have NP:Hid (0<r):=zz HW.out.pos
 have HFD:=zz (rfind_any c.ten M0.out HLN.out)
 rw[HFN.out] at HFD
 obtain⟨A,cc,hav,hrow⟩:=M0.out.row_at
 obtain⟨m,hm⟩:∃m,bs.length=m:=⟨_,rfl⟩
 rw[hm] at hav
 subst hav
 have HM:=zz hm
 have HROW:=zz hrow
 have m0:(m:Int)≤100000:=by have:=HLN.out;omega
 have LL:Hid (m≤100000):=zz (by have:=HLN.out;omega)
 clear hcb hrow hm
 go_wp2_with fail
 refine (HQ.out _).mono ?_
 rintro e w1 ⟨rfl,rfl⟩
 clear HQ
 go_wp2_with fail
 simp only[Option.map_none] at HFD
 refine HFD.out.mono ?_
 rintro e w1 ⟨rfl,rfl⟩
 clear HFD
 go_upto_region 6 with (fail)
 have hb1:Below w0.heap.size w0 (w0.alloc (.cells #[.int .i64 c.quota] 3)):=alB
 have o1:OwI (w0.alloc (.cells #[.int .i64 c.quota] 3)) w0.heap.size (.slice (some ⟨w0.heap.size,0,none⟩) 1 1) [c.quota]:=own_lit w0 3 .i64 w0.heap.size (Nat.le_refl _) [c.quota] (show 1≤maxLen by decide)
 obtain⟨w1,hw1⟩:∃w1,w0.alloc (.cells #[.int .i64 c.quota] 3)=w1:=⟨_,rfl⟩
 rw[hw1] at hb1 o1⊢
 have B1:=zz hb1
 have O1:=zz o1
 obtain⟨pn,hpn⟩:∃pn,aheadN bs c.ten=pn:=⟨_,rfl⟩
 have PN:=zz hpn
 have PL:Hid (pn≤m):=zz (by have:=aheadN_le bs c.ten;have:=HM.out;omega)
 clear hw1 hb1 o1 hpn c1 c2 c3
 go_wp2_with fail
 go_loopw [5,6,7] (fun s a z wr=>∃i:Nat,i≤m∧z = .int .i64 (i:Int)∧a = .int .i64 ((min i pn:Nat):Int)∧OwI wr w0.heap.size s (c.quota::(bs.take i).map fun x=>(x.2.q:Int))∧Below w0.heap.size w0 wr) (fun _ _ z _=>m-(intOf z).toNat)
 case atStart=>exact⟨0,Nat.zero_le _,rfl,by simp,O1.out,B1.out⟩
 case round =>
  obtain⟨i,hi,rfl,rfl,ho,hb⟩:=hrel
  have BW:=zz hb
  have OO:=zz ho
  have MW:=M0.out.ab hb
  have s1:wr.cell? ⟨r,1,none⟩=some (.slice A m cc):=MW.box.cell (k:=1) rfl
  by_cases hlt:i<m
  · obtain⟨y,hy⟩:∃y,bs[i]? = some y:=⟨_,List.getElem?_eq_getElem (by rw[HM.out];exact hlt)⟩
    obtain⟨g,rfl,a1,a2,a3⟩:=HROW.out i y hy
    have KL:=zz hlt
    have hlti:(i:Int)<(m:Int):=by omega
    have hi0:(0:Int)≤(i:Int):=by omega
    have hat:=aheadN_at M0.out.asc (n:=c.ten) hy
    rw[PN.out] at hat
    have YQ:=zz (M0.out.ok y (List.mem_of_getElem? hy))
    obtain⟨i0,hi0',hz0,hz1,hz2⟩:=info_parts infoI64
    have ha:Below wr.heap.size wr (wr.alloc (.cells #[.int .i64 (y.2.q:Int)] 3)):=alB
    have wfS:∀z∈[(y.2.q:Int)],(Lit.int .i64 z).wf=true:=fun z hz=>by
     simp only[List.mem_singleton] at hz
     subst hz
     have:=YQ.out.q2
     have e3:IntKind.i64.min = -9223372036854775808:=rfl
     have e4:IntKind.i64.max=9223372036854775807:=rfl
     simp only[Lit.wf,Bool.and_eq_true,decide_eq_true_eq]
     omega
    have RL:=zz (isRow_lit wr 3 .i64 [(y.2.q:Int)] 1 rfl (by decide) wfS)
    have O4:Hid (OwI (wr.alloc (.cells #[.int .i64 (y.2.q:Int)] 3)) w0.heap.size u5 (c.quota::(bs.take i).map fun x=>(x.2.q:Int))):=zz (row_fr OO.out (Fr.of ha (fun _=>False)) (fun k hk e=>e))
    have B4:=zz (below_tr BW.out ha BW.out.size)
    have LX:Hid ((c.quota::(bs.take i).map fun x=>(x.2.q:Int)).length≤100001):=zz (by simp;have:=LL.out;omega)
    have CE:Hid ((c.quota::(bs.take i).map fun x=>(x.2.q:Int))++[(y.2.q:Int)]=c.quota::(bs.take (i+1)).map fun x=>(x.2.q:Int)):=zz (by rw[List.take_add_one,hy];simp)
    have b1:wr.cell? ⟨g,i,none⟩=some (.pointer (some ⟨y.1,0,none⟩)):=(World.cell?_of_block (hb.block g (cell_lt a1))).trans a1
    have b3:wr.cell? ⟨y.1,2,none⟩=some (.int .i64 (y.2.q:Int)):=(World.cell?_of_block (hb.block _ (cell_lt a3))).trans a3
    have HY:=zz hy
    obtain⟨mi,hmi⟩:∃mi,min i pn=mi:=⟨_,rfl⟩
    rw[hmi]
    have MI:=zz hmi
    have HAT:=zz hat
    clear ha wfS a1 a2 a3 hy hlt hi ho hb MW hmi hat
    go_upto_region 11 with (first
     | (refine wpList_app _ rfl (.tmp 46) (.tmp 57) rfl w0.heap.size Tryz.underlying101 hi0' hz0 hz1 hz2 rfl rfl O4.out rfl RL.out (by have:=LX.out;simp only[maxLen];omega) (by have:=LX.out;omega) B4.out.size ?_
        intro v5 w5 h5 b5 g5 a5
        have O5:=zz h5
        have B5:=zz (B4.out.trans b5)
        clear h5 b5 g5 a5))
    have s2:w5.cell? ⟨r,1,none⟩=some (.slice (some ⟨g,0,none⟩) m cc):=(M0.out.ab B5.out).box.cell (k:=1) rfl
    have d1:w5.cell? ⟨g,i,none⟩=some (.pointer (some ⟨y.1,0,none⟩)):=by
     obtain⟨g',e,z1,_⟩:=HROW.out i y HY.out
     injection e with e
     simp only[Addr.mk.injEq,and_true] at e
     subst e
     exact (World.cell?_of_block (B5.out.block g (cell_lt z1))).trans z1
    have d2:w5.cell? ⟨y.1,0,none⟩=some (.int .u32 (y.2.n:Int)):=by
     obtain⟨g',e,_,z2,_⟩:=HROW.out i y HY.out
     exact (World.cell?_of_block (B5.out.block _ (cell_lt z2))).trans z2
    have d3:w5.cell? ⟨w.heap.size,1,none⟩=some (.int .u32 (c.ten:Int)):=(CBX.out.ab B5.out).cell (k:=1) rfl
    rw[CE.out] at O5
    clear b1 b3 s1
    by_cases hyc:y.2.n<c.ten
    · have e1:decide (y.2.n<c.ten)=true:=decide_eq_true hyc
      have e2:decide ((y.2.n:Int)<(c.ten:Int))=true:=by simp;omega
      have MI1:Hid (min (i+1) pn=i+1):=zz (by have:=HAT.out.1 hyc;omega)
      clear hyc
      go_quiet (fail)
      go_wp2_with fail
      go_roundw
      case rel=>exact⟨i+1,KL.out,by go_num,by rw[MI1.out];go_num,row_fr O5.out (Fr.of (bel_drewN (Below.refl _ _) nq) (fun _=>False)) (fun _ _ e=>e),bel_drewN B5.out nq⟩
      case measure=>simp[intOf];have:=KL.out;omega
    · have e1:decide (y.2.n<c.ten)=false:=decide_eq_false hyc
      have e2:decide ((y.2.n:Int)<(c.ten:Int))=false:=by simp;omega
      have MI1:Hid (min (i+1) pn=mi):=zz (by have h1:=HAT.out;have:=MI.out;omega)
      clear hyc
      go_quiet (fail)
      go_wp2_with fail
      go_roundw
      case rel=>exact⟨i+1,KL.out,by go_num,by rw[MI1.out],row_fr O5.out (Fr.of (bel_drewN (Below.refl _ _) nq) (fun _=>False)) (fun _ _ e=>e),bel_drewN B5.out nq⟩
      case measure=>simp[intOf];have:=KL.out;omega
  · obtain rfl:i=m:=by omega
    have EM:min i pn=pn:=Nat.min_eq_right PL.out
    rw[EM]
    have EB:(bs.take i)=bs:=List.take_of_length_le (by rw[HM.out];exact Nat.le_refl _)
    rw[EB] at ho
    have GO:Hid ((c.quota::bs.map fun x=>(x.2.q:Int)).Perm (c.quota::T.map fun t=>(t.q:Int))):=zz (by
     have p2:=M0.out.prm.map (fun t:TnP=>(t.q:Int))
     rw[List.map_map] at p2
     exact p2.cons _)
    have hwf:∀z∈(c.quota::bs.map fun x=>(x.2.q:Int)),(Lit.int .i64 z).wf=true:=fun z hz=>by
     have e3:IntKind.i64.min = -9223372036854775808:=rfl
     have e4:IntKind.i64.max=9223372036854775807:=rfl
     simp only[Lit.wf,Bool.and_eq_true,decide_eq_true_eq]
     rcases List.mem_cons.1 hz with rfl | hz
     · have:=CQ.out;omega
     · obtain⟨p,hp,rfl⟩:=List.mem_map.1 hz
       have:=(M0.out.ok p hp).q2;omega
    obtain⟨zs,hzs⟩:∃zs,(c.quota::bs.map fun x=>(x.2.q:Int))=zs:=⟨_,rfl⟩
    rw[hzs] at GO ho hwf
    obtain⟨zA,zc,hzv⟩:=row_shape ho
    subst hzv
    have HFT:=zz (rFits_any (blocks:Int) zA zs.length zc zs wr (isRow_own ho hwf))
    have s0:wr.cell? ⟨r,0,none⟩=some (.int .i64 (blocks:Int)):=(M0.out.box.ab hb).cell (k:=0) rfl
    have Q2:=zz (Q0.out.ab hb)
    have M2:=zz (M0.out.ab hb)
    have BWW:=zz (below_tr HA.out hb HA.out.size)
    clear hi hlt ho hb hwf hzs EM EB OO
    go_wp2_with fail
    refine HFT.out.mono ?_
    rintro e w5 ⟨hfe,rfl⟩
    cases ft with
    | false=>
      obtain⟨z,hz⟩:=fitsEnd_no hfe (by rw[fitsQ_perm GO.out];exact FT.out)
      subst hz
      clear hfe s0 HFT
      go_wp2_with fail
      refine (HF.out _ _).mono ?_
      rintro e w8 ⟨rfl,hb⟩
      have Q8:=zz (Q2.out.ab hb)
      have S8:Hid (Stp (fun τ=>τ.1=r) w O w8 (cutTg O w.heap.size)):=zz ((Stp.cut BWW.out _).ab hb)
      have M8:=zz (M2.out.ab hb)
      clear hb
      go_wp2_with (first
       | ((with_reducible refine stA 85 ?_ (ansE 9) ?_ Q8 ?_ ?_ (ansE_one _) ?_);rfl;rfl;rfl;rfl;intro wz QZ FZ))
      refine bodyPost_ret (ansR Tryz.results27 QZ rfl rfl) rfl ?_
      exact RdR.er 9 M8 S8 FZ (cutTg_at (Nat.le_succ _)) NP
    | true =>
      have he:=fitsEnd_yes hfe (by rw[fitsQ_perm GO.out];exact FT.out)
      subst he
      clear hfe s0 HFT
      have x1:wr.cell? ⟨w.heap.size,1,none⟩=some (.int .u32 (c.ten:Int)):=(CBX.out.ab BW.out).cell (k:=1) rfl
      have x2:wr.cell? ⟨w.heap.size,2,none⟩=some (.slice c.sec.A c.sec.n c.sec.c):=(CBX.out.ab BW.out).cell (k:=2) rfl
      have x3:wr.cell? ⟨w.heap.size,3,none⟩=some (.int .i64 c.quota):=(CBX.out.ab BW.out).cell (k:=3) rfl
      have hst:=run_str (HS.out.ab BWW.out) 32 5 9 Tryz.underlying32 Tryz.underlying5 Tryz.underlying9
      go_upto_region 17 with (fail)
      have b6:Below wr.heap.size wr ((wr.alloc (.cells #[.slice none 0 0] 80)).alloc (.cells #[.int .u32 (c.ten:Int),.string (strOf c.sec.l),.int .i64 c.quota,.slice none 0 0,.pointer (some ⟨wr.heap.size,0,none⟩),.slice none 0 0,.bool false] 83)):=alB.alloc (by simp) _
      have cb6:CbB ((wr.alloc (.cells #[.slice none 0 0] 80)).alloc (.cells #[.int .u32 (c.ten:Int),.string (strOf c.sec.l),.int .i64 c.quota,.slice none 0 0,.pointer (some ⟨wr.heap.size,0,none⟩),.slice none 0 0,.bool false] 83)) wr.heap.size 80 #[.slice none 0 0]:=(CbB.new wr _ _).ab (alB)
      have tb6:CbB ((wr.alloc (.cells #[.slice none 0 0] 80)).alloc (.cells #[.int .u32 (c.ten:Int),.string (strOf c.sec.l),.int .i64 c.quota,.slice none 0 0,.pointer (some ⟨wr.heap.size,0,none⟩),.slice none 0 0,.bool false] 83)) (wr.heap.size+1) 83 #[.int .u32 (c.ten:Int),.string (strOf c.sec.l),.int .i64 c.quota,.slice none 0 0,.pointer (some ⟨wr.heap.size,0,none⟩),.slice none 0 0,.bool false]:=CbB.newI (by simp)
      have z6:((wr.alloc (.cells #[.slice none 0 0] 80)).alloc (.cells #[.int .u32 (c.ten:Int),.string (strOf c.sec.l),.int .i64 c.quota,.slice none 0 0,.pointer (some ⟨wr.heap.size,0,none⟩),.slice none 0 0,.bool false] 83)).heap.size=wr.heap.size+2:=by simp
      obtain⟨w6,hw6⟩:∃w6,((wr.alloc (.cells #[.slice none 0 0] 80)).alloc (.cells #[.int .u32 (c.ten:Int),.string (strOf c.sec.l),.int .i64 c.quota,.slice none 0 0,.pointer (some ⟨wr.heap.size,0,none⟩),.slice none 0 0,.bool false] 83))=w6:=⟨_,rfl⟩
      rw[hw6] at b6 cb6 tb6 z6⊢
      have B6:=zz b6
      have C6:=zz cb6
      have T6:=zz tb6
      have Z6:=zz z6
      have BW6:=zz (below_tr BW.out b6 BW.out.size)
      have EBX:Hid (Below w6.heap.size w6 (w6.alloc (.cells #[] 84))):=zz (alB)
      have R0:Hid (PtB (w6.alloc (.cells #[] 84)) w6.heap.size (.slice (some ⟨w6.heap.size,0,none⟩) 0 0) []):=zz (World.ownsRow_lit w6 #[] 0 (Nat.le_refl _) (Nat.zero_le _) (by simp))
      have ROWW:=zz fun W (hb:Below w0.heap.size w0 W)=>(show W.ownsRow 0 84 1 (.slice A i cc) bs.length (bs.map fun x=>ptrV x.1) from row_fr M0.out.row (Fr.of hb (fun _=>False)) (fun _ _ e=>e))
      have PLB:Hid (pn≤bs.length):=zz (by have:=PL.out;have:=HM.out;omega)
      have UP:=zz (row_upto (ROWW.out _ (below_tr BW6.out EBX.out BW6.out.size)) PLB.out)
      have hpc:pn≤cc:=UP.out.2.1
      have hsu:=fun W=>sl_uptoG ten_elem ten_size W A i cc pn hpc
      have hpi:pn≤i:=PL.out
      have hsf:=fun W=>sl_fromG ten_elem ten_size W A i cc pn hpi
      obtain⟨D,hD⟩:∃D,dropG A cc pn 1=D:=⟨_,rfl⟩
      obtain⟨nn,hnn⟩:∃nn,i-pn=nn:=⟨_,rfl⟩
      obtain⟨dc,hdc⟩:∃dc,cc-pn=dc:=⟨_,rfl⟩
      rw[hD,hnn,hdc] at hsf
      have HDD:=zz hD
      have HNN:=zz hnn
      have HDC:=zz hdc
      have r1:w6.cell? ⟨r,1,none⟩=some (.slice A i cc):=(M0.out.ab BW6.out).box.cell (k:=1) rfl
      have r1b:(w6.alloc (.cells #[] 84)).cell? ⟨r,1,none⟩=some (.slice A i cc):=(M0.out.ab (below_tr BW6.out EBX.out BW6.out.size)).box.cell (k:=1) rfl
      clear hw6 b6 cb6 tb6 z6 x1 x2 x3 hst hD hnn hdc hpc hpi
      go_upto_region 18 with (first
       | (refine wpList_appPt rfl (.tmp 97) (.tmp 103) rfl R0.out rfl (A:=A) (m:=pn) (c:=cc) (K:=bs.take pn) rfl (by rw[List.length_take];exact Nat.min_eq_left PLB.out) UP.out.2.2.1 (fun y hy j u hj=>UP.out.2.2.2.2 y hy j u (by rw[Nat.mul_one,←List.map_take];exact hj)) (by have:=PL.out;have:=LL.out;simp;omega) EBX.out.size ?_
          intro v7 w7 hp7 hb7
          have P7:=zz hp7
          have B7:=zz (EBX.out.trans hb7)
          clear hp7 hb7))
      rw[List.nil_append] at P7
      have ha8:Below w7.heap.size w7 (w7.alloc (.cells #[.pointer (some ⟨wr.heap.size+1,0,none⟩)] 84)):=alB
      have P7a:=zz (P7.out.ab ha8)
      have B7a:=zz (below_tr B7.out ha8 B7.out.size)
      have GC:=zz (one_ptr (CbB.new w7 84 #[.pointer (some ⟨wr.heap.size+1,0,none⟩)]))
      have LT7:Hid ((bs.take pn).length=pn):=zz (by rw[List.length_take];exact Nat.min_eq_left PLB.out)
      clear ha8 r1 r1b UP R0
      go_upto_region 19 with (first
       | (refine wpList_appPt rfl (.tmp 105) (.tmp 107) rfl P7a.out rfl (A:=some ⟨w7.heap.size,0,none⟩) (m:=1) (c:=1) (K:=[(wr.heap.size+1,newT c)]) rfl rfl (fun e=>by cases e) GC.out (by rw[LT7.out];have:=PL.out;have:=LL.out;omega) B7a.out.size ?_
          intro v8 w8 hp8 hb8
          have P8:=zz hp8
          have B8:=zz (B7a.out.trans hb8)
          clear hp8 hb8))
      have BW8:=zz (below_tr BW6.out B8.out BW6.out.size)
      have M8r:w8.cell? ⟨r,1,none⟩=some (.slice A i cc):=(M0.out.ab BW8.out).box.cell (k:=1) rfl
      have FR:=zz (row_from (ROWW.out _ BW8.out) PLB.out)
      rw[HDD.out,HDC.out,HM.out,HNN.out] at FR
      have LT8:Hid ((bs.take pn++[(wr.heap.size+1,newT c)]).length=pn+1):=zz (by rw[List.length_append,LT7.out];rfl)
      have r2:∀W,Below w6.heap.size w6 W→W.cell? ⟨r,1,none⟩=some (.slice A i cc)∧W.frozen? ⟨r,1,none⟩=false:=fun W hb=>by
       have h1:=(M0.out.ab (below_tr BW6.out hb BW6.out.size)).box
       exact⟨h1.cell (k:=1) rfl,h1.free 1⟩
      have R2:=zz r2
      clear r2 GC P7 P7a
      go_upto_region 20 with (first
       | (refine wpList_appPt rfl (.tmp 110) (.tmp 116) rfl P8.out rfl (A:=D) (m:=nn) (c:=dc) (K:=bs.drop pn) rfl (by rw[List.length_drop,HM.out];exact HNN.out) FR.out.2.2.1 (fun y hy j u hj=>FR.out.2.2.2.2 y hy j u (by rw[Nat.mul_one,←List.map_drop];exact hj)) (by rw[LT8.out];have:=PL.out;have:=LL.out;have:=HNN.out;omega) B8.out.size ?_
          intro v9 w9 hp9 hb9
          have P9:=zz hp9
          have B9:=zz (B8.out.trans hb9)
          have f9:=(R2.out w9 B9.out).2
          have g9:=(R2.out w9 B9.out).1
          clear hp9 hb9
          obtain⟨vA,vc,hv9⟩:=row_shape P9.out
          obtain⟨len,hlen⟩:∃len,(bs.take pn++[(wr.heap.size+1,newT c)]++bs.drop pn).length=len:=⟨_,rfl⟩
          have P9L:Hid (w9.ownsRow w6.heap.size 84 1 v9 len ((bs.take pn++[(wr.heap.size+1,newT c)]++bs.drop pn).map fun x=>ptrV x.1)):=zz (by rw[←hlen];exact P9.out)
          have LEN:=zz hlen
          rw[hlen] at hv9
          clear hlen P9
          subst hv9))
      obtain⟨O3,hO3⟩:∃O3:Tg,(fun k=>if k<wr.heap.size then cutTg O w.heap.size k else if k≤wr.heap.size+1 then some (r,c.ten) else none)=O3:=⟨_,rfl⟩
      have N3:∀k,w6.heap.size≤k→O3 k=none:=fun k hk=>by
       have:=Z6.out
       rw[←hO3]
       simp only
       rw[if_neg (by omega),if_neg (by omega)]
      have C3:∀k,k<wr.heap.size→O3 k=cutTg O w.heap.size k:=fun k hk=>by rw[←hO3];simp only;rw[if_pos hk]
      have D3:∀k,wr.heap.size≤k→k≤wr.heap.size+1→O3 k=some (r,c.ten):=fun k h1 h2=>by rw[←hO3];simp only;rw[if_neg (by omega),if_pos h2]
      have bw9:Below w0.heap.size w0 w9:=below_tr BW6.out B9.out BW6.out.size
      have M9:RfM w9 O3 r blocks T (.slice A i cc) bs:=M0.out.stp (Stp.of bw9 (fun _=>False) fun k hk=>C3 k (Nat.lt_of_lt_of_le hk BW.out.size)) fun _ h=>h
      have tb9:=T6.out.ab B9.out
      have cb9:=C6.out.ab B9.out
      have QC:=CQ.out
      have TN:RtB w9 O3 r (wr.heap.size+1) (newT c):=by
       refine⟨.slice none 0 0,[],wr.heap.size,.slice none 0 0,.slice none 0 0,?_,⟨PrI.nil _ _,List.Pairwise.nil,fun p hp=>(by cases hp),List.Perm.refl _⟩,⟨cb9,World.ownsRow_nil _ _ _ _,Nat.zero_le _⟩,RightA.nil,⟨[],World.ownsRow_nil _ _ _ _,rfl,fun i q p hq=>(by simp at hq)⟩,D3 _ (Nat.le_succ _) (Nat.le_refl _),D3 _ (Nat.le_refl _) (Nat.le_succ _),fun g hg=>(by cases hg),fun g hg=>(by cases hg)⟩
       unfold newT
       rw[show ((c.quota.toNat:Nat):Int)=c.quota by omega]
       exact tb9
      have OKT:TnOk (newT c):=⟨CT1.out,CT2.out,HS.out.2,by show 1≤c.quota.toNat;omega,by show c.quota.toNat≤1000;omega⟩
      have HNE:∀y∈bs,y.2.n≠(newT c).n:=fun y hy e=>by
       have h1:=fnd_of M0.out.nodup hy
       rw[show y.2.n=c.ten from e,HFN.out] at h1
       cases h1
      have ASC:=ins_asc (x:=(wr.heap.size+1,newT c)) M0.out.asc HNE
      rw[show aheadN bs (newT c).n=pn from PN.out] at ASC
      have PRM:=(ins_prm bs (wr.heap.size+1,newT c) pn).trans (M9.prm.append_right _)
      have FS:=fr_set w9 r 1 (.slice vA len vc)
      have BS:=M9.box.set 1 (.slice vA len vc)
      obtain⟨w10,hw10⟩:∃w10,w9.setCell ⟨r,1,none⟩ (.slice vA len vc)=w10:=⟨_,rfl⟩
      rw[hw10] at BS FS⊢
      have P10:PtB w10 0 (.slice vA len vc) (bs.take pn++[(wr.heap.size+1,newT c)]++bs.drop pn):=by
       unfold PtB
       rw[LEN.out]
       have h1:=row_low P9L.out (Nat.zero_le _)
       exact row_fr h1 FS (fun g hg e=>row_ne h1 M9.box (by decide) (by rw[hg,e]))
      obtain⟨m10,k10⟩:=M9.list FS BS P10 (fun g hg=>N3 g (own_ge9 P9L.out g hg)) ASC PRM (fun y hy=>by
       rcases List.mem_append.1 hy with hy | hy
       · rcases List.mem_append.1 hy with hy | hy
         · exact⟨M9.all y (List.mem_of_mem_take hy),M9.ok y (List.mem_of_mem_take hy)⟩
         · simp only[List.mem_singleton] at hy
           subst hy
           exact⟨TN,OKT⟩
       · exact⟨M9.all y (List.mem_of_mem_drop hy),M9.ok y (List.mem_of_mem_drop hy)⟩)
      have M10:=zz m10
      have Q10:=zz (((Q0.out.ab bw9)).fr FS (fun e=>absurd e (cb_neX (Q0.out.ab bw9) M9.box (by decide))))
      have OA:Hid (O3 (w.heap.size+1)=some (0,0)):=zz (by rw[C3 _ (Nat.lt_of_lt_of_le Q0.out.lt BW.out.size)];exact cutTg_at (Nat.le_succ _))
      have S10:Hid (Stp (fun τ=>τ.1=r) w O w10 O3):=zz (((Stp.of (below_tr HA.out bw9 HA.out.size) _ fun k hk=>by
       rw[C3 k (Nat.lt_of_lt_of_le hk BWW.out.size)]
       unfold cutTg
       rw[if_pos hk]):Stp (fun τ=>τ.1=r) w O w9 O3).tr (k10.imp fun τ e=>by rw[e]))
      clear hw10 hO3 N3 C3 D3 bw9 M9 tb9 cb9 QC TN OKT HNE ASC PRM FS BS P10 m10 k10 f9 g9 M8r
      go_wp2_with fail
      refine (HF.out _ _).mono ?_
      rintro e w8 ⟨rfl,hb⟩
      have Q8:=zz (Q10.out.ab hb)
      have S8:=zz (S10.out.ab hb)
      have M8:=zz (M10.out.ab hb)
      clear hb
      go_wp2_with (first
       | ((with_reducible refine stA 120 ?_ (ansE 0) ?_ Q8 ?_ ?_ (ansE_one _) ?_);rfl;rfl;rfl;rfl;intro wz QZ FZ))
      refine bodyPost_ret (ansR Tryz.results27 QZ rfl rfl) rfl ?_
      exact RdR.er 0 M8 S8 FZ OA.out NP
end
section
variable {w:World} {O:Tg} {r blocks:Nat} {T:List TnP} {av:Value} {bs:List (Nat×TnP)} {c:CallP}
theorem RfM.memT (h:RfM w O r blocks T av bs) {n:Nat} {x:Nat×TnP} (hf:fnd bs n=some x):x.2∈T:=h.prm.mem_iff.1 (List.mem_map.2 ⟨x,(fnd_mem hf).1,rfl⟩)
theorem RfM.selfT (h:RfM w O r blocks T av bs) {n:Nat} {x:Nat×TnP} (hf:fnd bs n=some x):updT n x.2 T=T:=updT_selfT h.nodupT (by rw[h.fnd_T,hf];rfl)
theorem R_create (h:RfM w O r blocks T av bs) (hl:bs.length≤100000) (hc:c.B w):
 Calls Tryz.prog 27 #[.pointer (some ⟨r,0,none⟩),.agg c.cs] w (RdR r blocks w O (creP blocks T c).1 (creP blocks T c).2):=by
 have hT:=h.fnd_T c.ten
 unfold creP
 cases t0:((c.ten:Int)==0) with
 | true=>exact rcre_bad0 h hl hc t0
 | false =>
   cases t1:((c.sec.n:Int) != 16) with
   | true=>exact rcre_bad1 h hl hc t0 t1
   | false=>
     cases t2:decide (c.quota<1) with
     | true=>exact rcre_bad2 h hl hc t0 t1 (.inl (of_decide_eq_true t2))
     | false=>
       have q0:=of_decide_eq_false t2
       cases t3:decide ((1000:Int)<c.quota) with
       | true=>exact rcre_bad2 h hl hc t0 t1 (.inr (of_decide_eq_true t3))
       | false=>
         have q1:=of_decide_eq_false t3
         simp only
         rw[hT]
         cases hf:fnd bs c.ten with
         | some x=>exact rcre_twice x h hl hc t0 t1 (by omega) (by omega) hf
         | none=>exact rcre_some h hl hc t0 t1 (by omega) (by omega) hf _ rfl
theorem R_attach (h:RfM w O r blocks T av bs) (hl:bs.length≤100000) (hc:c.B w) (hk:∀t∈T,LimK 800 t):
 Calls Tryz.prog 30 #[.pointer (some ⟨r,0,none⟩),.agg c.cs] w (RdR r blocks w O (tenC1 T c attP).1 (tenC1 T c attP).2):=by
 have hT:=h.fnd_T c.ten
 unfold tenC1
 rw[hT]
 cases hf:fnd bs c.ten with
 | none=>exact rat_none h hl hc hf
 | some x=>
   have hu:=h.selfT hf
   have hA:=(hk _ (h.memT hf)).A
   simp only[Option.map_some]
   unfold attP
   by_cases he:c.sec.l=x.2.sec
   · rw[decide_eq_true he]
     by_cases hf2:64≤(aliveH x.2.A).length
     · rw[decide_eq_true hf2]
       exact rat_full x h hl hc hf he (by omega) _ (by unfold putH;rw[if_pos hf2])
     · rw[decide_eq_false hf2]
       exact rat_yes x h hl hc hf he (by omega) _ _ (by unfold putH;rw[if_neg hf2]) (by omega)
   · rw[decide_eq_false he]
     simp only
     rw[hu]
     exact rat_sec x h hl hc hf he
theorem R_remove (h:RfM w O r blocks T av bs) (hl:bs.length≤100000) (hc:c.B w) (hkind:c.kind=2):
 Calls Tryz.prog 28 #[.pointer (some ⟨r,0,none⟩),.agg c.cs] w (RdR r blocks w O (remP T c).1 (remP T c).2):=by
 have hT:=h.fnd_T c.ten
 unfold remP
 rw[hT]
 cases hf:fnd bs c.ten with
 | none=>exact rad_none h hl hc hf
 | some x=>exact rdel_ok x h hl hc hkind hf
theorem setTu_self {t:TnP} {b:Bool} (h:t.tu=b):setTu t b=t:=by subst h;rfl
theorem R_turn (h:RfM w O r blocks T av bs) (hl:bs.length≤100000) (hc:c.B w) (hkind:c.kind=3):
 Calls Tryz.prog 28 #[.pointer (some ⟨r,0,none⟩),.agg c.cs] w (RdR r blocks w O (tenC1 T c turP).1 (tenC1 T c turP).2):=by
 have hT:=h.fnd_T c.ten
 unfold tenC1
 rw[hT]
 cases hf:fnd bs c.ten with
 | none=>exact rad_none h hl hc hf
 | some x=>
   have hu:=h.selfT hf
   simp only[Option.map_some]
   unfold turP
   cases ht:x.2.tu with
   | true=>simp only;rw[hu];exact rturn_busy x h hl hc hkind hf ht
   | false=>exact rturn_ok x h hl hc hkind hf ht
theorem R_step (h:RfM w O r blocks T av bs) (hl:bs.length≤100000) (hc:c.B w) (hkind:c.kind=4):
 Calls Tryz.prog 28 #[.pointer (some ⟨r,0,none⟩),.agg c.cs] w (RdR r blocks w O (tenC1 T c stpP).1 (tenC1 T c stpP).2):=by
 have hT:=h.fnd_T c.ten
 unfold tenC1
 rw[hT]
 cases hf:fnd bs c.ten with
 | none=>exact rad_none h hl hc hf
 | some x=>
   have hu:=h.selfT hf
   simp only[Option.map_some]
   unfold stpP
   cases n0:decide (c.n<1) with
   | true=>simp only;rw[hu];exact rstep_low x h hl hc hkind hf n0
   | false=>
     cases n1:decide ((100:Int)<c.n) with
     | true=>simp only;rw[hu];exact rstep_high x h hl hc hkind hf n0 n1
     | false=>
       cases ht:x.2.tu with
       | false=>simp only;rw[hu];exact rstep_state x h hl hc hkind hf n0 n1 ht
       | true=>
         have:=rstep_ok x h hl hc hkind hf n0 n1 ht
         rw[setTu_self ht] at this
         exact this
theorem R_finish (h:RfM w O r blocks T av bs) (hl:bs.length≤100000) (hc:c.B w) (hkind:c.kind=5) (hk:∀t∈T,LimK 800 t):
 Calls Tryz.prog 28 #[.pointer (some ⟨r,0,none⟩),.agg c.cs] w (RdR r blocks w O (tenC1 T c finP).1 (tenC1 T c finP).2):=by
 have hT:=h.fnd_T c.ten
 unfold tenC1
 rw[hT]
 cases hf:fnd bs c.ten with
 | none=>exact rad_none h hl hc hf
 | some x=>
   have hu:=h.selfT hf
   have hsn:=(hk _ (h.memT hf)).sn
   simp only[Option.map_some]
   unfold finP
   cases ht:x.2.tu with
   | false=>simp only;rw[hu];exact rfin_state x h hl hc hkind hf ht
   | true=>
     by_cases hv:liveC x.2.sn=[]
     · rw[decide_eq_true hv];exact rfin_ok x h hl hc hkind hf (by omega) hv ht
     · rw[decide_eq_false hv];simp only;rw[hu];exact rfin_busy x h hl hc hkind hf (by omega) hv ht
theorem R_tenH (nd:Nat) (f:TnP→CallP→AnsP×TnP) (h:RfM w O r blocks T av bs) (hl:bs.length≤100000) (hc:c.B w) (hk:∀t∈T,LimK 800 t) (hnd:needP c.kind=nd)
 (hF:∀x,fnd bs (c.hd/4294967296)=some x→LimK 800 x.2→x.2.A.length<900→checkH x.2.A (c.hd%4294967296) nd=0→updT (c.hd/4294967296) x.2 T=T→
   Calls Tryz.prog 31 #[.pointer (some ⟨r,0,none⟩),.agg c.cs] w (RdR r blocks w O (f x.2 c).1 (updT (c.hd/4294967296) (f x.2 c).2 T))):
 Calls Tryz.prog 31 #[.pointer (some ⟨r,0,none⟩),.agg c.cs] w (RdR r blocks w O (tenH1 T c nd f).1 (tenH1 T c nd f).2):=by
 have hT:=h.fnd_T (c.hd/4294967296)
 unfold tenH1
 rw[hT]
 cases hf:fnd bs (c.hd/4294967296) with
 | none=>exact rtn_none h hl hc hf
 | some x=>
   have hlk:=hk _ (h.memT hf)
   have hA:=hlk.A
   simp only[Option.map_some]
   cases hck:checkH x.2.A (c.hd%4294967296) nd with
   | succ er=>exact rtn_all x h hl hc hf (by omega) nd hnd _ hck hlk (.inl ⟨Nat.succ_pos _,rfl,rfl⟩)
   | zero=>exact hF x hf hlk (by omega) hck (h.selfT hf)
theorem R_give (h:RfM w O r blocks T av bs) (hl:bs.length≤100000) (hc:c.B w) (hk:∀t∈T,LimK 800 t) (hkind:c.kind=9):
 Calls Tryz.prog 31 #[.pointer (some ⟨r,0,none⟩),.agg c.cs] w (RdR r blocks w O (tenH1 T c 0 givP).1 (tenH1 T c 0 givP).2):=
 R_tenH 0 givP h hl hc hk (by rw[hkind];rfl) fun x hf hlk hA hck hu=>by
  obtain⟨g,er,he⟩:∃g er,(giveH x.2.A (c.hd%4294967296) c.rt).1=(g,er):=⟨_,_,rfl⟩
  unfold givP
  rw[he]
  have hp:giveH x.2.A (c.hd%4294967296) c.rt=((g,er),(giveH x.2.A (c.hd%4294967296) c.rt).2):=by rw[←he]
  cases er with
  | zero=>exact rtn_all x h hl hc hf hA 0 (by rw[hkind];rfl) 0 hck hlk (.inr (.inr (.inr (.inr (.inr (.inr (.inl ⟨hkind,rfl,g,_,rfl,rfl,hp,giveH_lt he (by omega)⟩)))))))
  | succ er=>exact rtn_all x h hl hc hf hA 0 (by rw[hkind];rfl) 0 hck hlk (.inr (.inr (.inr (.inr (.inr (.inl ⟨hkind,rfl,g,_,_,rfl,rfl,hp,Nat.succ_pos _⟩))))))
theorem R_revoke (h:RfM w O r blocks T av bs) (hl:bs.length≤100000) (hc:c.B w) (hk:∀t∈T,LimK 800 t) (hkind:c.kind=10):
 Calls Tryz.prog 31 #[.pointer (some ⟨r,0,none⟩),.agg c.cs] w (RdR r blocks w O (tenH1 T c 0 revP).1 (tenH1 T c 0 revP).2):=
 R_tenH 0 revP h hl hc hk (by rw[hkind];rfl) fun x hf hlk hA hck hu=>by
  unfold revP
  by_cases he:c.oth/4294967296=c.hd/4294967296
  · rw[decide_eq_true he]
    exact rtn_all x h hl hc hf hA 0 (by rw[hkind];rfl) 0 hck hlk (.inr (.inr (.inr (.inr (.inr (.inr (.inr (.inr (.inl ⟨hkind,rfl,_,_,rfl,rfl,he,rfl⟩)))))))))
  · rw[decide_eq_false he]
    simp only
    rw[hu]
    exact rtn_all x h hl hc hf hA 0 (by rw[hkind];rfl) 0 hck hlk (.inr (.inr (.inr (.inr (.inr (.inr (.inr (.inl ⟨hkind,rfl,rfl,rfl,he⟩))))))))
theorem R_batch (h:RfM w O r blocks T av bs) (hl:bs.length≤100000) (hc:c.B w) (hk:∀t∈T,LimK 800 t) (hkind:c.kind=11):
 Calls Tryz.prog 31 #[.pointer (some ⟨r,0,none⟩),.agg c.cs] w (RdR r blocks w O (tenH1 T c 2 batP).1 (tenH1 T c 2 batP).2):=
 R_tenH 2 batP h hl hc hk (by rw[hkind];rfl) fun x hf hlk hA hck hu=>by
  have hok:=h.ok x (fnd_mem hf).1
  unfold batP
  by_cases hn:100<c.oN
  · rw[decide_eq_true hn]
    exact rtn_all x h hl hc hf hA 2 (by rw[hkind];rfl) 0 hck hlk (.inr (.inr (.inr (.inr (.inl ⟨hkind,rfl,_,rfl,rfl,hok,fun W O' mv l cb cv sv ht hb=>rbatch_many ht h.pos hn⟩)))))
  · rw[decide_eq_false hn]
    cases ha:c.ops.all opOk with
    | false=>exact rtn_all x h hl hc hf hA 2 (by rw[hkind];rfl) 0 hck hlk (.inr (.inr (.inr (.inr (.inl ⟨hkind,rfl,_,rfl,rfl,hok,fun W O' mv l cb cv sv ht hb=>rbatch_bad ht h.pos (by omega) hb.ops ha⟩)))))
    | true=>
      have hqn:(batQ x.2 c.ops).n=x.2.n:=by unfold batQ batT;cases overB (x.2.q:Int) (chg (doAll x.2.now c.ops)) (liveC x.2.sn) <;> rfl
      have hqo:TnOk (batQ x.2 c.ops):=by unfold batQ batT;cases overB (x.2.q:Int) (chg (doAll x.2.now c.ops)) (liveC x.2.sn) <;> exact⟨hok.n1,hok.n32,hok.sec,hok.q1,hok.q2⟩
      exact rtn_all x h hl hc hf hA 2 (by rw[hkind];rfl) 0 hck hlk (.inr (.inr (.inr (.inr (.inl ⟨hkind,rfl,_,rfl,hqn,hqo,fun W O' mv l cb cv sv ht hb=>rbatch_ok ht h.pos (by omega) hb.ops ha (fun o ho=>by
       obtain⟨i,hi⟩:=List.getElem?_of_mem ho
       obtain⟨_,_,_,_,_,_,h6,h7⟩:=hb.ops.cel i o hi
       exact⟨h6.len,h7.len⟩) hlk _ rfl⟩)))))
theorem seenP_len9 {t:TnP} {sn:Nat} {S:Bk2} (hk:LimK 800 t) (hs:seenP t sn=some S):S.length≤90000:=by
 by_cases h0:sn=0
 · subst h0
   have:S=t.now:=by
    have:seenP t 0=some t.now:=by unfold seenP;rw[if_pos rfl]
    rw[this] at hs
    injection hs with hs
    exact hs.symm
   rw[this]
   have:=hk.now
   omega
 · rw[seenP_snP h0] at hs
   unfold snP at hs
   rw[if_neg h0] at hs
   cases hq:t.sn[sn-1]? with
   | none=>rw[hq] at hs;simp at hs
   | some p=>
     obtain⟨S1,b1⟩:=p
     rw[hq] at hs
     cases b1 with
     | true=>simp at hs
     | false=>
       simp at hs
       subst hs
       have:=hk.sns _ (List.mem_of_getElem? hq)
       simp only at this
       omega
theorem R_get (h:RfM w O r blocks T av bs) (hl:bs.length≤100000) (hc:c.B w) (hk:∀t∈T,LimK 800 t) (hkind:c.kind=12):
 Calls Tryz.prog 31 #[.pointer (some ⟨r,0,none⟩),.agg c.cs] w (RdR r blocks w O (tenH1 T c 1 getP).1 (tenH1 T c 1 getP).2):=
 R_tenH 1 getP h hl hc hk (by rw[hkind];rfl) fun x hf hlk hA hck hu=>by
  have hsn:x.2.sn.length≤100000:=by have:=hlk.sn;omega
  unfold getP
  by_cases h0:c.key.n=0
  · rw[decide_eq_true h0];simp only;rw[hu];exact rtn_all x h hl hc hf hA 1 (by rw[hkind];rfl) 0 hck hlk (.inr (.inr (.inl ⟨hkind,rfl,rfl,fun W O' mv l cb cv sv ht hb=>rget_low ht hb hkind (by omega)⟩)))
  · rw[decide_eq_false h0]
    by_cases h1:32<c.key.n
    · rw[decide_eq_true h1];simp only;rw[hu];exact rtn_all x h hl hc hf hA 1 (by rw[hkind];rfl) 0 hck hlk (.inr (.inr (.inl ⟨hkind,rfl,rfl,fun W O' mv l cb cv sv ht hb=>rget_high ht hb hkind h1⟩)))
    · rw[decide_eq_false h1]
      cases hs:seenP x.2 c.sn with
      | none=>simp only;rw[hu];exact rtn_all x h hl hc hf hA 1 (by rw[hkind];rfl) 0 hck hlk (.inr (.inr (.inl ⟨hkind,rfl,rfl,fun W O' mv l cb cv sv ht hb=>rget_none ht hb hkind hsn (by omega) (by omega) hs⟩)))
      | some S=>
        simp only
        cases hg:getK (k8 c.key.l) S with
        | none=>simp only;rw[hu];exact rtn_all x h hl hc hf hA 1 (by rw[hkind];rfl) 0 hck hlk (.inr (.inr (.inl ⟨hkind,rfl,rfl,fun W O' mv l cb cv sv ht hb=>rget_no ht hb hkind hsn (by omega) (by omega) S hs (seenP_len9 hlk hs) hg⟩)))
        | some u=>simp only;rw[hu];exact rtn_all x h hl hc hf hA 1 (by rw[hkind];rfl) 0 hck hlk (.inr (.inr (.inl ⟨hkind,rfl,rfl,fun W O' mv l cb cv sv ht hb=>rget_yes ht hb hkind hsn (by omega) (by omega) S hs (seenP_len9 hlk hs) u hg⟩)))
theorem R_scan (h:RfM w O r blocks T av bs) (hl:bs.length≤100000) (hc:c.B w) (hk:∀t∈T,LimK 800 t) (hkind:c.kind=13):
 Calls Tryz.prog 31 #[.pointer (some ⟨r,0,none⟩),.agg c.cs] w (RdR r blocks w O (tenH1 T c 1 scnP).1 (tenH1 T c 1 scnP).2):=
 R_tenH 1 scnP h hl hc hk (by rw[hkind];rfl) fun x hf hlk hA hck hu=>by
  have hsn:x.2.sn.length≤100000:=by have:=hlk.sn;omega
  unfold scnP
  by_cases h0:c.n<0
  · rw[decide_eq_true h0];simp only;rw[hu];exact rtn_all x h hl hc hf hA 1 (by rw[hkind];rfl) 0 hck hlk (.inr (.inr (.inr (.inl ⟨hkind,rfl,rfl,fun W O' mv l cb cv sv ht hb=>rscan_low ht hb hkind h0⟩))))
  · rw[decide_eq_false h0]
    by_cases h1:(100:Int)<c.n
    · rw[decide_eq_true h1];simp only;rw[hu];exact rtn_all x h hl hc hf hA 1 (by rw[hkind];rfl) 0 hck hlk (.inr (.inr (.inr (.inl ⟨hkind,rfl,rfl,fun W O' mv l cb cv sv ht hb=>rscan_high ht hb hkind h1⟩))))
    · rw[decide_eq_false h1]
      cases hs:seenP x.2 c.sn with
      | none=>simp only;rw[hu];exact rtn_all x h hl hc hf hA 1 (by rw[hkind];rfl) 0 hck hlk (.inr (.inr (.inr (.inl ⟨hkind,rfl,rfl,fun W O' mv l cb cv sv ht hb=>rscan_none ht hb hkind hsn (by omega) (by omega) hs⟩))))
      | some S=>simp only;rw[hu];exact rtn_all x h hl hc hf hA 1 (by rw[hkind];rfl) 0 hck hlk (.inr (.inr (.inr (.inl ⟨hkind,rfl,rfl,fun W O' mv l cb cv sv ht hb=>rscan_some ht hb hkind hsn (by omega) (by omega) S hs (seenP_len9 hlk hs)⟩))))
theorem R_snap (h:RfM w O r blocks T av bs) (hl:bs.length≤100000) (hc:c.B w) (hk:∀t∈T,LimK 800 t) (hkind:c.kind=14):
 Calls Tryz.prog 31 #[.pointer (some ⟨r,0,none⟩),.agg c.cs] w (RdR r blocks w O (tenH1 T c 4 snpP).1 (tenH1 T c 4 snpP).2):=
 R_tenH 4 snpP h hl hc hk (by rw[hkind];rfl) fun x hf hlk hA hck hu=>by
  unfold snpP snapA snapQ
  cases ho:overB (x.2.q:Int) (chg x.2.now) (liveC x.2.sn++[chg x.2.now]) with
  | true=>simp only[cond_true];rw[hu];exact rtn_all x h hl hc hf hA 4 (by rw[hkind];rfl) 0 hck hlk (.inr (.inr (.inr (.inr (.inr (.inr (.inr (.inr (.inr (.inl ⟨hkind,rfl,rfl,rfl,ho⟩))))))))))
  | false=>exact rtn_all x h hl hc hf hA 4 (by rw[hkind];rfl) 0 hck hlk (.inr (.inr (.inr (.inr (.inr (.inr (.inr (.inr (.inr (.inr (.inl ⟨hkind,rfl,rfl,rfl,ho⟩)))))))))))
theorem R_release (h:RfM w O r blocks T av bs) (hl:bs.length≤100000) (hc:c.B w) (hk:∀t∈T,LimK 800 t) (hkind:c.kind=15):
 Calls Tryz.prog 31 #[.pointer (some ⟨r,0,none⟩),.agg c.cs] w (RdR r blocks w O (tenH1 T c 4 relP).1 (tenH1 T c 4 relP).2):=
 R_tenH 4 relP h hl hc hk (by rw[hkind];rfl) fun x hf hlk hA hck hu=>by
  unfold relP
  by_cases h0:c.sn=0
  · have:snP x.2 c.sn=none:=by unfold snP;rw[if_pos h0]
    rw[this]
    simp only
    rw[hu]
    exact rtn_all x h hl hc hf hA 4 (by rw[hkind];rfl) 0 hck hlk (.inr (.inr (.inr (.inr (.inr (.inr (.inr (.inr (.inr (.inr (.inr (.inl ⟨hkind,rfl,rfl,rfl,h0⟩))))))))))))
  · cases hs:snP x.2 c.sn with
    | none=>simp only;rw[hu];exact rtn_all x h hl hc hf hA 4 (by rw[hkind];rfl) 0 hck hlk (.inr (.inr (.inr (.inr (.inr (.inr (.inr (.inr (.inr (.inr (.inr (.inr (.inl ⟨hkind,rfl,rfl,rfl,h0,hs⟩)))))))))))))
    | some S=>exact rtn_all x h hl hc hf hA 4 (by rw[hkind];rfl) 0 hck hlk (.inr (.inr (.inr (.inr (.inr (.inr (.inr (.inr (.inr (.inr (.inr (.inr (.inr (⟨hkind,rfl,S,rfl,rfl,h0,hs⟩))))))))))))))
theorem R_usage (h:RfM w O r blocks T av bs) (hl:bs.length≤100000) (hc:c.B w) (hk:∀t∈T,LimK 800 t) (hkind:c.kind=16):
 Calls Tryz.prog 31 #[.pointer (some ⟨r,0,none⟩),.agg c.cs] w (RdR r blocks w O (tenH1 T c 1 useP).1 (tenH1 T c 1 useP).2):=
 R_tenH 1 useP h hl hc hk (by rw[hkind];rfl) fun x hf hlk hA hck hu=>by
  unfold useP
  simp only
  rw[hu]
  exact rtn_all x h hl hc hf hA 1 (by rw[hkind];rfl) 0 hck hlk (.inr (.inl ⟨hkind,rfl,rfl,rfl⟩))
end
end Go.Proofs.YtgdhinjhbjolgaaGreat
