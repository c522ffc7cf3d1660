/-
  Parts of the proof, joined.
-/
import Derived.Test.YtgdhinjhbjolgaaGreatBdm
import Derived.Test.YtgdhinjhbjolgaaGreatBdk
import Derived.Shelf.SlicesE.DeleteFunc
import Derived.Shelf.SlicesG.ReverseS
import Derived.Shelf.SlIter.Sorted
import Derived.Shelf.SlIter.Collect
import Derived.Shelf.SortM.Plain
import Derived.Shelf.SortM.SortNone
import Derived.Test.YtgdhinjhbjolgaaGreatProg
namespace Go.Proofs.YtgdhinjhbjolgaaGreat
set_option maxHeartbeats 4000000
open Go.RowKit
set_option linter.unusedVariables false
set_option linter.unusedSimpArgs false
def cntA (z:Int):AnsP:=⟨0,0,0,[],[],z,[]⟩
def setA (t:TnP) (A:HL):TnP:=⟨t.n,t.sec,t.q,t.now,A,t.sn,t.tu⟩
theorem setA_ok {t:TnP} (A:HL) (h:TnOk t):TnOk (setA t A):=⟨h.n1,h.n32,h.sec,h.q1,h.q2⟩
def CapVR (c:Nat) (mo:Option Nat) (w0:World) (u:Value) (A':HL) (v:Value) (W:World):Prop:=CapR 0 c mo w0 u A' (.returned v) W
theorem CapVR.mono (c:Nat) (mo:Option Nat) (w0:World) (u:Value) (A':HL):Mono (CapVR c mo w0 u A'):=fun v W W' ⟨h1,mo',h2,h3,h4⟩ hb=>⟨h1,mo',h2.ab hb,h3.trW (Fr.of hb _),h4⟩
theorem CapR.from {c:Nat} {mo:Option Nat} {w0 W W':World} {u:Value} {A':HL} {e:Ending} (h:CapR 0 c mo W u A' e W') (hb:Below w0.heap.size w0 W):∃v,e = .returned v∧CapVR c mo w0 u A' v W'∧Fr W W' (capF c mo):=by
 obtain⟨h1,mo',h2,h3,h4⟩:=h
 refine⟨u,h1,⟨rfl,mo',h2,(Fr.of hb _).trW h3,?_⟩,h3⟩
 rcases h4 with h4 | ⟨m,h4,h5⟩
 · exact .inl h4
 · exact .inr ⟨m,h4,Nat.le_trans hb.size h5⟩
theorem sumS_bd (zs:List Int) (h:∀z∈zs,0≤z∧z≤1100000):0≤sumS zs∧sumS zs≤1100001*(zs.length:Int):=by
 induction zs with
 | nil=>simp[sumS]
 | cons z r ih=>
   have h1:=ih fun y hy=>h y (List.mem_cons_of_mem _ hy)
   have h2:=h z (List.mem_cons_self ..)
   have h3:sumS (z::r)=z+1+sumS r:=by simp[sumS]
   rw[h3,List.length_cons]
   omega
theorem liveC_bd {t:TnP} (hl:∀p∈t.sn,p.1.length≤100000):∀z∈liveC t.sn,0≤z∧z≤1100000:=fun z hz=>by
 unfold liveC at hz
 obtain⟨p,hp,rfl⟩:=List.mem_map.1 hz
 have h1:=chg_bd p.1
 have h2:=hl p (List.mem_filter.1 hp).1
 omega
section
variable {w:World} {O:Tg} {s blocks m:Nat} {T:List TnP} {bs:List (Nat×TnP)} {c:CallP}
set_option maxRecDepth 100000 in
theorem id_usage_any (x:Nat×TnP) (h:IdM w O s blocks T m bs) (hc:c.Ok) (hf:fnd bs (c.hd/4294967296)=some x) (hk:checkH x.2.A (c.hd%4294967296) 1=0) (hlm:LimT x.2):
 Calls Tryz.prog 52 #[.pointer (some ⟨s,0,none⟩),.agg c.cs] w (DoR s blocks w O (cntA (chg x.2.now+sumS (liveC x.2.sn))) T):=by
 obtain⟨cb,mo,sm,nb,es,ht⟩:=h.all x (fnd_mem hf).1
 obtain⟨w0,hw0,ha,hcb,hqb⟩:=preX w c
 unfold CallP.cs at hcb⊢
 go_enter Tryz.func52,Tryz.ntmps52
 go_upto_region 1 with (fail)
 rw[hw0.out]
 clear hw0
 obtain⟨c0,c1,c2,c3,c4,c5,c6,c7,c8,c9,c10,c11,c12,c13⟩:=hcb.c14
 have HA:=zz ha
 have HQ:=zz hqb
 have HB:=zz hcb
 have M0:=h.stp (ctS ha) noF
 have HM:=zz M0
 have T0:=ht.stp (ctS ha) fun h=>h
 have HT:=zz T0
 have HTW:=zz ht
 have HH:=zz (holder_some 1 x cb mo sm nb es M0 hc hf T0)
 rw[hk] at HH
 have CO:=zz hc
 have HFN:=zz hf
 have HMW:=zz h
 have HOKT:=zz (h.ok x (fnd_mem hf).1)
 have HLM:=zz hlm
 clear h ha hqb hcb hf hc M0 T0 ht hk hlm
 go_wp2_with fail
 refine HH.out.mono ?_
 rintro e w9 ⟨rfl,hb9⟩
 have B9:=zz hb9
 clear hb9 HH
 have T9:=HT.out.stp (Stp.of (O':=cutTg O w.heap.size) B9.out (fun _=>False) fun _ _=>rfl) fun h=>h
 have d2:=T9.box.cell (k:=2) rfl
 have HC:=zz (charge_any nb x.2.now w9 (cutTg O w.heap.size) T9.now (by have:=HLM.out.1;omega))
 clear T9
 go_wp2_with fail
 refine HC.out.mono ?_
 rintro e w8 ⟨rfl,hb8⟩
 have B8:=zz (below_tr B9.out hb8 B9.out.size)
 clear hb8 HC d2
 have HS:=zz (snapped_any (HT.out.stp (Stp.of (O':=cutTg O w.heap.size) B8.out (fun _=>False) fun _ _=>rfl) fun h=>h) HLM.out.2.1 HLM.out.2.2)
 go_wp2_with fail
 refine HS.out.mono ?_
 rintro e w7 ⟨v,zs,rfl,hv,hp,hb7⟩
 obtain⟨zA,zc,hzv⟩:=row_shape hv
 subst hzv
 have B7:=zz (below_tr B8.out hb7 B8.out.size)
 have LC:=zz (liveC_bd HLM.out.2.1)
 have LL:Hid (zs.length≤100000):=zz (by rw[hp.length_eq];exact Nat.le_trans (liveC_len _) HLM.out.2.2)
 have ZB:Hid (∀z∈zs,0≤z∧z≤1100000):=zz fun z hz=>LC.out z (hp.mem_iff.1 hz)
 have ZR:Hid (IsRow .i64 w7 zA zs.length zc zs):=zz (isRow_own hv fun z hz=>liveC_wf HLM.out.2.1 z (hp.mem_iff.1 hz))
 have SP:Hid (sumS zs=sumS (liveC x.2.sn)):=zz (sumS_perm hp)
 have CB:Hid (0≤chg x.2.now∧chg x.2.now≤1100000):=zz (by have:=chg_bd x.2.now;have:=HLM.out.1;omega)
 obtain⟨zn,hzn⟩:∃n,zs.length=n:=⟨_,rfl⟩
 obtain⟨ch,hch⟩:∃n,chg x.2.now=n:=⟨_,rfl⟩
 have ZN:=zz hzn
 have CH:=zz hch
 rw[hzn] at LL ZR⊢
 rw[hch] at CB⊢
 have zn0:(zn:Int)≤100000:=by have:=LL.out;omega
 clear hv hp hb7 HS hzn hch
 go_wp2_with fail
 go_loopw [8,30] (fun z8 z30 wr=>∃k:Nat,k≤zn∧z30 = .int .i64 (k:Int)∧z8 = .int .i64 (ch+sumS (zs.take k))∧w7=wr) (fun _ z _=>zn-(intOf z).toNat)
 case atStart=>exact⟨0,by simp[sumS]⟩
 case round=>
  obtain⟨k,hk,rfl,rfl,rfl⟩:=hrel
  have SK:=sumS_bd (zs.take k) fun z hz=>ZB.out z (List.mem_of_mem_take hz)
  have SKH:=zz SK
  have ZTL:Hid ((zs.take k).length≤100000):=zz (by rw[List.length_take];have:=LL.out;have:=ZN.out;omega)
  by_cases hlt:k<zn
  · have hkz:k<zs.length:=by rw[ZN.out];exact hlt
    obtain⟨A0,hA0,-,hce⟩:=ZR.out.at (by omega)
    have hck:=hce k hlt
    have e0:zs.getD k 0=zs[k]?.getD 0:=by simp[List.getD]
    have hst:=sumS_take_succ zs k hkz
    rw[e0] at hck
    rw[hA0] at *
    have ZM:Hid (0≤zs[k]?.getD 0∧zs[k]?.getD 0≤1100000):=zz (by rw[List.getElem?_eq_getElem hkz];exact ZB.out _ (List.getElem_mem hkz))
    obtain⟨z,hz⟩:∃z,zs[k]?.getD 0=z:=⟨_,rfl⟩
    rw[hz] at hck hst ZM
    obtain⟨sk,hsk⟩:∃z,sumS (zs.take k)=z:=⟨_,rfl⟩
    rw[hsk] at hst SKH⊢
    have ST:=zz hst
    have KL:=zz hlt
    have hlti:(k:Int)<(zn:Int):=by omega
    have hk0:(0:Int)≤(k:Int):=by omega
    have hw1:IntKind.i64.wrap (z+1)=z+1:=by rw[IntKind.wrap_i64];have:=ZM.out;omega
    have hw2:IntKind.i64.wrap (ch+sk+(z+1))=ch+sk+(z+1):=by rw[IntKind.wrap_i64];have:=ZM.out;have:=SKH.out;have:=CB.out;have:=ZTL.out;omega
    clear hk hlt hkz hA0 hce e0 hst hz hsk SK
    go_wp2_with fail
    go_roundw
    case rel=>exact⟨k+1,KL.out,by go_num,by rw[ST.out];congr 1;omega,by first | rfl | trivial⟩
    case measure=>simp[intOf];have:=KL.out;omega
  · obtain rfl:k=zn:=by omega
    have e1:zs.take k=zs:=List.take_of_length_le (by rw[ZN.out];exact Nat.le_refl _)
    have PV:Hid (chg x.2.now+sumS (liveC x.2.sn)=ch+sumS (zs.take k)):=zz (by rw[e1,SP.out,CH.out])
    obtain⟨sv,hsv⟩:∃z,ch+sumS (zs.take k)=z:=⟨_,rfl⟩
    rw[hsv] at PV⊢
    have Q1:=zz (HQ.out.ab B7.out)
    have M1:=zz (HM.out.stp (Stp.of B7.out (fun _=>False) fun _ _=>rfl) fun _ h=>h)
    have S1:Hid (Stp (fun τ=>τ.1=s) w O w7 (cutTg O w.heap.size)):=zz ((Stp.cut HA.out _).ab B7.out)
    clear hk hlt e1 hsv SK
    go_wp2_with (first
     | ((with_reducible refine stA 40 ?_ (#[.int .i64 0,.int .u64 0,.int .u64 0,.slice none 0 0,.slice none 0 0,.int .i64 sv,.slice none 0 0]) ?_ Q1 ?_ ?_ (by simp[Value.oneCell']) ?_);rfl;rfl;rfl;rfl;intro wz QZ FZ))
    refine bodyPost_ret (ansR Tryz.results52 QZ rfl rfl) rfl ?_
    rw[PV.out]
    exact DoR.flat 0 0 0 sv ⟨m,_,M1.out.stp (Stp.box FZ.out (cutTg_at (Nat.le_succ _))) fun i e=>by have:=M1.out.pos;injection e with e;omega⟩ (S1.out.fresh FZ.out (Nat.le_succ _))
set_option maxRecDepth 100000 in
theorem id_give_yes (x:Nat×TnP) (h:IdM w O s blocks T m bs) (hc:c.Ok) (hf:fnd bs (c.hd/4294967296)=some x) (hk:checkH x.2.A (c.hd%4294967296) 0=0) (q hh:Nat) (hqe:c.hd/4294967296=q) (hhe:c.hd%4294967296=hh) (hal:x.2.A.length<1000000) (g:Nat) (he:(giveH x.2.A hh c.rt).1=(g,0)) (hg:g<4294967296):
 Calls Tryz.prog 45 #[.pointer (some ⟨s,0,none⟩),.agg c.cs] w (DoR s blocks w O (hdA (q*4294967296+g)) (updT q (setA x.2 (giveH x.2.A hh c.rt).2) T)):=by
 obtain⟨cb,mo,sm,nb,es,ht⟩:=h.all x (fnd_mem hf).1
 obtain⟨w0,hw0,ha,hcb,hqb⟩:=preX w c
 unfold CallP.cs at hcb⊢
 go_enter Tryz.func45,Tryz.ntmps45
 go_upto_region 1 with (fail)
 rw[hw0.out]
 clear hw0
 obtain⟨c0,c1,c2,c3,c4,c5,c6,c7,c8,c9,c10,c11,c12,c13⟩:=hcb.c14
 have HA:=zz ha
 have HQ:=zz hqb
 have HB:=zz hcb
 have M0:=h.stp (ctS ha) noF
 have HM:=zz M0
 have T0:=ht.stp (ctS ha) fun h=>h
 have HT:=zz T0
 have HTW:=zz ht
 have HH:=zz (holder_some 0 x cb mo sm nb es M0 hc hf T0)
 rw[hk] at HH
 have CO:=zz hc
 have HFN:=zz hf
 have HMW:=zz h
 have HOKT:=zz (h.ok x (fnd_mem hf).1)
 have HQE:=zz hqe
 rw[hhe] at HH
 have HAL:=zz hal
 have hdv:(c.hd:Int)/4294967296=(q:Int):=by omega
 have hd0:(0:Int)≤(q:Int):=by omega
 have hd1:(q:Int)<4294967296:=by have:=hc.hd;omega
 have QL:Hid (q<4294967296):=zz (by have:=hc.hd;omega)
 have HHO:Hid (u64Ok hh):=zz (by unfold u64Ok;omega)
 have HE:=zz he
 have HG:=zz hg
 clear h ha hqb hcb hf hc M0 T0 ht hk hqe hhe hal he hg
 go_wp2_with fail
 refine HH.out.mono ?_
 rintro e w9 ⟨rfl,hb9⟩
 have B9:=zz hb9
 clear hb9 HH
 go_upto_region 4 with (fail)
 have T9:=zz (HT.out.stp (Stp.of (O':=cutTg O w.heap.size) B9.out (fun _=>False) fun _ _=>rfl) fun h=>h)
 have X9:=zz (HB.out.ab B9.out)
 rw[HQE.out] at HFN
 have NB1:Hid (¬capF cb mo x.1):=zz fun e=>by
  obtain⟨a1,a2,_⟩:=T9.out.apart
  rcases e with e | e
  · exact a1 e
  · exact (a2 _ e).1 rfl
 have NB2:Hid (¬capF cb mo w.heap.size):=zz fun e=>by
  rcases e with e | e
  · obtain⟨l,h4,_⟩:=T9.out.caps.st
    have h5:=X9.out
    rw[e] at h5
    exact absurd rfl (cb_neX h5 h4.box (by decide))
  · obtain⟨l,h4,_⟩:=T9.out.caps.st
    obtain⟨es',cl,h6,_⟩:=(h4.map _ e).2
    have h5:=X9.out
    unfold CbB at h5
    rw[h6] at h5
    cases h5
 refine wp_wideW 7 (capF cb mo) [⟨21,IsR (.pointer (some ⟨x.1,0,none⟩)),[],false⟩,⟨22,IsR (.pointer (some ⟨x.1,0,none⟩)),[0],false⟩,⟨23,IsR (.pointer (some ⟨x.1,3,none⟩)),[1],false⟩,⟨24,IsR (.pointer (some ⟨cb,0,none⟩)),[2],false⟩,⟨25,IsR (.int .u64 (hh:Int)),[],false⟩,⟨26,IsR (.pointer (some ⟨w.heap.size,8,none⟩)),[],false⟩,⟨27,IsR (.int .u8 (c.rt:Int)),[5],false⟩,⟨28,CapVR cb mo w9 (.tuple #[.int .u64 (g:Int),.int .i64 0]) (giveH x.2.A hh c.rt).2,[3,4,6],false⟩,⟨20,IsR (.tuple #[.int .u64 (g:Int),.int .i64 0]),[7],false⟩,⟨29,IsR (.int .u64 (g:Int)),[8],false⟩,⟨30,IsR (.int .i64 0),[8],false⟩,⟨8,IsR (.int .u64 (g:Int)),[9],false⟩] (by kernel_rfl) (by kernel_rfl) rfl rfl rfl ⟨?_,?_,?_,?_,?_,?_,?_,?_,?_,?_,?_,?_,trivial⟩ ?_
 · refine okV rfl rfl (by decide) fun a W hA hb hd=>?_
   have h5:a.tmps[5]?.getD undef = .pointer (some ⟨x.1,0,none⟩):=gt' hA (by simp) rfl
   go_simp
 · refine okV rfl rfl (by decide) fun a W hA hb hd=>?_
   have h21:a.tmps[21]?.getD undef = .pointer (some ⟨x.1,0,none⟩):=gh (hd 0 (by simp) _ rfl)
   go_simp
 · refine okV rfl rfl (by decide) fun a W hA hb hd=>?_
   have h22:a.tmps[22]?.getD undef = .pointer (some ⟨x.1,0,none⟩):=gh (hd 1 (by simp) _ rfl)
   go_simp
 · refine okV rfl rfl (by decide) fun a W hA hb hd=>?_
   have h23:a.tmps[23]?.getD undef = .pointer (some ⟨x.1,3,none⟩):=gh (hd 2 (by simp) _ rfl)
   have hc:W.cell? (⟨x.1,3,none⟩)=some (.pointer (some ⟨cb,0,none⟩)):=(T9.out.box.fr hb NB1.out).cell (k:=3) rfl
   go_simp
 · refine okV rfl rfl (by decide) fun a W hA hb hd=>?_
   have h6:a.tmps[6]?.getD undef = .int .u64 (hh:Int):=gt' hA (by simp) rfl
   go_simp
 · refine okV rfl rfl (by decide) fun a W hA hb hd=>?_
   have h3:a.tmps[3]?.getD undef = .pointer (some ⟨w.heap.size,0,none⟩):=gt' hA (by simp) rfl
   go_simp
 · refine okV rfl rfl (by decide) fun a W hA hb hd=>?_
   have h26:a.tmps[26]?.getD undef = .pointer (some ⟨w.heap.size,8,none⟩):=gh (hd 5 (by simp) _ rfl)
   have hc:W.cell? (⟨w.heap.size,8,none⟩)=some (.int .u8 (c.rt:Int)):=(X9.out.fr hb NB2.out).cell (k:=8) rfl
   go_simp
 · refine⟨rfl,CapVR.mono _ _ _ _ _,.inl rfl,fun a W hA hb hd=>⟨fun e=>absurd rfl e,fun _ hw=>?_⟩⟩
   have h24:a.tmps[24]?.getD undef = .pointer (some ⟨cb,0,none⟩):=gh (hd 3 (by simp) _ rfl)
   have h25:a.tmps[25]?.getD undef = .int .u64 (hh:Int):=gh (hd 4 (by simp) _ rfl)
   have h27:a.tmps[27]?.getD undef = .int .u8 (c.rt:Int):=gh (hd 6 (by simp) _ rfl)
   have tw:=T9.out.stp (Stp.of (O':=cutTg O w.heap.size) hw (fun _=>False) fun _ _=>rfl) fun h=>h
   have hc:=giveA_any hh c.rt tw.caps HHO.out HAL.out
   rw[HE.out] at hc
   refine .inl ⟨by simp[Region.wanted],.inr ⟨75,#[.pointer (some ⟨cb,0,none⟩),.int .u64 (hh:Int),.int .u8 (c.rt:Int)],by go_simp,hc.mono fun e W2 hr=>hr.from hw⟩⟩
 · refine⟨rfl,IsR.mono _,.inr fun _ _ _ h _=>h,fun a W hA hb hd=>⟨fun _=>takes_plain rfl ?_,fun e=>absurd e (by decide)⟩⟩
   have h28:a.tmps[28]?.getD undef = .tuple #[.int .u64 (g:Int),.int .i64 0]:=(eval_get a 28).trans (by obtain⟨h1,_⟩:=hd 7 (by simp) _ rfl;injection h1)
   refine yields_value _ ?_ rfl
   go_simp
 · refine okV rfl rfl (by decide) fun a W hA hb hd=>?_
   have h20:a.tmps[20]?.getD undef = .tuple #[.int .u64 (g:Int),.int .i64 0]:=gh (hd 8 (by simp) _ rfl)
   go_simp
 · refine okV rfl rfl (by decide) fun a W hA hb hd=>?_
   have h20:a.tmps[20]?.getD undef = .tuple #[.int .u64 (g:Int),.int .i64 0]:=gh (hd 8 (by simp) _ rfl)
   go_simp
 · refine okV rfl rfl (by decide) fun a W hA hb hd=>?_
   have h29:a.tmps[29]?.getD undef = .int .u64 (g:Int):=gh (hd 9 (by simp) _ rfl)
   go_simp
 intro vs W9 hR hb
 have e21:vs 21 = .pointer (some ⟨x.1,0,none⟩):=hR 0 _ rfl
 have e22:vs 22 = .pointer (some ⟨x.1,0,none⟩):=hR 1 _ rfl
 have e23:vs 23 = .pointer (some ⟨x.1,3,none⟩):=hR 2 _ rfl
 have e24:vs 24 = .pointer (some ⟨cb,0,none⟩):=hR 3 _ rfl
 have e25:vs 25 = .int .u64 (hh:Int):=hR 4 _ rfl
 have e26:vs 26 = .pointer (some ⟨w.heap.size,8,none⟩):=hR 5 _ rfl
 have e27:vs 27 = .int .u8 (c.rt:Int):=hR 6 _ rfl
 have e20:vs 20 = .tuple #[.int .u64 (g:Int),.int .i64 0]:=hR 8 _ rfl
 have e29:vs 29 = .int .u64 (g:Int):=hR 9 _ rfl
 have e30:vs 30 = .int .i64 0:=hR 10 _ rfl
 have e8:vs 8 = .int .u64 (g:Int):=hR 11 _ rfl
 simp only[List.map_cons,List.map_nil,List.foldl_cons,List.foldl_nil,List.length_cons,List.length_nil,List.drop_succ_cons,List.drop_zero,Act.put,List.setIfInBounds_toArray,List.set_cons_zero,List.set_cons_succ,e21,e22,e23,e24,e25,e26,e27,e20,e29,e30,e8]
 have hr:CapR 0 cb mo w9 (.tuple #[.int .u64 (g:Int),.int .i64 0]) (giveH x.2.A hh c.rt).2 (.returned (vs 28)) W9:=hR 7 _ rfl
 generalize vs 28=q28 at *
 have BW:=zz B9.out
 have TW:=zz T9.out
 have XW:=zz X9.out
 have QW:=zz (HQ.out.ab BW.out)
 have MW:=zz (HM.out.stp (Stp.of (O':=cutTg O w.heap.size) BW.out (fun _=>False) fun _ _=>rfl) fun _ h=>h)
 have XN:Hid (x.2.n=q):=zz (fnd_mem HFN.out).2
 clear hR hb e21 e22 e23 e24 e25 e26 e27 e20 e29 e30 e8
 obtain⟨e28,mo',O1,k1,t1⟩:=caps_step TW.out XN.out hr
 have M1:=zz (MW.out.upd (t':=setA x.2 ((giveH x.2.A hh c.rt).2)) HFN.out k1 XN.out (setA_ok _ HOKT.out) ⟨_,_,_,_,_,t1⟩)
 have nz:¬((0,0):Nat×Nat)=(s,q):=fun e=>by injection e with _ e;have h1:=HOKT.out.n1;have h2:=XN.out;omega
 have Q1:Hid (CbB W9 (w.heap.size+1) 44 (ansE 0)):=zz ((k1.ot (k:=w.heap.size+1) QW.out.lt (cutTg_at (Nat.le_succ _)) nz).1.trans QW.out)
 have G1:Hid (O1 (w.heap.size+1)=some (0,0)):=zz ((k1.tg _ QW.out.lt).trans (cutTg_at (Nat.le_succ _)))
 have x1:CbB W9 w.heap.size 37 _:=(k1.ot (k:=w.heap.size) XW.out.lt (cutTg_at (Nat.le_refl _)) nz).1.trans XW.out
 have x5:W9.cell? ⟨w.heap.size,5,none⟩=some (.int .u64 (c.hd:Int)):=x1.cell (k:=5) rfl
 have S1:Hid (Stp (fun τ=>τ.1=s) w O W9 O1):=zz (((Stp.cut HA.out _).ab BW.out).tr (k1.imp fun τ e=>by rw[e]))
 injection e28 with e28
 subst e28
 clear k1 t1 hr nz x1
 have HHY:=zz (handle_yes q g QL.out HG.out W9)
 go_wp2_with fail
 refine HHY.out.mono ?_
 rintro e w2 ⟨rfl,hb2⟩
 have Q1:=zz (Q1.out.ab hb2)
 have M1:=zz (M1.out.stp (Stp.of hb2 (fun _=>False) fun _ _=>rfl) fun _ h=>h)
 have S1:=zz (S1.out.ab hb2)
 clear hb2 HHY
 go_wp2_with (first
  | ((with_reducible refine stA 37 ?_ (ansH (q*4294967296+g)) ?_ Q1 ?_ ?_ (ansH_one _) ?_);rfl;rfl;rfl;rfl;intro wz QZ FZ))
 refine bodyPost_ret (ansR Tryz.results45 QZ rfl rfl) rfl ?_
 exact DoR.flat 0 (q*4294967296+g) 0 0 ⟨m,_,M1.out.stp (Stp.box FZ.out G1.out) fun i e=>by have:=M1.out.pos;injection e with e;omega⟩ (S1.out.fresh FZ.out (Nat.le_succ _))
set_option maxRecDepth 100000 in
theorem id_give_no (x:Nat×TnP) (h:IdM w O s blocks T m bs) (hc:c.Ok) (hf:fnd bs (c.hd/4294967296)=some x) (hk:checkH x.2.A (c.hd%4294967296) 0=0) (q hh:Nat) (hqe:c.hd/4294967296=q) (hhe:c.hd%4294967296=hh) (hal:x.2.A.length<1000000) (g er:Nat) (he:(giveH x.2.A hh c.rt).1=(g,er)) (h0:0<er):
 Calls Tryz.prog 45 #[.pointer (some ⟨s,0,none⟩),.agg c.cs] w (DoR s blocks w O (errA (er:Int)) (updT q (setA x.2 (giveH x.2.A hh c.rt).2) T)):=by
 obtain⟨cb,mo,sm,nb,es,ht⟩:=h.all x (fnd_mem hf).1
 obtain⟨w0,hw0,ha,hcb,hqb⟩:=preX w c
 unfold CallP.cs at hcb⊢
 go_enter Tryz.func45,Tryz.ntmps45
 go_upto_region 1 with (fail)
 rw[hw0.out]
 clear hw0
 obtain⟨c0,c1,c2,c3,c4,c5,c6,c7,c8,c9,c10,c11,c12,c13⟩:=hcb.c14
 have HA:=zz ha
 have HQ:=zz hqb
 have HB:=zz hcb
 have M0:=h.stp (ctS ha) noF
 have HM:=zz M0
 have T0:=ht.stp (ctS ha) fun h=>h
 have HT:=zz T0
 have HTW:=zz ht
 have HH:=zz (holder_some 0 x cb mo sm nb es M0 hc hf T0)
 rw[hk] at HH
 have CO:=zz hc
 have HFN:=zz hf
 have HMW:=zz h
 have HOKT:=zz (h.ok x (fnd_mem hf).1)
 have HQE:=zz hqe
 rw[hhe] at HH
 have HAL:=zz hal
 have hdv:(c.hd:Int)/4294967296=(q:Int):=by omega
 have hd0:(0:Int)≤(q:Int):=by omega
 have hd1:(q:Int)<4294967296:=by have:=hc.hd;omega
 have QL:Hid (q<4294967296):=zz (by have:=hc.hd;omega)
 have HHO:Hid (u64Ok hh):=zz (by unfold u64Ok;omega)
 have HE:=zz he
 have H0:=zz h0
 clear h ha hqb hcb hf hc M0 T0 ht hk hqe hhe hal he h0
 go_wp2_with fail
 refine HH.out.mono ?_
 rintro e w9 ⟨rfl,hb9⟩
 have B9:=zz hb9
 clear hb9 HH
 go_upto_region 4 with (fail)
 have T9:=zz (HT.out.stp (Stp.of (O':=cutTg O w.heap.size) B9.out (fun _=>False) fun _ _=>rfl) fun h=>h)
 have X9:=zz (HB.out.ab B9.out)
 rw[HQE.out] at HFN
 have NB1:Hid (¬capF cb mo x.1):=zz fun e=>by
  obtain⟨a1,a2,_⟩:=T9.out.apart
  rcases e with e | e
  · exact a1 e
  · exact (a2 _ e).1 rfl
 have NB2:Hid (¬capF cb mo w.heap.size):=zz fun e=>by
  rcases e with e | e
  · obtain⟨l,h4,_⟩:=T9.out.caps.st
    have h5:=X9.out
    rw[e] at h5
    exact absurd rfl (cb_neX h5 h4.box (by decide))
  · obtain⟨l,h4,_⟩:=T9.out.caps.st
    obtain⟨es',cl,h6,_⟩:=(h4.map _ e).2
    have h5:=X9.out
    unfold CbB at h5
    rw[h6] at h5
    cases h5
 refine wp_wideW 7 (capF cb mo) [⟨21,IsR (.pointer (some ⟨x.1,0,none⟩)),[],false⟩,⟨22,IsR (.pointer (some ⟨x.1,0,none⟩)),[0],false⟩,⟨23,IsR (.pointer (some ⟨x.1,3,none⟩)),[1],false⟩,⟨24,IsR (.pointer (some ⟨cb,0,none⟩)),[2],false⟩,⟨25,IsR (.int .u64 (hh:Int)),[],false⟩,⟨26,IsR (.pointer (some ⟨w.heap.size,8,none⟩)),[],false⟩,⟨27,IsR (.int .u8 (c.rt:Int)),[5],false⟩,⟨28,CapVR cb mo w9 (.tuple #[.int .u64 (g:Int),.int .i64 (er:Int)]) (giveH x.2.A hh c.rt).2,[3,4,6],false⟩,⟨20,IsR (.tuple #[.int .u64 (g:Int),.int .i64 (er:Int)]),[7],false⟩,⟨29,IsR (.int .u64 (g:Int)),[8],false⟩,⟨30,IsR (.int .i64 (er:Int)),[8],false⟩,⟨8,IsR (.int .u64 (g:Int)),[9],false⟩] (by kernel_rfl) (by kernel_rfl) rfl rfl rfl ⟨?_,?_,?_,?_,?_,?_,?_,?_,?_,?_,?_,?_,trivial⟩ ?_
 · refine okV rfl rfl (by decide) fun a W hA hb hd=>?_
   have h5:a.tmps[5]?.getD undef = .pointer (some ⟨x.1,0,none⟩):=gt' hA (by simp) rfl
   go_simp
 · refine okV rfl rfl (by decide) fun a W hA hb hd=>?_
   have h21:a.tmps[21]?.getD undef = .pointer (some ⟨x.1,0,none⟩):=gh (hd 0 (by simp) _ rfl)
   go_simp
 · refine okV rfl rfl (by decide) fun a W hA hb hd=>?_
   have h22:a.tmps[22]?.getD undef = .pointer (some ⟨x.1,0,none⟩):=gh (hd 1 (by simp) _ rfl)
   go_simp
 · refine okV rfl rfl (by decide) fun a W hA hb hd=>?_
   have h23:a.tmps[23]?.getD undef = .pointer (some ⟨x.1,3,none⟩):=gh (hd 2 (by simp) _ rfl)
   have hc:W.cell? (⟨x.1,3,none⟩)=some (.pointer (some ⟨cb,0,none⟩)):=(T9.out.box.fr hb NB1.out).cell (k:=3) rfl
   go_simp
 · refine okV rfl rfl (by decide) fun a W hA hb hd=>?_
   have h6:a.tmps[6]?.getD undef = .int .u64 (hh:Int):=gt' hA (by simp) rfl
   go_simp
 · refine okV rfl rfl (by decide) fun a W hA hb hd=>?_
   have h3:a.tmps[3]?.getD undef = .pointer (some ⟨w.heap.size,0,none⟩):=gt' hA (by simp) rfl
   go_simp
 · refine okV rfl rfl (by decide) fun a W hA hb hd=>?_
   have h26:a.tmps[26]?.getD undef = .pointer (some ⟨w.heap.size,8,none⟩):=gh (hd 5 (by simp) _ rfl)
   have hc:W.cell? (⟨w.heap.size,8,none⟩)=some (.int .u8 (c.rt:Int)):=(X9.out.fr hb NB2.out).cell (k:=8) rfl
   go_simp
 · refine⟨rfl,CapVR.mono _ _ _ _ _,.inl rfl,fun a W hA hb hd=>⟨fun e=>absurd rfl e,fun _ hw=>?_⟩⟩
   have h24:a.tmps[24]?.getD undef = .pointer (some ⟨cb,0,none⟩):=gh (hd 3 (by simp) _ rfl)
   have h25:a.tmps[25]?.getD undef = .int .u64 (hh:Int):=gh (hd 4 (by simp) _ rfl)
   have h27:a.tmps[27]?.getD undef = .int .u8 (c.rt:Int):=gh (hd 6 (by simp) _ rfl)
   have tw:=T9.out.stp (Stp.of (O':=cutTg O w.heap.size) hw (fun _=>False) fun _ _=>rfl) fun h=>h
   have hc:=giveA_any hh c.rt tw.caps HHO.out HAL.out
   rw[HE.out] at hc
   refine .inl ⟨by simp[Region.wanted],.inr ⟨75,#[.pointer (some ⟨cb,0,none⟩),.int .u64 (hh:Int),.int .u8 (c.rt:Int)],by go_simp,hc.mono fun e W2 hr=>hr.from hw⟩⟩
 · refine⟨rfl,IsR.mono _,.inr fun _ _ _ h _=>h,fun a W hA hb hd=>⟨fun _=>takes_plain rfl ?_,fun e=>absurd e (by decide)⟩⟩
   have h28:a.tmps[28]?.getD undef = .tuple #[.int .u64 (g:Int),.int .i64 (er:Int)]:=(eval_get a 28).trans (by obtain⟨h1,_⟩:=hd 7 (by simp) _ rfl;injection h1)
   refine yields_value _ ?_ rfl
   go_simp
 · refine okV rfl rfl (by decide) fun a W hA hb hd=>?_
   have h20:a.tmps[20]?.getD undef = .tuple #[.int .u64 (g:Int),.int .i64 (er:Int)]:=gh (hd 8 (by simp) _ rfl)
   go_simp
 · refine okV rfl rfl (by decide) fun a W hA hb hd=>?_
   have h20:a.tmps[20]?.getD undef = .tuple #[.int .u64 (g:Int),.int .i64 (er:Int)]:=gh (hd 8 (by simp) _ rfl)
   go_simp
 · refine okV rfl rfl (by decide) fun a W hA hb hd=>?_
   have h29:a.tmps[29]?.getD undef = .int .u64 (g:Int):=gh (hd 9 (by simp) _ rfl)
   go_simp
 intro vs W9 hR hb
 have e21:vs 21 = .pointer (some ⟨x.1,0,none⟩):=hR 0 _ rfl
 have e22:vs 22 = .pointer (some ⟨x.1,0,none⟩):=hR 1 _ rfl
 have e23:vs 23 = .pointer (some ⟨x.1,3,none⟩):=hR 2 _ rfl
 have e24:vs 24 = .pointer (some ⟨cb,0,none⟩):=hR 3 _ rfl
 have e25:vs 25 = .int .u64 (hh:Int):=hR 4 _ rfl
 have e26:vs 26 = .pointer (some ⟨w.heap.size,8,none⟩):=hR 5 _ rfl
 have e27:vs 27 = .int .u8 (c.rt:Int):=hR 6 _ rfl
 have e20:vs 20 = .tuple #[.int .u64 (g:Int),.int .i64 (er:Int)]:=hR 8 _ rfl
 have e29:vs 29 = .int .u64 (g:Int):=hR 9 _ rfl
 have e30:vs 30 = .int .i64 (er:Int):=hR 10 _ rfl
 have e8:vs 8 = .int .u64 (g:Int):=hR 11 _ rfl
 simp only[List.map_cons,List.map_nil,List.foldl_cons,List.foldl_nil,List.length_cons,List.length_nil,List.drop_succ_cons,List.drop_zero,Act.put,List.setIfInBounds_toArray,List.set_cons_zero,List.set_cons_succ,e21,e22,e23,e24,e25,e26,e27,e20,e29,e30,e8]
 have hr:CapR 0 cb mo w9 (.tuple #[.int .u64 (g:Int),.int .i64 (er:Int)]) (giveH x.2.A hh c.rt).2 (.returned (vs 28)) W9:=hR 7 _ rfl
 generalize vs 28=q28 at *
 have BW:=zz B9.out
 have TW:=zz T9.out
 have XW:=zz X9.out
 have QW:=zz (HQ.out.ab BW.out)
 have MW:=zz (HM.out.stp (Stp.of (O':=cutTg O w.heap.size) BW.out (fun _=>False) fun _ _=>rfl) fun _ h=>h)
 have XN:Hid (x.2.n=q):=zz (fnd_mem HFN.out).2
 clear hR hb e21 e22 e23 e24 e25 e26 e27 e20 e29 e30 e8
 obtain⟨e28,mo',O1,k1,t1⟩:=caps_step TW.out XN.out hr
 have M1:=zz (MW.out.upd (t':=setA x.2 ((giveH x.2.A hh c.rt).2)) HFN.out k1 XN.out (setA_ok _ HOKT.out) ⟨_,_,_,_,_,t1⟩)
 have nz:¬((0,0):Nat×Nat)=(s,q):=fun e=>by injection e with _ e;have h1:=HOKT.out.n1;have h2:=XN.out;omega
 have Q1:Hid (CbB W9 (w.heap.size+1) 44 (ansE 0)):=zz ((k1.ot (k:=w.heap.size+1) QW.out.lt (cutTg_at (Nat.le_succ _)) nz).1.trans QW.out)
 have G1:Hid (O1 (w.heap.size+1)=some (0,0)):=zz ((k1.tg _ QW.out.lt).trans (cutTg_at (Nat.le_succ _)))
 have x1:CbB W9 w.heap.size 37 _:=(k1.ot (k:=w.heap.size) XW.out.lt (cutTg_at (Nat.le_refl _)) nz).1.trans XW.out
 have x5:W9.cell? ⟨w.heap.size,5,none⟩=some (.int .u64 (c.hd:Int)):=x1.cell (k:=5) rfl
 have S1:Hid (Stp (fun τ=>τ.1=s) w O W9 O1):=zz (((Stp.cut HA.out _).ab BW.out).tr (k1.imp fun τ e=>by rw[e]))
 injection e28 with e28
 subst e28
 clear k1 t1 hr nz x1
 have HHY:=zz (handle_no q g er H0.out W9)
 go_wp2_with fail
 refine HHY.out.mono ?_
 rintro e w2 ⟨rfl,hb2⟩
 have Q1:=zz (Q1.out.ab hb2)
 have M1:=zz (M1.out.stp (Stp.of hb2 (fun _=>False) fun _ _=>rfl) fun _ h=>h)
 have S1:=zz (S1.out.ab hb2)
 clear hb2 HHY
 go_wp2_with (first
  | ((with_reducible refine stA 37 ?_ (ansE (er:Int)) ?_ Q1 ?_ ?_ (ansE_one _) ?_);rfl;rfl;rfl;rfl;intro wz QZ FZ))
 refine bodyPost_ret (ansR Tryz.results45 QZ rfl rfl) rfl ?_
 exact DoR.flat (er:Int) 0 0 0 ⟨m,_,M1.out.stp (Stp.box FZ.out G1.out) fun i e=>by have:=M1.out.pos;injection e with e;omega⟩ (S1.out.fresh FZ.out (Nat.le_succ _))
set_option maxRecDepth 100000 in
theorem id_revoke_far (x:Nat×TnP) (h:IdM w O s blocks T m bs) (hc:c.Ok) (hf:fnd bs (c.hd/4294967296)=some x) (hk:checkH x.2.A (c.hd%4294967296) 0=0) (q hh:Nat) (hqe:c.hd/4294967296=q) (hhe:c.hd%4294967296=hh) (hal:x.2.A.length<1000000) (ot oq:Nat) (hot:c.oth/4294967296=oq) (hoh:c.oth%4294967296=ot) (hn:¬oq=q):
 Calls Tryz.prog 46 #[.pointer (some ⟨s,0,none⟩),.agg c.cs] w (DoR s blocks w O (errA 7) T):=by
 obtain⟨cb,mo,sm,nb,es,ht⟩:=h.all x (fnd_mem hf).1
 obtain⟨w0,hw0,ha,hcb,hqb⟩:=preX w c
 unfold CallP.cs at hcb⊢
 go_enter Tryz.func46,Tryz.ntmps46
 go_upto_region 1 with (fail)
 rw[hw0.out]
 clear hw0
 obtain⟨c0,c1,c2,c3,c4,c5,c6,c7,c8,c9,c10,c11,c12,c13⟩:=hcb.c14
 have HA:=zz ha
 have HQ:=zz hqb
 have HB:=zz hcb
 have M0:=h.stp (ctS ha) noF
 have HM:=zz M0
 have T0:=ht.stp (ctS ha) fun h=>h
 have HT:=zz T0
 have HTW:=zz ht
 have HH:=zz (holder_some 0 x cb mo sm nb es M0 hc hf T0)
 rw[hk] at HH
 have CO:=zz hc
 have HFN:=zz hf
 have HMW:=zz h
 have HOKT:=zz (h.ok x (fnd_mem hf).1)
 have HQE:=zz hqe
 rw[hhe] at HH
 have HAL:=zz hal
 have hdv:(c.hd:Int)/4294967296=(q:Int):=by omega
 have hd0:(0:Int)≤(q:Int):=by omega
 have hd1:(q:Int)<4294967296:=by have:=hc.hd;omega
 have QL:Hid (q<4294967296):=zz (by have:=hc.hd;omega)
 have HHO:Hid (u64Ok hh):=zz (by unfold u64Ok;omega)
 have hov:(c.oth:Int)/4294967296=(oq:Int):=by omega
 have ho0:(0:Int)≤(oq:Int):=by omega
 have hmk:=u64_mask32 c.oth hc.oth
 rw[hoh] at hmk
 have OTO:Hid (u64Ok ot):=zz (by unfold u64Ok;omega)
 have hne:((oq:Int) != (q:Int))=true:=by simp;omega
 have hn2:¬oq=q:=hn
 have HF:=zz fun W=>fails_any 7 W
 clear h ha hqb hcb hf hc M0 T0 ht hk hqe hhe hal hot hoh hn
 go_wp2_with fail
 refine HH.out.mono ?_
 rintro e w9 ⟨rfl,hb9⟩
 have B9:=zz hb9
 clear hb9 HH
 have q5:=(HB.out.ab B9.out).cell (k:=5) rfl
 have q6:=(HB.out.ab B9.out).cell (k:=6) rfl
 go_wp2_with fail
 refine (HF.out _).mono ?_
 rintro e w1 ⟨rfl,hb⟩
 have B1:Hid (Below w0.heap.size w0 w1):=zz (below_tr B9.out hb B9.out.size)
 have Q1:=zz (HQ.out.ab B1.out)
 have M1:=kpM HM B1
 have S1:=stKp s O HA B1
 clear hb HQ HM B1
 go_wp2_with (first
  | ((with_reducible refine stA 28 ?_ (ansE 7) ?_ Q1 ?_ ?_ (ansE_one _) ?_);rfl;rfl;rfl;rfl;intro wz QZ FZ))
 refine bodyPost_ret (ansR Tryz.results46 QZ rfl rfl) rfl ?_
 exact DoR.fl 7 0 0 0 M1 S1 FZ
set_option maxRecDepth 100000 in
theorem id_revoke_any (x:Nat×TnP) (h:IdM w O s blocks T m bs) (hc:c.Ok) (hf:fnd bs (c.hd/4294967296)=some x) (hk:checkH x.2.A (c.hd%4294967296) 0=0) (q hh:Nat) (hqe:c.hd/4294967296=q) (hhe:c.hd%4294967296=hh) (hal:x.2.A.length<1000000) (ot oq:Nat) (hot:c.oth/4294967296=oq) (hoh:c.oth%4294967296=ot) (hn:oq=q):
 Calls Tryz.prog 46 #[.pointer (some ⟨s,0,none⟩),.agg c.cs] w (DoR s blocks w O (errA ((revokeH x.2.A hh ot).1:Int)) (updT q (setA x.2 (revokeH x.2.A hh ot).2) T)):=by
 obtain⟨cb,mo,sm,nb,es,ht⟩:=h.all x (fnd_mem hf).1
 obtain⟨w0,hw0,ha,hcb,hqb⟩:=preX w c
 unfold CallP.cs at hcb⊢
 go_enter Tryz.func46,Tryz.ntmps46
 go_upto_region 1 with (fail)
 rw[hw0.out]
 clear hw0
 obtain⟨c0,c1,c2,c3,c4,c5,c6,c7,c8,c9,c10,c11,c12,c13⟩:=hcb.c14
 have HA:=zz ha
 have HQ:=zz hqb
 have HB:=zz hcb
 have M0:=h.stp (ctS ha) noF
 have HM:=zz M0
 have T0:=ht.stp (ctS ha) fun h=>h
 have HT:=zz T0
 have HTW:=zz ht
 have HH:=zz (holder_some 0 x cb mo sm nb es M0 hc hf T0)
 rw[hk] at HH
 have CO:=zz hc
 have HFN:=zz hf
 have HMW:=zz h
 have HOKT:=zz (h.ok x (fnd_mem hf).1)
 have HQE:=zz hqe
 rw[hhe] at HH
 have HAL:=zz hal
 have hdv:(c.hd:Int)/4294967296=(q:Int):=by omega
 have hd0:(0:Int)≤(q:Int):=by omega
 have hd1:(q:Int)<4294967296:=by have:=hc.hd;omega
 have QL:Hid (q<4294967296):=zz (by have:=hc.hd;omega)
 have HHO:Hid (u64Ok hh):=zz (by unfold u64Ok;omega)
 have hov:(c.oth:Int)/4294967296=(oq:Int):=by omega
 have ho0:(0:Int)≤(oq:Int):=by omega
 have hmk:=u64_mask32 c.oth hc.oth
 rw[hoh] at hmk
 have OTO:Hid (u64Ok ot):=zz (by unfold u64Ok;omega)
 have hne:((oq:Int) != (q:Int))=false:=by simp;omega
 have hn2:oq=q:=hn
 clear h ha hqb hcb hf hc M0 T0 ht hk hqe hhe hal hot hoh hn
 go_wp2_with fail
 refine HH.out.mono ?_
 rintro e w9 ⟨rfl,hb9⟩
 have B9:=zz hb9
 clear hb9 HH
 have q5:=(HB.out.ab B9.out).cell (k:=5) rfl
 have q6:=(HB.out.ab B9.out).cell (k:=6) rfl
 go_upto_region 6 with (fail)
 have T9:=zz (HT.out.stp (Stp.of (O':=cutTg O w.heap.size) B9.out (fun _=>False) fun _ _=>rfl) fun h=>h)
 have X9:=zz (HB.out.ab B9.out)
 rw[HQE.out] at HFN
 refine wp_wide3 [⟨29,IsR (.pointer (some ⟨x.1,0,none⟩)),[],false⟩,⟨30,IsR (.pointer (some ⟨x.1,0,none⟩)),[0],false⟩,⟨31,IsR (.pointer (some ⟨x.1,3,none⟩)),[1],false⟩,⟨32,IsR (.pointer (some ⟨cb,0,none⟩)),[2],false⟩,⟨33,IsR (.int .u64 (hh:Int)),[],false⟩,⟨34,IsR (.pointer (some ⟨w.heap.size,6,none⟩)),[],false⟩,⟨35,IsR (.int .u64 (c.oth:Int)),[5],false⟩,⟨36,IsR (.int .u64 (ot:Int)),[6],false⟩] (by kernel_rfl) (by kernel_rfl) rfl rfl rfl ⟨?_,?_,?_,?_,?_,?_,?_,?_,trivial⟩ ?_
 · refine okA rfl rfl fun a W hA hb hd=>?_
   have h5:a.tmps[5]?.getD undef = .pointer (some ⟨x.1,0,none⟩):=gt' hA (by simp) rfl
   go_simp
 · refine okA rfl rfl fun a W hA hb hd=>?_
   have h29:a.tmps[29]?.getD undef = .pointer (some ⟨x.1,0,none⟩):=gh (hd 0 (by simp) _ rfl)
   go_simp
 · refine okA rfl rfl fun a W hA hb hd=>?_
   have h30:a.tmps[30]?.getD undef = .pointer (some ⟨x.1,0,none⟩):=gh (hd 1 (by simp) _ rfl)
   go_simp
 · refine okA rfl rfl fun a W hA hb hd=>?_
   have h31:a.tmps[31]?.getD undef = .pointer (some ⟨x.1,3,none⟩):=gh (hd 2 (by simp) _ rfl)
   have hc:W.cell? (⟨x.1,3,none⟩)=some (.pointer (some ⟨cb,0,none⟩)):=(T9.out.box.ab hb).cell (k:=3) rfl
   go_simp
 · refine okA rfl rfl fun a W hA hb hd=>?_
   have h6:a.tmps[6]?.getD undef = .int .u64 (hh:Int):=gt' hA (by simp) rfl
   go_simp
 · refine okA rfl rfl fun a W hA hb hd=>?_
   have h3:a.tmps[3]?.getD undef = .pointer (some ⟨w.heap.size,0,none⟩):=gt' hA (by simp) rfl
   go_simp
 · refine okA rfl rfl fun a W hA hb hd=>?_
   have h34:a.tmps[34]?.getD undef = .pointer (some ⟨w.heap.size,6,none⟩):=gh (hd 5 (by simp) _ rfl)
   have hc:W.cell? (⟨w.heap.size,6,none⟩)=some (.int .u64 (c.oth:Int)):=(X9.out.ab hb).cell (k:=6) rfl
   go_simp
 · refine okA rfl rfl fun a W hA hb hd=>?_
   have h35:a.tmps[35]?.getD undef = .int .u64 (c.oth:Int):=gh (hd 6 (by simp) _ rfl)
   go_simp
 intro vs W9 hR hF hb
 have e29:vs 29 = .pointer (some ⟨x.1,0,none⟩):=hR 0 _ rfl
 have e30:vs 30 = .pointer (some ⟨x.1,0,none⟩):=hR 1 _ rfl
 have e31:vs 31 = .pointer (some ⟨x.1,3,none⟩):=hR 2 _ rfl
 have e32:vs 32 = .pointer (some ⟨cb,0,none⟩):=hR 3 _ rfl
 have e33:vs 33 = .int .u64 (hh:Int):=hR 4 _ rfl
 have e34:vs 34 = .pointer (some ⟨w.heap.size,6,none⟩):=hR 5 _ rfl
 have e35:vs 35 = .int .u64 (c.oth:Int):=hR 6 _ rfl
 have e36:vs 36 = .int .u64 (ot:Int):=hR 7 _ rfl
 simp only[List.map_cons,List.map_nil,List.foldl_cons,List.foldl_nil,List.length_cons,List.length_nil,List.drop_succ_cons,List.drop_zero,Act.put,List.setIfInBounds_toArray,List.set_cons_zero,List.set_cons_succ,e29,e30,e31,e32,e33,e34,e35,e36]
 have BW:=zz (below_tr B9.out hb B9.out.size)
 have TW:=zz (T9.out.stp (Stp.of (O':=cutTg O w.heap.size) hb (fun _=>False) fun _ _=>rfl) fun h=>h)
 have XW:=zz (X9.out.ab hb)
 have QW:=zz (HQ.out.ab BW.out)
 have MW:=zz (HM.out.stp (Stp.of (O':=cutTg O w.heap.size) BW.out (fun _=>False) fun _ _=>rfl) fun _ h=>h)
 have XN:Hid (x.2.n=q):=zz (fnd_mem HFN.out).2
 clear hR hF hb
 have HC:=zz (revokeA_any TW.out.caps HHO.out OTO.out HAL.out)
 go_wp2_with fail
 refine HC.out.mono ?_
 intro e w1 hr
 obtain⟨rfl,mo',O1,k1,t1⟩:=caps_step TW.out XN.out hr
 have M1:=zz (MW.out.upd (t':=setA x.2 ((revokeH x.2.A hh ot).2)) HFN.out k1 XN.out (setA_ok _ HOKT.out) ⟨_,_,_,_,_,t1⟩)
 have nz:¬((0,0):Nat×Nat)=(s,q):=fun e=>by injection e with _ e;have h1:=HOKT.out.n1;have h2:=XN.out;omega
 have Q1:Hid (CbB w1 (w.heap.size+1) 44 (ansE 0)):=zz ((k1.ot (k:=w.heap.size+1) QW.out.lt (cutTg_at (Nat.le_succ _)) nz).1.trans QW.out)
 have G1:Hid (O1 (w.heap.size+1)=some (0,0)):=zz ((k1.tg _ QW.out.lt).trans (cutTg_at (Nat.le_succ _)))
 have x1:CbB w1 w.heap.size 37 _:=(k1.ot (k:=w.heap.size) XW.out.lt (cutTg_at (Nat.le_refl _)) nz).1.trans XW.out
 have x5:w1.cell? ⟨w.heap.size,5,none⟩=some (.int .u64 (c.hd:Int)):=x1.cell (k:=5) rfl
 have S1:Hid (Stp (fun τ=>τ.1=s) w O w1 O1):=zz (((Stp.cut HA.out _).ab BW.out).tr (k1.imp fun τ e=>by rw[e]))
 clear k1 t1 hr nz x1
 have HF:=zz (fails_any ((revokeH x.2.A hh ot).1:Int) w1)
 go_wp2_with fail
 refine HF.out.mono ?_
 rintro e w2 ⟨rfl,hb2⟩
 have Q1:=zz (Q1.out.ab hb2)
 have M1:=zz (M1.out.stp (Stp.of hb2 (fun _=>False) fun _ _=>rfl) fun _ h=>h)
 have S1:=zz (S1.out.ab hb2)
 clear hb2 HF
 go_wp2_with (first
  | ((with_reducible refine stA 38 ?_ (ansE ((revokeH x.2.A hh ot).1:Int)) ?_ Q1 ?_ ?_ (ansE_one _) ?_);rfl;rfl;rfl;rfl;intro wz QZ FZ))
 refine bodyPost_ret (ans_results Tryz.results46 _ _ (w.heap.size+1) (ansE ((revokeH x.2.A hh ot).1:Int)) rfl QZ.out rfl) rfl ?_
 exact DoR.flat ((revokeH x.2.A hh ot).1:Int) 0 0 0 ⟨m,_,M1.out.stp (Stp.box FZ.out G1.out) fun i e=>by have:=M1.out.pos;injection e with e;omega⟩ (S1.out.fresh FZ.out (Nat.le_succ _))
end
theorem row_frX {w w':World} {B n s g:Nat} {e:TypeId} {v:Value} {xs:List Value} (h:w.ownsRow B e s v n xs) (k:Fr w w' (fun q=>q=g)) (hg:g<B):w'.ownsRow B e s v n xs:=by
 refine row_fr h k fun q hq e1=>?_
 rcases h.2 with ⟨rfl,_⟩ | ⟨g',cap,cur,rfl,hb,_⟩
 · cases hq
 · simp only[Value.ownBlock,Option.some.injEq] at hq
   omega
theorem OwB.frX {w w':World} {B g:Nat} {v:Value} {l:List Nat} (h:OwB w B v l) (k:Fr w w' (fun q=>q=g)) (hg:g<B):OwB w' B v l:=h.fr k fun q hq e=>by have:=h.lt q hq;omega
theorem KyB.frX {w w':World} {B g:Nat} {v:Value} {l:List Nat} (h:KyB w B v l) (k:Fr w w' (fun q=>q=g)) (hg:g<B):KyB w' B v l:=by
 obtain⟨g',n,cap,cs,fr,rfl,h1,h2,h3,h4⟩:=h
 exact⟨g',n,cap,cs,fr,rfl,h1,(k.block g' (lt_of_block h2) (by omega)).trans h2,isB_frZ h3 k fun hn x e=>by injection e with e;rw[←e];show ¬g'=g;omega,h4⟩
theorem KyB.lower {w:World} {B B':Nat} {v:Value} {l:List Nat} (h:KyB w B v l) (hB:B'≤B):KyB w B' v l:=by
 obtain⟨g',n,cap,cs,fr,rfl,h1,h2⟩:=h
 exact⟨g',n,cap,cs,fr,rfl,Nat.le_trans hB h1,h2⟩
theorem AnsB.frX {w w':World} {C g:Nat} {O:Tg} {cs:Array Value} {a:AnsP} (h:AnsB w C O cs a) (k:Fr w w' (fun q=>q=g)) (hg:g<C):AnsB w' C O cs a:=by
 obtain⟨⟨v,p,l,rfl,h1,h2,⟨vs,p1,p2,p3,p4⟩,h4,h5⟩⟩:=h
 exact⟨⟨v,p,l,rfl,h1.frX k hg,h2,⟨vs,row_frX p1 k hg,p2,p3,fun i x y hx hy=>by
  obtain⟨⟨kk,q1,q2⟩,q3,q4,q5⟩:=p4 i x y hx hy
  exact⟨⟨kk,q1.frX k hg,q2⟩,q3.frX k hg,q4,q5⟩⟩,row_frX h4 k hg,h5⟩⟩
theorem AnsB.lower {w:World} {C C':Nat} {O:Tg} {cs:Array Value} {a:AnsP} (h:AnsB w C O cs a) (hC:C'≤C):AnsB w C' O cs a:=by
 obtain⟨⟨v,p,l,rfl,h1,h2,⟨vs,p1,p2,p3,p4⟩,h4,h5⟩⟩:=h
 exact⟨⟨v,p,l,rfl,h1.lower hC,h2,⟨vs,row_low p1 hC,p2,p3,fun i x y hx hy=>by
  obtain⟨⟨kk,q1,q2⟩,q3,q4,q5⟩:=p4 i x y hx hy
  exact⟨⟨kk,q1.lower hC,q2⟩,q3.lower hC,q4,q5⟩⟩,row_low h4 hC,h5⟩⟩
theorem row_sl {w:World} {B n s:Nat} {e:TypeId} {v:Value} {xs:List Value} (h:w.ownsRow B e s v n xs):∃A m c,v = .slice A m c:=by
 rcases h.2 with ⟨rfl,_⟩ | ⟨g',cap,cur,rfl,_⟩
 · exact⟨_,_,_,rfl⟩
 · exact⟨_,_,_,rfl⟩
theorem AnsB.one {w:World} {C:Nat} {O:Tg} {cs:Array Value} {a:AnsP} (h:AnsB w C O cs a):cs.size=7∧cs.all (·.oneCell')=true:=by
 obtain⟨⟨v,p,l,rfl,h1,h2,⟨vs,p1,p2,p3,p4⟩,h4,h5⟩⟩:=h
 refine⟨rfl,?_⟩
 obtain⟨A1,n1,c1,rfl⟩:=row_sl h1.own
 obtain⟨A2,n2,c2,rfl⟩:=row_sl p1
 obtain⟨A3,n3,c3,rfl⟩:=row_sl h4
 simp[Value.oneCell']
theorem szAnsX {cs:Array Value} (h:cs.size=7):(Tryz.prog.info? 44).map (·.size)=some cs.size:=by rw[h];exact szAns
theorem eq_fn0 (W:World):(binOp .eql 75 .nilFunc .nilFunc).run Tryz.prog W = .ok (.bool true) W:=by
 have h:(Op.equalIn 10000 75 .nilFunc .nilFunc).run Tryz.prog W = .ok true W:=by
  unfold Op.equalIn
  simp[run_underlying Tryz.underlying75,Result.andThen]
 simp only[binOp,Op.equal,Op.maxDepth,Sem.run_bind,h,Result.andThen_ok,Sem.run_pure]
theorem eq_fn1 (g:Nat) (W:World):(binOp .eql 75 (.func (.func g) #[] #[]) .nilFunc).run Tryz.prog W = .ok (.bool false) W:=by
 have h:(Op.equalIn 10000 75 (.func (.func g) #[] #[]) .nilFunc).run Tryz.prog W = .ok false W:=by
  unfold Op.equalIn
  simp[run_underlying Tryz.underlying75,Result.andThen]
 simp only[binOp,Op.equal,Op.maxDepth,Sem.run_bind,h,Result.andThen_ok,Sem.run_pure]
section
variable {w:World} {O:Tg} {s blocks m:Nat} {T:List TnP} {bs:List (Nat×TnP)} {c:CallP}
set_option maxRecDepth 100000 in
theorem do_of (fid:Nat) (h:IdM w O s blocks T m bs) (hk:ckOk c.kind) (hl:lookL c.kind howL=some (.func (.func fid) #[] #[])) (eg:∀args w,(callFunc fid args).run Tryz.prog w = .ok (.enter fid args) w) (a:AnsP) (T2:List TnP) (hcall:∀W,Below w.heap.size w W→IdM W (cutTg O w.heap.size) s blocks T m bs→Calls Tryz.prog fid #[.pointer (some ⟨s,0,none⟩),.agg c.cs] W (DoR s blocks W (cutTg O w.heap.size) a T2)):
 Calls Tryz.prog 8 #[.pointer (some ⟨s,0,none⟩),.agg c.cs] w (DoR s blocks w O a T2):=by
 obtain⟨w0,hw0,ha,hcb,hqb⟩:=preX w c
 unfold CallP.cs at hcb⊢
 go_enter Tryz.func8,Tryz.ntmps8
 go_upto_region 1 with (fail)
 rw[hw0.out]
 clear hw0
 have HA:=zz ha
 have HQ:=zz hqb
 have HB:=zz hcb
 have M0:=h.stp (ctS ha) noF
 have HM:=zz M0
 have c0:=hcb.cell (k:=0) rfl
 have HN:=zz (none_no s m _ w0 M0.box)
 have HW:=zz fun W=>how_any c.kind hk W
 rw[hl] at HW
 have HCL:=zz hcall
 have HEG:=zz eg
 have hq:=fun W=>eq_fn1 fid W
 clear h ha hqb hcb hk hl hcall eg M0
 go_wp2_with fail
 refine HN.out.mono ?_
 rintro e w1 ⟨rfl,rfl⟩
 go_wp2_with fail
 refine (HW.out _).mono ?_
 rintro e w1 ⟨rfl,hb⟩
 have B1:=zz hb
 have BB1:=zz (below_tr HA.out hb HA.out.size)
 have M1:=zz (HM.out.stp (Stp.of hb (fun _=>False) fun _ _=>rfl) fun _ h=>h)
 have Q1:=zz (HQ.out.ab hb)
 have X1:=HB.out.ab hb
 have x0:w1.cell? ⟨w.heap.size,0,none⟩=some (.int .i64 c.kind):=X1.cell (k:=0) rfl
 have x1:w1.cell? ⟨w.heap.size,1,none⟩=some (.int .u32 (c.ten:Int)):=X1.cell (k:=1) rfl
 have x2:w1.cell? ⟨w.heap.size,2,none⟩=some (.slice c.sec.A c.sec.n c.sec.c):=X1.cell (k:=2) rfl
 have x3:w1.cell? ⟨w.heap.size,3,none⟩=some (.int .i64 c.quota):=X1.cell (k:=3) rfl
 have x4:w1.cell? ⟨w.heap.size,4,none⟩=some (.int .i64 c.n):=X1.cell (k:=4) rfl
 have x5:w1.cell? ⟨w.heap.size,5,none⟩=some (.int .u64 (c.hd:Int)):=X1.cell (k:=5) rfl
 have x6:w1.cell? ⟨w.heap.size,6,none⟩=some (.int .u64 (c.oth:Int)):=X1.cell (k:=6) rfl
 have x7:w1.cell? ⟨w.heap.size,7,none⟩=some (.int .u64 (c.sn:Int)):=X1.cell (k:=7) rfl
 have x8:w1.cell? ⟨w.heap.size,8,none⟩=some (.int .u8 (c.rt:Int)):=X1.cell (k:=8) rfl
 have x9:w1.cell? ⟨w.heap.size,9,none⟩=some (.slice c.oA c.oN c.oC):=X1.cell (k:=9) rfl
 have x10:w1.cell? ⟨w.heap.size,10,none⟩=some (.slice c.key.A c.key.n c.key.c):=X1.cell (k:=10) rfl
 have x11:w1.cell? ⟨w.heap.size,11,none⟩=some (.slice c.frm.A c.frm.n c.frm.c):=X1.cell (k:=11) rfl
 have x12:w1.cell? ⟨w.heap.size,12,none⟩=some (.slice c.upto.A c.upto.n c.upto.c):=X1.cell (k:=12) rfl
 have x13:w1.cell? ⟨w.heap.size,13,none⟩=some (.bool c.back):=X1.cell (k:=13) rfl
 have HCC:=zz (HCL.out w1 BB1.out M1.out)
 unfold CallP.cs at HCC
 clear hb HW HN HM HQ c0 X1
 go_upto_region 6 with (fail)
 go_wp2_with fail
 rw[HEG.out]
 simp only[Oper.upon]
 refine HCC.out.mono ?_
 rintro e w2 ⟨cs2,O2,rfl,an,ib,st⟩
 have N1:Hid (w.heap.size+1<w1.heap.size):=zz Q1.out.lt
 have one:=an.one
 have Q2:=zz (show CbB w2 (w.heap.size+1) 44 (ansE 0) from (st.ot N1.out (cutTg_at (Nat.le_succ _)) (fun e=>by have:=M1.out.pos;simp at e;omega)).1.trans Q1.out)
 have TG:Hid (O2 (w.heap.size+1)=some (0,0)):=zz ((st.tg _ N1.out).trans (cutTg_at (Nat.le_succ _)))
 have AN:=zz an
 have IB:=zz ib
 have ST:Hid (Stp (fun τ=>τ.1=s) w O w2 O2):=zz (((Stp.cut BB1.out _)).tr st)
 have N0:Hid (w.heap.size≤w1.heap.size):=zz BB1.out.size
 have SZ:=zz one.1
 have ON:=zz one.2
 clear an ib st one HCC HCL x0 x1 x2 x3 x4 x5 x6 x7 x8 x9 x10 x11 x12 x13
 go_wp2_with (first
  | (with_reducible refine wpList_storeC (o:=⟨none,.store _ (.tmp 4) (.tmp 18),_,_,_,_⟩) ?_ 44 (.tmp 4) (.tmp 18) ?_ (w.heap.size+1) ?_ (cs2) ?_ (cs:=ansE 0) (t:=44) Q2.out (szAnsX SZ.out) ?_ ON.out ?_
     · rfl
     · rfl
     · rfl
     · rfl
     · exact SZ.out.symm
     intro wz hwz
     have QZ:Hid (CbB wz (w.heap.size+1) 44 (cs2)):=zz (by rw[hwz];exact CbB.row Q2.out _)
     have FZ:Hid (Fr w2 wz (fun k=>k=(w.heap.size+1))):=zz (by rw[hwz];exact fr_rowX _ _ _)
     clear hwz))
 refine bodyPost_ret (ans_results Tryz.results8 _ _ (w.heap.size+1) (cs2) rfl QZ.out SZ.out) rfl ?_
 obtain⟨mz,bz,MZ⟩:=IB.out
 exact⟨cs2,O2,rfl,(AN.out.frX FZ.out N1.out).lower N0.out,⟨mz,bz,MZ.stp (Stp.box FZ.out TG.out) fun i e=>by have:=M1.out.pos;simp at e;omega⟩,ST.out.fresh FZ.out (Nat.le_succ _)⟩
end
open Go.Shelf Go.Proofs
def lyDel_ren:Go.Shelf.Ren:=⟨fun | 10=>85 | 6=>112 | n=>n,fun | 22=>88 | 23=>9 | 25=>140 | 3=>3 | 4=>4 | 0=>0 | n=>n,fun | n=>n⟩
theorem lyDel:Go.Proofs.SlLaysH.n10 Tryz.prog lyDel_ren:={
 mixed:=by kernel_rfl
 f6:=⟨Tryz.f112.name,by decide,Tryz.func112.trans (congrArg some (by kernel_rfl))⟩
 f10:=⟨Tryz.f85.name,by decide,Tryz.func85.trans (congrArg some (by kernel_rfl))⟩
 t0:=Tryz.underlying0
 a0:=Tryz.isAgg0
 z0:=Tryz.sizeOf0
 v0:=Tryz.zeroValue0
 t3:=Tryz.underlying3
 a3:=Tryz.isAgg3
 z3:=Tryz.sizeOf3
 v3:=Tryz.zeroValue3
 t4:=Tryz.underlying4
 a4:=Tryz.isAgg4
 z4:=Tryz.sizeOf4
 v4:=Tryz.zeroValue4
 t22:=Tryz.underlying88
 a22:=Tryz.isAgg88
 z22:=Tryz.sizeOf88
 v22:=Tryz.zeroValue88
 a23:=Tryz.isAgg9
 z23:=Tryz.sizeOf9
 t25:=Tryz.underlying140
 a25:=Tryz.isAgg140
 z25:=Tryz.sizeOf140
 v25:=Tryz.zeroValue140 }
def lyRev_ren:Go.Shelf.Ren:=⟨fun | 36=>87 | n=>n,fun | 25=>88 | 26=>9 | 3=>3 | 4=>4 | 0=>0 | n=>n,fun | n=>n⟩
theorem lyRev:Go.Proofs.SlLaysN.n36 Tryz.prog lyRev_ren:={
 mixed:=by kernel_rfl
 f36:=⟨Tryz.f87.name,by decide,Tryz.func87.trans (congrArg some (by kernel_rfl))⟩
 t0:=Tryz.underlying0
 a0:=Tryz.isAgg0
 z0:=Tryz.sizeOf0
 v0:=Tryz.zeroValue0
 t3:=Tryz.underlying3
 a3:=Tryz.isAgg3
 z3:=Tryz.sizeOf3
 v3:=Tryz.zeroValue3
 t4:=Tryz.underlying4
 a4:=Tryz.isAgg4
 z4:=Tryz.sizeOf4
 v4:=Tryz.zeroValue4
 t25:=Tryz.underlying88
 a25:=Tryz.isAgg88
 z25:=Tryz.sizeOf88
 v25:=Tryz.zeroValue88
 t26:=Tryz.underlying9
 a26:=Tryz.isAgg9
 z26:=Tryz.sizeOf9
 v26:=Tryz.zeroValue9 }
def lySort_ren:Go.Shelf.Ren:=⟨fun | 6=>97 | 8=>121 | 9=>120 | 19=>135 | 20=>136 | 21=>126 | 22=>127 | 23=>128 | 24=>129 | 25=>130 | 26=>131 | 27=>132 | 28=>133 | 29=>134 | 36=>147 | 31=>148 | 32=>149 | 37=>150 | 38=>151 | 39=>152 | 41=>157 | n=>n,fun | 27=>88 | 29=>9 | 3=>3 | 32=>107 | 26=>88 | 0=>0 | 44=>31 | 46=>33 | 4=>4 | 36=>182 | 35=>181 | 41=>187 | 5=>5 | 9=>9 | 53=>198 | 57=>202 | 63=>206 | 64=>207 | n=>n,fun | n=>n⟩
theorem lySort:Go.Proofs.SlLaysM.n6 Tryz.prog lySort_ren:={
 mixed:=by kernel_rfl
 f6:=⟨Tryz.f97.name,by decide,Tryz.func97.trans (congrArg some (by kernel_rfl))⟩
 f8:=Tryz.func121.trans (congrArg some (by kernel_rfl))
 f9:=⟨Tryz.f120.name,by decide,Tryz.func120.trans (congrArg some (by kernel_rfl))⟩
 f19:=Tryz.func135.trans (congrArg some (by kernel_rfl))
 f20:=Tryz.func136.trans (congrArg some (by kernel_rfl))
 f21:=⟨Tryz.f126.name,by decide,Tryz.func126.trans (congrArg some (by kernel_rfl))⟩
 f22:=⟨Tryz.f127.name,by decide,Tryz.func127.trans (congrArg some (by kernel_rfl))⟩
 f23:=⟨Tryz.f128.name,by decide,Tryz.func128.trans (congrArg some (by kernel_rfl))⟩
 f24:=⟨Tryz.f129.name,by decide,Tryz.func129.trans (congrArg some (by kernel_rfl))⟩
 f25:=⟨Tryz.f130.name,by decide,Tryz.func130.trans (congrArg some (by kernel_rfl))⟩
 f26:=⟨Tryz.f131.name,by decide,Tryz.func131.trans (congrArg some (by kernel_rfl))⟩
 f27:=⟨Tryz.f132.name,by decide,Tryz.func132.trans (congrArg some (by kernel_rfl))⟩
 f28:=⟨Tryz.f133.name,by decide,Tryz.func133.trans (congrArg some (by kernel_rfl))⟩
 f29:=⟨Tryz.f134.name,by decide,Tryz.func134.trans (congrArg some (by kernel_rfl))⟩
 f31:=Tryz.func148.trans (congrArg some (by kernel_rfl))
 f32:=Tryz.func149.trans (congrArg some (by kernel_rfl))
 f36:=⟨Tryz.f147.name,by decide,Tryz.func147.trans (congrArg some (by kernel_rfl))⟩
 f37:=⟨Tryz.f150.name,by decide,Tryz.func150.trans (congrArg some (by kernel_rfl))⟩
 f38:=⟨Tryz.f151.name,by decide,Tryz.func151.trans (congrArg some (by kernel_rfl))⟩
 f39:=⟨Tryz.f152.name,by decide,Tryz.func152.trans (congrArg some (by kernel_rfl))⟩
 f41:=⟨Tryz.f157.name,by decide,Tryz.func157.trans (congrArg some (by kernel_rfl))⟩
 t0:=Tryz.underlying0
 a0:=Tryz.isAgg0
 z0:=Tryz.sizeOf0
 v0:=Tryz.zeroValue0
 t3:=Tryz.underlying3
 a3:=Tryz.isAgg3
 z3:=Tryz.sizeOf3
 v3:=Tryz.zeroValue3
 t4:=Tryz.underlying4
 a4:=Tryz.isAgg4
 z4:=Tryz.sizeOf4
 v4:=Tryz.zeroValue4
 t5:=Tryz.underlying5
 a5:=Tryz.isAgg5
 z5:=Tryz.sizeOf5
 v5:=Tryz.zeroValue5
 t9:=Tryz.underlying9
 a9:=Tryz.isAgg9
 z9:=Tryz.sizeOf9
 v9:=Tryz.zeroValue9
 t26:=Tryz.underlying88
 a26:=Tryz.isAgg88
 z26:=Tryz.sizeOf88
 v26:=Tryz.zeroValue88
 t27:=Tryz.underlying88
 a27:=Tryz.isAgg88
 z27:=Tryz.sizeOf88
 v27:=Tryz.zeroValue88
 t29:=Tryz.underlying9
 a29:=Tryz.isAgg9
 z29:=Tryz.sizeOf9
 v29:=Tryz.zeroValue9
 t32:=Tryz.underlying107
 a32:=Tryz.isAgg107
 z32:=Tryz.sizeOf107
 v32:=Tryz.zeroValue107
 t35:=Tryz.underlying181
 a35:=Tryz.isAgg181
 z35:=Tryz.sizeOf181
 v35:=Tryz.zeroValue181
 t36:=Tryz.underlying182
 a36:=Tryz.isAgg182
 z36:=Tryz.sizeOf182
 v36:=Tryz.zeroValue182
 t41:=Tryz.underlying187
 a41:=Tryz.isAgg187
 z41:=Tryz.sizeOf187
 v41:=Tryz.zeroValue187
 t44:=Tryz.underlying31
 a44:=Tryz.isAgg31
 z44:=Tryz.sizeOf31
 v44:=Tryz.zeroValue31
 t46:=Tryz.underlying33
 a46:=Tryz.isAgg33
 z46:=Tryz.sizeOf33
 v46:=Tryz.zeroValue33
 t53:=Tryz.underlying198
 a53:=Tryz.isAgg198
 z53:=Tryz.sizeOf198
 v53:=Tryz.zeroValue198
 t57:=Tryz.underlying202
 a57:=Tryz.isAgg202
 z57:=Tryz.sizeOf202
 v57:=Tryz.zeroValue202
 t63:=Tryz.underlying206
 a63:=Tryz.isAgg206
 z63:=Tryz.sizeOf206
 v63:=Tryz.zeroValue206
 t64:=Tryz.underlying207
 a64:=Tryz.isAgg207
 z64:=Tryz.sizeOf207
 v64:=Tryz.zeroValue207 }
def lySorted_ren:Go.Shelf.Ren:=⟨fun | 6=>67 | 8=>96 | 9=>97 | 11=>119 | 13=>121 | 12=>120 | 23=>135 | 24=>136 | 14=>126 | 15=>127 | 16=>128 | 17=>129 | 18=>130 | 19=>131 | 20=>132 | 21=>133 | 22=>134 | 25=>147 | 26=>148 | 27=>149 | 28=>150 | 29=>151 | 30=>152 | 31=>157 | n=>n,fun | 26=>9 | 28=>121 | 24=>88 | 0=>0 | 3=>3 | 37=>107 | 48=>31 | 50=>33 | 4=>4 | 40=>182 | 39=>181 | 45=>187 | 5=>5 | 9=>9 | 51=>198 | 55=>202 | 57=>206 | 58=>207 | 33=>140 | n=>n,fun | n=>n⟩
theorem lySorted:Go.Proofs.SlLaysZ.n6 Tryz.prog lySorted_ren:={
 mixed:=by kernel_rfl
 f6:=⟨Tryz.f67.name,by decide,Tryz.func67.trans (congrArg some (by kernel_rfl))⟩
 f8:=⟨Tryz.f96.name,by decide,Tryz.func96.trans (congrArg some (by kernel_rfl))⟩
 f11:=⟨Tryz.f119.name,by decide,Tryz.func119.trans (congrArg some (by kernel_rfl))⟩
 t0:=Tryz.underlying0
 a0:=Tryz.isAgg0
 z0:=Tryz.sizeOf0
 v0:=Tryz.zeroValue0
 t24:=Tryz.underlying88
 a24:=Tryz.isAgg88
 z24:=Tryz.sizeOf88
 v24:=Tryz.zeroValue88
 t26:=Tryz.underlying9
 a26:=Tryz.isAgg9
 z26:=Tryz.sizeOf9
 v26:=Tryz.zeroValue9
 t28:=Tryz.underlying121
 a28:=Tryz.isAgg121
 z28:=Tryz.sizeOf121
 v28:=Tryz.zeroValue121
 i26:=by kernel_rfl }
def lyKeys_ren:Go.Shelf.Ren:=⟨fun | 7=>68 | 10=>98 | n=>n,fun | 23=>67 | 26=>9 | 3=>32 | 28=>121 | 0=>0 | 27=>120 | 33=>140 | 4=>4 | n=>n,fun | n=>n⟩
theorem lyKeys:Go.Proofs.SlLaysZ.n7 Tryz.prog lyKeys_ren:={
 mixed:=by kernel_rfl
 f7:=⟨Tryz.f68.name,by decide,Tryz.func68.trans (congrArg some (by kernel_rfl))⟩
 f10:=⟨Tryz.f98.name,by decide,Tryz.func98.trans (congrArg some (by kernel_rfl))⟩
 t0:=Tryz.underlying0
 a0:=Tryz.isAgg0
 z0:=Tryz.sizeOf0
 v0:=Tryz.zeroValue0
 t4:=Tryz.underlying4
 a4:=Tryz.isAgg4
 z4:=Tryz.sizeOf4
 v4:=Tryz.zeroValue4
 t23:=Tryz.underlying67
 a23:=Tryz.isAgg67
 z23:=Tryz.sizeOf67
 v23:=Tryz.zeroValue67
 t26:=Tryz.underlying9
 a26:=Tryz.isAgg9
 z26:=Tryz.sizeOf9
 v26:=Tryz.zeroValue9
 t27:=Tryz.underlying120
 a27:=Tryz.isAgg120
 z27:=Tryz.sizeOf120
 v27:=Tryz.zeroValue120
 t28:=Tryz.underlying121
 a28:=Tryz.isAgg121
 z28:=Tryz.sizeOf121
 v28:=Tryz.zeroValue121
 t33:=Tryz.underlying140
 a33:=Tryz.isAgg140
 z33:=Tryz.sizeOf140
 v33:=Tryz.zeroValue140 }
end Go.Proofs.YtgdhinjhbjolgaaGreat
