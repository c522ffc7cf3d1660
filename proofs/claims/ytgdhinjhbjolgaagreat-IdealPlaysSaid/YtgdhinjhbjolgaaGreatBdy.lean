/-
  Parts of the proof, joined.
-/
import Derived.Test.YtgdhinjhbjolgaaGreatBdx
import Derived.Maps.AppendAt
namespace Go.Proofs.YtgdhinjhbjolgaaGreat
set_option maxHeartbeats 64000000
open Go.RowKit
set_option linter.unusedVariables false
set_option linter.unusedSimpArgs false
theorem row_freeZ {w:World} {B n s gb c:Nat} {e:TypeId} {xs:List Value} (h:w.ownsRow B e s (.slice (some ⟨gb,0,none⟩) n c) n xs) (k:Nat):w.frozen? ⟨gb,k,none⟩=false:=by
 rcases h.2 with ⟨hh,_⟩ | ⟨g',cap,cur,hh,_,hb,_⟩
 · cases hh
 · injection hh with h3 _ _
   injection h3 with h3
   injection h3 with h3
   subst h3
   exact frozen_of_row w gb k _ _ hb
theorem seenP_snP {t:TnP} {sn:Nat} (h:sn≠0):seenP t sn=snP t sn:=by
 unfold seenP snP
 rw[if_neg h,if_neg h]
 cases t.sn[sn-1]? with
 | none=>rfl
 | some p=>obtain⟨S,b⟩:=p;cases b <;> rfl
theorem wrap_i64Z {z:Int} (h0:0≤z) (h1:z≤9000000000000):IntKind.i64.wrap z=z:=by
 obtain⟨k,hk⟩:∃k:Nat,(k:Int)=z:=⟨z.toNat,by omega⟩
 subst hk
 have h:k<9223372036854775808:=by omega
 simp only[IntKind.wrap]
 have:IntKind.i64.bits=64:=rfl
 simp[IntKind.signed,IntKind.bits]
 omega
theorem flat_set {vs:List (Value×Value)} {i:Nat} {q:Value×Value} (h:vs[i]? = some q) (u:Value):(vs.set i (q.1,u)).flatMap (fun p=>[p.1,p.2])=(vs.flatMap fun p=>[p.1,p.2]).set (i*2+1) u:=by
 induction vs generalizing i with
 | nil=>simp at h
 | cons p r ih=>
   cases i with
   | zero=>simp at h;subst h;simp
   | succ i=>
     rw[List.set_cons_succ,List.flatMap_cons,List.flatMap_cons,ih (by simpa using h)]
     simp only[List.cons_append,List.nil_append]
     rw[show (i+1)*2+1=(i*2+1)+1+1 by omega,List.set_cons_succ,List.set_cons_succ]
theorem RtM.snS {w w1:World} {O:Tg} {r b c:Nat} {t:TnP} {mv cv sv sv':Value} {l:Bk2} {sn':List (Bk2×Bool)} {vs':List (Value×Value)} (h:RtM w O r b t mv l c cv sv) (k:Fr w w1 (fun q=>q=b∨sv.ownBlock=some q))
 (hb:CbB w1 b 83 #[.int .u32 (t.n:Int),.string (strOf t.sec),.int .i64 (t.q:Int),mv,.pointer (some ⟨c,0,none⟩),sv',.bool t.tu])
 (hr:w1.ownsRow 0 117 2 sv' sn'.length (vs'.flatMap fun p=>[p.1,p.2])) (hl:vs'.length=sn'.length)
 (he:∀(i:Nat) (q:Value×Value) (p:Bk2×Bool),vs'[i]? = some q→sn'[i]? = some p→q.2 = .bool p.2∧∃l,MpR w O q.1 p.1 l)
 (ho:sv'.ownBlock=sv.ownBlock∨∃k,sv'.ownBlock=some k∧w.heap.size≤k):
 RtM w1 (opnTg O w.heap.size r t.n) r b (setSn t sn') mv l c cv sv'∧Stp (fun τ=>τ=(r,t.n)) w O w1 (opnTg O w.heap.size r t.n):=by
 have st:Stp (fun τ=>τ=(r,t.n)) w O w1 (opnTg O w.heap.size r t.n):=⟨k.imp fun k hk=>by
  rcases hk with rfl | hk
  · exact⟨_,h.tb,rfl⟩
  · exact⟨_,h.ts k hk,rfl⟩,fun k hk=>opnTg_lt hk⟩
 obtain⟨xs,hs⟩:=h.sns.own
 refine⟨⟨hb,h.now.stp st,h.caps.fr k (fun e=>?_) (fun g hg e=>?_),h.ra,⟨vs',hr,hl,fun i q p hq hp=>?_⟩,(opnTg_lt h.box.lt).trans h.tb,(opnTg_lt h.caps.box.lt).trans h.tc,fun g hg=>(opnTg_lt (row_ltR h.caps.own g hg)).trans (h.tv g hg),fun g hg=>?_⟩,st⟩
 · rcases e with e | e
   · exact absurd e (cb_neX h.caps.box h.box (by decide))
   · exact row_ne hs h.caps.box (by decide) e
 · rcases e with e | e
   · exact row_ne h.caps.own h.box (by decide) (by rw[hg,e])
   · exact row_ne2 hs h.caps.own (by decide) g hg e
 · obtain⟨a1,l9,a2⟩:=he i q p hq hp
   exact⟨a1,l9,a2.stp st⟩
 · rcases ho with e | ⟨k,e,hk⟩
   · rw[e] at hg
     exact (opnTg_lt (row_ltR hs g hg)).trans (h.ts g hg)
   · rw[e] at hg
     injection hg with hg
     subst hg
     exact opnTg_ge hk
def RtnC (r:Nat) (x:Nat×TnP) (c:CallP) (T:List TnP) (q ck:Nat) (a:AnsP) (T':List TnP):Prop:=
 (0<ck∧a=errA (ck:Int)∧T'=T)∨
 (c.kind=16∧ck=0∧a=cntA (chg x.2.now+sumS (liveC x.2.sn))∧T'=T)∨
 (c.kind=12∧ck=0∧T'=T∧(∀W O' mv l cb cv sv,RtM W O' r x.1 x.2 mv l cb cv sv→c.B W→Calls Tryz.prog 66 #[.pointer (some ⟨x.1,0,none⟩),.agg c.cs] W (ReadR W a)))∨
 (c.kind=13∧ck=0∧T'=T∧(∀W O' mv l cb cv sv,RtM W O' r x.1 x.2 mv l cb cv sv→c.B W→Calls Tryz.prog 66 #[.pointer (some ⟨x.1,0,none⟩),.agg c.cs] W (ReadR W a)))∨
 (c.kind=11∧ck=0∧∃t':TnP,T'=updT (q) t' T∧t'.n=x.2.n∧TnOk t'∧(∀W O' mv l cb cv sv,RtM W O' r x.1 x.2 mv l cb cv sv→c.B W→Calls Tryz.prog 62 #[.pointer (some ⟨x.1,0,none⟩),.slice c.oA c.oN c.oC] W (RtR r x.1 W O' a t')))∨
 (c.kind=9∧ck=0∧∃(g er:Nat) (A':HL),a=errA (er:Int)∧T'=updT (q) (setA x.2 A') T∧giveH x.2.A (c.hd%4294967296) c.rt=((g,er),A')∧0<er)∨
 (c.kind=9∧ck=0∧∃(g:Nat) (A':HL),a=hdA (q*4294967296+g)∧T'=updT (q) (setA x.2 A') T∧giveH x.2.A (c.hd%4294967296) c.rt=((g,0),A')∧g<4294967296)∨
 (c.kind=10∧ck=0∧a=errA 7∧T'=T∧¬c.oth/4294967296=q)∨
 (c.kind=10∧ck=0∧∃(er:Nat) (A':HL),a=errA (er:Int)∧T'=updT (q) (setA x.2 A') T∧c.oth/4294967296=q∧revokeH x.2.A (c.hd%4294967296) (c.oth%4294967296)=(er,A'))∨
 (c.kind=14∧ck=0∧a=errA 261∧T'=T∧overB (x.2.q:Int) (chg x.2.now) (liveC x.2.sn++[chg x.2.now])=true)∨
 (c.kind=14∧ck=0∧a=snA (x.2.sn.length+1)∧T'=updT (q) (setSn x.2 (x.2.sn++[(x.2.now,false)])) T∧overB (x.2.q:Int) (chg x.2.now) (liveC x.2.sn++[chg x.2.now])=false)∨
 (c.kind=15∧ck=0∧a=errA 262∧T'=T∧c.sn=0)∨
 (c.kind=15∧ck=0∧a=errA 262∧T'=T∧c.sn≠0∧snP x.2 c.sn=none)∨
 (c.kind=15∧ck=0∧∃S:Bk2,a=errA 0∧T'=updT (q) (setSn x.2 (relL x.2.sn c.sn)) T∧c.sn≠0∧snP x.2 c.sn=some S)
section
variable {w:World} {O:Tg} {r blocks:Nat} {T:List TnP} {av:Value} {bs:List (Nat×TnP)} {c:CallP}
set_option maxRecDepth 100000 in
theorem rtn_all (x:Nat×TnP) (h:RfM w O r blocks T av bs) (hl:bs.length≤100000) (hc:c.B w) (hf:fnd bs (c.hd/4294967296)=some x) (hA:x.2.A.length<900) (nd:Nat) (hnd:needP c.kind=nd) (ck:Nat) (hck:checkH x.2.A (c.hd%4294967296) nd=ck) (hlm:LimK 800 x.2) {a:AnsP} {T':List TnP} (hcs:RtnC r x c T (c.hd/4294967296) ck a T'):
 Calls Tryz.prog 31 #[.pointer (some ⟨r,0,none⟩),.agg c.cs] w (RdR r blocks w O a T'):=by
 have HF:=zz fun e W=>rerr_any e W
 have HW:=zz h
 have HLN:=zz hl
 obtain⟨q,hq⟩:∃q,c.hd/4294967296=q:=⟨_,rfl⟩
 obtain⟨hh,hrm⟩:∃hh,c.hd%4294967296=hh:=⟨_,rfl⟩
 have hdv:(c.hd:Int)/4294967296=(q:Int):=by omega
 have hd0:(0:Int)≤(q:Int):=by omega
 have hd1:(q:Int)<4294967296:=by have:=hc.ok.hd;omega
 have hmk:=u64_mask32 c.hd hc.ok.hd
 have HH1:Hid (hh<4294967296):=zz (by omega)
 rw[hq] at hf hcs
 rw[hrm] at hmk hck
 obtain⟨mv,l,cb,cv,sv,ht⟩:=h.all x (fnd_mem hf).1
 have HT:=zz ht
 have HFN:=zz hf
 have XN:=zz (fnd_mem hf).2
 have XM:=zz (fnd_mem hf).1
 have OKX:=zz (h.ok x (fnd_mem hf).1)
 have HAL:=zz hA
 have KI:=zz hc.ok.kind
 have ND:=zz hnd
 have CK:=zz hck
 have LM:=zz hlm
 obtain⟨w0,hw0,ha,hcb,hqb⟩:=preX w c
 have HC:=zz hc
 have HQQ:=zz hq
 have HRM:=zz hrm
 have HCS:=zz hcs
 clear h hl hc hf hq hrm ht hA hck hnd hlm hcs
 unfold CallP.cs at hcb⊢
 go_enter Tryz.func31,Tryz.ntmps31
 go_upto_region 1 with (fail)
 rw[hw0.out]
 clear hw0
 have HA:=zz ha
 have Q0:=zz hqb
 have CBX:=zz hcb
 have c5:=hcb.cell (k:=5) rfl
 clear ha hqb
 have M0:=zz (HW.out.stp (ctS HA.out) noF)
 have NP:Hid (0<r):=zz HW.out.pos
 have T0:=zz (HT.out.stp (ctS HA.out) fun h=>h)
 have d4:w0.cell? ⟨x.1,4,none⟩=some (.pointer (some ⟨cb,0,none⟩)):=T0.out.box.cell (k:=4) rfl
 have HCK:=zz fun W (hb:Below w0.heap.size w0 W)=>rcheck_any (h:=hh) (need:=nd) (T0.out.ab hb).caps HAL.out
 rw[CK.out] at HCK
 have HND:=zz fun W=>rneed_any c.kind W
 rw[ND.out] at HND
 have HFD:=zz (rfind_any q M0.out HLN.out)
 rw[HFN.out] at HFD
 clear hcb
 go_wp2_with fail
 simp only[Option.map_some] at HFD
 refine HFD.out.mono ?_
 rintro e w1 ⟨rfl,rfl⟩
 clear HFD
 go_upto_region 5 with (fail)
 refine wp_wide3 [⟨24,IsR (.pointer (some ⟨x.1,0,none⟩)),[],false⟩,⟨25,IsR (.pointer (some ⟨x.1,0,none⟩)),[0],false⟩,⟨26,IsR (.pointer (some ⟨x.1,4,none⟩)),[1],false⟩,⟨27,IsR (.pointer (some ⟨cb,0,none⟩)),[2],false⟩,⟨28,IsR (.int .u64 (hh:Int)),[],false⟩,⟨29,IsR (.pointer (some ⟨w.heap.size,0,none⟩)),[],false⟩,⟨30,IsR (.int .i64 c.kind),[5],false⟩,⟨31,IsR (.int .u8 (nd:Int)),[6],false⟩,⟨32,IsR (.int .i64 (ck:Int)),[3,4,7],false⟩] (by kernel_rfl) (by kernel_rfl) rfl rfl rfl ⟨?_,?_,?_,?_,?_,?_,?_,?_,?_,trivial⟩ ?_
 · refine okA rfl rfl fun a W hA hb hd=>?_
   have h5:a.tmps[5]?.getD undef = .pointer (some ⟨x.1,0,none⟩):=gt' hA (by simp) rfl
   go_simp
 · refine okA rfl rfl fun a W hA hb hd=>?_
   have h24:a.tmps[24]?.getD undef = .pointer (some ⟨x.1,0,none⟩):=gh (hd 0 (by simp) _ rfl)
   go_simp
 · refine okA rfl rfl fun a W hA hb hd=>?_
   have h25:a.tmps[25]?.getD undef = .pointer (some ⟨x.1,0,none⟩):=gh (hd 1 (by simp) _ rfl)
   go_simp
 · refine okA rfl rfl fun a W hA hb hd=>?_
   have h26:a.tmps[26]?.getD undef = .pointer (some ⟨x.1,4,none⟩):=gh (hd 2 (by simp) _ rfl)
   have hcc:W.cell? ⟨x.1,4,none⟩=some (.pointer (some ⟨cb,0,none⟩)):=(T0.out.ab hb).box.cell (k:=4) rfl
   go_simp
 · refine okA rfl rfl fun a W hA hb hd=>?_
   have h6:a.tmps[6]?.getD undef = .int .u64 (hh:Int):=gt' hA (by simp) rfl
   go_simp
 · refine okA rfl rfl fun a W hA hb hd=>?_
   have h3:a.tmps[3]?.getD undef = .pointer (some ⟨w.heap.size,0,none⟩):=gt' hA (by simp) rfl
   go_simp
 · refine okA rfl rfl fun a W hA hb hd=>?_
   have h29:a.tmps[29]?.getD undef = .pointer (some ⟨w.heap.size,0,none⟩):=gh (hd 5 (by simp) _ rfl)
   have hcc:W.cell? ⟨w.heap.size,0,none⟩=some (.int .i64 c.kind):=(CBX.out.ab hb).cell (k:=0) rfl
   go_simp
 · refine⟨rfl,IsR.mono _,fun a W hA hb hd=>takes_plain rfl ?_⟩
   have h30:a.tmps[30]?.getD undef = .int .i64 c.kind:=gh (hd 6 (by simp) _ rfl)
   refine yields_call 59 #[.int .i64 c.kind] (by go_simp) ((HND.out W).mono ?_)
   rintro e W2 ⟨rfl,rfl⟩
   exact⟨_,rfl,rfl,Below.refl _ _⟩
 · refine⟨rfl,IsR.mono _,fun a W hA hb hd=>takes_plain rfl ?_⟩
   have h27:a.tmps[27]?.getD undef = .pointer (some ⟨cb,0,none⟩):=gh (hd 3 (by simp) _ rfl)
   have h28:a.tmps[28]?.getD undef = .int .u64 (hh:Int):=gh (hd 4 (by simp) _ rfl)
   have h31:a.tmps[31]?.getD undef = .int .u8 (nd:Int):=gh (hd 7 (by simp) _ rfl)
   refine yields_call 58 #[.pointer (some ⟨cb,0,none⟩),.int .u64 (hh:Int),.int .u8 (nd:Int)] (by go_simp) ((HCK.out W hb).mono ?_)
   rintro e W2 ⟨rfl,hb2⟩
   exact⟨_,rfl,rfl,hb2⟩
 intro vs w5 hR hF hb
 have e24:vs 24 = .pointer (some ⟨x.1,0,none⟩):=hR 0 _ rfl
 have e25:vs 25 = .pointer (some ⟨x.1,0,none⟩):=hR 1 _ rfl
 have e26:vs 26 = .pointer (some ⟨x.1,4,none⟩):=hR 2 _ rfl
 have e27:vs 27 = .pointer (some ⟨cb,0,none⟩):=hR 3 _ rfl
 have e28:vs 28 = .int .u64 (hh:Int):=hR 4 _ rfl
 have e29:vs 29 = .pointer (some ⟨w.heap.size,0,none⟩):=hR 5 _ rfl
 have e30:vs 30 = .int .i64 c.kind:=hR 6 _ rfl
 have e31:vs 31 = .int .u8 (nd:Int):=hR 7 _ rfl
 have e32:vs 32 = .int .i64 (ck:Int):=hR 8 _ rfl
 simp only[List.map_cons,List.map_nil,List.foldl_cons,List.foldl_nil,List.length_cons,List.length_nil,List.drop_succ_cons,List.drop_zero,Act.put,List.setIfInBounds_toArray,List.set_cons_zero,List.set_cons_succ,e24,e25,e26,e27,e28,e29,e30,e31,e32]
 have T5:=zz (T0.out.ab hb)
 have M5:=zz (M0.out.ab hb)
 have Q5:=zz (Q0.out.ab hb)
 have B5:=zz (below_tr HA.out hb HA.out.size)
 have CB5:=zz (CBX.out.ab hb)
 clear hR hF hb e24 e25 e26 e27 e28 e29 e30 e31 e32 HCK HND d4
 rcases HCS.out with ⟨hpos,rfl,rfl⟩ | ⟨hkind,rfl,rfl,rfl⟩ | ⟨hkind,rfl,rfl,hrd⟩ | ⟨hkind,rfl,rfl,hrd⟩ | ⟨hkind,rfl,t',rfl,htn,hok,hbt⟩ | ⟨hkind,rfl,g,er,A',rfl,rfl,hp,her⟩ | ⟨hkind,rfl,g,A',rfl,rfl,hp,hg⟩ | ⟨hkind,rfl,rfl,rfl,hne⟩ | ⟨hkind,rfl,er,A',rfl,rfl,hne,hp⟩ | ⟨hkind,rfl,rfl,rfl,hov⟩ | ⟨hkind,rfl,rfl,rfl,hov⟩ | ⟨hkind,rfl,rfl,rfl,h0⟩ | ⟨hkind,rfl,rfl,rfl,hn0,hs⟩ | ⟨hkind,rfl,S,rfl,rfl,hn0,hs⟩
 · have CP:=zz hpos
   clear hpos
   have cne:((ck:Int) != 0)=true:=by have:=CP.out;simp;omega
   have cn2:¬ck=0:=by have:=CP.out;omega
   go_wp2_with fail
   refine (HF.out _ _).mono ?_
   rintro e w8 ⟨rfl,hb⟩
   have Q8:=zz (Q5.out.ab hb)
   have S8:Hid (Stp (fun τ=>τ.1=r) w O w8 (cutTg O w.heap.size)):=zz ((Stp.cut B5.out _).ab hb)
   have M8:=zz (M5.out.ab hb)
   clear hb
   go_wp2_with (first
    | ((with_reducible refine stA 36 ?_ (ansE (ck:Int)) ?_ Q8 ?_ ?_ (ansE_one _) ?_);rfl;rfl;rfl;rfl;intro wz QZ FZ))
   refine bodyPost_ret (ansR Tryz.results31 QZ rfl rfl) rfl ?_
   exact RdR.er (ck:Int) M8 S8 FZ (cutTg_at (Nat.le_succ _)) NP
 · have KD:=zz hkind
   clear hkind
   have k0:=cK KD CB5.out rfl
   have S5:=stC r O B5
   have OA:=oaT O w
   have SNL:Hid (x.2.sn.length≤1000):=zz (by have:=LM.out.sn;omega)
   have LB:Hid (l.length≤80000):=zz (by have:=T5.out.now.prm.length_eq;have:=LM.out.now;omega)
   have CB2:Hid (0≤chg x.2.now∧chg x.2.now≤1000000):=zz (by have:=chg_bd x.2.now;have:=LM.out.now;omega)
   have SB2:Hid (0≤sumS (liveC x.2.sn)∧sumS (liveC x.2.sn)≤1200000000):=zz (by have:=sumS_live_le x.2.sn (fun p hp=>by have:=LM.out.sns p hp;omega);have:=SNL.out;omega)
   obtain⟨mA,mc,hmv⟩:=T5.out.now.sl
   subst hmv
   have ECH:Hid (chg l=chg x.2.now):=zz (by unfold chg;exact sum_perm (T5.out.now.prm.map _))
   have HCG:=zz fun W (hb:Below w5.heap.size w5 W)=>rcharged_any (T5.out.ab hb) SNL.out (fun p hp=>by have:=LM.out.sns p hp;omega) (T5.out.ab hb).now.prs.own T5.out.now.ok (by have:=LB.out;omega)
   rw[ECH.out] at HCG
   have d3:w5.cell? ⟨x.1,3,none⟩=some (.slice mA l.length mc):=T5.out.box.cell (k:=3) rfl
   obtain⟨a0,ha0⟩:∃a0,cntA (chg x.2.now+sumS (liveC x.2.sn))=a0:=⟨_,rfl⟩
   obtain⟨z,hz⟩:∃z,chg x.2.now=z:=⟨_,rfl⟩
   obtain⟨y,hy⟩:∃y,sumS (liveC x.2.sn)=y:=⟨_,rfl⟩
   rw[hz] at CB2
   rw[hy] at SB2
   simp only[hz,hy] at HCG
   have z0:=CB2.out.1
   have z1:=CB2.out.2
   have y0:=SB2.out.1
   have y1:=SB2.out.2
   have ZH:=zz hz
   have YH:=zz hy
   clear hz hy ha0
   go_wp2_with fail
   refine (HCG.out _ (Below.refl _ _)).mono ?_
   rintro e w6 ⟨rfl,hb⟩
   have Q6:=zz (Q5.out.ab hb)
   have M6:=zz (M5.out.ab hb)
   have S6:=zz (S5.out.ab hb)
   clear hb HCG
   go_wp2_with (first
    | ((with_reducible refine stA 160 ?_ (#[.int .i64 0,.int .u64 0,.int .u64 0,.slice none 0 0,.slice none 0 0,.int .i64 (z+y),.slice none 0 0]) ?_ Q6 ?_ ?_ (by simp[Value.oneCell']) ?_);rfl;rfl;rfl;rfl;intro wz QZ FZ))
   refine bodyPost_ret (ansR Tryz.results31 QZ rfl rfl) rfl ?_
   unfold cntA
   rw[ZH.out,YH.out]
   exact⟨_,_,rfl,AnsI.box (AnsI.flat _ 0 0 0 _) FZ.out Q6.out,⟨_,_,M6.out.stp (Stp.box FZ.out OA.out) fun i e=>by injection e with e;have:=NP.out;omega⟩,S6.out.fresh FZ.out (Nat.le_succ _)⟩
 · have KD:=zz hkind
   have HRD:=zz hrd
   clear hkind hrd
   have k0:=cK KD CB5.out rfl
   have k1:w5.cell? ⟨w.heap.size,1,none⟩=some (.int .u32 (c.ten:Int)):=CB5.out.cell (k:=1) rfl
   have k2:w5.cell? ⟨w.heap.size,2,none⟩=some (.slice c.sec.A c.sec.n c.sec.c):=CB5.out.cell (k:=2) rfl
   have k3:w5.cell? ⟨w.heap.size,3,none⟩=some (.int .i64 c.quota):=CB5.out.cell (k:=3) rfl
   have k4:w5.cell? ⟨w.heap.size,4,none⟩=some (.int .i64 c.n):=CB5.out.cell (k:=4) rfl
   have k5:w5.cell? ⟨w.heap.size,5,none⟩=some (.int .u64 (c.hd:Int)):=CB5.out.cell (k:=5) rfl
   have k6:w5.cell? ⟨w.heap.size,6,none⟩=some (.int .u64 (c.oth:Int)):=CB5.out.cell (k:=6) rfl
   have k7:w5.cell? ⟨w.heap.size,7,none⟩=some (.int .u64 (c.sn:Int)):=CB5.out.cell (k:=7) rfl
   have k8:w5.cell? ⟨w.heap.size,8,none⟩=some (.int .u8 (c.rt:Int)):=CB5.out.cell (k:=8) rfl
   have k9:w5.cell? ⟨w.heap.size,9,none⟩=some (.slice c.oA c.oN c.oC):=CB5.out.cell (k:=9) rfl
   have k10:w5.cell? ⟨w.heap.size,10,none⟩=some (.slice c.key.A c.key.n c.key.c):=CB5.out.cell (k:=10) rfl
   have k11:w5.cell? ⟨w.heap.size,11,none⟩=some (.slice c.frm.A c.frm.n c.frm.c):=CB5.out.cell (k:=11) rfl
   have k12:w5.cell? ⟨w.heap.size,12,none⟩=some (.slice c.upto.A c.upto.n c.upto.c):=CB5.out.cell (k:=12) rfl
   have k13:w5.cell? ⟨w.heap.size,13,none⟩=some (.bool c.back):=CB5.out.cell (k:=13) rfl
   have S5:=stC r O B5
   have OA:=oaT O w
   have HR:=HRD.out w5 _ _ _ _ _ _ T5.out (HC.out.ab B5.out)
   unfold CallP.cs at HR
   rw[KD.out] at HR
   have HRR:=zz HR
   clear HR HRD
   go_wp2_with fail
   refine HRR.out.mono ?_
   rintro e w6 ⟨cs,rfl,hans,hb⟩
   have AN:=zz hans
   obtain⟨A1,n1,c1,A2,n2,c2,A3,n3,c3,rfl,_⟩:=hans.sh
   have Q6:=zz (Q5.out.ab hb)
   have M6:=zz (M5.out.ab hb)
   have S6:=zz (S5.out.ab hb)
   clear hb HRR hans
   go_wp2_with (first
    | ((with_reducible refine stA 163 ?_ (#[.int .i64 a.err,.int .u64 (a.hd:Int),.int .u64 (a.sn:Int),.slice A1 n1 c1,.slice A2 n2 c2,.int .i64 a.cnt,.slice A3 n3 c3]) ?_ Q6 ?_ ?_ (by simp[Value.oneCell']) ?_);rfl;rfl;rfl;rfl;intro wz QZ FZ))
   refine bodyPost_ret (ansR Tryz.results31 QZ rfl rfl) rfl ?_
   exact RdR.bx AN Q6 M6 S6 FZ OA NP
 · have KD:=zz hkind
   have HRD:=zz hrd
   clear hkind hrd
   have k0:=cK KD CB5.out rfl
   have k1:w5.cell? ⟨w.heap.size,1,none⟩=some (.int .u32 (c.ten:Int)):=CB5.out.cell (k:=1) rfl
   have k2:w5.cell? ⟨w.heap.size,2,none⟩=some (.slice c.sec.A c.sec.n c.sec.c):=CB5.out.cell (k:=2) rfl
   have k3:w5.cell? ⟨w.heap.size,3,none⟩=some (.int .i64 c.quota):=CB5.out.cell (k:=3) rfl
   have k4:w5.cell? ⟨w.heap.size,4,none⟩=some (.int .i64 c.n):=CB5.out.cell (k:=4) rfl
   have k5:w5.cell? ⟨w.heap.size,5,none⟩=some (.int .u64 (c.hd:Int)):=CB5.out.cell (k:=5) rfl
   have k6:w5.cell? ⟨w.heap.size,6,none⟩=some (.int .u64 (c.oth:Int)):=CB5.out.cell (k:=6) rfl
   have k7:w5.cell? ⟨w.heap.size,7,none⟩=some (.int .u64 (c.sn:Int)):=CB5.out.cell (k:=7) rfl
   have k8:w5.cell? ⟨w.heap.size,8,none⟩=some (.int .u8 (c.rt:Int)):=CB5.out.cell (k:=8) rfl
   have k9:w5.cell? ⟨w.heap.size,9,none⟩=some (.slice c.oA c.oN c.oC):=CB5.out.cell (k:=9) rfl
   have k10:w5.cell? ⟨w.heap.size,10,none⟩=some (.slice c.key.A c.key.n c.key.c):=CB5.out.cell (k:=10) rfl
   have k11:w5.cell? ⟨w.heap.size,11,none⟩=some (.slice c.frm.A c.frm.n c.frm.c):=CB5.out.cell (k:=11) rfl
   have k12:w5.cell? ⟨w.heap.size,12,none⟩=some (.slice c.upto.A c.upto.n c.upto.c):=CB5.out.cell (k:=12) rfl
   have k13:w5.cell? ⟨w.heap.size,13,none⟩=some (.bool c.back):=CB5.out.cell (k:=13) rfl
   have S5:=stC r O B5
   have OA:=oaT O w
   have HR:=HRD.out w5 _ _ _ _ _ _ T5.out (HC.out.ab B5.out)
   unfold CallP.cs at HR
   rw[KD.out] at HR
   have HRR:=zz HR
   clear HR HRD
   go_wp2_with fail
   refine HRR.out.mono ?_
   rintro e w6 ⟨cs,rfl,hans,hb⟩
   have AN:=zz hans
   obtain⟨A1,n1,c1,A2,n2,c2,A3,n3,c3,rfl,_⟩:=hans.sh
   have Q6:=zz (Q5.out.ab hb)
   have M6:=zz (M5.out.ab hb)
   have S6:=zz (S5.out.ab hb)
   clear hb HRR hans
   go_wp2_with (first
    | ((with_reducible refine stA 163 ?_ (#[.int .i64 a.err,.int .u64 (a.hd:Int),.int .u64 (a.sn:Int),.slice A1 n1 c1,.slice A2 n2 c2,.int .i64 a.cnt,.slice A3 n3 c3]) ?_ Q6 ?_ ?_ (by simp[Value.oneCell']) ?_);rfl;rfl;rfl;rfl;intro wz QZ FZ))
   refine bodyPost_ret (ansR Tryz.results31 QZ rfl rfl) rfl ?_
   exact RdR.bx AN Q6 M6 S6 FZ OA NP
 · have KD:=zz hkind
   have HBT:=zz hbt
   have TN:=zz htn
   have OKT:=zz hok
   clear hkind hbt htn hok
   have k0:=cK KD CB5.out rfl
   have k9:w5.cell? ⟨w.heap.size,9,none⟩=some (.slice c.oA c.oN c.oC):=CB5.out.cell (k:=9) rfl
   have S5:=stC r O B5
   have OA:=oaT O w
   have HR:=zz (HBT.out w5 _ _ _ _ _ _ T5.out (HC.out.ab B5.out))
   clear HBT
   go_wp2_with fail
   refine HR.out.mono ?_
   rintro e w6 ⟨cs,O6,rfl,hans,htb,hst⟩
   have AN:=zz hans
   obtain⟨A1,n1,c1,A2,n2,c2,A3,n3,c3,rfl,_⟩:=hans.sh
   rw[TN.out] at hst
   have q6:=hst.ot Q5.out.lt OA.out (fun e=>by injection e with e;have:=NP.out;omega)
   have Q6:=zz (show CbB w6 (w.heap.size+1) 44 (ansE 0) from q6.1.trans Q5.out)
   have OA6:Hid (O6 (w.heap.size+1)=some (0,0)):=zz q6.2
   have m6:=M5.out.upd (n:=x.2.n) (t':=t') (by rw[XN.out];exact HFN.out) hst TN.out OKT.out htb
   rw[XN.out] at m6
   have M6:=zz m6
   have S6:Hid (Stp (fun τ=>τ.1=r) w O w6 O6):=zz (S5.out.tr (hst.imp fun τ e=>by rw[e]))
   have OA:=OA6
   clear HR hans htb hst q6 m6 OA6
   go_wp2_with (first
    | ((with_reducible refine stA 78 ?_ (#[.int .i64 a.err,.int .u64 (a.hd:Int),.int .u64 (a.sn:Int),.slice A1 n1 c1,.slice A2 n2 c2,.int .i64 a.cnt,.slice A3 n3 c3]) ?_ Q6 ?_ ?_ (by simp[Value.oneCell']) ?_);rfl;rfl;rfl;rfl;intro wz QZ FZ))
   refine bodyPost_ret (ansR Tryz.results31 QZ rfl rfl) rfl ?_
   exact RdR.bx AN Q6 M6 S6 FZ OA NP
 · rw[HRM.out] at hp
   have KD:=zz hkind
   have PE:=zz hp
   have ER:=zz her
   clear hkind hp her
   have k0:=cK KD CB5.out rfl
   have S5:=stC r O B5
   have OA:=oaT O w
   have HGV:=zz fun W (hb:Below w5.heap.size w5 W)=>rgive_anyS (h:=hh) (r:=c.rt) (T5.out.ab hb).caps HAL.out
   rw[PE.out] at HGV
   have NX:Hid (¬(x.1=cb∨cv.ownBlock=some x.1)):=zz fun e=>by
    rcases e with e | e
    · exact absurd e (cb_neX T5.out.box T5.out.caps.box (by decide))
    · exact row_ne T5.out.caps.own T5.out.box (by decide) e
   have NC:Hid (¬(w.heap.size=cb∨cv.ownBlock=some w.heap.size)):=zz fun e=>by
    rcases e with e | e
    · exact absurd e (cb_neX CB5.out T5.out.caps.box (by decide))
    · exact row_ne T5.out.caps.own CB5.out (by decide) e
   go_upto_region 10 with (fail)
   refine wp_wide5 (fun i k=>i=8∧(k=cb∨cv.ownBlock=some k)) [⟨41,IsR (.pointer (some ⟨x.1,0,none⟩)),[],false⟩,⟨42,IsR (.pointer (some ⟨x.1,0,none⟩)),[],false⟩,⟨43,IsR (.pointer (some ⟨x.1,0,none⟩)),[1],false⟩,⟨44,IsR (.pointer (some ⟨x.1,4,none⟩)),[2],false⟩,⟨45,IsR (.pointer (some ⟨cb,0,none⟩)),[3],false⟩,⟨46,IsR (.int .u64 (hh:Int)),[],false⟩,⟨47,IsR (.pointer (some ⟨w.heap.size,8,none⟩)),[],false⟩,⟨48,IsR (.int .u8 (c.rt:Int)),[6],false⟩,⟨49,(fun z W=>z = .tuple #[.int .u64 (g:Int),.int .i64 (er:Int)]∧∃v',RcB W 0 cb v' A'∧(v'.ownBlock=cv.ownBlock∨∃k,v'.ownBlock=some k∧w5.heap.size≤k)),[4,5,7],false⟩,⟨50,IsR (.int .u64 (g:Int)),[8],false⟩,⟨51,IsR (.int .i64 (er:Int)),[8],false⟩] (by kernel_rfl) (by kernel_rfl) rfl rfl rfl ⟨?_,?_,?_,?_,?_,?_,?_,?_,?_,?_,?_,trivial⟩ ?_
   · refine okF rfl rfl fun a W hA hb hd=>?_
     have h5:a.tmps[5]?.getD undef = .pointer (some ⟨x.1,0,none⟩):=gt' hA (by simp) rfl
     go_simp
   · refine okF rfl rfl fun a W hA hb hd=>?_
     have h5:a.tmps[5]?.getD undef = .pointer (some ⟨x.1,0,none⟩):=gt' hA (by simp) rfl
     go_simp
   · refine okF rfl rfl fun a W hA hb hd=>?_
     have h42:a.tmps[42]?.getD undef = .pointer (some ⟨x.1,0,none⟩):=gh (hd 1 (by simp) _ rfl)
     go_simp
   · refine okF rfl rfl fun a W hA hb hd=>?_
     have h43:a.tmps[43]?.getD undef = .pointer (some ⟨x.1,0,none⟩):=gh (hd 2 (by simp) _ rfl)
     go_simp
   · refine okF rfl rfl fun a W hA hb hd=>?_
     have h44:a.tmps[44]?.getD undef = .pointer (some ⟨x.1,4,none⟩):=gh (hd 3 (by simp) _ rfl)
     have hcc:W.cell? ⟨x.1,4,none⟩=some (.pointer (some ⟨cb,0,none⟩)):=(T5.out.box.fr hb (fun ⟨j,_,_,hj⟩=>NX.out hj)).cell (k:=4) rfl
     go_simp
   · refine okF rfl rfl fun a W hA hb hd=>?_
     have h6:a.tmps[6]?.getD undef = .int .u64 (hh:Int):=gt' hA (by simp) rfl
     go_simp
   · refine okF rfl rfl fun a W hA hb hd=>?_
     have h3:a.tmps[3]?.getD undef = .pointer (some ⟨w.heap.size,0,none⟩):=gt' hA (by simp) rfl
     go_simp
   · refine okF rfl rfl fun a W hA hb hd=>?_
     have h47:a.tmps[47]?.getD undef = .pointer (some ⟨w.heap.size,8,none⟩):=gh (hd 6 (by simp) _ rfl)
     have hcc:W.cell? ⟨w.heap.size,8,none⟩=some (.int .u8 (c.rt:Int)):=(CB5.out.fr hb (fun ⟨j,_,_,hj⟩=>NC.out hj)).cell (k:=8) rfl
     go_simp
   · refine⟨rfl,fun z W W1 ⟨h0,v',h1,h3⟩ hf=>⟨h0,v',RcB.fr h1 hf (fun ⟨j,hj,hj2,_⟩=>hj hj2) (fun g hg ⟨j,hj,hj2,_⟩=>hj hj2),h3⟩,fun a W hA hb hd=>takes5_plain rfl ?_⟩
     have h45:a.tmps[45]?.getD undef = .pointer (some ⟨cb,0,none⟩):=gh (hd 4 (by simp) _ rfl)
     have h46:a.tmps[46]?.getD undef = .int .u64 (hh:Int):=gh (hd 5 (by simp) _ rfl)
     have h48:a.tmps[48]?.getD undef = .int .u8 (c.rt:Int):=gh (hd 7 (by simp) _ rfl)
     have f0:Fr w5 W (fun _=>False):=hb.imp fun k ⟨j,hj,hj2,_⟩=>hj hj2
     refine .inr ⟨60,#[.pointer (some ⟨cb,0,none⟩),.int .u64 (hh:Int),.int .u8 (c.rt:Int)],(by go_simp),((HGV.out W (Fr.below f0 (fun _ h=>h.elim) (Below.refl _ _) (Nat.le_refl _))).mono ?_)⟩
     rintro e W1 ⟨rfl,v',h1,h2,h3⟩
     exact⟨_,rfl,⟨rfl,v',h1,h3.imp id fun ⟨k,e1,e2⟩=>⟨k,e1,Nat.le_trans f0.size e2⟩⟩,h2.imp fun k hk=>⟨rfl,hk⟩⟩
   · refine⟨rfl,IsR.monoF _ _,fun a W hA hb hd=>takes5_plain rfl ?_⟩
     have h49:a.tmps[49]?.getD undef = .tuple #[.int .u64 (g:Int),.int .i64 (er:Int)]:=gh (hd 8 (by simp) _ rfl).1
     refine Yields.to5 (yields_value (.int .u64 (g:Int)) ?_ rfl) _
     go_simp
   · refine⟨rfl,IsR.monoF _ _,fun a W hA hb hd=>takes5_plain rfl ?_⟩
     have h49:a.tmps[49]?.getD undef = .tuple #[.int .u64 (g:Int),.int .i64 (er:Int)]:=gh (hd 8 (by simp) _ rfl).1
     refine Yields.to5 (yields_value (.int .i64 (er:Int)) ?_ rfl) _
     go_simp
   intro vs2 w6 hR hb
   have FR:Hid (Fr w5 w6 (fun k=>k=cb∨cv.ownBlock=some k)):=zz (hb.imp fun k ⟨j,_,hj⟩=>hj)
   have H49:=hR 8 _ rfl
   have e41:vs2 41 = .pointer (some ⟨x.1,0,none⟩):=hR 0 _ rfl
   have e42:vs2 42 = .pointer (some ⟨x.1,0,none⟩):=hR 1 _ rfl
   have e43:vs2 43 = .pointer (some ⟨x.1,0,none⟩):=hR 2 _ rfl
   have e44:vs2 44 = .pointer (some ⟨x.1,4,none⟩):=hR 3 _ rfl
   have e45:vs2 45 = .pointer (some ⟨cb,0,none⟩):=hR 4 _ rfl
   have e46:vs2 46 = .int .u64 (hh:Int):=hR 5 _ rfl
   have e47:vs2 47 = .pointer (some ⟨w.heap.size,8,none⟩):=hR 6 _ rfl
   have e48:vs2 48 = .int .u8 (c.rt:Int):=hR 7 _ rfl
   have e50:vs2 50 = .int .u64 (g:Int):=hR 9 _ rfl
   have e51:vs2 51 = .int .i64 (er:Int):=hR 10 _ rfl
   simp only[List.map_cons,List.map_nil,List.foldl_cons,List.foldl_nil,List.length_cons,List.length_nil,List.drop_succ_cons,List.drop_zero,Act.put,List.setIfInBounds_toArray,List.set_cons_zero,List.set_cons_succ,e41,e42,e43,e44,e45,e46,e47,e48,e50,e51]
   have hr:RcS 0 cb cv w5 (.tuple #[.int .u64 (g:Int),.int .i64 (er:Int)]) A' (.returned (.tuple #[.int .u64 (g:Int),.int .i64 (er:Int)])) w6:=by
    obtain⟨_,v',h1,h2⟩:=H49
    exact⟨rfl,v',h1,FR.out,h2⟩
   clear hR hb H49 FR HGV NX NC OA e41 e42 e43 e44 e45 e46 e47 e48 e50 e51
   generalize vs2 49=q49 at *
   obtain⟨wq,hwq⟩:∃wq,w5=wq:=⟨_,rfl⟩
   have BQ:Hid (Below w5.heap.size w5 wq):=zz (by rw[←hwq];exact Below.refl _ _)
   have TQ:Hid (RtM wq (cutTg O w.heap.size) r x.1 x.2 mv l cb cv sv):=zz (by rw[←hwq];exact T5.out)
   have QQ:Hid (CbB wq (w.heap.size+1) 44 (ansE 0)):=zz (by rw[←hwq];exact Q5.out)
   replace hr:RcS 0 cb cv wq (.tuple #[.int .u64 (g:Int),.int .i64 (er:Int)]) A' (.returned (.tuple #[.int .u64 (g:Int),.int .i64 (er:Int)])) w6:=by rw[←hwq];exact hr
   clear hwq
   have F6:Hid (Fr wq w6 (fun k=>k=cb∨cv.ownBlock=some k)):=zz (by obtain⟨_,_,_,h2,_⟩:=hr;exact h2)
   obtain⟨_,cv',ht2,hst2⟩:=TQ.out.capS hr (by have:=giveH_right TQ.out.ra hh c.rt;rw[PE.out] at this;exact this)
   have Q6:=zz (QQ.out.fr F6.out (fun e=>by
    rcases e with e | e
    · exact absurd e (cb_neX QQ.out TQ.out.caps.box (by decide))
    · exact row_ne TQ.out.caps.own QQ.out (by decide) e))
   have T6:=zz ht2
   have K6:=zz (((Stp.of (O':=cutTg O w.heap.size) BQ.out _ fun _ _=>rfl):Stp (fun τ=>τ=(r,x.2.n)) w5 (cutTg O w.heap.size) wq (cutTg O w.heap.size)).tr hst2)
   have OA6:Hid (opnTg (cutTg O w.heap.size) wq.heap.size r x.2.n (w.heap.size+1)=some (0,0)):=zz (by rw[opnTg_lt (Nat.lt_of_lt_of_le Q5.out.lt BQ.out.size)];exact cutTg_at (Nat.le_succ _))
   obtain⟨O6,hO6⟩:∃O6,opnTg (cutTg O w.heap.size) wq.heap.size r x.2.n=O6:=⟨_,rfl⟩
   rw[hO6] at T6 K6 OA6
   have OA:=OA6
   clear hr ht2 hst2 hO6 OA6
   have HH:=zz (rhandle_no 0 g er ER.out w6 x.1)
   go_wp2_with fail
   refine HH.out.mono ?_
   rintro e w7 ⟨rfl,hb⟩
   have Q7:=zz (Q6.out.ab hb)
   have T7:=zz (T6.out.ab hb)
   have K7:=zz (K6.out.ab hb)
   have m7:=M5.out.upd (n:=x.2.n) (t':=setA x.2 A') (by rw[XN.out];exact HFN.out) K7.out rfl (setA_ok _ OKX.out) ⟨_,_,_,_,_,T7.out⟩
   rw[XN.out] at m7
   have M7:=zz m7
   have S7:Hid (Stp (fun τ=>τ.1=r) w O w7 O6):=zz (S5.out.tr (K7.out.imp fun τ e=>by rw[e]))
   clear hb m7
   go_wp2_with (first
    | ((with_reducible refine stA 52 ?_ (ansE (er:Int)) ?_ Q7 ?_ ?_ (ansE_one _) ?_);rfl;rfl;rfl;rfl;intro wz QZ FZ))
   refine bodyPost_ret (ansR Tryz.results31 QZ rfl rfl) rfl ?_
   exact⟨_,_,rfl,AnsI.box (AnsI.err _ _) FZ.out Q7.out,⟨_,_,M7.out.stp (Stp.box FZ.out OA.out) fun i e=>by injection e with e;have:=NP.out;omega⟩,S7.out.fresh FZ.out (Nat.le_succ _)⟩
 · rw[HRM.out] at hp
   have KD:=zz hkind
   have PE:=zz hp
   have HG:=zz hg
   clear hkind hp hg
   have k0:=cK KD CB5.out rfl
   have S5:=stC r O B5
   have OA:=oaT O w
   have HGV:=zz fun W (hb:Below w5.heap.size w5 W)=>rgive_anyS (h:=hh) (r:=c.rt) (T5.out.ab hb).caps HAL.out
   rw[PE.out] at HGV
   have NX:Hid (¬(x.1=cb∨cv.ownBlock=some x.1)):=zz fun e=>by
    rcases e with e | e
    · exact absurd e (cb_neX T5.out.box T5.out.caps.box (by decide))
    · exact row_ne T5.out.caps.own T5.out.box (by decide) e
   have NC:Hid (¬(w.heap.size=cb∨cv.ownBlock=some w.heap.size)):=zz fun e=>by
    rcases e with e | e
    · exact absurd e (cb_neX CB5.out T5.out.caps.box (by decide))
    · exact row_ne T5.out.caps.own CB5.out (by decide) e
   go_upto_region 10 with (fail)
   refine wp_wide5 (fun i k=>i=8∧(k=cb∨cv.ownBlock=some k)) [⟨41,IsR (.pointer (some ⟨x.1,0,none⟩)),[],false⟩,⟨42,IsR (.pointer (some ⟨x.1,0,none⟩)),[],false⟩,⟨43,IsR (.pointer (some ⟨x.1,0,none⟩)),[1],false⟩,⟨44,IsR (.pointer (some ⟨x.1,4,none⟩)),[2],false⟩,⟨45,IsR (.pointer (some ⟨cb,0,none⟩)),[3],false⟩,⟨46,IsR (.int .u64 (hh:Int)),[],false⟩,⟨47,IsR (.pointer (some ⟨w.heap.size,8,none⟩)),[],false⟩,⟨48,IsR (.int .u8 (c.rt:Int)),[6],false⟩,⟨49,(fun z W=>z = .tuple #[.int .u64 (g:Int),.int .i64 ((0:Nat):Int)]∧∃v',RcB W 0 cb v' A'∧(v'.ownBlock=cv.ownBlock∨∃k,v'.ownBlock=some k∧w5.heap.size≤k)),[4,5,7],false⟩,⟨50,IsR (.int .u64 (g:Int)),[8],false⟩,⟨51,IsR (.int .i64 ((0:Nat):Int)),[8],false⟩] (by kernel_rfl) (by kernel_rfl) rfl rfl rfl ⟨?_,?_,?_,?_,?_,?_,?_,?_,?_,?_,?_,trivial⟩ ?_
   · refine okF rfl rfl fun a W hA hb hd=>?_
     have h5:a.tmps[5]?.getD undef = .pointer (some ⟨x.1,0,none⟩):=gt' hA (by simp) rfl
     go_simp
   · refine okF rfl rfl fun a W hA hb hd=>?_
     have h5:a.tmps[5]?.getD undef = .pointer (some ⟨x.1,0,none⟩):=gt' hA (by simp) rfl
     go_simp
   · refine okF rfl rfl fun a W hA hb hd=>?_
     have h42:a.tmps[42]?.getD undef = .pointer (some ⟨x.1,0,none⟩):=gh (hd 1 (by simp) _ rfl)
     go_simp
   · refine okF rfl rfl fun a W hA hb hd=>?_
     have h43:a.tmps[43]?.getD undef = .pointer (some ⟨x.1,0,none⟩):=gh (hd 2 (by simp) _ rfl)
     go_simp
   · refine okF rfl rfl fun a W hA hb hd=>?_
     have h44:a.tmps[44]?.getD undef = .pointer (some ⟨x.1,4,none⟩):=gh (hd 3 (by simp) _ rfl)
     have hcc:W.cell? ⟨x.1,4,none⟩=some (.pointer (some ⟨cb,0,none⟩)):=(T5.out.box.fr hb (fun ⟨j,_,_,hj⟩=>NX.out hj)).cell (k:=4) rfl
     go_simp
   · refine okF rfl rfl fun a W hA hb hd=>?_
     have h6:a.tmps[6]?.getD undef = .int .u64 (hh:Int):=gt' hA (by simp) rfl
     go_simp
   · refine okF rfl rfl fun a W hA hb hd=>?_
     have h3:a.tmps[3]?.getD undef = .pointer (some ⟨w.heap.size,0,none⟩):=gt' hA (by simp) rfl
     go_simp
   · refine okF rfl rfl fun a W hA hb hd=>?_
     have h47:a.tmps[47]?.getD undef = .pointer (some ⟨w.heap.size,8,none⟩):=gh (hd 6 (by simp) _ rfl)
     have hcc:W.cell? ⟨w.heap.size,8,none⟩=some (.int .u8 (c.rt:Int)):=(CB5.out.fr hb (fun ⟨j,_,_,hj⟩=>NC.out hj)).cell (k:=8) rfl
     go_simp
   · refine⟨rfl,fun z W W1 ⟨h0,v',h1,h3⟩ hf=>⟨h0,v',RcB.fr h1 hf (fun ⟨j,hj,hj2,_⟩=>hj hj2) (fun g hg ⟨j,hj,hj2,_⟩=>hj hj2),h3⟩,fun a W hA hb hd=>takes5_plain rfl ?_⟩
     have h45:a.tmps[45]?.getD undef = .pointer (some ⟨cb,0,none⟩):=gh (hd 4 (by simp) _ rfl)
     have h46:a.tmps[46]?.getD undef = .int .u64 (hh:Int):=gh (hd 5 (by simp) _ rfl)
     have h48:a.tmps[48]?.getD undef = .int .u8 (c.rt:Int):=gh (hd 7 (by simp) _ rfl)
     have f0:Fr w5 W (fun _=>False):=hb.imp fun k ⟨j,hj,hj2,_⟩=>hj hj2
     refine .inr ⟨60,#[.pointer (some ⟨cb,0,none⟩),.int .u64 (hh:Int),.int .u8 (c.rt:Int)],(by go_simp),((HGV.out W (Fr.below f0 (fun _ h=>h.elim) (Below.refl _ _) (Nat.le_refl _))).mono ?_)⟩
     rintro e W1 ⟨rfl,v',h1,h2,h3⟩
     exact⟨_,rfl,⟨rfl,v',h1,h3.imp id fun ⟨k,e1,e2⟩=>⟨k,e1,Nat.le_trans f0.size e2⟩⟩,h2.imp fun k hk=>⟨rfl,hk⟩⟩
   · refine⟨rfl,IsR.monoF _ _,fun a W hA hb hd=>takes5_plain rfl ?_⟩
     have h49:a.tmps[49]?.getD undef = .tuple #[.int .u64 (g:Int),.int .i64 ((0:Nat):Int)]:=gh (hd 8 (by simp) _ rfl).1
     refine Yields.to5 (yields_value (.int .u64 (g:Int)) ?_ rfl) _
     go_simp
   · refine⟨rfl,IsR.monoF _ _,fun a W hA hb hd=>takes5_plain rfl ?_⟩
     have h49:a.tmps[49]?.getD undef = .tuple #[.int .u64 (g:Int),.int .i64 ((0:Nat):Int)]:=gh (hd 8 (by simp) _ rfl).1
     refine Yields.to5 (yields_value (.int .i64 ((0:Nat):Int)) ?_ rfl) _
     go_simp
   intro vs2 w6 hR hb
   have FR:Hid (Fr w5 w6 (fun k=>k=cb∨cv.ownBlock=some k)):=zz (hb.imp fun k ⟨j,_,hj⟩=>hj)
   have H49:=hR 8 _ rfl
   have e41:vs2 41 = .pointer (some ⟨x.1,0,none⟩):=hR 0 _ rfl
   have e42:vs2 42 = .pointer (some ⟨x.1,0,none⟩):=hR 1 _ rfl
   have e43:vs2 43 = .pointer (some ⟨x.1,0,none⟩):=hR 2 _ rfl
   have e44:vs2 44 = .pointer (some ⟨x.1,4,none⟩):=hR 3 _ rfl
   have e45:vs2 45 = .pointer (some ⟨cb,0,none⟩):=hR 4 _ rfl
   have e46:vs2 46 = .int .u64 (hh:Int):=hR 5 _ rfl
   have e47:vs2 47 = .pointer (some ⟨w.heap.size,8,none⟩):=hR 6 _ rfl
   have e48:vs2 48 = .int .u8 (c.rt:Int):=hR 7 _ rfl
   have e50:vs2 50 = .int .u64 (g:Int):=hR 9 _ rfl
   have e51:vs2 51 = .int .i64 ((0:Nat):Int):=hR 10 _ rfl
   simp only[List.map_cons,List.map_nil,List.foldl_cons,List.foldl_nil,List.length_cons,List.length_nil,List.drop_succ_cons,List.drop_zero,Act.put,List.setIfInBounds_toArray,List.set_cons_zero,List.set_cons_succ,e41,e42,e43,e44,e45,e46,e47,e48,e50,e51]
   have hr:RcS 0 cb cv w5 (.tuple #[.int .u64 (g:Int),.int .i64 ((0:Nat):Int)]) A' (.returned (.tuple #[.int .u64 (g:Int),.int .i64 ((0:Nat):Int)])) w6:=by
    obtain⟨_,v',h1,h2⟩:=H49
    exact⟨rfl,v',h1,FR.out,h2⟩
   clear hR hb H49 FR HGV NX NC OA e41 e42 e43 e44 e45 e46 e47 e48 e50 e51
   generalize vs2 49=q49 at *
   obtain⟨wq,hwq⟩:∃wq,w5=wq:=⟨_,rfl⟩
   have BQ:Hid (Below w5.heap.size w5 wq):=zz (by rw[←hwq];exact Below.refl _ _)
   have TQ:Hid (RtM wq (cutTg O w.heap.size) r x.1 x.2 mv l cb cv sv):=zz (by rw[←hwq];exact T5.out)
   have QQ:Hid (CbB wq (w.heap.size+1) 44 (ansE 0)):=zz (by rw[←hwq];exact Q5.out)
   replace hr:RcS 0 cb cv wq (.tuple #[.int .u64 (g:Int),.int .i64 ((0:Nat):Int)]) A' (.returned (.tuple #[.int .u64 (g:Int),.int .i64 ((0:Nat):Int)])) w6:=by rw[←hwq];exact hr
   clear hwq
   have F6:Hid (Fr wq w6 (fun k=>k=cb∨cv.ownBlock=some k)):=zz (by obtain⟨_,_,_,h2,_⟩:=hr;exact h2)
   obtain⟨_,cv',ht2,hst2⟩:=TQ.out.capS hr (by have:=giveH_right TQ.out.ra hh c.rt;rw[PE.out] at this;exact this)
   have Q6:=zz (QQ.out.fr F6.out (fun e=>by
    rcases e with e | e
    · exact absurd e (cb_neX QQ.out TQ.out.caps.box (by decide))
    · exact row_ne TQ.out.caps.own QQ.out (by decide) e))
   have T6:=zz ht2
   have K6:=zz (((Stp.of (O':=cutTg O w.heap.size) BQ.out _ fun _ _=>rfl):Stp (fun τ=>τ=(r,x.2.n)) w5 (cutTg O w.heap.size) wq (cutTg O w.heap.size)).tr hst2)
   have OA6:Hid (opnTg (cutTg O w.heap.size) wq.heap.size r x.2.n (w.heap.size+1)=some (0,0)):=zz (by rw[opnTg_lt (Nat.lt_of_lt_of_le Q5.out.lt BQ.out.size)];exact cutTg_at (Nat.le_succ _))
   obtain⟨O6,hO6⟩:∃O6,opnTg (cutTg O w.heap.size) wq.heap.size r x.2.n=O6:=⟨_,rfl⟩
   rw[hO6] at T6 K6 OA6
   have OA:=OA6
   clear hr ht2 hst2 hO6 OA6
   have HH:=zz (rhandle_yes g HG.out T6.out OKX.out.n32)
   rw[show (setA x.2 A').n=q from XN.out] at HH
   go_wp2_with fail
   refine HH.out.mono ?_
   rintro e w7 ⟨rfl,hb⟩
   have Q7:=zz (Q6.out.ab hb)
   have T7:=zz (T6.out.ab hb)
   have K7:=zz (K6.out.ab hb)
   have m7:=M5.out.upd (n:=x.2.n) (t':=setA x.2 A') (by rw[XN.out];exact HFN.out) K7.out rfl (setA_ok _ OKX.out) ⟨_,_,_,_,_,T7.out⟩
   rw[XN.out] at m7
   have M7:=zz m7
   have S7:Hid (Stp (fun τ=>τ.1=r) w O w7 O6):=zz (S5.out.tr (K7.out.imp fun τ e=>by rw[e]))
   clear hb m7
   go_wp2_with (first
    | ((with_reducible refine stA 52 ?_ (ansH (q*4294967296+g)) ?_ Q7 ?_ ?_ (ansH_one _) ?_);rfl;rfl;rfl;rfl;intro wz QZ FZ))
   refine bodyPost_ret (ansR Tryz.results31 QZ rfl rfl) rfl ?_
   exact⟨_,_,rfl,AnsI.box (AnsI.flat _ 0 _ 0 0) FZ.out Q7.out,⟨_,_,M7.out.stp (Stp.box FZ.out OA.out) fun i e=>by injection e with e;have:=NP.out;omega⟩,S7.out.fresh FZ.out (Nat.le_succ _)⟩
 · have KD:=zz hkind
   have NE:=zz hne
   have OT:=zz HC.out.ok.oth
   clear hkind hne
   have k0:=cK KD CB5.out rfl
   have k6:w5.cell? ⟨w.heap.size,6,none⟩=some (.int .u64 (c.oth:Int)):=CB5.out.cell (k:=6) rfl
   have k5:w5.cell? ⟨w.heap.size,5,none⟩=some (.int .u64 (c.hd:Int)):=CB5.out.cell (k:=5) rfl
   have S5:=stC r O B5
   have OA:=oaT O w
   have n1:((c.oth:Int)/4294967296 != (q:Int))=true:=by
    have:=NE.out
    simp
    omega
   have n2:¬(c.oth:Int)/4294967296=(q:Int):=by have:=NE.out;omega
   go_wp2_with fail
   refine (HF.out _ _).mono ?_
   rintro e w8 ⟨rfl,hb⟩
   have Q8:=zz (Q5.out.ab hb)
   have S8:=zz (S5.out.ab hb)
   have M8:=zz (M5.out.ab hb)
   clear hb
   go_wp2_with (first
    | ((with_reducible refine stA 62 ?_ (ansE 7) ?_ Q8 ?_ ?_ (ansE_one _) ?_);rfl;rfl;rfl;rfl;intro wz QZ FZ))
   refine bodyPost_ret (ansR Tryz.results31 QZ rfl rfl) rfl ?_
   exact RdR.er 7 M8 S8 FZ OA.out NP
 · rw[HRM.out] at hp
   have KD:=zz hkind
   have PE:=zz hp
   have NE:=zz hne
   have OT:=zz HC.out.ok.oth
   clear hkind hne hp
   have k0:=cK KD CB5.out rfl
   have k6:w5.cell? ⟨w.heap.size,6,none⟩=some (.int .u64 (c.oth:Int)):=CB5.out.cell (k:=6) rfl
   have k5:w5.cell? ⟨w.heap.size,5,none⟩=some (.int .u64 (c.hd:Int)):=CB5.out.cell (k:=5) rfl
   have S5:=stC r O B5
   have OA:=oaT O w
   have n1:((c.oth:Int)/4294967296 != (q:Int))=false:=by
    have:=NE.out
    simp
    omega
   have n2:(c.oth:Int)/4294967296=(q:Int):=by have:=NE.out;omega
   obtain⟨ov,hov⟩:∃ov,c.oth%4294967296=ov:=⟨_,rfl⟩
   have om:=u64_mask32 c.oth OT.out
   rw[hov] at om PE
   have OM:=zz om
   have HRV:=zz fun W (hb:Below w5.heap.size w5 W)=>rrevoke_anyS (h:=hh) (vv:=ov) (T5.out.ab hb).caps T5.out.ra HAL.out
   rw[PE.out] at HRV
   clear om hov
   go_upto_region 14 with (fail)
   refine wp_wide3 [⟨63,IsR (.pointer (some ⟨x.1,0,none⟩)),[],false⟩,⟨64,IsR (.pointer (some ⟨x.1,0,none⟩)),[0],false⟩,⟨65,IsR (.pointer (some ⟨x.1,4,none⟩)),[1],false⟩,⟨66,IsR (.pointer (some ⟨cb,0,none⟩)),[2],false⟩,⟨67,IsR (.int .u64 (hh:Int)),[],false⟩,⟨68,IsR (.pointer (some ⟨w.heap.size,6,none⟩)),[],false⟩,⟨69,IsR (.int .u64 (c.oth:Int)),[5],false⟩,⟨70,IsR (.int .u64 (ov:Int)),[6],false⟩] (by kernel_rfl) (by kernel_rfl) rfl rfl rfl ⟨?_,?_,?_,?_,?_,?_,?_,?_,trivial⟩ ?_
   · refine okA rfl rfl fun a W hA hb hd=>?_
     have h5:a.tmps[5]?.getD undef = .pointer (some ⟨x.1,0,none⟩):=gt' hA (by simp) rfl
     go_simp
   · refine okA rfl rfl fun a W hA hb hd=>?_
     have h63:a.tmps[63]?.getD undef = .pointer (some ⟨x.1,0,none⟩):=gh (hd 0 (by simp) _ rfl)
     go_simp
   · refine okA rfl rfl fun a W hA hb hd=>?_
     have h64:a.tmps[64]?.getD undef = .pointer (some ⟨x.1,0,none⟩):=gh (hd 1 (by simp) _ rfl)
     go_simp
   · refine okA rfl rfl fun a W hA hb hd=>?_
     have h65:a.tmps[65]?.getD undef = .pointer (some ⟨x.1,4,none⟩):=gh (hd 2 (by simp) _ rfl)
     have hcc:W.cell? ⟨x.1,4,none⟩=some (.pointer (some ⟨cb,0,none⟩)):=(T5.out.ab hb).box.cell (k:=4) rfl
     go_simp
   · refine okA rfl rfl fun a W hA hb hd=>?_
     have h6:a.tmps[6]?.getD undef = .int .u64 (hh:Int):=gt' hA (by simp) rfl
     go_simp
   · refine okA rfl rfl fun a W hA hb hd=>?_
     have h3:a.tmps[3]?.getD undef = .pointer (some ⟨w.heap.size,0,none⟩):=gt' hA (by simp) rfl
     go_simp
   · refine okA rfl rfl fun a W hA hb hd=>?_
     have h68:a.tmps[68]?.getD undef = .pointer (some ⟨w.heap.size,6,none⟩):=gh (hd 5 (by simp) _ rfl)
     have hcc:W.cell? ⟨w.heap.size,6,none⟩=some (.int .u64 (c.oth:Int)):=(CB5.out.ab hb).cell (k:=6) rfl
     go_simp
   · refine okA rfl rfl fun a W hA hb hd=>?_
     have h69:a.tmps[69]?.getD undef = .int .u64 (c.oth:Int):=gh (hd 6 (by simp) _ rfl)
     have hm:=OM.out
     go_simp
   intro vs wq hR hF hb
   have e63:vs 63 = .pointer (some ⟨x.1,0,none⟩):=hR 0 _ rfl
   have e64:vs 64 = .pointer (some ⟨x.1,0,none⟩):=hR 1 _ rfl
   have e65:vs 65 = .pointer (some ⟨x.1,4,none⟩):=hR 2 _ rfl
   have e66:vs 66 = .pointer (some ⟨cb,0,none⟩):=hR 3 _ rfl
   have e67:vs 67 = .int .u64 (hh:Int):=hR 4 _ rfl
   have e68:vs 68 = .pointer (some ⟨w.heap.size,6,none⟩):=hR 5 _ rfl
   have e69:vs 69 = .int .u64 (c.oth:Int):=hR 6 _ rfl
   have e70:vs 70 = .int .u64 (ov:Int):=hR 7 _ rfl
   simp only[List.map_cons,List.map_nil,List.foldl_cons,List.foldl_nil,List.length_cons,List.length_nil,List.drop_succ_cons,List.drop_zero,Act.put,List.setIfInBounds_toArray,List.set_cons_zero,List.set_cons_succ,e63,e64,e65,e66,e67,e68,e69,e70]
   have BQ:=zz hb
   have TQ:=zz (T5.out.ab hb)
   have QQ:=zz (Q5.out.ab hb)
   clear hR hF hb e63 e64 e65 e66 e67 e68 e69 e70 OA n1 n2
   go_wp2_with fail
   refine (HRV.out _ BQ.out).mono ?_
   intro e w6 hr
   have F6:Hid (Fr wq w6 (fun k=>k=cb∨cv.ownBlock=some k)):=zz (by obtain⟨_,_,_,h2,_⟩:=hr;exact h2)
   obtain⟨rfl,cv',ht2,hst2⟩:=TQ.out.capS hr (by have:=revokeH_right TQ.out.ra hh ov;rw[PE.out] at this;exact this)
   have Q6:=zz (QQ.out.fr F6.out (fun e=>by
    rcases e with e | e
    · exact absurd e (cb_neX QQ.out TQ.out.caps.box (by decide))
    · exact row_ne TQ.out.caps.own QQ.out (by decide) e))
   have T6:=zz ht2
   have K6:=zz (((Stp.of (O':=cutTg O w.heap.size) BQ.out _ fun _ _=>rfl):Stp (fun τ=>τ=(r,x.2.n)) w5 (cutTg O w.heap.size) wq (cutTg O w.heap.size)).tr hst2)
   have OA6:Hid (opnTg (cutTg O w.heap.size) wq.heap.size r x.2.n (w.heap.size+1)=some (0,0)):=zz (by rw[opnTg_lt (Nat.lt_of_lt_of_le Q5.out.lt BQ.out.size)];exact cutTg_at (Nat.le_succ _))
   obtain⟨O6,hO6⟩:∃O6,opnTg (cutTg O w.heap.size) wq.heap.size r x.2.n=O6:=⟨_,rfl⟩
   rw[hO6] at T6 K6 OA6
   have OA:=OA6
   clear hr ht2 hst2 hO6 OA6
   clear HRV
   go_wp2_with fail
   refine (HF.out _ _).mono ?_
   rintro e w7 ⟨rfl,hb⟩
   have Q7:=zz (Q6.out.ab hb)
   have T7:=zz (T6.out.ab hb)
   have K7:=zz (K6.out.ab hb)
   have m7:=M5.out.upd (n:=x.2.n) (t':=setA x.2 A') (by rw[XN.out];exact HFN.out) K7.out rfl (setA_ok _ OKX.out) ⟨_,_,_,_,_,T7.out⟩
   rw[XN.out] at m7
   have M7:=zz m7
   have S7:Hid (Stp (fun τ=>τ.1=r) w O w7 O6):=zz (S5.out.tr (K7.out.imp fun τ e=>by rw[e]))
   clear hb m7
   go_wp2_with (first
    | ((with_reducible refine stA 72 ?_ (ansE (er:Int)) ?_ Q7 ?_ ?_ (ansE_one _) ?_);rfl;rfl;rfl;rfl;intro wz QZ FZ))
   refine bodyPost_ret (ansR Tryz.results31 QZ rfl rfl) rfl ?_
   exact⟨_,_,rfl,AnsI.box (AnsI.err _ _) FZ.out Q7.out,⟨_,_,M7.out.stp (Stp.box FZ.out OA.out) fun i e=>by injection e with e;have:=NP.out;omega⟩,S7.out.fresh FZ.out (Nat.le_succ _)⟩
 · have KD:=zz hkind
   have OV:=zz hov
   clear hkind hov
   have k0:=cK KD CB5.out rfl
   have S5:=stC r O B5
   have OA:=oaT O w
   have SNL:Hid (x.2.sn.length≤1000):=zz (by have:=LM.out.sn;omega)
   have LB:Hid (l.length≤80000):=zz (by have:=T5.out.now.prm.length_eq;have:=LM.out.now;omega)
   have CB2:Hid (0≤chg x.2.now∧chg x.2.now≤1000000):=zz (by have:=chg_bd x.2.now;have:=LM.out.now;omega)
   have SB2:Hid (0≤sumS (liveC x.2.sn)∧sumS (liveC x.2.sn)≤1200000000):=zz (by have:=sumS_live_le x.2.sn (fun p hp=>by have:=LM.out.sns p hp;omega);have:=SNL.out;omega)
   obtain⟨mA,mc,hmv⟩:=T5.out.now.sl
   subst hmv
   have ECH:Hid (chg l=chg x.2.now):=zz (by unfold chg;exact sum_perm (T5.out.now.prm.map _))
   have HC1:=zz (rcharge26 T5.out.now.prs.own T5.out.now.ok (by have:=LB.out;omega))
   rw[ECH.out] at HC1
   have d3:w5.cell? ⟨x.1,3,none⟩=some (.slice mA l.length mc):=T5.out.box.cell (k:=3) rfl
   obtain⟨z,hz⟩:∃z,chg x.2.now=z:=⟨_,rfl⟩
   obtain⟨y,hy⟩:∃y,sumS (liveC x.2.sn)=y:=⟨_,rfl⟩
   have ZH:=zz hz
   have YH:=zz hy
   have OV2:Hid (decide ((x.2.q:Int)<z+y+z+1)=true):=zz (by
    have e:=OV.out
    unfold overB at e
    rw[sumS_app,hz,hy] at e
    rw[←e,show sumS [z]=z+1 by simp[sumS]]
    have:z+(y+(z+1))=z+y+z+1:=by omega
    rw[this])
   rw[hz] at CB2
   rw[hy] at SB2
   simp only[hz] at HC1
   clear hz hy
   go_wp2_with fail
   refine HC1.out.mono ?_
   rintro e w6 ⟨rfl,hb⟩
   have Q6:=zz (Q5.out.ab hb)
   have M6:=zz (M5.out.ab hb)
   have S6:=zz (S5.out.ab hb)
   have T6:=zz (T5.out.ab hb)
   clear hb HC1 d3
   have HCG:=zz fun W (hb:Below w6.heap.size w6 W)=>rcharged_any (T6.out.ab hb) SNL.out (fun p hp=>by have:=LM.out.sns p hp;omega) (T6.out.ab hb).now.prs.own T6.out.now.ok (by have:=LB.out;omega)
   rw[ECH.out,ZH.out,YH.out] at HCG
   have z0:=CB2.out.1
   have z1:=CB2.out.2
   have y0:=SB2.out.1
   have y1:=SB2.out.2
   have HW1:Hid (IntKind.i64.wrap (z+y+z)=z+y+z):=zz (wrap_i64Z (by omega) (by omega))
   have HW2:Hid (IntKind.i64.wrap (z+y+z+1)=z+y+z+1):=zz (wrap_i64Z (by omega) (by omega))
   go_upto_region 19 with (fail)
   refine wp_wide3 [⟨89,IsR (.pointer (some ⟨x.1,0,none⟩)),[],false⟩,⟨90,IsR (.pointer (some ⟨x.1,0,none⟩)),[],false⟩,⟨91,IsR (.pointer (some ⟨x.1,0,none⟩)),[1],false⟩,⟨92,IsR (.pointer (some ⟨x.1,3,none⟩)),[2],false⟩,⟨93,IsR (.slice mA l.length mc),[3],false⟩,⟨94,IsR (.int .i64 (z+y)),[0,4],false⟩,⟨95,IsR (.int .i64 z),[],false⟩,⟨96,IsR (.int .i64 (z+y+z)),[5,6],false⟩,⟨97,IsR (.int .i64 (z+y+z+1)),[7],false⟩,⟨98,IsR (.pointer (some ⟨x.1,0,none⟩)),[],false⟩,⟨99,IsR (.pointer (some ⟨x.1,0,none⟩)),[9],false⟩,⟨100,IsR (.pointer (some ⟨x.1,2,none⟩)),[10],false⟩,⟨101,IsR (.int .i64 (x.2.q:Int)),[11],false⟩] (by kernel_rfl) (by kernel_rfl) rfl rfl rfl ⟨?_,?_,?_,?_,?_,?_,?_,?_,?_,?_,?_,?_,?_,trivial⟩ ?_
   · refine okA rfl rfl fun a W hA hb hd=>?_
     have h5:a.tmps[5]?.getD undef = .pointer (some ⟨x.1,0,none⟩):=gt' hA (by simp) rfl
     go_simp
   · refine okA rfl rfl fun a W hA hb hd=>?_
     have h5:a.tmps[5]?.getD undef = .pointer (some ⟨x.1,0,none⟩):=gt' hA (by simp) rfl
     go_simp
   · refine okA rfl rfl fun a W hA hb hd=>?_
     have h90:a.tmps[90]?.getD undef = .pointer (some ⟨x.1,0,none⟩):=gh (hd 1 (by simp) _ rfl)
     go_simp
   · refine okA rfl rfl fun a W hA hb hd=>?_
     have h91:a.tmps[91]?.getD undef = .pointer (some ⟨x.1,0,none⟩):=gh (hd 2 (by simp) _ rfl)
     go_simp
   · refine okA rfl rfl fun a W hA hb hd=>?_
     have h92:a.tmps[92]?.getD undef = .pointer (some ⟨x.1,3,none⟩):=gh (hd 3 (by simp) _ rfl)
     have hcc:W.cell? ⟨x.1,3,none⟩=some (.slice mA l.length mc):=(T6.out.ab hb).box.cell (k:=3) rfl
     go_simp
   · refine⟨rfl,IsR.mono _,fun a W hA hb hd=>takes_plain rfl ?_⟩
     have h89:a.tmps[89]?.getD undef = .pointer (some ⟨x.1,0,none⟩):=gh (hd 0 (by simp) _ rfl)
     have h93:a.tmps[93]?.getD undef = .slice mA l.length mc:=gh (hd 4 (by simp) _ rfl)
     refine yields_call 64 #[.pointer (some ⟨x.1,0,none⟩),.slice mA l.length mc] (by go_simp) ((HCG.out W hb).mono ?_)
     rintro e W2 ⟨rfl,hb2⟩
     exact⟨_,rfl,rfl,hb2⟩
   · refine okA rfl rfl fun a W hA hb hd=>?_
     have h8:a.tmps[8]?.getD undef = .int .i64 z:=gt' hA (by simp) rfl
     go_simp
   · refine okA rfl rfl fun a W hA hb hd=>?_
     have h94:a.tmps[94]?.getD undef = .int .i64 (z+y):=gh (hd 5 (by simp) _ rfl)
     have h95:a.tmps[95]?.getD undef = .int .i64 z:=gh (hd 6 (by simp) _ rfl)
     have hw:=HW1.out
     go_simp
   · refine okA rfl rfl fun a W hA hb hd=>?_
     have h96:a.tmps[96]?.getD undef = .int .i64 (z+y+z):=gh (hd 7 (by simp) _ rfl)
     have hw:=HW2.out
     go_simp
   · refine okA rfl rfl fun a W hA hb hd=>?_
     have h5:a.tmps[5]?.getD undef = .pointer (some ⟨x.1,0,none⟩):=gt' hA (by simp) rfl
     go_simp
   · refine okA rfl rfl fun a W hA hb hd=>?_
     have h98:a.tmps[98]?.getD undef = .pointer (some ⟨x.1,0,none⟩):=gh (hd 9 (by simp) _ rfl)
     go_simp
   · refine okA rfl rfl fun a W hA hb hd=>?_
     have h99:a.tmps[99]?.getD undef = .pointer (some ⟨x.1,0,none⟩):=gh (hd 10 (by simp) _ rfl)
     go_simp
   · refine okA rfl rfl fun a W hA hb hd=>?_
     have h100:a.tmps[100]?.getD undef = .pointer (some ⟨x.1,2,none⟩):=gh (hd 11 (by simp) _ rfl)
     have hcc:W.cell? ⟨x.1,2,none⟩=some (.int .i64 (x.2.q:Int)):=(T6.out.ab hb).box.cell (k:=2) rfl
     go_simp
   intro vs w7 hR hF hb
   have e89:vs 89 = .pointer (some ⟨x.1,0,none⟩):=hR 0 _ rfl
   have e90:vs 90 = .pointer (some ⟨x.1,0,none⟩):=hR 1 _ rfl
   have e91:vs 91 = .pointer (some ⟨x.1,0,none⟩):=hR 2 _ rfl
   have e92:vs 92 = .pointer (some ⟨x.1,3,none⟩):=hR 3 _ rfl
   have e93:vs 93 = .slice mA l.length mc:=hR 4 _ rfl
   have e94:vs 94 = .int .i64 (z+y):=hR 5 _ rfl
   have e95:vs 95 = .int .i64 z:=hR 6 _ rfl
   have e96:vs 96 = .int .i64 (z+y+z):=hR 7 _ rfl
   have e97:vs 97 = .int .i64 (z+y+z+1):=hR 8 _ rfl
   have e98:vs 98 = .pointer (some ⟨x.1,0,none⟩):=hR 9 _ rfl
   have e99:vs 99 = .pointer (some ⟨x.1,0,none⟩):=hR 10 _ rfl
   have e100:vs 100 = .pointer (some ⟨x.1,2,none⟩):=hR 11 _ rfl
   have e101:vs 101 = .int .i64 (x.2.q:Int):=hR 12 _ rfl
   simp only[List.map_cons,List.map_nil,List.foldl_cons,List.foldl_nil,List.length_cons,List.length_nil,List.drop_succ_cons,List.drop_zero,Act.put,List.setIfInBounds_toArray,List.set_cons_zero,List.set_cons_succ,e89,e90,e91,e92,e93,e94,e95,e96,e97,e98,e99,e100,e101]
   have T7:=zz (T6.out.ab hb)
   have M7:=zz (M6.out.ab hb)
   have Q7:=zz (Q6.out.ab hb)
   have S7:=zz (S6.out.ab hb)
   clear hR hF hb e89 e90 e91 e92 e93 e94 e95 e96 e97 e98 e99 e100 e101 HCG
   have cov:=OV2.out
   have covp:(x.2.q:Int)<z+y+z+1:=of_decide_eq_true cov
   go_wp2_with fail
   refine (HF.out _ _).mono ?_
   rintro e w8 ⟨rfl,hb⟩
   have Q8:=zz (Q7.out.ab hb)
   have S8:=zz (S7.out.ab hb)
   have M8:=zz (M7.out.ab hb)
   clear hb
   go_wp2_with (first
    | ((with_reducible refine stA 103 ?_ (ansE 261) ?_ Q8 ?_ ?_ (ansE_one _) ?_);rfl;rfl;rfl;rfl;intro wz QZ FZ))
   refine bodyPost_ret (ansR Tryz.results31 QZ rfl rfl) rfl ?_
   exact RdR.er 261 M8 S8 FZ OA.out NP
 · have KD:=zz hkind
   have OV:=zz hov
   clear hkind hov
   have k0:=cK KD CB5.out rfl
   have S5:=stC r O B5
   have OA:=oaT O w
   have SNL:Hid (x.2.sn.length≤1000):=zz (by have:=LM.out.sn;omega)
   have LB:Hid (l.length≤80000):=zz (by have:=T5.out.now.prm.length_eq;have:=LM.out.now;omega)
   have CB2:Hid (0≤chg x.2.now∧chg x.2.now≤1000000):=zz (by have:=chg_bd x.2.now;have:=LM.out.now;omega)
   have SB2:Hid (0≤sumS (liveC x.2.sn)∧sumS (liveC x.2.sn)≤1200000000):=zz (by have:=sumS_live_le x.2.sn (fun p hp=>by have:=LM.out.sns p hp;omega);have:=SNL.out;omega)
   obtain⟨mA,mc,hmv⟩:=T5.out.now.sl
   subst hmv
   have ECH:Hid (chg l=chg x.2.now):=zz (by unfold chg;exact sum_perm (T5.out.now.prm.map _))
   have HC1:=zz (rcharge26 T5.out.now.prs.own T5.out.now.ok (by have:=LB.out;omega))
   rw[ECH.out] at HC1
   have d3:w5.cell? ⟨x.1,3,none⟩=some (.slice mA l.length mc):=T5.out.box.cell (k:=3) rfl
   obtain⟨z,hz⟩:∃z,chg x.2.now=z:=⟨_,rfl⟩
   obtain⟨y,hy⟩:∃y,sumS (liveC x.2.sn)=y:=⟨_,rfl⟩
   have ZH:=zz hz
   have YH:=zz hy
   have OV2:Hid (decide ((x.2.q:Int)<z+y+z+1)=false):=zz (by
    have e:=OV.out
    unfold overB at e
    rw[sumS_app,hz,hy] at e
    rw[←e,show sumS [z]=z+1 by simp[sumS]]
    have:z+(y+(z+1))=z+y+z+1:=by omega
    rw[this])
   rw[hz] at CB2
   rw[hy] at SB2
   simp only[hz] at HC1
   clear hz hy
   go_wp2_with fail
   refine HC1.out.mono ?_
   rintro e w6 ⟨rfl,hb⟩
   have Q6:=zz (Q5.out.ab hb)
   have M6:=zz (M5.out.ab hb)
   have S6:=zz (S5.out.ab hb)
   have T6:=zz (T5.out.ab hb)
   clear hb HC1 d3
   have HCG:=zz fun W (hb:Below w6.heap.size w6 W)=>rcharged_any (T6.out.ab hb) SNL.out (fun p hp=>by have:=LM.out.sns p hp;omega) (T6.out.ab hb).now.prs.own T6.out.now.ok (by have:=LB.out;omega)
   rw[ECH.out,ZH.out,YH.out] at HCG
   have z0:=CB2.out.1
   have z1:=CB2.out.2
   have y0:=SB2.out.1
   have y1:=SB2.out.2
   have HW1:Hid (IntKind.i64.wrap (z+y+z)=z+y+z):=zz (wrap_i64Z (by omega) (by omega))
   have HW2:Hid (IntKind.i64.wrap (z+y+z+1)=z+y+z+1):=zz (wrap_i64Z (by omega) (by omega))
   go_upto_region 19 with (fail)
   refine wp_wide3 [⟨89,IsR (.pointer (some ⟨x.1,0,none⟩)),[],false⟩,⟨90,IsR (.pointer (some ⟨x.1,0,none⟩)),[],false⟩,⟨91,IsR (.pointer (some ⟨x.1,0,none⟩)),[1],false⟩,⟨92,IsR (.pointer (some ⟨x.1,3,none⟩)),[2],false⟩,⟨93,IsR (.slice mA l.length mc),[3],false⟩,⟨94,IsR (.int .i64 (z+y)),[0,4],false⟩,⟨95,IsR (.int .i64 z),[],false⟩,⟨96,IsR (.int .i64 (z+y+z)),[5,6],false⟩,⟨97,IsR (.int .i64 (z+y+z+1)),[7],false⟩,⟨98,IsR (.pointer (some ⟨x.1,0,none⟩)),[],false⟩,⟨99,IsR (.pointer (some ⟨x.1,0,none⟩)),[9],false⟩,⟨100,IsR (.pointer (some ⟨x.1,2,none⟩)),[10],false⟩,⟨101,IsR (.int .i64 (x.2.q:Int)),[11],false⟩] (by kernel_rfl) (by kernel_rfl) rfl rfl rfl ⟨?_,?_,?_,?_,?_,?_,?_,?_,?_,?_,?_,?_,?_,trivial⟩ ?_
   · refine okA rfl rfl fun a W hA hb hd=>?_
     have h5:a.tmps[5]?.getD undef = .pointer (some ⟨x.1,0,none⟩):=gt' hA (by simp) rfl
     go_simp
   · refine okA rfl rfl fun a W hA hb hd=>?_
     have h5:a.tmps[5]?.getD undef = .pointer (some ⟨x.1,0,none⟩):=gt' hA (by simp) rfl
     go_simp
   · refine okA rfl rfl fun a W hA hb hd=>?_
     have h90:a.tmps[90]?.getD undef = .pointer (some ⟨x.1,0,none⟩):=gh (hd 1 (by simp) _ rfl)
     go_simp
   · refine okA rfl rfl fun a W hA hb hd=>?_
     have h91:a.tmps[91]?.getD undef = .pointer (some ⟨x.1,0,none⟩):=gh (hd 2 (by simp) _ rfl)
     go_simp
   · refine okA rfl rfl fun a W hA hb hd=>?_
     have h92:a.tmps[92]?.getD undef = .pointer (some ⟨x.1,3,none⟩):=gh (hd 3 (by simp) _ rfl)
     have hcc:W.cell? ⟨x.1,3,none⟩=some (.slice mA l.length mc):=(T6.out.ab hb).box.cell (k:=3) rfl
     go_simp
   · refine⟨rfl,IsR.mono _,fun a W hA hb hd=>takes_plain rfl ?_⟩
     have h89:a.tmps[89]?.getD undef = .pointer (some ⟨x.1,0,none⟩):=gh (hd 0 (by simp) _ rfl)
     have h93:a.tmps[93]?.getD undef = .slice mA l.length mc:=gh (hd 4 (by simp) _ rfl)
     refine yields_call 64 #[.pointer (some ⟨x.1,0,none⟩),.slice mA l.length mc] (by go_simp) ((HCG.out W hb).mono ?_)
     rintro e W2 ⟨rfl,hb2⟩
     exact⟨_,rfl,rfl,hb2⟩
   · refine okA rfl rfl fun a W hA hb hd=>?_
     have h8:a.tmps[8]?.getD undef = .int .i64 z:=gt' hA (by simp) rfl
     go_simp
   · refine okA rfl rfl fun a W hA hb hd=>?_
     have h94:a.tmps[94]?.getD undef = .int .i64 (z+y):=gh (hd 5 (by simp) _ rfl)
     have h95:a.tmps[95]?.getD undef = .int .i64 z:=gh (hd 6 (by simp) _ rfl)
     have hw:=HW1.out
     go_simp
   · refine okA rfl rfl fun a W hA hb hd=>?_
     have h96:a.tmps[96]?.getD undef = .int .i64 (z+y+z):=gh (hd 7 (by simp) _ rfl)
     have hw:=HW2.out
     go_simp
   · refine okA rfl rfl fun a W hA hb hd=>?_
     have h5:a.tmps[5]?.getD undef = .pointer (some ⟨x.1,0,none⟩):=gt' hA (by simp) rfl
     go_simp
   · refine okA rfl rfl fun a W hA hb hd=>?_
     have h98:a.tmps[98]?.getD undef = .pointer (some ⟨x.1,0,none⟩):=gh (hd 9 (by simp) _ rfl)
     go_simp
   · refine okA rfl rfl fun a W hA hb hd=>?_
     have h99:a.tmps[99]?.getD undef = .pointer (some ⟨x.1,0,none⟩):=gh (hd 10 (by simp) _ rfl)
     go_simp
   · refine okA rfl rfl fun a W hA hb hd=>?_
     have h100:a.tmps[100]?.getD undef = .pointer (some ⟨x.1,2,none⟩):=gh (hd 11 (by simp) _ rfl)
     have hcc:W.cell? ⟨x.1,2,none⟩=some (.int .i64 (x.2.q:Int)):=(T6.out.ab hb).box.cell (k:=2) rfl
     go_simp
   intro vs w7 hR hF hb
   have e89:vs 89 = .pointer (some ⟨x.1,0,none⟩):=hR 0 _ rfl
   have e90:vs 90 = .pointer (some ⟨x.1,0,none⟩):=hR 1 _ rfl
   have e91:vs 91 = .pointer (some ⟨x.1,0,none⟩):=hR 2 _ rfl
   have e92:vs 92 = .pointer (some ⟨x.1,3,none⟩):=hR 3 _ rfl
   have e93:vs 93 = .slice mA l.length mc:=hR 4 _ rfl
   have e94:vs 94 = .int .i64 (z+y):=hR 5 _ rfl
   have e95:vs 95 = .int .i64 z:=hR 6 _ rfl
   have e96:vs 96 = .int .i64 (z+y+z):=hR 7 _ rfl
   have e97:vs 97 = .int .i64 (z+y+z+1):=hR 8 _ rfl
   have e98:vs 98 = .pointer (some ⟨x.1,0,none⟩):=hR 9 _ rfl
   have e99:vs 99 = .pointer (some ⟨x.1,0,none⟩):=hR 10 _ rfl
   have e100:vs 100 = .pointer (some ⟨x.1,2,none⟩):=hR 11 _ rfl
   have e101:vs 101 = .int .i64 (x.2.q:Int):=hR 12 _ rfl
   simp only[List.map_cons,List.map_nil,List.foldl_cons,List.foldl_nil,List.length_cons,List.length_nil,List.drop_succ_cons,List.drop_zero,Act.put,List.setIfInBounds_toArray,List.set_cons_zero,List.set_cons_succ,e89,e90,e91,e92,e93,e94,e95,e96,e97,e98,e99,e100,e101]
   have T7:=zz (T6.out.ab hb)
   have M7:=zz (M6.out.ab hb)
   have Q7:=zz (Q6.out.ab hb)
   have S7:=zz (S6.out.ab hb)
   clear hR hF hb e89 e90 e91 e92 e93 e94 e95 e96 e97 e98 e99 e100 e101 HCG
   have cov:=OV2.out
   have covp:¬(x.2.q:Int)<z+y+z+1:=of_decide_eq_false cov
   obtain⟨SA,sc,hsv,_⟩:=T7.out.sns.at
   subst hsv
   obtain⟨i0,hi0,hz0,hz1,hz2⟩:=info_parts infoSnp
   obtain⟨vs0,r1,r2,r3⟩:=T7.out.sns
   have R0:=zz r1
   have R2:=zz r2
   have R3:=zz r3
   have VL:Hid (∀k,(Value.slice SA x.2.sn.length sc).ownBlock=some k→k<w7.heap.size):=zz (row_ltR r1)
   have NX:Hid (¬(Value.slice SA x.2.sn.length sc).ownBlock=some x.1):=zz (row_ne r1 T7.out.box (by decide))
   have NQ:Hid (¬(Value.slice SA x.2.sn.length sc).ownBlock=some (w.heap.size+1)):=zz (row_ne r1 Q7.out (by decide))
   clear r1 r2 r3
   go_upto_region 21 with (fail)
   refine wp_wide5 (fun i k=>i=11∧(Value.slice SA x.2.sn.length sc).ownBlock=some k) [⟨104,IsR (.pointer (some ⟨x.1,0,none⟩)),[],false⟩,⟨105,IsR (.pointer (some ⟨x.1,0,none⟩)),[],false⟩,⟨106,IsR (.pointer (some ⟨x.1,0,none⟩)),[1],false⟩,⟨107,IsR (.pointer (some ⟨x.1,5,none⟩)),[2],false⟩,⟨108,IsR (.slice SA x.2.sn.length sc),[3],false⟩,⟨109,IsR (.pointer (some ⟨x.1,0,none⟩)),[],false⟩,⟨110,IsR (.pointer (some ⟨x.1,0,none⟩)),[5],false⟩,⟨111,IsR (.pointer (some ⟨x.1,3,none⟩)),[6],false⟩,⟨112,IsR (.slice mA l.length mc),[7],false⟩,⟨113,IsR (.agg #[.slice mA l.length mc,.bool false]),[8],false⟩,⟨114,(fun z W=>∃G,z = .slice (some ⟨G,0,none⟩) 1 1∧CbB W G 117 #[.slice mA l.length mc,.bool false]∧w7.heap.size≤G),[9],false⟩,⟨115,(fun z W=>W.ownsRow 0 117 2 z (x.2.sn.length+1) ((vs0.flatMap fun p=>[p.1,p.2])++[.slice mA l.length mc,.bool false])∧(z.ownBlock=(Value.slice SA x.2.sn.length sc).ownBlock∨∃k,z.ownBlock=some k∧w7.heap.size≤k)),[4,10],false⟩,⟨116,IsR (.pointer (some ⟨x.1,0,none⟩)),[0],false⟩,⟨117,IsR (.pointer (some ⟨x.1,5,none⟩)),[12],false⟩] (by kernel_rfl) (by kernel_rfl) rfl rfl rfl ⟨?_,?_,?_,?_,?_,?_,?_,?_,?_,?_,?_,?_,?_,?_,trivial⟩ ?_
   · refine okF rfl rfl fun a W hA hb hd=>?_
     have h5:a.tmps[5]?.getD undef = .pointer (some ⟨x.1,0,none⟩):=gt' hA (by simp) rfl
     go_simp
   · refine okF rfl rfl fun a W hA hb hd=>?_
     have h5:a.tmps[5]?.getD undef = .pointer (some ⟨x.1,0,none⟩):=gt' hA (by simp) rfl
     go_simp
   · refine okF rfl rfl fun a W hA hb hd=>?_
     have h105:a.tmps[105]?.getD undef = .pointer (some ⟨x.1,0,none⟩):=gh (hd 1 (by simp) _ rfl)
     go_simp
   · refine okF rfl rfl fun a W hA hb hd=>?_
     have h106:a.tmps[106]?.getD undef = .pointer (some ⟨x.1,0,none⟩):=gh (hd 2 (by simp) _ rfl)
     go_simp
   · refine okF rfl rfl fun a W hA hb hd=>?_
     have h107:a.tmps[107]?.getD undef = .pointer (some ⟨x.1,5,none⟩):=gh (hd 3 (by simp) _ rfl)
     have hcc:W.cell? ⟨x.1,5,none⟩=some (.slice SA x.2.sn.length sc):=(T7.out.box.fr hb (fun ⟨j,_,_,hj⟩=>NX.out hj)).cell (k:=5) rfl
     go_simp
   · refine okF rfl rfl fun a W hA hb hd=>?_
     have h5:a.tmps[5]?.getD undef = .pointer (some ⟨x.1,0,none⟩):=gt' hA (by simp) rfl
     go_simp
   · refine okF rfl rfl fun a W hA hb hd=>?_
     have h109:a.tmps[109]?.getD undef = .pointer (some ⟨x.1,0,none⟩):=gh (hd 5 (by simp) _ rfl)
     go_simp
   · refine okF rfl rfl fun a W hA hb hd=>?_
     have h110:a.tmps[110]?.getD undef = .pointer (some ⟨x.1,0,none⟩):=gh (hd 6 (by simp) _ rfl)
     go_simp
   · refine okF rfl rfl fun a W hA hb hd=>?_
     have h111:a.tmps[111]?.getD undef = .pointer (some ⟨x.1,3,none⟩):=gh (hd 7 (by simp) _ rfl)
     have hcc:W.cell? ⟨x.1,3,none⟩=some (.slice mA l.length mc):=(T7.out.box.fr hb (fun ⟨j,_,_,hj⟩=>NX.out hj)).cell (k:=3) rfl
     go_simp
   · refine okF rfl rfl fun a W hA hb hd=>?_
     have h112:a.tmps[112]?.getD undef = .slice mA l.length mc:=gh (hd 8 (by simp) _ rfl)
     go_simp
   · refine⟨rfl,fun z W W1 ⟨G1,h1,h2,h3⟩ hf=>⟨G1,h1,h2.fr hf (fun ⟨j,_,_,hj⟩=>by have:=VL.out _ hj;omega),h3⟩,fun a W hA hb hd=>takes5_plain rfl ?_⟩
     have h113:a.tmps[113]?.getD undef = .agg #[.slice mA l.length mc,.bool false]:=gh (hd 9 (by simp) _ rfl)
     refine .inl ⟨.slice (some ⟨W.heap.size,0,none⟩) 1 1,W.alloc (.cells #[.slice mA l.length mc,.bool false] 117),?_,⟨_,rfl,CbB.new _ _ _,hb.size⟩,Fr.of (alB) _⟩
     go_simp
   · refine⟨rfl,fun z W W1 ⟨h2,h3⟩ hf=>⟨row_fr h2 hf (fun k hk ⟨j,hj,hj2,_⟩=>hj hj2),h3⟩,fun a W hA hb hd=>takes5_plain rfl ?_⟩
     have hs:a.eval (.tmp 108) = .slice SA x.2.sn.length sc:=hd 4 (by simp) _ rfl
     obtain⟨GG2,he,hcb,hG⟩:=hd 10 (by simp) _ rfl
     have hx:a.eval (.tmp 114) = .slice (some ⟨GG2,0,none⟩) 1 1:=he
     have hown:=row_fr R0.out hb (fun k hk ⟨j,hj,hj2,_⟩=>hj hj2)
     obtain⟨v1,W1,hrun,r1,r2,_,r3⟩:=run_append_own_at (P:=Tryz.prog) W 0 81 81 117 i0 _ 2 32 Tryz.underlying81 hi0 hz0 hz1 hz2 rfl (by decide) (.slice SA x.2.sn.length sc) x.2.sn.length (vs0.flatMap fun p=>[p.1,p.2]) hown ⟨GG2,0,none⟩ 1 1 [.slice mA l.length mc,.bool false] rfl (row_at hcb) (by simp[Value.oneCell']) (by have:=SNL.out;simp only[maxLen];omega) (by have:=SNL.out;omega) (Nat.zero_le _)
     refine .inl ⟨v1,W1,?_,⟨r1,r3.imp id fun e=>⟨_,e,hb.size⟩⟩,(Fr.grown r2).imp fun k hk=>⟨rfl,hk⟩⟩
     unfold execOp
     simp only[resolve,invoke,builtin,Sem.run_bind,Sem.run_pure,Result.andThen_ok,List.map_toArray,List.map_cons,List.map_nil,hs,hx,hrun]
   · refine okF rfl rfl fun a W hA hb hd=>?_
     have h104:a.tmps[104]?.getD undef = .pointer (some ⟨x.1,0,none⟩):=gh (hd 0 (by simp) _ rfl)
     go_simp
   · refine okF rfl rfl fun a W hA hb hd=>?_
     have h116:a.tmps[116]?.getD undef = .pointer (some ⟨x.1,0,none⟩):=gh (hd 12 (by simp) _ rfl)
     go_simp
   intro vs2 w8 hR hb
   have FR:Hid (Fr w7 w8 (fun k=>(Value.slice SA x.2.sn.length sc).ownBlock=some k)):=zz (hb.imp fun k ⟨j,_,hj⟩=>hj)
   have H115:w8.ownsRow 0 117 2 (vs2 115) (x.2.sn.length+1) ((vs0.flatMap fun p=>[p.1,p.2])++[.slice mA l.length mc,.bool false])∧((vs2 115).ownBlock=(Value.slice SA x.2.sn.length sc).ownBlock∨∃k,(vs2 115).ownBlock=some k∧w7.heap.size≤k):=hR 11 _ rfl
   have e104:vs2 104 = .pointer (some ⟨x.1,0,none⟩):=hR 0 _ rfl
   have e105:vs2 105 = .pointer (some ⟨x.1,0,none⟩):=hR 1 _ rfl
   have e106:vs2 106 = .pointer (some ⟨x.1,0,none⟩):=hR 2 _ rfl
   have e107:vs2 107 = .pointer (some ⟨x.1,5,none⟩):=hR 3 _ rfl
   have e108:vs2 108 = .slice SA x.2.sn.length sc:=hR 4 _ rfl
   have e109:vs2 109 = .pointer (some ⟨x.1,0,none⟩):=hR 5 _ rfl
   have e110:vs2 110 = .pointer (some ⟨x.1,0,none⟩):=hR 6 _ rfl
   have e111:vs2 111 = .pointer (some ⟨x.1,3,none⟩):=hR 7 _ rfl
   have e112:vs2 112 = .slice mA l.length mc:=hR 8 _ rfl
   have e113:vs2 113 = .agg #[.slice mA l.length mc,.bool false]:=hR 9 _ rfl
   have e116:vs2 116 = .pointer (some ⟨x.1,0,none⟩):=hR 12 _ rfl
   have e117:vs2 117 = .pointer (some ⟨x.1,5,none⟩):=hR 13 _ rfl
   simp only[List.map_cons,List.map_nil,List.foldl_cons,List.foldl_nil,List.length_cons,List.length_nil,List.drop_succ_cons,List.drop_zero,Act.put,List.setIfInBounds_toArray,List.set_cons_zero,List.set_cons_succ,e104,e105,e106,e107,e108,e109,e110,e111,e112,e113,e116,e117]
   clear hR hb e104 e105 e106 e107 e108 e109 e110 e111 e112 e113 e116 e117
   generalize vs2 114=q114 at *
   generalize vs2 115=sz at *
   obtain⟨L,hL⟩:∃L,x.2.sn.length+1=L:=⟨_,rfl⟩
   rw[hL] at H115⊢
   have HLL:=zz hL
   have L1:Hid (L≤1001):=zz (by have:=SNL.out;omega)
   clear hL
   obtain⟨hrow,hown⟩:=H115
   obtain⟨A7,c7,rfl⟩:=row_shape hrow
   have RW:=zz hrow
   have OW:=zz hown
   clear hrow hown
   have X8:=zz (T7.out.box.fr FR.out NX.out)
   have Q8:=zz (Q7.out.fr FR.out NQ.out)
   have hf8:=X8.out.free 5
   have hx8:=X8.out.cell (k:=5) rfl
   go_upto_region 22 with (fail)
   have FX:Fr w8 (w8.setCell ⟨x.1,5,none⟩ (.slice A7 L c7)) (fun k=>k=x.1):=(Fr.grown (grown_cell w8 x.1 5 (.slice A7 L c7))).imp fun k hk=>by injection hk with hk;exact hk.symm
   have X9:=X8.out.set 5 (.slice A7 L c7)
   have Q9:=zz (Q8.out.fr FX (cb_neX Q8.out X8.out (by decide)))
   have RW9:=row_fr RW.out FX (fun g hg e=>row_ne RW.out X8.out (by decide) (by rw[hg,e]))
   obtain⟨w9,hw9⟩:∃w9,w8.setCell ⟨x.1,5,none⟩ (.slice A7 L c7)=w9:=⟨_,rfl⟩
   rw[hw9] at FX X9 Q9 RW9⊢
   clear hw9 hf8 hx8
   obtain⟨T9',K9'⟩:=T7.out.snS (sn':=x.2.sn++[(x.2.now,false)]) (vs':=vs0++[(.slice mA l.length mc,.bool false)]) ((FR.out.imp fun k hk=>.inr hk).tr (FX.imp fun k hk=>.inl hk)) X9 (by rw[List.length_append,List.length_singleton,HLL.out,List.flatMap_append];exact RW9) (by rw[List.length_append,List.length_append,R2.out];rfl) (fun i q p hq hp=>by
    by_cases hi:i<vs0.length
    · rw[List.getElem?_append_left hi] at hq
      rw[List.getElem?_append_left (by rw[←R2.out];exact hi)] at hp
      exact R3.out i q p hq hp
    · rw[List.getElem?_append_right (by omega)] at hq
      rw[List.getElem?_append_right (by rw[←R2.out];omega),←R2.out] at hp
      obtain⟨hq1,rfl⟩:=List.mem_singleton.1 (List.mem_of_getElem? hq) |> fun e=>And.intro trivial e
      have:=List.mem_singleton.1 (List.mem_of_getElem? hp)
      subst this
      exact⟨rfl,_,T7.out.now⟩) OW.out
   obtain⟨O9,hO9⟩:∃O9,opnTg (cutTg O w.heap.size) w7.heap.size r x.2.n=O9:=⟨_,rfl⟩
   have OA9:Hid (O9 (w.heap.size+1)=some (0,0)):=zz (by rw[←hO9,opnTg_lt Q7.out.lt];exact cutTg_at (Nat.le_succ _))
   rw[hO9] at T9' K9'
   have T9:=zz T9'
   have K9:=zz K9'
   have OA:=OA9
   have m9:=M7.out.upd (n:=x.2.n) (t':=setSn x.2 (x.2.sn++[(x.2.now,false)])) (by rw[XN.out];exact HFN.out) K9.out rfl (setSn_ok _ OKX.out) ⟨_,_,_,_,_,T9.out⟩
   rw[XN.out] at m9
   have M9:=zz m9
   have S9:Hid (Stp (fun τ=>τ.1=r) w O w9 O9):=zz (S7.out.tr (K9.out.imp fun τ e=>by rw[e]))
   have d5:w9.cell? ⟨x.1,5,none⟩=some (.slice A7 L c7):=X9.cell (k:=5) rfl
   have hwL:IntKind.u64.wrap (L:Int)=(L:Int):=wide_u64 L (by have:=L1.out;omega)
   clear T9' K9' hO9 OA9 m9 FX X9 RW9
   go_wp2_with (first
    | ((with_reducible refine stA 124 ?_ (#[.int .i64 0,.int .u64 0,.int .u64 (L:Int),.slice none 0 0,.slice none 0 0,.int .i64 0,.slice none 0 0]) ?_ Q9 ?_ ?_ (by simp[Value.oneCell']) ?_);rfl;rfl;rfl;rfl;intro wz QZ FZ))
   refine bodyPost_ret (ansR Tryz.results31 QZ rfl rfl) rfl ?_
   exact⟨_,_,rfl,AnsI.box (show AnsI w9 _ (snA (x.2.sn.length+1)) from by rw[HLL.out];exact AnsI.flat _ 0 0 L 0) FZ.out Q9.out,⟨_,_,M9.out.stp (Stp.box FZ.out OA.out) fun i e=>by injection e with e;have:=NP.out;omega⟩,S9.out.fresh FZ.out (Nat.le_succ _)⟩
 · have KD:=zz hkind
   have Z0:=zz h0
   clear hkind h0
   have k0:=cK KD CB5.out rfl
   have S5:=stC r O B5
   have OA:=oaT O w
   have k7:w5.cell? ⟨w.heap.size,7,none⟩=some (.int .u64 ((0:Nat):Int)):=by rw[←Z0.out];exact CB5.out.cell (k:=7) rfl
   have HSE:=zz (rseen_any 0 T5.out (by have:=LM.out.sn;omega) (by decide))
   go_wp2_with fail
   refine HSE.out.mono ?_
   rintro e w6 ⟨hs,rfl⟩
   rcases hs with ⟨hs,_⟩ | ⟨S',A',c',l',_,hs,rfl⟩
   · exfalso
     unfold seenP at hs
     rw[if_pos rfl] at hs
     cases hs
   clear hs HSE
   go_wp2_with fail
   refine (HF.out _ _).mono ?_
   rintro e w8 ⟨rfl,hb⟩
   have Q8:=zz (Q5.out.ab hb)
   have S8:=zz (S5.out.ab hb)
   have M8:=zz (M5.out.ab hb)
   clear hb
   go_wp2_with (first
    | ((with_reducible refine stA 141 ?_ (ansE 262) ?_ Q8 ?_ ?_ (ansE_one _) ?_);rfl;rfl;rfl;rfl;intro wz QZ FZ))
   refine bodyPost_ret (ansR Tryz.results31 QZ rfl rfl) rfl ?_
   exact RdR.er 262 M8 S8 FZ OA.out NP
 · have KD:=zz hkind
   have HS64:=zz HC.out.ok.sn
   have SN0:=zz hn0
   have HSN:=zz hs
   clear hkind hn0 hs
   have k0:=cK KD CB5.out rfl
   have k7:w5.cell? ⟨w.heap.size,7,none⟩=some (.int .u64 (c.sn:Int)):=CB5.out.cell (k:=7) rfl
   have S5:=stC r O B5
   have OA:=oaT O w
   have HSE:=zz (rseen_any c.sn T5.out (by have:=LM.out.sn;omega) HS64.out)
   go_wp2_with fail
   refine HSE.out.mono ?_
   rintro e w6 ⟨hse,rfl⟩
   rcases hse with ⟨_,rfl⟩ | ⟨S',A',c',l',hse,_,_⟩
   case inr=>
    exfalso
    rw[seenP_snP SN0.out,HSN.out] at hse
    cases hse
   clear HSE
   go_wp2_with fail
   refine (HF.out _ _).mono ?_
   rintro e w8 ⟨rfl,hb⟩
   have Q8:=zz (Q5.out.ab hb)
   have S8:=zz (S5.out.ab hb)
   have M8:=zz (M5.out.ab hb)
   clear hb
   go_wp2_with (first
    | ((with_reducible refine stA 141 ?_ (ansE 262) ?_ Q8 ?_ ?_ (ansE_one _) ?_);rfl;rfl;rfl;rfl;intro wz QZ FZ))
   refine bodyPost_ret (ansR Tryz.results31 QZ rfl rfl) rfl ?_
   exact RdR.er 262 M8 S8 FZ OA.out NP
 · have KD:=zz hkind
   have HS64:=zz HC.out.ok.sn
   have SN0:=zz hn0
   have HSN:=zz hs
   clear hkind hn0 hs
   have k0:=cK KD CB5.out rfl
   have k7:w5.cell? ⟨w.heap.size,7,none⟩=some (.int .u64 (c.sn:Int)):=CB5.out.cell (k:=7) rfl
   have S5:=stC r O B5
   have OA:=oaT O w
   have HSE:=zz (rseen_any c.sn T5.out (by have:=LM.out.sn;omega) HS64.out)
   have hs7:((c.sn:Int)==0)=false:=by have:=SN0.out;simp;omega
   have hs8:¬c.sn=0:=SN0.out
   go_wp2_with fail
   refine HSE.out.mono ?_
   rintro e w6 ⟨hse,rfl⟩
   obtain⟨k,hk⟩:∃k,c.sn-1=k:=⟨_,rfl⟩
   have h2:=HSN.out
   unfold snP at h2
   rw[if_neg SN0.out] at h2
   have hp:x.2.sn[k]? = some (S,false):=by
    rw[hk] at h2
    cases hq:x.2.sn[k]? with
    | none=>rw[hq] at h2;simp at h2
    | some p=>
      obtain⟨S1,b1⟩:=p
      rw[hq] at h2
      cases b1 with
      | true=>simp at h2
      | false=>simp at h2;rw[h2]
   rcases hse with ⟨hse,_⟩ | ⟨S',A',c',l',hse,_,rfl⟩
   · exfalso
     rw[seenP_snP SN0.out,HSN.out] at hse
     cases hse
   have HP:=zz hp
   have HKN:=zz hk
   obtain⟨vs0,r1,r2,r3⟩:=T5.out.sns
   obtain⟨SA,sc,hsv⟩:=row_shape r1
   subst hsv
   have hkl:k<x.2.sn.length:=(List.getElem?_eq_some_iff.1 hp).1
   obtain⟨gb,rfl,hcells⟩:=row_cells r1 (by omega)
   obtain⟨q0,hq0⟩:∃q0,vs0[k]? = some q0:=⟨_,List.getElem?_eq_getElem (by omega)⟩
   obtain⟨f1,f2⟩:=flat_at vs0 k q0 hq0
   have VL:=row_ltR r1 gb rfl
   have R0:=zz r1
   have R2:=zz r2
   have R3:=zz r3
   have HQ:=zz hq0
   have GL:=zz VL
   have NX:Hid (x.1≠gb):=zz fun e=>row_ne r1 T5.out.box (by decide) (by rw[e];rfl)
   have NQ:Hid (w.heap.size+1≠gb):=zz fun e=>row_ne r1 Q5.out (by decide) (by rw[e];rfl)
   obtain⟨sl,hsl⟩:∃sl,x.2.sn.length=sl:=⟨_,rfl⟩
   have HSL:=zz hsl
   have BX5:=zz T5.out.box
   rw[hsl] at BX5
   have HS1:Hid ((c.sn:Int)-1=(k:Int)):=zz (by have:=SN0.out;omega)
   have HKM:Hid ((k:Int)<(sl:Int)):=zz (by omega)
   have HKW:Hid (IntKind.u64.wrap (k:Int)=(k:Int)):=zz (wide_u64 k (by have:=LM.out.sn;omega))
   clear hse h2 hp r1 r2 r3 hkl hcells hq0 f1 f2 VL HSE hsl hk
   go_upto_region 27 with (fail)
   refine wp_wide3 [⟨142,IsR (.pointer (some ⟨x.1,0,none⟩)),[],false⟩,⟨143,IsR (.pointer (some ⟨x.1,0,none⟩)),[0],false⟩,⟨144,IsR (.pointer (some ⟨x.1,5,none⟩)),[1],false⟩,⟨145,IsR (.slice (some ⟨gb,0,none⟩) sl sc),[2],false⟩,⟨146,IsR (.pointer (some ⟨w.heap.size,7,none⟩)),[],false⟩,⟨147,IsR (.int .u64 (c.sn:Int)),[4],false⟩,⟨148,IsR (.int .u64 (k:Int)),[5],false⟩,⟨149,IsR (.pointer (some ⟨gb,k*2,none⟩)),[3,6],false⟩,⟨150,IsR (.pointer (some ⟨gb,k*2+1,none⟩)),[7],false⟩] (by kernel_rfl) (by kernel_rfl) rfl rfl rfl ⟨?_,?_,?_,?_,?_,?_,?_,?_,?_,trivial⟩ ?_
   · refine okA rfl rfl fun a W hA hb hd=>?_
     have h5:a.tmps[5]?.getD undef = .pointer (some ⟨x.1,0,none⟩):=gt' hA (by simp) rfl
     go_simp
   · refine okA rfl rfl fun a W hA hb hd=>?_
     have h142:a.tmps[142]?.getD undef = .pointer (some ⟨x.1,0,none⟩):=gh (hd 0 (by simp) _ rfl)
     go_simp
   · refine okA rfl rfl fun a W hA hb hd=>?_
     have h143:a.tmps[143]?.getD undef = .pointer (some ⟨x.1,0,none⟩):=gh (hd 1 (by simp) _ rfl)
     go_simp
   · refine okA rfl rfl fun a W hA hb hd=>?_
     have h144:a.tmps[144]?.getD undef = .pointer (some ⟨x.1,5,none⟩):=gh (hd 2 (by simp) _ rfl)
     have hcc:W.cell? ⟨x.1,5,none⟩=some (.slice (some ⟨gb,0,none⟩) sl sc):=(BX5.out.ab hb).cell (k:=5) rfl
     go_simp
   · refine okA rfl rfl fun a W hA hb hd=>?_
     have h3:a.tmps[3]?.getD undef = .pointer (some ⟨w.heap.size,0,none⟩):=gt' hA (by simp) rfl
     go_simp
   · refine okA rfl rfl fun a W hA hb hd=>?_
     have h146:a.tmps[146]?.getD undef = .pointer (some ⟨w.heap.size,7,none⟩):=gh (hd 4 (by simp) _ rfl)
     have hcc:W.cell? ⟨w.heap.size,7,none⟩=some (.int .u64 (c.sn:Int)):=(CB5.out.ab hb).cell (k:=7) rfl
     go_simp
   · refine okA rfl rfl fun a W hA hb hd=>?_
     have h147:a.tmps[147]?.getD undef = .int .u64 (c.sn:Int):=gh (hd 5 (by simp) _ rfl)
     have hs1:=HS1.out
     have hkw:=HKW.out
     go_simp
   · refine okA rfl rfl fun a W hA hb hd=>?_
     have h145:a.tmps[145]?.getD undef = .slice (some ⟨gb,0,none⟩) sl sc:=gh (hd 3 (by simp) _ rfl)
     have h148:a.tmps[148]?.getD undef = .int .u64 (k:Int):=gh (hd 6 (by simp) _ rfl)
     have hkm:=HKM.out
     have hk0:(0:Int)≤(k:Int):=by omega
     go_simp
   · refine okA rfl rfl fun a W hA hb hd=>?_
     have h149:a.tmps[149]?.getD undef = .pointer (some ⟨gb,k*2,none⟩):=gh (hd 7 (by simp) _ rfl)
     go_simp
   intro vs w6 hR hF hb
   have e142:vs 142 = .pointer (some ⟨x.1,0,none⟩):=hR 0 _ rfl
   have e143:vs 143 = .pointer (some ⟨x.1,0,none⟩):=hR 1 _ rfl
   have e144:vs 144 = .pointer (some ⟨x.1,5,none⟩):=hR 2 _ rfl
   have e145:vs 145 = .slice (some ⟨gb,0,none⟩) sl sc:=hR 3 _ rfl
   have e146:vs 146 = .pointer (some ⟨w.heap.size,7,none⟩):=hR 4 _ rfl
   have e147:vs 147 = .int .u64 (c.sn:Int):=hR 5 _ rfl
   have e148:vs 148 = .int .u64 (k:Int):=hR 6 _ rfl
   have e149:vs 149 = .pointer (some ⟨gb,k*2,none⟩):=hR 7 _ rfl
   have e150:vs 150 = .pointer (some ⟨gb,k*2+1,none⟩):=hR 8 _ rfl
   simp only[List.map_cons,List.map_nil,List.foldl_cons,List.foldl_nil,List.length_cons,List.length_nil,List.drop_succ_cons,List.drop_zero,Act.put,List.setIfInBounds_toArray,List.set_cons_zero,List.set_cons_succ,e142,e143,e144,e145,e146,e147,e148,e149,e150]
   have T6:=zz (T5.out.ab hb)
   have M6:=zz (M5.out.ab hb)
   have Q6:=zz (Q5.out.ab hb)
   have S6:=zz (S5.out.ab hb)
   have R6:=zz (row_fr R0.out (Fr.of hb (fun _=>False)) (fun _ _ h=>h))
   have R36:Hid (∀(i:Nat) (q:Value×Value) (p:Bk2×Bool),vs0[i]? = some q→x.2.sn[i]? = some p→q.2 = .bool p.2∧∃l,MpR w6 (cutTg O w.heap.size) q.1 p.1 l):=zz fun i q p hq hp=>by
    obtain⟨a1,l9,a2⟩:=R3.out i q p hq hp
    exact⟨a1,l9,a2.stp (Stp.of hb (fun _=>False) fun _ _=>rfl)⟩
   clear hR hF hb e142 e143 e144 e145 e146 e147 e148 e149 e150
   have hf6:=row_freeZ R6.out (k*2+1)
   have hc6:w6.cell? ⟨gb,k*2+1,none⟩=some (.bool false):=by
    obtain⟨f1,f2⟩:=flat_at vs0 k q0 HQ.out
    obtain⟨a1,_⟩:=R36.out k q0 _ HQ.out HP.out
    obtain⟨g2,hg2,hcells⟩:=row_cells R6.out (by have:=HKM.out;have:=HSL.out;omega)
    injection hg2 with hg2
    injection hg2 with hg2
    subst hg2
    rw[←a1]
    exact hcells _ _ f2
   go_upto_region 28 with (fail)
   have FX:Fr w6 (w6.setCell ⟨gb,k*2+1,none⟩ (.bool true)) (fun j=>j=gb):=(Fr.grown (grown_cell w6 gb (k*2+1) (.bool true))).imp fun k hk=>by injection hk with hk;exact hk.symm
   have RW9:=row_set R6.out (k:=k*2+1) (by have:=HKM.out;have:=HSL.out;omega) (.bool true)
   have X9:=T6.out.box.fr FX NX.out
   have Q9:=zz (Q6.out.fr FX NQ.out)
   obtain⟨w9,hw9⟩:∃w9,w6.setCell ⟨gb,k*2+1,none⟩ (.bool true)=w9:=⟨_,rfl⟩
   rw[hw9] at FX X9 Q9 RW9⊢
   clear hw9 hf6 hc6
   have hre:relL x.2.sn c.sn=x.2.sn.set k (S,true):=by
    unfold relL
    rw[HKN.out,HP.out]
   obtain⟨T9',K9'⟩:=T6.out.snS (sn':=relL x.2.sn c.sn) (vs':=vs0.set k (q0.1,.bool true)) (FX.imp fun j hj=>.inr (by rw[hj];rfl)) X9 (by rw[hre,List.length_set,flat_set HQ.out];exact RW9) (by rw[hre,List.length_set,List.length_set,R2.out]) (fun i q p hq hp=>by
    rw[hre] at hp
    by_cases hi:i=k
    · subst hi
      rw[List.getElem?_set_self (by have:=(List.getElem?_eq_some_iff.1 HQ.out).1;exact this)] at hq
      rw[List.getElem?_set_self (by have:=(List.getElem?_eq_some_iff.1 HP.out).1;exact this)] at hp
      injection hq with hq
      injection hp with hp
      subst hq hp
      obtain⟨_,l9,a2⟩:=R36.out i q0 _ HQ.out HP.out
      exact⟨rfl,l9,a2⟩
    · rw[List.getElem?_set_ne (Ne.symm hi)] at hq hp
      exact R36.out i q p hq hp) (.inl rfl)
   obtain⟨O9,hO9⟩:∃O9,opnTg (cutTg O w.heap.size) w6.heap.size r x.2.n=O9:=⟨_,rfl⟩
   have OA9:Hid (O9 (w.heap.size+1)=some (0,0)):=zz (by rw[←hO9,opnTg_lt Q6.out.lt];exact cutTg_at (Nat.le_succ _))
   rw[hO9] at T9' K9'
   have T9:=zz T9'
   have K9:=zz K9'
   have OA:=OA9
   have m9:=M6.out.upd (n:=x.2.n) (t':=setSn x.2 (relL x.2.sn c.sn)) (by rw[XN.out];exact HFN.out) K9.out rfl (setSn_ok _ OKX.out) ⟨_,_,_,_,_,T9.out⟩
   rw[XN.out] at m9
   have M9:=zz m9
   have S9:Hid (Stp (fun τ=>τ.1=r) w O w9 O9):=zz (S6.out.tr (K9.out.imp fun τ e=>by rw[e]))
   clear T9' K9' hO9 OA9 m9 FX X9 RW9 hre
   go_wp2_with fail
   refine (HF.out _ _).mono ?_
   rintro e w8 ⟨rfl,hb⟩
   have Q8:=zz (Q9.out.ab hb)
   have S8:=zz (S9.out.ab hb)
   have M8:=zz (M9.out.ab hb)
   clear hb
   go_wp2_with (first
    | ((with_reducible refine stA 151 ?_ (ansE 0) ?_ Q8 ?_ ?_ (ansE_one _) ?_);rfl;rfl;rfl;rfl;intro wz QZ FZ))
   refine bodyPost_ret (ansR Tryz.results31 QZ rfl rfl) rfl ?_
   exact RdR.er 0 M8 S8 FZ OA.out NP
end
end Go.Proofs.YtgdhinjhbjolgaaGreat
