/-
  Parts of the proof, joined.
-/
import Derived.Test.YtnboclhgeehdoaaGreatBdr
import Derived.Deep.QuietTactic
import Derived.BigQuiet
import Derived.Test.YtnboclhgeehdoaaGreatBda
import Derived.JoinedOf
namespace Go.Proofs.YtnboclhgeehdoaaGreat
set_option maxHeartbeats 16000000
open Go.RowKit
set_option linter.unusedVariables false
set_option linter.unusedSimpArgs false
def BgR (w:World) (e:Ending) (w':World):Prop:=∃x p r d rg lg gw gv O',e = .returned (.tuple #[.pointer (some ⟨x,0,none⟩),.bool true])∧CbB w' x 60 #[.pointer (some ⟨d,0,none⟩),.pointer (some ⟨rg,0,none⟩),.pointer (some ⟨lg,0,none⟩),.pointer (some ⟨p,0,none⟩),.pointer (some ⟨r,0,none⟩),.pointer (some ⟨gw,0,none⟩),.pointer (some ⟨gv,0,none⟩),.slice none 0 0]∧PgM w' O' p d rg lg (newT [(2,8)])∧RsM w' O' r d ⟨1,0,0⟩∧Below w.heap.size w w'
set_option maxRecDepth 100000 in
theorem began20_any (w:World):Calls Tryz.prog 17 #[.int .i64 8,.int .u64 1,.slice none 0 0] w (BgR w):=by
 go_enter Tryz.func17,Tryz.ntmps17
 go_wp2_with fail
 refine (diskNew_any 8 w (by decide) (by decide)).mono ?_
 rintro e w1 ⟨d,g1,g2,rfl,hd,hb1⟩
 have D1:=Lib.hid hd.ds
 have B1:=Lib.hid hb1
 clear hd hb1
 go_wp2_with fail
 refine (newRing_any w1).mono ?_
 rintro e w2 ⟨rg,m,rfl,hge,hr,hb2⟩
 have D2:=Lib.hid (D1.out.ab hb2)
 have R2:=Lib.hid (hr.lowr B1.out.size)
 have GE2:=Lib.hid (Nat.le_trans B1.out.size hge)
 have B2:=Lib.hid (below_tr B1.out hb2 B1.out.size)
 clear hr hb2 hge D1 B1
 go_wp2_with fail
 refine (newLog_any w2).mono ?_
 rintro e w3 ⟨lg,rfl,hge,hl,hb3⟩
 have D3:=Lib.hid (D2.out.ab hb3)
 have R3:=Lib.hid (R2.out.ab hb3)
 have GE3:=Lib.hid (Nat.le_trans B2.out.size hge)
 have B3:=Lib.hid (below_tr B2.out hb3 B2.out.size)
 have L3:=Lib.hid (LgB.empty (B:=w.heap.size) hl B3.out.size)
 clear hl hb3 hge D2 B2 R2
 have kx:=CbB.new w3 60 #[.pointer (some ⟨d,0,none⟩),.pointer (some ⟨rg,0,none⟩),.pointer (some ⟨lg,0,none⟩),.pointer none,.pointer none,.pointer none,.pointer none,.slice none 0 0]
 have a1:Below w3.heap.size w3 (w3.alloc (.cells #[.pointer (some ⟨d,0,none⟩),.pointer (some ⟨rg,0,none⟩),.pointer (some ⟨lg,0,none⟩),.pointer none,.pointer none,.pointer none,.pointer none,.slice none 0 0] 60)):=(Below.refl _ _).alloc (Nat.le_refl _) _
 have a2:Below (w3.alloc (.cells #[.pointer (some ⟨d,0,none⟩),.pointer (some ⟨rg,0,none⟩),.pointer (some ⟨lg,0,none⟩),.pointer none,.pointer none,.pointer none,.pointer none,.slice none 0 0] 60)).heap.size (w3.alloc (.cells #[.pointer (some ⟨d,0,none⟩),.pointer (some ⟨rg,0,none⟩),.pointer (some ⟨lg,0,none⟩),.pointer none,.pointer none,.pointer none,.pointer none,.slice none 0 0] 60)) ((w3.alloc (.cells #[.pointer (some ⟨d,0,none⟩),.pointer (some ⟨rg,0,none⟩),.pointer (some ⟨lg,0,none⟩),.pointer none,.pointer none,.pointer none,.pointer none,.slice none 0 0] 60)).alloc (.cells #[.slice none 0 0] 123)):=(Below.refl _ _).alloc (Nat.le_refl _) _
 have kx2:=kx.ab a2
 have a3:=below_tr a1 a2 a1.size
 have es:(w3.alloc (.cells #[.pointer (some ⟨d,0,none⟩),.pointer (some ⟨rg,0,none⟩),.pointer (some ⟨lg,0,none⟩),.pointer none,.pointer none,.pointer none,.pointer none,.slice none 0 0] 60)).heap.size=w3.heap.size+1:=by simp
 have KX:=Lib.hid kx2
 have A3:=Lib.hid a3
 clear kx a1 a2 kx2 a3 es
 go_wp2_with fail
 obtain⟨w5,hw5⟩:∃w5,(w3.alloc (.cells #[.pointer (some ⟨d,0,none⟩),.pointer (some ⟨rg,0,none⟩),.pointer (some ⟨lg,0,none⟩),.pointer none,.pointer none,.pointer none,.pointer none,.slice none 0 0] 60)).alloc (.cells #[.slice none 0 0] 123)=w5:=⟨_,rfl⟩
 obtain⟨x,hx⟩:∃x,w3.heap.size=x:=⟨_,rfl⟩
 rw[hw5] at KX A3⊢
 have XL:Hid (w.heap.size≤x):=Lib.hid (by rw[←hx];exact B3.out.size)
 have D5:=Lib.hid (D3.out.ab A3.out)
 have R5:=Lib.hid (R3.out.ab A3.out)
 have L5:=Lib.hid (L3.out.ab A3.out)
 have B5:=Lib.hid (below_tr B3.out A3.out B3.out.size)
 rw[hx] at KX⊢
 clear hw5 hx A3 D3 R3 L3 B3
 go_loopw [39] (fun z wx=>z = .int .i64 0∧w5=wx) (fun _ _=>0)
 case atStart=>exact⟨rfl,rfl⟩
 case round=>
  obtain⟨rfl,rfl⟩:=hrel
  go_wp2_with fail
  have b6:Below w5.heap.size w5 (w5.alloc (.cells #[.int .u32 2,.int .u32 8] 72)):=(Below.refl _ _).alloc (Nat.le_refl _) _
  have r6:RnB (w5.alloc (.cells #[.int .u32 2,.int .u32 8] 72)) (some ⟨w5.heap.size,0,none⟩) 1 1 [(2,8)]:=by
   obtain⟨A,c,h1,h2,_⟩:=(RuB.one w5 2 8).rn
   injection h1 with e1 e2 e3
   subst e1 e3
   exact h2
  refine (rd8_any 8 (by decide) _).mono ?_
  rintro e w7 ⟨g8,v1,v2,b1,b2,rfl,hrd,hl1,hl2,hb7⟩
  have b57:=below_tr b6 hb7 b6.size
  have RD7:=Lib.hid (And.intro hrd hl1)
  have RN7:=Lib.hid (r6.ab hb7)
  have XB:Hid (x<(w5.alloc (.cells #[.int .u32 2,.int .u32 8] 72)).heap.size∧x<w5.heap.size):=Lib.hid (by have:=KX.out.lt;simp;omega)
  have D7:=Lib.hid (D5.out.ab b57)
  have R7:=Lib.hid (R5.out.ab b57)
  have L7:=Lib.hid (L5.out.ab b57)
  have K7:=Lib.hid (KX.out.ab b57)
  have B7:=Lib.hid (below_tr B5.out b57 B5.out.size)
  obtain⟨dv,ri,lo⟩:=stageX (τ:=(0,8)) D7.out R7.out GE2.out L7.out GE3.out K7.out (by decide)
  obtain⟨O7,hO7⟩:∃O7,stX w7 w.heap.size m x (0,8)=O7:=⟨_,rfl⟩
  have OL:Hid (∀k,k<w.heap.size→O7 k=(0,9)):=Lib.hid fun k hk=>by rw[←hO7];exact stX_low XL.out hk
  have TX:Hid (O7 x=(0,8)):=Lib.hid (by rw[←hO7];exact stX_x)
  rw[hO7] at dv ri lo
  have DV:=Lib.hid dv
  have c1:w7.cell? ⟨x,1,none⟩=some (.pointer (some ⟨rg,0,none⟩)):=K7.out.cell (k:=1) rfl
  have c2:w7.cell? ⟨x,2,none⟩=some (.pointer (some ⟨lg,0,none⟩)):=K7.out.cell (k:=2) rfl
  clear b6 r6 hrd hl1 hl2 hb7 b57 D5 R5 L5 KX B5 D7 R7 L7 dv ri lo hO7
  obtain⟨B6,hB6⟩:∃B6,(w5.alloc (.cells #[.int .u32 2,.int .u32 8] 72)).heap.size=B6:=⟨_,rfl⟩
  rw[hB6] at RD7 XB
  clear hB6
  go_wp2_with fail
  refine (new_ok (rg:=rg) (lg:=lg) DV.out RN7.out (by decide) (by decide) (by decide)).mono ?_
  rintro e w8 ⟨p,O8,rfl,hp8,s8,hge8⟩
  have PP:Hid (0<p):=Lib.hid (by obtain⟨b,h,_⟩:=hp8;exact h.pos)
  have K8:=Lib.hid (CbB.fr K7.out s8.fr id)
  have T8:Hid (O8 x=(0,8)):=Lib.hid ((s8.tg x K7.out.lt).trans TX.out)
  have P8:=Lib.hid hp8
  have V8:=Lib.hid (DV.out.wr s8 id)
  have S8:=Lib.hid s8
  clear hp8 s8 hge8 c1 c2 DV
  have c3:w8.cell? ⟨x,3,none⟩=some (.pointer none):=K8.out.cell (k:=3) rfl
  have f3:=K8.out.free 3
  have K9:=Lib.hid (K8.out.set 3 (.pointer (some ⟨p,0,none⟩)))
  have s9:Wr (fun τ=>τ=(0,8)) w8 O8 (w8.setCell ⟨x,3,none⟩ (.pointer (some ⟨p,0,none⟩))) O8:=⟨(fr_setD w8 x 3 _).imp fun q hq=>by rw[hq];exact T8.out,fun _ _=>rfl⟩
  have P9:=Lib.hid (P8.out.wr s9 (fun i e=>by have:=PP.out;injection e with e;omega) (fun e=>by cases e))
  have V9:=Lib.hid (V8.out.wr s9 (fun e=>by cases e))
  have S9:=Lib.hid ((S8.out.imp (Q:=fun τ=>τ=(0,8)) fun _=>False.elim).tr s9)
  have F9:Hid (Fr w7 (w8.setCell ⟨x,3,none⟩ (.pointer (some ⟨p,0,none⟩))) (fun k=>k=x)):=Lib.hid ((S8.out.fr.imp fun k=>False.elim).trW (fr_setD w8 x 3 _))
  clear s9
  go_wp2_with fail
  obtain⟨w9,hw9⟩:∃w9,w8.setCell ⟨x,3,none⟩ (.pointer (some ⟨p,0,none⟩))=w9:=⟨_,rfl⟩
  rw[hw9] at K9 P9 V9 S9 F9⊢
  clear hw9 c3 f3 K8 P8 V8 S8
  refine (regsNewM (d:=d) (O:=O8) 1 (by decide)).mono ?_
  rintro e wa ⟨r,Oa,rfl,hra,sa,hgea⟩
  have Ra:=Lib.hid hra
  have Pa:=Lib.hid (P9.out.wr sa (fun _=>id) id)
  have Ka:=Lib.hid (CbB.fr K9.out sa.fr id)
  have Ta:Hid (Oa x=(0,8)):=Lib.hid ((sa.tg x K9.out.lt).trans T8.out)
  have Sa:=Lib.hid (S9.out.tr (sa.imp fun _=>False.elim))
  have Fa:=Lib.hid (F9.out.trW (sa.fr.imp fun k=>False.elim))
  clear hra sa hgea K9 P9 V9 S9 F9 T8
  have c4:wa.cell? ⟨x,4,none⟩=some (.pointer none):=Ka.out.cell (k:=4) rfl
  have f4:=Ka.out.free 4
  have sb:Wr (fun τ=>τ=(0,8)) wa Oa (wa.setCell ⟨x,4,none⟩ (.pointer (some ⟨r,0,none⟩))) Oa:=⟨(fr_setD wa x 4 _).imp fun q hq=>by rw[hq];exact Ta.out,fun _ _=>rfl⟩
  have Kb:=Lib.hid (Ka.out.set 4 (.pointer (some ⟨r,0,none⟩)))
  have Pb:=Lib.hid (Pa.out.wr sb (fun i e=>by have:=PP.out;injection e with e;omega) (fun e=>by cases e))
  have Rb:=Lib.hid (Ra.out.wr sb (fun e=>by cases e))
  have Sb:=Lib.hid (Sa.out.tr sb)
  have Fb:=Lib.hid (Fa.out.trW (fr_setD wa x 4 (.pointer (some ⟨r,0,none⟩))))
  clear sb
  go_wp2_with fail
  obtain⟨wb,hwb⟩:∃wb,wa.setCell ⟨x,4,none⟩ (.pointer (some ⟨r,0,none⟩))=wb:=⟨_,rfl⟩
  rw[hwb] at Kb Pb Rb Sb Fb⊢
  clear hwb c4 f4 Ka Pa Ra Sa Fa
  refine (rnew19_any (RD7.out.1.fr Fb.out (fun k hk=>by rw[hk];exact XB.out.1)) RD7.out.2 (by decide) (RN7.out.fr Fb.out (fun y hy e=>by
   injection hy with hy
   have:=XB.out.2
   rw[←hy] at e
   simp at e
   omega))).mono ?_
  rintro e wc ⟨gw,vw,rfl,hgew,hcw,hrw,hbc⟩
  have sc:Wr (fun _=>False) wb Oa wc Oa:=Wr.of hbc _ (fun _ _=>rfl)
  have Kc:=Lib.hid (Kb.out.ab hbc)
  have Pc:=Lib.hid (Pb.out.wr sc (fun _=>id) id)
  have Rc:=Lib.hid (Rb.out.wr sc id)
  have Sc:=Lib.hid (Sb.out.tr (sc.imp fun _=>False.elim))
  clear hgew hcw hrw hbc sc Kb Pb Rb Sb Fb
  have c5:wc.cell? ⟨x,5,none⟩=some (.pointer none):=Kc.out.cell (k:=5) rfl
  have f5:=Kc.out.free 5
  have sd:Wr (fun τ=>τ=(0,8)) wc Oa (wc.setCell ⟨x,5,none⟩ (.pointer (some ⟨gw,0,none⟩))) Oa:=⟨(fr_setD wc x 5 _).imp fun q hq=>by rw[hq];exact Ta.out,fun _ _=>rfl⟩
  have Kd:=Lib.hid (Kc.out.set 5 (.pointer (some ⟨gw,0,none⟩)))
  have Pd:=Lib.hid (Pc.out.wr sd (fun i e=>by have:=PP.out;injection e with e;omega) (fun e=>by cases e))
  have Rd:=Lib.hid (Rc.out.wr sd (fun e=>by cases e))
  have Sd:=Lib.hid (Sc.out.tr sd)
  clear sd
  go_wp2_with fail
  obtain⟨wd,hwd⟩:∃wd,wc.setCell ⟨x,5,none⟩ (.pointer (some ⟨gw,0,none⟩))=wd:=⟨_,rfl⟩
  rw[hwd] at Kd Pd Rd Sd⊢
  clear hwd c5 f5 Kc Pc Rc Sc
  refine (rnew09_nil g8 1 wd).mono ?_
  rintro e we ⟨rfl,hce,hbe⟩
  have se:Wr (fun _=>False) wd Oa we Oa:=Wr.of hbe _ (fun _ _=>rfl)
  have Ke:=Lib.hid (Kd.out.ab hbe)
  have Pe:=Lib.hid (Pd.out.wr se (fun _=>id) id)
  have Re:=Lib.hid (Rd.out.wr se id)
  have Se:=Lib.hid (Sd.out.tr (se.imp fun _=>False.elim))
  obtain⟨gv,hgv⟩:∃gv,wd.heap.size=gv:=⟨_,rfl⟩
  rw[hgv]
  clear hce hbe se Kd Pd Rd Sd hgv
  have c6:we.cell? ⟨x,6,none⟩=some (.pointer none):=Ke.out.cell (k:=6) rfl
  have f6:=Ke.out.free 6
  have sf:Wr (fun τ=>τ=(0,8)) we Oa (we.setCell ⟨x,6,none⟩ (.pointer (some ⟨gv,0,none⟩))) Oa:=⟨(fr_setD we x 6 _).imp fun q hq=>by rw[hq];exact Ta.out,fun _ _=>rfl⟩
  have Kf:=Lib.hid (Ke.out.set 6 (.pointer (some ⟨gv,0,none⟩)))
  have Pf:=Lib.hid (Pe.out.wr sf (fun i e=>by have:=PP.out;injection e with e;omega) (fun e=>by cases e))
  have Rf:=Lib.hid (Re.out.wr sf (fun e=>by cases e))
  have Sf:=Lib.hid (Se.out.tr sf)
  clear sf
  go_upto_region 19 with (fail)
  obtain⟨wf,hwf⟩:∃wf,we.setCell ⟨x,6,none⟩ (.pointer (some ⟨gv,0,none⟩))=wf:=⟨_,rfl⟩
  rw[hwf] at Kf Pf Rf Sf⊢
  clear hwf c6 f6 Ke Pe Re Se
  have d3:wf.cell? ⟨x,3,none⟩=some (.pointer (some ⟨p,0,none⟩)):=Kf.out.cell (k:=3) rfl
  have d4:wf.cell? ⟨x,4,none⟩=some (.pointer (some ⟨r,0,none⟩)):=Kf.out.cell (k:=4) rfl
  go_quiet (fail)
  go_wp2_with fail
  go_ret2
  have bq:Below wf.heap.size wf (wf.drewN nq):=bel_drewN9 (Below.refl _ _) nq
  have sq:Wr (fun _=>False) wf Oa (wf.drewN nq) Oa:=Wr.of bq _ (fun _ _=>rfl)
  refine⟨x,p,r,d,rg,lg,gw,gv,Oa,rfl,Kf.out.ab bq,Pf.out.wr sq (fun _=>id) id,Rf.out.wr sq id,(Sf.out.tr (sq.imp fun _=>False.elim)).below B7.out B7.out.size (fun k hk h=>?_)⟩
  rw[OL.out k hk] at h
  cases h
set_option maxRecDepth 100000 in
theorem cnone_walk (v:Value) (W:World) (hk:∃base,Value.okWide Tryz.prog W .any base 49 v):Calls Tryz.prog 4 #[v] W fun e w'=>e = .returned (.bool true)∧Below W.heap.size W w':=by
 obtain⟨base,hk⟩:=hk
 obtain⟨m,rfl,hm⟩:=open_meta hk
 clear hk
 rw[mpv_lit]
 generalize W=w at *
 have KM0:Hid (CbB (w.alloc (.cells #[.int .u64 (m.cm:Int),.int .u32 (m.pg:Int),.int .u64 (m.rc:Int),.int .u16 (m.rg:Int),.int .u8 (m.lv:Int),.int .u16 (m.gn:Int),.int .u32 (m.tn:Int)] 49)) w.heap.size 49 #[.int .u64 (m.cm:Int),.int .u32 (m.pg:Int),.int .u64 (m.rc:Int),.int .u16 (m.rg:Int),.int .u8 (m.lv:Int),.int .u16 (m.gn:Int),.int .u32 (m.tn:Int)]):=Lib.hid (CbB.new _ _ _)
 have B0:Hid (Below w.heap.size w (w.alloc (.cells #[.int .u64 (m.cm:Int),.int .u32 (m.pg:Int),.int .u64 (m.rc:Int),.int .u16 (m.rg:Int),.int .u8 (m.lv:Int),.int .u16 (m.gn:Int),.int .u32 (m.tn:Int)] 49))):=Lib.hid ((Below.refl _ _).alloc (Nat.le_refl _) _)
 clear hm
 go_enter Tryz.func4,Tryz.ntmps4
 go_wp2_with fail
 refine (began20_any _).mono ?_
 rintro e w1 ⟨x,p,r,d,rg,lg,gw,gv,O1,rfl,hx,hp,hr,hb⟩
 have KM:=Lib.hid (KM0.out.ab hb)
 have B1:=Lib.hid (below_tr B0.out hb B0.out.size)
 have KX:=Lib.hid hx
 have RS:=Lib.hid hr
 have PG:=Lib.hid hp
 obtain⟨b0,hb0⟩:∃b0,w.heap.size=b0:=⟨_,rfl⟩
 rw[hb0] at KM⊢
 have HB0:=Lib.hid hb0
 clear hx hr hp hb KM0 B0 hb0
 have c4:w1.cell? ⟨x,4,none⟩=some (.pointer (some ⟨r,0,none⟩)):=KX.out.cell (k:=4) rfl
 go_wp2_with fail
 refine (start_nilP (w:=w1) (some ⟨r,0,none⟩)).mono ?_
 rintro e w2 ⟨rfl,hb⟩
 have KM2:=Lib.hid (KM.out.ab hb)
 have KX2:=Lib.hid (KX.out.ab hb)
 have RS2:=Lib.hid (RS.out.wr (Wr.of hb (fun _=>False) (fun _ _=>rfl)) id)
 have B2:Hid (Below b0 w w2):=Lib.hid (by rw[←HB0.out];exact below_tr B1.out hb B1.out.size)
 clear hb KM KX RS B1 PG c4
 have c3:w2.cell? ⟨x,3,none⟩=some (.pointer (some ⟨p,0,none⟩)):=KX2.out.cell (k:=3) rfl
 go_wp2_with fail
 refine (start_nilR (w:=w2) (p:=p)).mono ?_
 rintro e w6 ⟨rfl,hb⟩
 have KM:=Lib.hid (KM2.out.ab hb)
 have KX:=Lib.hid (KX2.out.ab hb)
 have RS:=Lib.hid (RS2.out.wr (Wr.of hb (fun _=>False) (fun _ _=>rfl)) id)
 have B6:Hid (Below b0 w w6):=Lib.hid (below_tr B2.out hb (by rw[←HB0.out];exact B2.out.size))
 clear hb KM2 KX2 RS2 B2 c3
 go_upto_region 6 with (fail)
 refine wp_wide3 [⟨31,IsR (.int .u64 0),[],false⟩,⟨32,IsR (.bool true),[0],false⟩,⟨33,IsR (.bool true),[1],false⟩,⟨34,IsR (.int .u64 0),[2],false⟩,⟨35,IsR (.bool true),[2,3],false⟩,⟨36,IsR (.bool true),[2,4],false⟩,⟨37,IsR (.bool true),[5],false⟩,⟨38,IsR (.int .i64 1),[6],false⟩,⟨39,IsR (.bool true),[6,7],false⟩,⟨40,IsR (.bool true),[6,8],false⟩,⟨41,IsR (.bool true),[9],false⟩,⟨42,IsR (.int .i64 1),[10],false⟩,⟨43,IsR (.bool true),[10,11],false⟩,⟨44,IsR (.bool true),[10,12],false⟩,⟨45,IsR (.bool true),[13],false⟩,⟨46,IsR (.pointer (some ⟨x,0,none⟩)),[14],false⟩,⟨47,IsR (.pointer (some ⟨x,0,none⟩)),[14,15],false⟩,⟨48,IsR (.pointer (some ⟨x,4,none⟩)),[14,16],false⟩,⟨49,IsR (.pointer (some ⟨r,0,none⟩)),[14,17],false⟩,⟨50,IsR (.agg #[.int .u64 (m.cm:Int),.int .u32 (m.pg:Int),.int .u64 (m.rc:Int),.int .u16 (m.rg:Int),.int .u8 (m.lv:Int),.int .u16 (m.gn:Int),.int .u32 (m.tn:Int)]),[14],false⟩,⟨51,IsR (.int .i64 1),[14,18,19],false⟩,⟨52,IsR (.bool true),[14,20],false⟩,⟨53,IsR (.bool true),[14,21],false⟩,⟨54,IsR (.bool true),[22],false⟩,⟨55,IsR (.pointer (some ⟨x,0,none⟩)),[23],false⟩,⟨56,IsR (.pointer (some ⟨x,0,none⟩)),[23,24],false⟩,⟨57,IsR (.pointer (some ⟨x,3,none⟩)),[23,25],false⟩,⟨58,IsR (.pointer (some ⟨p,0,none⟩)),[23,26],false⟩,⟨59,IsR (.agg #[.int .u64 (m.cm:Int),.int .u32 (m.pg:Int),.int .u64 (m.rc:Int),.int .u16 (m.rg:Int),.int .u8 (m.lv:Int),.int .u16 (m.gn:Int),.int .u32 (m.tn:Int)]),[23],false⟩,⟨60,IsR (.int .i64 1),[23,27,28],false⟩,⟨61,IsR (.bool true),[23,29],false⟩,⟨62,IsR (.bool true),[23,30],false⟩,⟨63,IsR (.bool true),[31],false⟩,⟨64,IsR (.pointer (some ⟨x,0,none⟩)),[32],false⟩,⟨65,IsR (.pointer (some ⟨x,0,none⟩)),[32,33],false⟩,⟨66,IsR (.pointer (some ⟨x,4,none⟩)),[32,34],false⟩,⟨67,IsR (.pointer (some ⟨r,0,none⟩)),[32,35],false⟩,⟨68,IsR (.int .u64 0),[32,36],false⟩,⟨69,IsR (.bool true),[32,37],false⟩,⟨70,IsR (.bool true),[32,38],false⟩,⟨71,IsR (.bool true),[39],false⟩,⟨72,IsR (.bool true),[40],false⟩,⟨73,IsR (.bool true),[40,41],false⟩] (by kernel_rfl) (by kernel_rfl) rfl rfl rfl ⟨?_,?_,?_,?_,?_,?_,?_,?_,?_,?_,?_,?_,?_,?_,?_,?_,?_,?_,?_,?_,?_,?_,?_,?_,?_,?_,?_,?_,?_,?_,?_,?_,?_,?_,?_,?_,?_,?_,?_,?_,?_,?_,?_,trivial⟩ ?_
 · refine⟨rfl,IsR.mono _,fun a W hA hb hd=>takes_plain rfl (yields_value _ ?_ rfl)⟩
   have h5:a.tmps[5]?.getD undef = .int .u64 0:=(eval_get a 5).trans ((hA.eval (by simp)).trans rfl)
   go_simp
 · refine⟨rfl,IsR.mono _,fun a W hA hb hd=>takes_plain rfl (yields_value _ ?_ rfl)⟩
   have h31:a.tmps[31]?.getD undef = .int .u64 0:=(eval_get a 31).trans (hd 0 (by simp) _ rfl)
   go_simp
 · refine⟨rfl,IsR.mono _,fun a W hA hb hd=>takes_plain rfl (yields_value _ ?_ rfl)⟩
   have h32:a.tmps[32]?.getD undef = .bool true:=(eval_get a 32).trans (hd 1 (by simp) _ rfl)
   go_simp
 · refine⟨rfl,IsR.mono _,fun a W hA hb hd=>takes_on (i:=2) (d:=33) (b:=true) rfl rfl rfl (hd 2 (by simp) _ rfl) (yields_value _ ?_ rfl)⟩
   have h7:a.tmps[7]?.getD undef = .int .u64 0:=(eval_get a 7).trans ((hA.eval (by simp)).trans rfl)
   go_simp
 · refine⟨rfl,IsR.mono _,fun a W hA hb hd=>takes_on (i:=2) (d:=33) (b:=true) rfl rfl rfl (hd 2 (by simp) _ rfl) (yields_value _ ?_ rfl)⟩
   have h34:a.tmps[34]?.getD undef = .int .u64 0:=(eval_get a 34).trans (hd 3 (by simp) _ rfl)
   go_simp
 · refine⟨rfl,IsR.mono _,fun a W hA hb hd=>takes_plain rfl (yields_value _ ?_ rfl)⟩
   have h33:a.tmps[33]?.getD undef = .bool true:=(eval_get a 33).trans (hd 2 (by simp) _ rfl)
   have h35:a.tmps[35]?.getD undef = .bool true:=(eval_get a 35).trans (hd 4 (by simp) _ rfl)
   go_simp
 · refine⟨rfl,IsR.mono _,fun a W hA hb hd=>takes_plain rfl (yields_value _ ?_ rfl)⟩
   have h36:a.tmps[36]?.getD undef = .bool true:=(eval_get a 36).trans (hd 5 (by simp) _ rfl)
   go_simp
 · refine⟨rfl,IsR.mono _,fun a W hA hb hd=>takes_on (i:=6) (d:=37) (b:=true) rfl rfl rfl (hd 6 (by simp) _ rfl) (yields_value _ ?_ rfl)⟩
   have h6:a.tmps[6]?.getD undef = .int .i64 1:=(eval_get a 6).trans ((hA.eval (by simp)).trans rfl)
   go_simp
 · refine⟨rfl,IsR.mono _,fun a W hA hb hd=>takes_on (i:=6) (d:=37) (b:=true) rfl rfl rfl (hd 6 (by simp) _ rfl) (yields_value _ ?_ rfl)⟩
   have h38:a.tmps[38]?.getD undef = .int .i64 1:=(eval_get a 38).trans (hd 7 (by simp) _ rfl)
   go_simp
 · refine⟨rfl,IsR.mono _,fun a W hA hb hd=>takes_plain rfl (yields_value _ ?_ rfl)⟩
   have h37:a.tmps[37]?.getD undef = .bool true:=(eval_get a 37).trans (hd 6 (by simp) _ rfl)
   have h39:a.tmps[39]?.getD undef = .bool true:=(eval_get a 39).trans (hd 8 (by simp) _ rfl)
   go_simp
 · refine⟨rfl,IsR.mono _,fun a W hA hb hd=>takes_plain rfl (yields_value _ ?_ rfl)⟩
   have h40:a.tmps[40]?.getD undef = .bool true:=(eval_get a 40).trans (hd 9 (by simp) _ rfl)
   go_simp
 · refine⟨rfl,IsR.mono _,fun a W hA hb hd=>takes_on (i:=10) (d:=41) (b:=true) rfl rfl rfl (hd 10 (by simp) _ rfl) (yields_value _ ?_ rfl)⟩
   have h8:a.tmps[8]?.getD undef = .int .i64 1:=(eval_get a 8).trans ((hA.eval (by simp)).trans rfl)
   go_simp
 · refine⟨rfl,IsR.mono _,fun a W hA hb hd=>takes_on (i:=10) (d:=41) (b:=true) rfl rfl rfl (hd 10 (by simp) _ rfl) (yields_value _ ?_ rfl)⟩
   have h42:a.tmps[42]?.getD undef = .int .i64 1:=(eval_get a 42).trans (hd 11 (by simp) _ rfl)
   go_simp
 · refine⟨rfl,IsR.mono _,fun a W hA hb hd=>takes_plain rfl (yields_value _ ?_ rfl)⟩
   have h41:a.tmps[41]?.getD undef = .bool true:=(eval_get a 41).trans (hd 10 (by simp) _ rfl)
   have h43:a.tmps[43]?.getD undef = .bool true:=(eval_get a 43).trans (hd 12 (by simp) _ rfl)
   go_simp
 · refine⟨rfl,IsR.mono _,fun a W hA hb hd=>takes_plain rfl (yields_value _ ?_ rfl)⟩
   have h44:a.tmps[44]?.getD undef = .bool true:=(eval_get a 44).trans (hd 13 (by simp) _ rfl)
   go_simp
 · refine⟨rfl,IsR.mono _,fun a W hA hb hd=>takes_on (i:=14) (d:=45) (b:=true) rfl rfl rfl (hd 14 (by simp) _ rfl) (yields_value _ ?_ rfl)⟩
   have h3:a.tmps[3]?.getD undef = .pointer (some ⟨x,0,none⟩):=(eval_get a 3).trans ((hA.eval (by simp)).trans rfl)
   go_simp
 · refine⟨rfl,IsR.mono _,fun a W hA hb hd=>takes_on (i:=14) (d:=45) (b:=true) rfl rfl rfl (hd 14 (by simp) _ rfl) (yields_value _ ?_ rfl)⟩
   have h46:a.tmps[46]?.getD undef = .pointer (some ⟨x,0,none⟩):=(eval_get a 46).trans (hd 15 (by simp) _ rfl)
   go_simp
 · refine⟨rfl,IsR.mono _,fun a W hA hb hd=>takes_on (i:=14) (d:=45) (b:=true) rfl rfl rfl (hd 14 (by simp) _ rfl) (yields_value _ ?_ rfl)⟩
   have h47:a.tmps[47]?.getD undef = .pointer (some ⟨x,0,none⟩):=(eval_get a 47).trans (hd 16 (by simp) _ rfl)
   go_simp
 · refine⟨rfl,IsR.mono _,fun a W hA hb hd=>takes_on (i:=14) (d:=45) (b:=true) rfl rfl rfl (hd 14 (by simp) _ rfl) (yields_value _ ?_ rfl)⟩
   have h48:a.tmps[48]?.getD undef = .pointer (some ⟨x,4,none⟩):=(eval_get a 48).trans (hd 17 (by simp) _ rfl)
   have hc:=(KX.out.ab hb).cell (k:=4) rfl
   go_simp
 · refine⟨rfl,IsR.mono _,fun a W hA hb hd=>takes_on (i:=14) (d:=45) (b:=true) rfl rfl rfl (hd 14 (by simp) _ rfl) (yields_value _ ?_ rfl)⟩
   have h1:a.tmps[1]?.getD undef = .pointer (some ⟨b0,0,none⟩):=(eval_get a 1).trans ((hA.eval (by simp)).trans rfl)
   have hc0:=(KM.out.ab hb).cell (k:=0) rfl
   have hc1:=(KM.out.ab hb).cell (k:=1) rfl
   have hc2:=(KM.out.ab hb).cell (k:=2) rfl
   have hc3:=(KM.out.ab hb).cell (k:=3) rfl
   have hc4:=(KM.out.ab hb).cell (k:=4) rfl
   have hc5:=(KM.out.ab hb).cell (k:=5) rfl
   have hc6:=(KM.out.ab hb).cell (k:=6) rfl
   go_simp
 · refine⟨rfl,IsR.mono _,fun a W hA hb hd=>takes_on (i:=14) (d:=45) (b:=true) rfl rfl rfl (hd 14 (by simp) _ rfl) ?_⟩
   have h49:a.tmps[49]?.getD undef = .pointer (some ⟨r,0,none⟩):=(eval_get a 49).trans (hd 18 (by simp) _ rfl)
   have h50:a.tmps[50]?.getD undef = .agg #[.int .u64 (m.cm:Int),.int .u32 (m.pg:Int),.int .u64 (m.rc:Int),.int .u16 (m.rg:Int),.int .u8 (m.lv:Int),.int .u16 (m.gn:Int),.int .u32 (m.tn:Int)]:=(eval_get a 50).trans (hd 19 (by simp) _ rfl)
   refine yields_call 19 #[.pointer none,.pointer (some ⟨r,0,none⟩),.agg #[.int .u64 (m.cm:Int),.int .u32 (m.pg:Int),.int .u64 (m.rc:Int),.int .u16 (m.rg:Int),.int .u8 (m.lv:Int),.int .u16 (m.gn:Int),.int .u32 (m.tn:Int)]] (by go_simp) ((finish_nilP (w:=W) (m:=m) (some ⟨r,0,none⟩)).mono ?_)
   rintro e W1 ⟨rfl,h3⟩
   exact⟨_,rfl,rfl,h3⟩
 · refine⟨rfl,IsR.mono _,fun a W hA hb hd=>takes_on (i:=14) (d:=45) (b:=true) rfl rfl rfl (hd 14 (by simp) _ rfl) (yields_value _ ?_ rfl)⟩
   have h51:a.tmps[51]?.getD undef = .int .i64 1:=(eval_get a 51).trans (hd 20 (by simp) _ rfl)
   go_simp
 · refine⟨rfl,IsR.mono _,fun a W hA hb hd=>takes_plain rfl (yields_value _ ?_ rfl)⟩
   have h45:a.tmps[45]?.getD undef = .bool true:=(eval_get a 45).trans (hd 14 (by simp) _ rfl)
   have h52:a.tmps[52]?.getD undef = .bool true:=(eval_get a 52).trans (hd 21 (by simp) _ rfl)
   go_simp
 · refine⟨rfl,IsR.mono _,fun a W hA hb hd=>takes_plain rfl (yields_value _ ?_ rfl)⟩
   have h53:a.tmps[53]?.getD undef = .bool true:=(eval_get a 53).trans (hd 22 (by simp) _ rfl)
   go_simp
 · refine⟨rfl,IsR.mono _,fun a W hA hb hd=>takes_on (i:=23) (d:=54) (b:=true) rfl rfl rfl (hd 23 (by simp) _ rfl) (yields_value _ ?_ rfl)⟩
   have h3:a.tmps[3]?.getD undef = .pointer (some ⟨x,0,none⟩):=(eval_get a 3).trans ((hA.eval (by simp)).trans rfl)
   go_simp
 · refine⟨rfl,IsR.mono _,fun a W hA hb hd=>takes_on (i:=23) (d:=54) (b:=true) rfl rfl rfl (hd 23 (by simp) _ rfl) (yields_value _ ?_ rfl)⟩
   have h55:a.tmps[55]?.getD undef = .pointer (some ⟨x,0,none⟩):=(eval_get a 55).trans (hd 24 (by simp) _ rfl)
   go_simp
 · refine⟨rfl,IsR.mono _,fun a W hA hb hd=>takes_on (i:=23) (d:=54) (b:=true) rfl rfl rfl (hd 23 (by simp) _ rfl) (yields_value _ ?_ rfl)⟩
   have h56:a.tmps[56]?.getD undef = .pointer (some ⟨x,0,none⟩):=(eval_get a 56).trans (hd 25 (by simp) _ rfl)
   go_simp
 · refine⟨rfl,IsR.mono _,fun a W hA hb hd=>takes_on (i:=23) (d:=54) (b:=true) rfl rfl rfl (hd 23 (by simp) _ rfl) (yields_value _ ?_ rfl)⟩
   have h57:a.tmps[57]?.getD undef = .pointer (some ⟨x,3,none⟩):=(eval_get a 57).trans (hd 26 (by simp) _ rfl)
   have hc:=(KX.out.ab hb).cell (k:=3) rfl
   go_simp
 · refine⟨rfl,IsR.mono _,fun a W hA hb hd=>takes_on (i:=23) (d:=54) (b:=true) rfl rfl rfl (hd 23 (by simp) _ rfl) (yields_value _ ?_ rfl)⟩
   have h1:a.tmps[1]?.getD undef = .pointer (some ⟨b0,0,none⟩):=(eval_get a 1).trans ((hA.eval (by simp)).trans rfl)
   have hc0:=(KM.out.ab hb).cell (k:=0) rfl
   have hc1:=(KM.out.ab hb).cell (k:=1) rfl
   have hc2:=(KM.out.ab hb).cell (k:=2) rfl
   have hc3:=(KM.out.ab hb).cell (k:=3) rfl
   have hc4:=(KM.out.ab hb).cell (k:=4) rfl
   have hc5:=(KM.out.ab hb).cell (k:=5) rfl
   have hc6:=(KM.out.ab hb).cell (k:=6) rfl
   go_simp
 · refine⟨rfl,IsR.mono _,fun a W hA hb hd=>takes_on (i:=23) (d:=54) (b:=true) rfl rfl rfl (hd 23 (by simp) _ rfl) ?_⟩
   have h58:a.tmps[58]?.getD undef = .pointer (some ⟨p,0,none⟩):=(eval_get a 58).trans (hd 27 (by simp) _ rfl)
   have h59:a.tmps[59]?.getD undef = .agg #[.int .u64 (m.cm:Int),.int .u32 (m.pg:Int),.int .u64 (m.rc:Int),.int .u16 (m.rg:Int),.int .u8 (m.lv:Int),.int .u16 (m.gn:Int),.int .u32 (m.tn:Int)]:=(eval_get a 59).trans (hd 28 (by simp) _ rfl)
   refine yields_call 19 #[.pointer (some ⟨p,0,none⟩),.pointer none,.agg #[.int .u64 (m.cm:Int),.int .u32 (m.pg:Int),.int .u64 (m.rc:Int),.int .u16 (m.rg:Int),.int .u8 (m.lv:Int),.int .u16 (m.gn:Int),.int .u32 (m.tn:Int)]] (by go_simp) ((finish_nilR (w:=W) (p:=p) (m:=m)).mono ?_)
   rintro e W1 ⟨rfl,h3⟩
   exact⟨_,rfl,rfl,h3⟩
 · refine⟨rfl,IsR.mono _,fun a W hA hb hd=>takes_on (i:=23) (d:=54) (b:=true) rfl rfl rfl (hd 23 (by simp) _ rfl) (yields_value _ ?_ rfl)⟩
   have h60:a.tmps[60]?.getD undef = .int .i64 1:=(eval_get a 60).trans (hd 29 (by simp) _ rfl)
   go_simp
 · refine⟨rfl,IsR.mono _,fun a W hA hb hd=>takes_plain rfl (yields_value _ ?_ rfl)⟩
   have h54:a.tmps[54]?.getD undef = .bool true:=(eval_get a 54).trans (hd 23 (by simp) _ rfl)
   have h61:a.tmps[61]?.getD undef = .bool true:=(eval_get a 61).trans (hd 30 (by simp) _ rfl)
   go_simp
 · refine⟨rfl,IsR.mono _,fun a W hA hb hd=>takes_plain rfl (yields_value _ ?_ rfl)⟩
   have h62:a.tmps[62]?.getD undef = .bool true:=(eval_get a 62).trans (hd 31 (by simp) _ rfl)
   go_simp
 · refine⟨rfl,IsR.mono _,fun a W hA hb hd=>takes_on (i:=32) (d:=63) (b:=true) rfl rfl rfl (hd 32 (by simp) _ rfl) (yields_value _ ?_ rfl)⟩
   have h3:a.tmps[3]?.getD undef = .pointer (some ⟨x,0,none⟩):=(eval_get a 3).trans ((hA.eval (by simp)).trans rfl)
   go_simp
 · refine⟨rfl,IsR.mono _,fun a W hA hb hd=>takes_on (i:=32) (d:=63) (b:=true) rfl rfl rfl (hd 32 (by simp) _ rfl) (yields_value _ ?_ rfl)⟩
   have h64:a.tmps[64]?.getD undef = .pointer (some ⟨x,0,none⟩):=(eval_get a 64).trans (hd 33 (by simp) _ rfl)
   go_simp
 · refine⟨rfl,IsR.mono _,fun a W hA hb hd=>takes_on (i:=32) (d:=63) (b:=true) rfl rfl rfl (hd 32 (by simp) _ rfl) (yields_value _ ?_ rfl)⟩
   have h65:a.tmps[65]?.getD undef = .pointer (some ⟨x,0,none⟩):=(eval_get a 65).trans (hd 34 (by simp) _ rfl)
   go_simp
 · refine⟨rfl,IsR.mono _,fun a W hA hb hd=>takes_on (i:=32) (d:=63) (b:=true) rfl rfl rfl (hd 32 (by simp) _ rfl) (yields_value _ ?_ rfl)⟩
   have h66:a.tmps[66]?.getD undef = .pointer (some ⟨x,4,none⟩):=(eval_get a 66).trans (hd 35 (by simp) _ rfl)
   have hc:=(KX.out.ab hb).cell (k:=4) rfl
   go_simp
 · refine⟨rfl,IsR.mono _,fun a W hA hb hd=>takes_on (i:=32) (d:=63) (b:=true) rfl rfl rfl (hd 32 (by simp) _ rfl) ?_⟩
   have h67:a.tmps[67]?.getD undef = .pointer (some ⟨r,0,none⟩):=(eval_get a 67).trans (hd 36 (by simp) _ rfl)
   refine yields_call 20 #[.pointer (some ⟨r,0,none⟩)] (by go_simp) ((reservedM (RS.out.wr (Wr.of hb (fun _=>False) (fun _ _=>rfl)) id)).mono ?_)
   rintro e W1 ⟨rfl,rfl⟩
   exact⟨_,rfl,rfl,Below.refl _ _⟩
 · refine⟨rfl,IsR.mono _,fun a W hA hb hd=>takes_on (i:=32) (d:=63) (b:=true) rfl rfl rfl (hd 32 (by simp) _ rfl) (yields_value _ ?_ rfl)⟩
   have h68:a.tmps[68]?.getD undef = .int .u64 0:=(eval_get a 68).trans (hd 37 (by simp) _ rfl)
   go_simp
 · refine⟨rfl,IsR.mono _,fun a W hA hb hd=>takes_plain rfl (yields_value _ ?_ rfl)⟩
   have h63:a.tmps[63]?.getD undef = .bool true:=(eval_get a 63).trans (hd 32 (by simp) _ rfl)
   have h69:a.tmps[69]?.getD undef = .bool true:=(eval_get a 69).trans (hd 38 (by simp) _ rfl)
   go_simp
 · refine⟨rfl,IsR.mono _,fun a W hA hb hd=>takes_plain rfl (yields_value _ ?_ rfl)⟩
   have h70:a.tmps[70]?.getD undef = .bool true:=(eval_get a 70).trans (hd 39 (by simp) _ rfl)
   go_simp
 · refine⟨rfl,IsR.mono _,fun a W hA hb hd=>takes_on (i:=40) (d:=71) (b:=true) rfl rfl rfl (hd 40 (by simp) _ rfl) ?_⟩
   refine yields_call 21 #[] (by go_simp) ((known20_any W).mono ?_)
   rintro e W1 ⟨rfl,h3⟩
   exact⟨_,rfl,rfl,h3⟩
 · refine⟨rfl,IsR.mono _,fun a W hA hb hd=>takes_plain rfl (yields_value _ ?_ rfl)⟩
   have h71:a.tmps[71]?.getD undef = .bool true:=(eval_get a 71).trans (hd 40 (by simp) _ rfl)
   have h72:a.tmps[72]?.getD undef = .bool true:=(eval_get a 72).trans (hd 41 (by simp) _ rfl)
   go_simp
 intro vs w7 hR hF hb
 have BH:=Lib.hid hb
 have e31:vs 31 = .int .u64 0:=hR 0 _ rfl
 have e32:vs 32 = .bool true:=hR 1 _ rfl
 have e33:vs 33 = .bool true:=hR 2 _ rfl
 have e34:vs 34 = .int .u64 0:=hR 3 _ rfl
 have e35:vs 35 = .bool true:=hR 4 _ rfl
 have e36:vs 36 = .bool true:=hR 5 _ rfl
 have e37:vs 37 = .bool true:=hR 6 _ rfl
 have e38:vs 38 = .int .i64 1:=hR 7 _ rfl
 have e39:vs 39 = .bool true:=hR 8 _ rfl
 have e40:vs 40 = .bool true:=hR 9 _ rfl
 have e41:vs 41 = .bool true:=hR 10 _ rfl
 have e42:vs 42 = .int .i64 1:=hR 11 _ rfl
 have e43:vs 43 = .bool true:=hR 12 _ rfl
 have e44:vs 44 = .bool true:=hR 13 _ rfl
 have e45:vs 45 = .bool true:=hR 14 _ rfl
 have e46:vs 46 = .pointer (some ⟨x,0,none⟩):=hR 15 _ rfl
 have e47:vs 47 = .pointer (some ⟨x,0,none⟩):=hR 16 _ rfl
 have e48:vs 48 = .pointer (some ⟨x,4,none⟩):=hR 17 _ rfl
 have e49:vs 49 = .pointer (some ⟨r,0,none⟩):=hR 18 _ rfl
 have e50:vs 50 = .agg #[.int .u64 (m.cm:Int),.int .u32 (m.pg:Int),.int .u64 (m.rc:Int),.int .u16 (m.rg:Int),.int .u8 (m.lv:Int),.int .u16 (m.gn:Int),.int .u32 (m.tn:Int)]:=hR 19 _ rfl
 have e51:vs 51 = .int .i64 1:=hR 20 _ rfl
 have e52:vs 52 = .bool true:=hR 21 _ rfl
 have e53:vs 53 = .bool true:=hR 22 _ rfl
 have e54:vs 54 = .bool true:=hR 23 _ rfl
 have e55:vs 55 = .pointer (some ⟨x,0,none⟩):=hR 24 _ rfl
 have e56:vs 56 = .pointer (some ⟨x,0,none⟩):=hR 25 _ rfl
 have e57:vs 57 = .pointer (some ⟨x,3,none⟩):=hR 26 _ rfl
 have e58:vs 58 = .pointer (some ⟨p,0,none⟩):=hR 27 _ rfl
 have e59:vs 59 = .agg #[.int .u64 (m.cm:Int),.int .u32 (m.pg:Int),.int .u64 (m.rc:Int),.int .u16 (m.rg:Int),.int .u8 (m.lv:Int),.int .u16 (m.gn:Int),.int .u32 (m.tn:Int)]:=hR 28 _ rfl
 have e60:vs 60 = .int .i64 1:=hR 29 _ rfl
 have e61:vs 61 = .bool true:=hR 30 _ rfl
 have e62:vs 62 = .bool true:=hR 31 _ rfl
 have e63:vs 63 = .bool true:=hR 32 _ rfl
 have e64:vs 64 = .pointer (some ⟨x,0,none⟩):=hR 33 _ rfl
 have e65:vs 65 = .pointer (some ⟨x,0,none⟩):=hR 34 _ rfl
 have e66:vs 66 = .pointer (some ⟨x,4,none⟩):=hR 35 _ rfl
 have e67:vs 67 = .pointer (some ⟨r,0,none⟩):=hR 36 _ rfl
 have e68:vs 68 = .int .u64 0:=hR 37 _ rfl
 have e69:vs 69 = .bool true:=hR 38 _ rfl
 have e70:vs 70 = .bool true:=hR 39 _ rfl
 have e71:vs 71 = .bool true:=hR 40 _ rfl
 have e72:vs 72 = .bool true:=hR 41 _ rfl
 have e73:vs 73 = .bool true:=hR 42 _ rfl
 simp only[List.map_cons,List.map_nil,List.foldl_cons,List.foldl_nil,List.length_cons,List.length_nil,List.drop_succ_cons,List.drop_zero,Act.put,List.setIfInBounds_toArray,List.set_cons_zero,List.set_cons_succ,e31,e32,e33,e34,e35,e36,e37,e38,e39,e40,e41,e42,e43,e44,e45,e46,e47,e48,e49,e50,e51,e52,e53,e54,e55,e56,e57,e58,e59,e60,e61,e62,e63,e64,e65,e66,e67,e68,e69,e70,e71,e72,e73]
 clear hR hF hb e31 e32 e33 e34 e35 e36 e37 e38 e39 e40 e41 e42 e43 e44 e45 e46 e47 e48 e49 e50 e51 e52 e53 e54 e55 e56 e57 e58 e59 e60 e61 e62 e63 e64 e65 e66 e67 e68 e69 e70 e71 e72 e73
 go_wp2_with fail
 go_ret
 exact⟨rfl,by rw[HB0.out];exact below_tr B6.out BH.out (by rw[←HB0.out];exact B6.out.size)⟩
open Go.ChangeShapes Go.WideShapes Go.ChangeAt Go.RowKit
theorem make_of {P:Program} {l:List Char} (h:P.initOrder=String.ofList l) (hw:(match behindMainWord (wordsSigns l) with | c::_=>!(c == "gc".toList||c == "spec".toList)&&c == "cut".toList | []=>false)=true):P.make=some .cut:=by
 unfold Program.make
 rw[h,String.toList_ofList]
 revert hw
 generalize behindMainWord (wordsSigns l)=W
 cases W with
 | nil=>intro hw;cases hw
 | cons c r=>
   intro hw
   simp only[Bool.and_eq_true,Bool.not_eq_true'] at hw
   simp only[hw.1,hw.2,Bool.true_or,if_true]
   rfl
theorem lifts_of {P:Program} {l:List Char} (h:P.initOrder=String.ofList l) (hw:(!((behindMainWord (wordsSigns l)).head? == some "carried".toList)&&(stripLifts liftWords (behindMainWord (wordsSigns l))).1.isEmpty)=true):P.liftsFinal=false:=by
 unfold Program.liftsFinal Program.headLifts
 rw[h,String.toList_ofList]
 revert hw
 generalize behindMainWord (wordsSigns l)=W
 intro hw
 simp only[Bool.and_eq_true,Bool.not_eq_true',List.isEmpty_iff] at hw
 simp only[hw.1,hw.2,Bool.false_and,Bool.false_or]
 split <;> rfl
theorem enter_of {P:Program} {l:List Char} (h:P.initOrder=String.ofList l) (hw:(match behindMainWord (wordsSigns l) with | c::rest=>((stripLifts liftWords (c::rest)).2.head? == some "cut".toList&&(stripLifts liftWords (c::rest)).1.isEmpty) | []=>false)=true)
 (hl:P.laysLater=false) (hr:P.bearsReflect=false) (hd:P.doorRows=[]):P.mayEnter=true:=by
 unfold Program.mayEnter Program.doorFits
 rw[h,String.toList_ofList]
 revert hw
 generalize behindMainWord (wordsSigns l)=W
 cases W with
 | nil=>intro hw;cases hw
 | cons c r=>
   intro hw
   simp only[Bool.and_eq_true,List.isEmpty_iff] at hw
   simp only[hw.1,hw.2,hl,hr,hd]
   simp
set_option maxRecDepth 1000000 in
theorem J.make:Tryz.checked.prog.make=some .cut:=make_of rfl (by kernel_rfl)
set_option maxRecDepth 1000000 in
theorem J.lifts:Tryz.checked.prog.liftsFinal=false:=lifts_of rfl (by kernel_rfl)
set_option maxRecDepth 1000000 in
theorem J.enter:Tryz.checked.prog.mayEnter=true:=enter_of rfl (by kernel_rfl) (by kernel_rfl) (by kernel_rfl) (by kernel_rfl)
theorem joined_of {P:Program} {f:FuncId} {fn:Func} {s:ChangeSpec} {c:OpenClaim} (h1:P.mayEnter=true) (h2:P.liftsFinal=false) (h3:P.make=some .cut) (h4:c.lifted=false) (h5:c.make = .cut)
 (h:(c.wf (OpenSpec.ofChange s)&&laidOutB P&&mapsRowed P &&
   fn.params.all (P.readableRec ·)&&namedTie P c.named s.vars &&
   (c.stops==[])&&(P.stops==[])&&(c.knobs==[])&&(P.stopKnobs==[]) &&
   (c.inPlace==P.inPlace f)&&(c.unfollowed==P.unfollowed f)&&(c.recurses==P.recurses f)&&(c.named==P.varsNamed f) &&
   (c.maps==(fn.params.toList++s.plain.varTypes P).any (P.mapsRec ·))&&(c.ifaces==(fn.params.toList++s.plain.varTypes P).any (P.ifacesRec ·))&&(c.mapsOut==P.mapsAmong fn.resultTypes.toList) &&
   (c.loops==(fn.params.toList++s.plain.varTypes P).any (P.loopsFrom ·))&&(c.wideKeys==(fn.params.toList++s.plain.varTypes P++fn.resultTypes.toList).any (P.wideKeysFrom ·)) &&
   s.vars.all (P.varReadable ·)&&fn.resultTypes.all (fun t=>P.readableRec t&&decide (t<P.types.size))&&(c.ifacesOut==fn.resultTypes.toList.any (P.ifacesRec ·))&&(c.loopsOut==fn.resultTypes.toList.any (P.loopsFrom ·))&&(c.plainKeys==P.plainKeys)&&c.shortTexts.isNone&&P.stopsHeard)=true)
 (k:((c.kinds==(if c.domain.isEmpty then [] else fn.params.toList.map fun t=>match P.underlying t with | some (.int k)=>some k | _=>none))&&(c.pinned==c.pinnedBy) &&
   (c.veiled==(fn.params.toList++s.plain.varTypes P++fn.resultTypes.toList).any (P.veiledRec ·))&&c.veiledFits P fn.params.toList (fn.params.toList++s.plain.varTypes P++fn.resultTypes.toList))=true):joinedFacts P f fn s c=true:=by
 unfold joinedFacts
 rw[h,h1,h2,h3,h4,h5]
 simp only[Bool.true_and]
 simp only[Bool.and_eq_true] at k
 simp only[Bool.and_eq_true,k,and_true]
 exact⟨⟨rfl,by decide⟩,k.1.1.1⟩
end Go.Proofs.YtnboclhgeehdoaaGreat
