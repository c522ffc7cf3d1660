/-
  Parts of the proof, joined.
-/
import Derived.Test.YtlobgddnlnffbaaGreatBdp
import Derived.Test.YtlobgddnlnffbaaGreatBdq
import Derived.Deep.QuietTactic
import Derived.BigQuiet
import Derived.Test.YtlobgddnlnffbaaGreatBdk
namespace Go.Proofs.YtlobgddnlnffbaaGreat
set_option maxHeartbeats 16000000
open Go.RowKit
set_option linter.unusedVariables false
set_option linter.unusedSimpArgs false
theorem OwB.lowA {w:World} {B n c:Nat} {A:Option Addr} {l:List Nat} (h:OwB w B (.slice A n c) l):∀x,A=Option.some x→B≤x.block:=fun x hx=>by
 subst hx
 rcases h.own.2 with ⟨e1,_⟩ | ⟨g,cap,cur,e1,hge,_⟩
 · cases e1
 · injection e1 with e1 _ _
   injection e1 with e1
   subst e1
   exact hge
def MsW (N:Nat) (O:Tgm) (g:Nat) (all:List Sl) (R:List Nat) (err:Nat) (v:Value) (W:World):Prop:=
 (∃x,v = .tuple #[x,.int .i64 (err:Int)]∧OwB W N x R)∧∃r,LgM W (markO O N r (0,2)) g all∧∀k,r=some k→N≤k∧∃cs fr,W.heap[k]? = some (.cells cs 159 fr)
theorem MsW.ab {N g err:Nat} {O:Tgm} {all:List Sl} {R:List Nat} {v:Value} {W W':World} (h:MsW N O g all R err v W) (hb:Below W.heap.size W W'):MsW N O g all R err v W':=by
 obtain⟨⟨x,h1,h2⟩,r,h3,h4⟩:=h
 refine⟨⟨x,h1,h2.ab hb⟩,r,h3.wr (Wr.of hb (fun _=>False) (fun _ _=>rfl)) id,fun k hk=>?_⟩
 obtain⟨h5,cs,fr,h6⟩:=h4 k hk
 exact⟨h5,cs,fr,(hb.block k (lt_of_block h6)).trans h6⟩
theorem MsW.own {N g err:Nat} {O:Tgm} {all:List Sl} {R R2:List Nat} {v x:Value} {W:World} (h:MsW N O g all R err v W) (hx:OwB W N x R2):∃O',LgM W O' g all∧(∀k,k<N→O' k=O k)∧∀k,x.ownBlock=some k→O' k=(0,0):=by
 obtain⟨_,r,h3,h4⟩:=h
 refine⟨_,h3,fun k hk=>markO_old hk,fun k hk=>?_⟩
 have hge:=own_ge9 hx.own k hk
 unfold markO
 rw[if_neg (by omega),if_neg]
 intro e
 obtain⟨_,cs,fr,h5⟩:=h4 k e
 obtain⟨cs2,fr2,h6⟩:=row_ty9 hx.own k hk
 rw[h6] at h5
 injection h5 with h5
 injection h5 with _ h5
 exact absurd h5 (by decide)
theorem MsW.of {N g err:Nat} {O O':Tgm} {all:List Sl} {R:List Nat} {x:Value} {W:World} (hx:OwB W N x R) (hl:LgM W O' g all) (ho:∀k,k<N→O' k=O k) (hg:g<N):MsW N O g all R err (.tuple #[x,.int .i64 (err:Int)]) W:=by
 refine⟨⟨x,rfl,hx⟩,?_⟩
 obtain⟨v,h1,h2,t1,t2⟩:=hl
 by_cases hv:∃k,v.ownBlock=some k∧N≤k
 · obtain⟨k,hk,hN⟩:=hv
   refine⟨some k,⟨v,h1,h2,(markO_old hg).trans ((ho g hg).symm.trans t1),fun q hq=>?_⟩,fun q hq=>?_⟩
   · rw[hk] at hq
     injection hq with hq
     subst hq
     exact markO_new hN
   · injection hq with hq
     subst hq
     exact⟨hN,row_ty9 h2 _ hk⟩
 · refine⟨none,⟨v,h1,h2,(markO_old hg).trans ((ho g hg).symm.trans t1),fun q hq=>?_⟩,fun q hq=>by cases hq⟩
   have hq2:q<N:=Nat.lt_of_not_le fun e=>hv ⟨q,hq,e⟩
   exact (markO_old hq2).trans ((ho q hq2).symm.trans (t2 q hq))
def lgM (l:RgL) (m:Mp):List Sl:=if (mSealP l m).2=0 then [⟨labM m,(getR (0,m.gn) l).getD [],mbytes m,(mSealP l m).1⟩] else []
set_option maxRecDepth 100000 in
theorem metaSealW {w W:World} {O:Tgm} {g lg:Nat} {l:RgL} {all:List Sl} {m:Mp} (hr:RgM w O g l) (hL:LgM w O lg all) (hb:Below w.heap.size w W) (h1000:all.length≤100000) (hm:m.Ok):
 Calls Tryz.prog 133 #[.pointer (some ⟨g,0,none⟩),.pointer (some ⟨lg,0,none⟩),.agg (mpv m)] W fun e w'=>∃v,e = .returned v∧MsW w.heap.size O lg (all++lgM l m) (mSealP l m).1 (mSealP l m).2 v w'∧Fr W w' (fun k=>k<w.heap.size∧O k=(0,2)):=by
 have hlg:lg<w.heap.size:=by obtain⟨v,h1,_⟩:=hL;exact h1.lt
 have NO:Hid (∀W2,Below w.heap.size w W2→∀(e:Nat),MsW w.heap.size O lg all [] e (.tuple #[.slice none 0 0,.int .i64 (e:Int)]) W2):=Lib.hid fun W2 h2 e=>MsW.of (O':=cutO O w.heap.size) (OwB.nil _ _) (hL.wr (Wr.cut h2 (fun _=>False)) id) (fun k hk=>cutO_old hk) hlg
 have LL:Hid (∀W2,Below w.heap.size w W2→LgM W2 (cutO O w.heap.size) lg all):=Lib.hid fun W2 h2=>hL.wr (Wr.cut h2 (fun _=>False)) id
 obtain⟨mm,hrg⟩:=hr.rg
 have M0:=Lib.hid (MpB.new W m)
 have BW:=Lib.hid hb
 have B0:Hid (Below W.heap.size W (W.alloc (.cells (mpv m) 40))):=Lib.hid ((Below.refl _ _).alloc (Nat.le_refl _) _)
 have HE:=Lib.hid fun W=>encode_any m W hm
 have HK:=Lib.hid fun W2 (h:Below w.heap.size w W2)=>ringKey_any 0 g mm 0 m.gn l W2 (hrg.ab h) (by decide) hm.gn
 have HL:=Lib.hid fun W=>labelOf_any m W
 have LO:=Lib.hid (labM_ok hm)
 have ML:=Lib.hid (mbytes_len m)
 have HLG:=Lib.hid hlg
 have H1:=Lib.hid h1000
 have HV:Hid (mpv m = #[.int .u64 (m.cm:Int),.int .u32 (m.pg:Int),.int .u64 (m.rc:Int),.int .u16 (m.rg:Int),.int .u8 (m.lv:Int),.int .u16 (m.gn:Int),.int .u32 (m.tn:Int)]):=Lib.hid rfl
 unfold lgM mSealP encP at *
 cases hrt:rightB m
 · simp only[cond_false]
   rw[hrt] at HE
   simp only[cond_false] at HE
   rw[if_neg (by decide),List.append_nil]
   rw[HV.out] at HE⊢
   rw[HV.out] at B0
   clear hr hL hm hrt HK HL M0 hb hrg hlg LL h1000
   go_enter Tryz.func133,Tryz.ntmps133
   go_wp2_with fail
   refine (HE.out _).mono ?_
   rintro e w1 ⟨v,rfl,hv,hb⟩
   have B1:=Lib.hid (below_tr B0.out hb B0.out.size)
   clear hv hb
   go_wp2_with fail
   go_ret2
   exact⟨_,rfl,NO.out _ (below_tr BW.out B1.out BW.out.size) 2,Fr.of B1.out _⟩
 · simp only[cond_true]
   rw[hrt] at HE
   simp only[cond_true] at HE
   unfold keyP at HK
   cases hk:getR (0,m.gn) l with
   | none=>
     rw[hk] at HK
     simp only at HK⊢
     rw[if_neg (by decide),List.append_nil]
     rw[HV.out] at HE⊢
     rw[HV.out] at B0
     clear hr hL hm hrt HL hk hb hrg hlg LL h1000
     go_enter Tryz.func133,Tryz.ntmps133
     go_wp2_with fail
     refine (HE.out _).mono ?_
     rintro e w1 ⟨v,rfl,hv,hb⟩
     have B1:=Lib.hid (below_tr B0.out hb B0.out.size)
     obtain⟨c0,c1,c2,c3,c4,c5,c6⟩:=(M0.out.ab hb).cells
     clear hv hb
     go_wp2_with fail
     refine (HK.out _ (below_tr BW.out B1.out BW.out.size)).mono ?_
     rintro e w2 ⟨v2,rfl,hv,hb⟩
     have B2:=Lib.hid (below_tr B1.out hb B1.out.size)
     clear hv hb
     go_wp2_with fail
     go_ret2
     exact⟨_,rfl,NO.out _ (below_tr BW.out B2.out BW.out.size) 7,Fr.of B2.out _⟩
   | some k=>
     have hkk:=hrg.ne _ (getR_mem hk)
     rw[hk] at HK
     simp only at HK⊢
     have HS:=sealM hkk m
     rw[HS]
     generalize hR:(headL (labM m)++sealA k (nonceL (labM m)) (aadL (labM m)) (mbytes m))=R at *
     simp only[if_true,Option.getD_some]
     have SS:=Lib.hid HS
     rw[HV.out] at HE HL M0⊢
     rw[HV.out] at B0
     clear hr hL hm hrt hk HS hkk hb hrg hlg NO h1000 hR
     go_enter Tryz.func133,Tryz.ntmps133
     go_wp2_with fail
     refine (HE.out _).mono ?_
     rintro e w1 ⟨v,rfl,hv,hb⟩
     obtain⟨A1,c1',rfl,_,_⟩:=hv.shape
     have I1:=Lib.hid (hv.isB rfl)
     have B1:=Lib.hid (below_tr B0.out hb B0.out.size)
     have T1:=Lib.hid (hv.lower B0.out.size)
     have M1:=Lib.hid (M0.out.ab hb)
     obtain⟨c0,c1,c2,c3,c4,c5,c6⟩:=M1.out.cells
     clear hv hb M0
     go_wp2_with fail
     refine (HK.out _ (below_tr BW.out B1.out BW.out.size)).mono ?_
     rintro e w2 ⟨v2,rfl,hv,hb⟩
     obtain⟨A2,c2',rfl,_,_⟩:=hv.shape
     have I2:=Lib.hid (hv.isB rfl)
     have J2:=Lib.hid (I1.out.ab hb)
     have T2:=Lib.hid (hv.lower B1.out.size)
     have B2:=Lib.hid (below_tr B1.out hb B1.out.size)
     have M2:=Lib.hid (M1.out.ab hb)
     clear hv hb M1 I1 B1 c0 c1 c2 c3 c4 c5 c6
     obtain⟨c0,c1,c2,c3,c4,c5,c6⟩:=M2.out.cells
     go_wp2_with fail
     refine (HL.out _).mono ?_
     rintro e w3 ⟨rfl,hb⟩
     have I3:=Lib.hid (I2.out.ab hb)
     have J3:=Lib.hid (J2.out.ab hb)
     have B3:=Lib.hid (below_tr B2.out hb B2.out.size)
     clear hb I2 J2 B2 M2 c0 c1 c2 c3 c4 c5 c6
     have G3:Below w.heap.size w w3:=below_tr BW.out B3.out BW.out.size
     have LS:=Lib.hid (logSealM (LL.out w3 G3) H1.out LO.out I3.out J3.out (fun x hx e=>by
      rw[cutO_at (Nat.le_trans BW.out.size (T2.out.lowA x hx))] at e
      cases e) (fun x hx e=>by
      rw[cutO_at (Nat.le_trans BW.out.size (T1.out.lowA x hx))] at e
      cases e) SS.out)
     have BG:=Lib.hid G3
     clear G3 LL HE HK HL
     go_wp2_with fail
     refine LS.out.mono ?_
     rintro e w4 ⟨v4,rfl,⟨x4,O4,rfl,ho4,ht4,hl4,ha4⟩,hf4⟩
     have P4:Hid (MsW w.heap.size O lg (all++[⟨labM m,k,mbytes m,R⟩]) R 0 (.tuple #[x4,.int .i64 ((0:Nat):Int)]) w4):=Lib.hid (MsW.of (ho4.lower BG.out.size) hl4 (fun q hq=>(ha4 q (Nat.lt_of_lt_of_le hq BG.out.size)).trans (cutO_old hq)) HLG.out)
     have F4:Hid (Fr W w4 (fun q=>q<w.heap.size∧O q=(0,2))):=Lib.hid (by
      refine (Fr.of B3.out _).trW (hf4.imp fun q hq=>?_)
      rcases Nat.lt_or_ge q w.heap.size with h | h
      · rw[cutO_old h] at hq
        exact⟨h,hq⟩
      · rw[cutO_at h] at hq
        cases hq)
     clear ho4 ht4 hl4 ha4 hf4 LS
     go_wp2_with fail
     go_ret2
     exact⟨_,rfl,P4.out,F4.out⟩
def metaP (R:RgL) (T:PgP) (D:DvS) (all:List Sl) (m:Mp):Nat×PgP×DvS×List Sl:=
 if T.fa=true then (190,T,D,all) else
 if T.cm=0∨T.fl=false∨m.cm≠T.cm then (2,T,D,all) else
 if (mSealP R m).2≠0 then ((mSealP R m).2,T,D,all) else
 match writeD D (m.cm%2) (mSealP R m).1 with
 | (0,D1)=>((syncD D1).1,{ T with fa:=!decide ((syncD D1).1=0) },(syncD D1).2,all++lgM R m)
 | (e+1,D1)=>(e+1,{ T with fa:=true },D1,all++lgM R m)
def MetR (w:World) (O:Tgm) (p d rg lg:Nat) (q:Nat×PgP×DvS×List Sl) (e:Ending) (w':World):Prop:=∃O',e = .returned (.int .i64 (q.1:Int))∧PgM w' O' p d rg lg q.2.1∧DvM w' O' d q.2.2.1∧LgM w' O' lg q.2.2.2∧Wr (fun τ=>τ=(0,1)∨τ=(0,2)∨τ=(p,1)) w O w' O'
theorem MetR.err {w w':World} {O:Tgm} {p d rg lg:Nat} {T:PgP} {D:DvS} {all:List Sl} (h:PgM w O p d rg lg T) (hD:DvM w O d D) (hL:LgM w O lg all) (hb:Below w.heap.size w w') (e:Nat):MetR w O p d rg lg (e,T,D,all) (.returned (.int .i64 (e:Int))) w':=
 ⟨_,rfl,h.wr (Wr.cut (O:=O) hb (fun _=>False)) (fun _=>id) id,hD.wr (Wr.cut hb (fun _=>False)) id,hL.wr (Wr.cut hb (fun _=>False)) id,Wr.cut hb _⟩
theorem mSealP_len {l:RgL} {m:Mp} {g:Nat} {w:World} {O:Tgm} (hr:RgM w O g l) (h:(mSealP l m).2=0):(mSealP l m).1.length=256:=by
 obtain⟨mm,hrg⟩:=hr.rg
 unfold mSealP at h⊢
 cases hrt:rightB m
 · rw[hrt] at h;cases h
 · rw[hrt] at h
   simp only[cond_true] at h⊢
   cases hk:getR (0,m.gn) l with
   | none=>rw[hk] at h;cases h
   | some k=>
     simp only
     exact (seal_ok9 (hrg.ne _ (getR_mem hk)) (by simp[labM]) (by simp[labM]) (mbytes_len m)).2
set_option maxRecDepth 100000 in
theorem run_fieldL (a b c:Int) (W:World):(Instr.field 36 (.agg #[.int .u32 0,.int .u8 4,.int .u8 0,.int .u32 a,.int .u64 b,.int .u16 c]) 3).run Tryz.prog W = .ok (.agg #[.int .u32 a,.int .u64 b,.int .u16 c]) W:=by kernel_rfl
set_option maxRecDepth 100000 in
theorem run_fieldF (a b c:Int) (W:World):(Instr.field 34 (.agg #[.int .u32 a,.int .u64 b,.int .u16 c]) 0).run Tryz.prog W = .ok (.int .u32 a) W:=by kernel_rfl
section
variable {w:World} {O:Tgm} {p d rg lg:Nat} {T:PgP} {D:DvS} {all:List Sl} {R:RgL} {m:Mp}
set_option maxRecDepth 100000 in
theorem meta_fails (h:PgM w O p d rg lg T) (hD:DvM w O d D) (hL:LgM w O lg all) (hf:T.fa=true):
 Calls Tryz.prog 75 #[.pointer (some ⟨p,0,none⟩),.agg #[.int .u64 (m.cm:Int),.int .u32 (m.pg:Int),.int .u64 (m.rc:Int),.int .u16 (m.rg:Int),.int .u8 (m.lv:Int),.int .u16 (m.gn:Int),.int .u32 (m.tn:Int)]] w (MetR w O p d rg lg (190,T,D,all)):=by
 have H0:=Lib.hid h
 have HD:=Lib.hid hD
 have HL:=Lib.hid hL
 obtain⟨b,hN,hbd,hbr,hbl⟩:=h
 have N0:=Lib.hid fun W (hW:Below w.heap.size w W)=>hN.wr (Wr.cut (O:=O) hW (fun _=>False)) (fun _=>id) id
 have HM:=Lib.hid fun W hW=>may_any (N0.out W hW).box
 have B1:Hid (Below w.heap.size w (w.alloc (.cells #[.int .u64 (m.cm:Int),.int .u32 (m.pg:Int),.int .u64 (m.rc:Int),.int .u16 (m.rg:Int),.int .u8 (m.lv:Int),.int .u16 (m.gn:Int),.int .u32 (m.tn:Int)] 40))):=Lib.hid ((Below.refl _ _).alloc (Nat.le_refl _) _)
 have M1:Hid (CbB (w.alloc (.cells #[.int .u64 (m.cm:Int),.int .u32 (m.pg:Int),.int .u64 (m.rc:Int),.int .u16 (m.rg:Int),.int .u8 (m.lv:Int),.int .u16 (m.gn:Int),.int .u32 (m.tn:Int)] 40)) w.heap.size 40 #[.int .u64 (m.cm:Int),.int .u32 (m.pg:Int),.int .u64 (m.rc:Int),.int .u16 (m.rg:Int),.int .u8 (m.lv:Int),.int .u16 (m.gn:Int),.int .u32 (m.tn:Int)]):=Lib.hid (CbB.new _ _ _)
 rw[show mayP (pcS b T)=190 from by unfold mayP pcS;rw[hf];rfl] at HM
 clear hf hN hD hL
 go_enter Tryz.func75,Tryz.ntmps75
 go_wp2_with fail
 refine (HM.out _ B1.out).mono ?_
 rintro e w1 ⟨rfl,rfl⟩
 go_wp2_with fail
 go_ret
 exact MetR.err H0.out HD.out HL.out B1.out 190
set_option maxRecDepth 100000 in
theorem meta_bad (h:PgM w O p d rg lg T) (hD:DvM w O d D) (hL:LgM w O lg all) (hf:T.fa=false) (hb:T.cm=0∨T.fl=false∨m.cm≠T.cm):
 Calls Tryz.prog 75 #[.pointer (some ⟨p,0,none⟩),.agg #[.int .u64 (m.cm:Int),.int .u32 (m.pg:Int),.int .u64 (m.rc:Int),.int .u16 (m.rg:Int),.int .u8 (m.lv:Int),.int .u16 (m.gn:Int),.int .u32 (m.tn:Int)]] w (MetR w O p d rg lg (2,T,D,all)):=by
 have H0:=Lib.hid h
 have HD:=Lib.hid hD
 have HL:=Lib.hid hL
 obtain⟨b,hN,hbd,hbr,hbl⟩:=h
 have N0:=Lib.hid fun W (hW:Below w.heap.size w W)=>hN.wr (Wr.cut (O:=O) hW (fun _=>False)) (fun _=>id) id
 have HM:=Lib.hid fun W hW=>may_any (N0.out W hW).box
 have B1:Hid (Below w.heap.size w (w.alloc (.cells #[.int .u64 (m.cm:Int),.int .u32 (m.pg:Int),.int .u64 (m.rc:Int),.int .u16 (m.rg:Int),.int .u8 (m.lv:Int),.int .u16 (m.gn:Int),.int .u32 (m.tn:Int)] 40))):=Lib.hid ((Below.refl _ _).alloc (Nat.le_refl _) _)
 have M1:Hid (CbB (w.alloc (.cells #[.int .u64 (m.cm:Int),.int .u32 (m.pg:Int),.int .u64 (m.rc:Int),.int .u16 (m.rg:Int),.int .u8 (m.lv:Int),.int .u16 (m.gn:Int),.int .u32 (m.tn:Int)] 40)) w.heap.size 40 #[.int .u64 (m.cm:Int),.int .u32 (m.pg:Int),.int .u64 (m.rc:Int),.int .u16 (m.rg:Int),.int .u8 (m.lv:Int),.int .u16 (m.gn:Int),.int .u32 (m.tn:Int)]):=Lib.hid (CbB.new _ _ _)
 rw[show mayP (pcS b T)=0 from by unfold mayP pcS;rw[hf];rfl] at HM
 have c9:(w.alloc (.cells #[.int .u64 (m.cm:Int),.int .u32 (m.pg:Int),.int .u64 (m.rc:Int),.int .u16 (m.rg:Int),.int .u8 (m.lv:Int),.int .u16 (m.gn:Int),.int .u32 (m.tn:Int)] 40)).cell? ⟨p,9,none⟩=some (.int .u64 (T.cm:Int)):=CbB.cell (N0.out _ B1.out).box (k:=9) rfl
 have c11:(w.alloc (.cells #[.int .u64 (m.cm:Int),.int .u32 (m.pg:Int),.int .u64 (m.rc:Int),.int .u16 (m.rg:Int),.int .u8 (m.lv:Int),.int .u16 (m.gn:Int),.int .u32 (m.tn:Int)] 40)).cell? ⟨p,11,none⟩=some (.bool T.fl):=CbB.cell (N0.out _ B1.out).box (k:=11) rfl
 clear hf hN hD hL
 by_cases h0:T.cm=0
 · rw[h0] at c9
   clear h0 hb
   go_enter Tryz.func75,Tryz.ntmps75
   go_wp2_with fail
   refine (HM.out _ B1.out).mono ?_
   rintro e w1 ⟨rfl,rfl⟩
   go_wp2_with fail
   go_quiet (fail)
   go_wp2_with fail
   go_ret
   exact MetR.err H0.out HD.out HL.out (bel_drewN9 B1.out _) 2
 · have e0:((T.cm:Int)==0)=false:=by simp;omega
   have e02:¬(T.cm:Int)=0:=by omega
   have e03:(T.cm==0)=false:=by simp;omega
   cases hfl:T.fl with
   | false=>
     rw[hfl] at c11
     clear h0 hb hfl
     go_enter Tryz.func75,Tryz.ntmps75
     go_wp2_with fail
     refine (HM.out _ B1.out).mono ?_
     rintro e w1 ⟨rfl,rfl⟩
     go_wp2_with fail
     go_quiet (fail)
     go_wp2_with fail
     go_ret
     exact MetR.err H0.out HD.out HL.out (bel_drewN9 B1.out _) 2
   | true=>
     have hne:m.cm≠T.cm:=by
      rcases hb with hb | hb | hb
      · exact absurd hb h0
      · rw[hfl] at hb;cases hb
      · exact hb
     rw[hfl] at c11
     have e1:((m.cm:Int) != (T.cm:Int))=true:=by simp;omega
     have e12:¬(m.cm:Int)=(T.cm:Int):=by omega
     have e13:(m.cm != T.cm)=true:=by simp;omega
     clear h0 hb hfl hne
     go_enter Tryz.func75,Tryz.ntmps75
     go_wp2_with fail
     refine (HM.out _ B1.out).mono ?_
     rintro e w1 ⟨rfl,rfl⟩
     go_wp2_with fail
     go_quiet (fail)
     go_wp2_with fail
     go_ret
     exact MetR.err H0.out HD.out HL.out (bel_drewN9 B1.out _) 2
set_option maxRecDepth 100000 in
theorem meta_go (h:PgM w O p d rg lg T) (hD:DvM w O d D) (hL:LgM w O lg all) (hR:RgM w O rg R) (okD:D.Ok) (hst:D.st≤900000000) (hws:D.ws.length≤90000) (h1000:all.length≤100000) (hm:m.Ok) (hf:T.fa=false) (ho:T.cm≠0∧T.fl=true∧m.cm=T.cm):
 Calls Tryz.prog 75 #[.pointer (some ⟨p,0,none⟩),.agg #[.int .u64 (m.cm:Int),.int .u32 (m.pg:Int),.int .u64 (m.rc:Int),.int .u16 (m.rg:Int),.int .u8 (m.lv:Int),.int .u16 (m.gn:Int),.int .u32 (m.tn:Int)]] w (MetR w O p d rg lg (if (mSealP R m).2≠0 then ((mSealP R m).2,T,D,all) else match writeD D (m.cm%2) (mSealP R m).1 with | (0,D1)=>((syncD D1).1,{ T with fa:=!decide ((syncD D1).1=0) },(syncD D1).2,all++lgM R m) | (e+1,D1)=>(e+1,{ T with fa:=true },D1,all++lgM R m))):=by
 have H0:=Lib.hid h
 have HD:=Lib.hid hD
 have HL:=Lib.hid hL
 obtain⟨b,hN,hbd,hbr,hbl⟩:=h
 have N0:=Lib.hid fun W (hW:Below w.heap.size w W)=>hN.wr (Wr.cut (O:=O) hW (fun _=>False)) (fun _=>id) id
 have HM:=Lib.hid fun W hW=>may_any (N0.out W hW).box
 have B1:Hid (Below w.heap.size w (w.alloc (.cells #[.int .u64 (m.cm:Int),.int .u32 (m.pg:Int),.int .u64 (m.rc:Int),.int .u16 (m.rg:Int),.int .u8 (m.lv:Int),.int .u16 (m.gn:Int),.int .u32 (m.tn:Int)] 40))):=Lib.hid ((Below.refl _ _).alloc (Nat.le_refl _) _)
 have M1:Hid (CbB (w.alloc (.cells #[.int .u64 (m.cm:Int),.int .u32 (m.pg:Int),.int .u64 (m.rc:Int),.int .u16 (m.rg:Int),.int .u8 (m.lv:Int),.int .u16 (m.gn:Int),.int .u32 (m.tn:Int)] 40)) w.heap.size 40 #[.int .u64 (m.cm:Int),.int .u32 (m.pg:Int),.int .u64 (m.rc:Int),.int .u16 (m.rg:Int),.int .u8 (m.lv:Int),.int .u16 (m.gn:Int),.int .u32 (m.tn:Int)]):=Lib.hid (CbB.new _ _ _)
 rw[show mayP (pcS b T)=0 from by unfold mayP pcS;rw[hf];rfl] at HM
 have c9:(w.alloc (.cells #[.int .u64 (m.cm:Int),.int .u32 (m.pg:Int),.int .u64 (m.rc:Int),.int .u16 (m.rg:Int),.int .u8 (m.lv:Int),.int .u16 (m.gn:Int),.int .u32 (m.tn:Int)] 40)).cell? ⟨p,9,none⟩=some (.int .u64 (T.cm:Int)):=CbB.cell (N0.out _ B1.out).box (k:=9) rfl
 have c11:(w.alloc (.cells #[.int .u64 (m.cm:Int),.int .u32 (m.pg:Int),.int .u64 (m.rc:Int),.int .u16 (m.rg:Int),.int .u8 (m.lv:Int),.int .u16 (m.gn:Int),.int .u32 (m.tn:Int)] 40)).cell? ⟨p,11,none⟩=some (.bool T.fl):=CbB.cell (N0.out _ B1.out).box (k:=11) rfl
 have HF:=Lib.hid hf
 have HR:=Lib.hid hR
 obtain⟨q9,hq9⟩:∃q9,(if (mSealP R m).2≠0 then ((mSealP R m).2,T,D,all) else
  match writeD D (m.cm%2) (mSealP R m).1 with
  | (0,D1)=>((syncD D1).1,{ T with fa:=!decide ((syncD D1).1=0) },(syncD D1).2,all++lgM R m)
  | (e+1,D1)=>(e+1,{ T with fa:=true },D1,all++lgM R m))=q9:=⟨_,rfl⟩
 rw[hq9]
 obtain⟨sl,hsl2⟩:∃sl,m.cm%2=sl:=⟨_,rfl⟩
 rw[hsl2] at hq9
 have HQ:=Lib.hid hq9
 have SB:Hid (sl<2):=Lib.hid (by omega)
 have LQ:Hid (∀W,Calls Tryz.prog 82 #[.agg #[.int .u64 (m.cm:Int),.int .u32 (m.pg:Int),.int .u64 (m.rc:Int),.int .u16 (m.rg:Int),.int .u8 (m.lv:Int),.int .u16 (m.gn:Int),.int .u32 (m.tn:Int)]] W fun e w'=>e = .returned (.agg #[.int .u32 0,.int .u8 4,.int .u8 0,.int .u32 (sl:Int),.int .u64 (m.cm:Int),.int .u16 (m.gn:Int)])∧Below W.heap.size W w'):=Lib.hid fun W=>by
  have h:=labelOf_any m W
  rw[lab_cells] at h
  simp only[labM] at h
  rw[hsl2] at h
  exact h
 have e0:((T.cm:Int)==0)=false:=by simp;omega
 have e02:¬(T.cm:Int)=0:=by omega
 have e03:(T.cm==0)=false:=by simp;omega
 rw[ho.2.1] at c11
 have hmc:(m.cm:Int)=(T.cm:Int):=by omega
 rw[←hmc] at c9 e0 e02
 rw[←ho.2.2] at e03
 have e1:((m.cm:Int) != (m.cm:Int))=false:=by simp
 have e13:(m.cm != m.cm)=false:=by simp
 have hsl:(mSealP R m).2=0→(mSealP R m).1.length=256:=mSealP_len hR
 have hMS:=fun W (hW:Below w.heap.size w W)=>metaSealW hR hL hW h1000 hm
 have BD:=Lib.hid (And.intro okD (And.intro hst hws))
 obtain⟨ms,hms⟩:∃ms,mSealP R m=ms:=⟨_,rfl⟩
 rw[hms] at hsl hMS
 obtain⟨blk,er⟩:=ms
 dsimp only at hsl hMS
 have HS:=Lib.hid hms
 have SL:=Lib.hid hsl
 have MQ:Hid (∀W,Below w.heap.size w W→Calls Tryz.prog 133 #[.pointer (some ⟨rg,0,none⟩),.pointer (some ⟨lg,0,none⟩),.agg #[.int .u64 (m.cm:Int),.int .u32 (m.pg:Int),.int .u64 (m.rc:Int),.int .u16 (m.rg:Int),.int .u8 (m.lv:Int),.int .u16 (m.gn:Int),.int .u32 (m.tn:Int)]] W fun e w'=>∃v,e = .returned v∧MsW w.heap.size O lg (all++lgM R m) blk er v w'∧Fr W w' (fun k=>k<w.heap.size∧O k=(0,2))):=Lib.hid hMS
 have hw2:IntKind.i64.wrap (sl:Int)=(sl:Int):=wrap_i64P (by omega) (by have:=SB.out;omega)
 have HBE:=Lib.hid (And.intro hbd (And.intro hbr hbl))
 have HPP:=Lib.hid hN.pos
 have HTB:=Lib.hid (And.intro hN.tb hN.box.lt)
 clear hsl2 hf hN hD hL hR ho hq9 hmc hsl hMS hms okD hst hws h1000 hm hbd hbr hbl
 go_enter Tryz.func75,Tryz.ntmps75
 go_wp2_with fail
 refine (HM.out _ B1.out).mono ?_
 rintro e w1 ⟨rfl,rfl⟩
 go_wp2_with fail
 go_quiet (fail)
 go_upto_region 6 with (fail)
 obtain⟨w1,hw1⟩:∃w1,((w.alloc (.cells #[.int .u64 (m.cm:Int),.int .u32 (m.pg:Int),.int .u64 (m.rc:Int),.int .u16 (m.rg:Int),.int .u8 (m.lv:Int),.int .u16 (m.gn:Int),.int .u32 (m.tn:Int)] 40)).drewN nq)=w1:=⟨_,rfl⟩
 have b1:Below w.heap.size w w1:=by rw[←hw1];exact bel_drewN9 B1.out _
 have m1:CbB w1 w.heap.size 40 #[.int .u64 (m.cm:Int),.int .u32 (m.pg:Int),.int .u64 (m.rc:Int),.int .u16 (m.rg:Int),.int .u8 (m.lv:Int),.int .u16 (m.gn:Int),.int .u32 (m.tn:Int)]:=by rw[←hw1];exact M1.out
 rw[hw1]
 have BB:=Lib.hid b1
 have MM:=Lib.hid m1
 clear hw1 b1 m1 c9 c11 e0 e02 e03 e1 e13 HM B1 M1
 have MS:Hid (∀W,Below w1.heap.size w1 W→Calls Tryz.prog 133 #[.pointer (some ⟨rg,0,none⟩),.pointer (some ⟨lg,0,none⟩),.agg #[.int .u64 (m.cm:Int),.int .u32 (m.pg:Int),.int .u64 (m.rc:Int),.int .u16 (m.rg:Int),.int .u8 (m.lv:Int),.int .u16 (m.gn:Int),.int .u32 (m.tn:Int)]] W fun e w'=>∃v,e = .returned v∧MsW w.heap.size O lg (all++lgM R m) blk er v w'∧Fr W w' (fun k=>k<w.heap.size∧O k=(0,2))):=Lib.hid fun W hW=>MQ.out W (below_tr BB.out hW BB.out.size)
 have CP:Hid (∀W,Fr w1 W (fun q=>q<w.heap.size∧O q=(0,2))→W.cell? ⟨p,1,none⟩=some (.pointer (some ⟨rg,0,none⟩))∧W.cell? ⟨p,2,none⟩=some (.pointer (some ⟨lg,0,none⟩))∧W.cell? ⟨w.heap.size,0,none⟩=some (.int .u64 (m.cm:Int))∧W.cell? ⟨w.heap.size,1,none⟩=some (.int .u32 (m.pg:Int))∧W.cell? ⟨w.heap.size,2,none⟩=some (.int .u64 (m.rc:Int))∧W.cell? ⟨w.heap.size,3,none⟩=some (.int .u16 (m.rg:Int))∧W.cell? ⟨w.heap.size,4,none⟩=some (.int .u8 (m.lv:Int))∧W.cell? ⟨w.heap.size,5,none⟩=some (.int .u16 (m.gn:Int))∧W.cell? ⟨w.heap.size,6,none⟩=some (.int .u32 (m.tn:Int))):=Lib.hid fun W hW=>by
  have q1:=CbB.fr (N0.out w1 BB.out).box hW (fun e=>by rw[HTB.out.1] at e;have:=HPP.out;obtain⟨_,e⟩:=e;injection e with e;omega)
  have q2:=MM.out.fr hW (fun e=>by omega)
  exact⟨by rw[←HBE.out.2.1];exact q1.cell (k:=1) rfl,by rw[←HBE.out.2.2];exact q1.cell (k:=2) rfl,q2.cell (k:=0) rfl,q2.cell (k:=1) rfl,q2.cell (k:=2) rfl,q2.cell (k:=3) rfl,q2.cell (k:=4) rfl,q2.cell (k:=5) rfl,q2.cell (k:=6) rfl⟩
 refine wp_wide5 (fun i q=>i=9∧q<w.heap.size∧O q=(0,2)) [⟨36,IsR (.pointer (some ⟨p,0,none⟩)),[],false⟩,⟨37,IsR (.pointer (some ⟨p,0,none⟩)),[0],false⟩,⟨38,IsR (.pointer (some ⟨p,1,none⟩)),[1],false⟩,⟨39,IsR (.pointer (some ⟨rg,0,none⟩)),[2],false⟩,⟨40,IsR (.pointer (some ⟨p,0,none⟩)),[],false⟩,⟨41,IsR (.pointer (some ⟨p,0,none⟩)),[4],false⟩,⟨42,IsR (.pointer (some ⟨p,2,none⟩)),[5],false⟩,⟨43,IsR (.pointer (some ⟨lg,0,none⟩)),[6],false⟩,⟨44,IsR (.agg #[.int .u64 (m.cm:Int),.int .u32 (m.pg:Int),.int .u64 (m.rc:Int),.int .u16 (m.rg:Int),.int .u8 (m.lv:Int),.int .u16 (m.gn:Int),.int .u32 (m.tn:Int)]),[],false⟩,⟨45,MsW w.heap.size O lg (all++lgM R m) blk er,[3,7,8],false⟩,⟨35,TupB w.heap.size er blk,[9],false⟩,⟨46,OwR w.heap.size blk,[10],false⟩,⟨47,IsR (.int .i64 (er:Int)),[10],false⟩,⟨6,OwR w.heap.size blk,[11],false⟩] (by kernel_rfl) (by kernel_rfl) rfl rfl rfl ⟨?_,?_,?_,?_,?_,?_,?_,?_,?_,?_,?_,?_,?_,?_,trivial⟩ ?_
 · refine⟨rfl,IsR.monoF _ _,fun a W hA hb hd=>Takes.to5 (takes_plain rfl (yields_value _ ?_ rfl)) _⟩
   have h0:a.tmps[0]?.getD undef = .pointer (some ⟨p,0,none⟩):=(eval_get a 0).trans ((hA.eval (by simp)).trans rfl)
   go_simp
 · refine⟨rfl,IsR.monoF _ _,fun a W hA hb hd=>Takes.to5 (takes_plain rfl (yields_value _ ?_ rfl)) _⟩
   have h36:a.tmps[36]?.getD undef = .pointer (some ⟨p,0,none⟩):=(eval_get a 36).trans (hd 0 (by simp) _ rfl)
   go_simp
 · refine⟨rfl,IsR.monoF _ _,fun a W hA hb hd=>Takes.to5 (takes_plain rfl (yields_value _ ?_ rfl)) _⟩
   have h37:a.tmps[37]?.getD undef = .pointer (some ⟨p,0,none⟩):=(eval_get a 37).trans (hd 1 (by simp) _ rfl)
   go_simp
 · refine⟨rfl,IsR.monoF _ _,fun a W hA hb hd=>Takes.to5 (takes_plain rfl (yields_value _ ?_ rfl)) _⟩
   have h38:a.tmps[38]?.getD undef = .pointer (some ⟨p,1,none⟩):=(eval_get a 38).trans (hd 2 (by simp) _ rfl)
   have hc:=(CP.out W (hb.imp fun q ⟨j,_,_,hj⟩=>hj)).1
   go_simp
 · refine⟨rfl,IsR.monoF _ _,fun a W hA hb hd=>Takes.to5 (takes_plain rfl (yields_value _ ?_ rfl)) _⟩
   have h0:a.tmps[0]?.getD undef = .pointer (some ⟨p,0,none⟩):=(eval_get a 0).trans ((hA.eval (by simp)).trans rfl)
   go_simp
 · refine⟨rfl,IsR.monoF _ _,fun a W hA hb hd=>Takes.to5 (takes_plain rfl (yields_value _ ?_ rfl)) _⟩
   have h40:a.tmps[40]?.getD undef = .pointer (some ⟨p,0,none⟩):=(eval_get a 40).trans (hd 4 (by simp) _ rfl)
   go_simp
 · refine⟨rfl,IsR.monoF _ _,fun a W hA hb hd=>Takes.to5 (takes_plain rfl (yields_value _ ?_ rfl)) _⟩
   have h41:a.tmps[41]?.getD undef = .pointer (some ⟨p,0,none⟩):=(eval_get a 41).trans (hd 5 (by simp) _ rfl)
   go_simp
 · refine⟨rfl,IsR.monoF _ _,fun a W hA hb hd=>Takes.to5 (takes_plain rfl (yields_value _ ?_ rfl)) _⟩
   have h42:a.tmps[42]?.getD undef = .pointer (some ⟨p,2,none⟩):=(eval_get a 42).trans (hd 6 (by simp) _ rfl)
   have hc:=(CP.out W (hb.imp fun q ⟨j,_,_,hj⟩=>hj)).2.1
   go_simp
 · refine⟨rfl,IsR.monoF _ _,fun a W hA hb hd=>Takes.to5 (takes_plain rfl (yields_value _ ?_ rfl)) _⟩
   have h3:a.tmps[3]?.getD undef = .pointer (some ⟨w.heap.size,0,none⟩):=(eval_get a 3).trans ((hA.eval (by simp)).trans rfl)
   obtain⟨_,_,hc0,hc1,hc2,hc3,hc4,hc5,hc6⟩:=CP.out W (hb.imp fun q ⟨j,_,_,hj⟩=>hj)
   go_simp
 · refine⟨rfl,fun v W W1 h hf=>MsW.ab h ⟨hf.os,hf.tape,hf.output,hf.size,fun q hq=>hf.block q hq (fun ⟨j,hj,hj2,_⟩=>hj hj2)⟩,fun a W hA hb hd=>takes5_plain rfl ?_⟩
   have h39:a.tmps[39]?.getD undef = .pointer (some ⟨rg,0,none⟩):=(eval_get a 39).trans (hd 3 (by simp) _ rfl)
   have h43:a.tmps[43]?.getD undef = .pointer (some ⟨lg,0,none⟩):=(eval_get a 43).trans (hd 7 (by simp) _ rfl)
   have h44:a.tmps[44]?.getD undef = .agg #[.int .u64 (m.cm:Int),.int .u32 (m.pg:Int),.int .u64 (m.rc:Int),.int .u16 (m.rg:Int),.int .u8 (m.lv:Int),.int .u16 (m.gn:Int),.int .u32 (m.tn:Int)]:=(eval_get a 44).trans (hd 8 (by simp) _ rfl)
   refine .inr ⟨133,#[.pointer (some ⟨rg,0,none⟩),.pointer (some ⟨lg,0,none⟩),.agg #[.int .u64 (m.cm:Int),.int .u32 (m.pg:Int),.int .u64 (m.rc:Int),.int .u16 (m.rg:Int),.int .u8 (m.lv:Int),.int .u16 (m.gn:Int),.int .u32 (m.tn:Int)]],by go_simp,(MS.out W ⟨hb.os,hb.tape,hb.output,hb.size,fun q hq=>hb.block q hq (fun ⟨j,hj,hj2,_⟩=>hj hj2)⟩).mono ?_⟩
   rintro e W1 ⟨v,rfl,hs,hf⟩
   exact⟨v,rfl,hs,hf.imp fun q hq=>⟨rfl,hq⟩⟩
 · refine⟨rfl,fun v W W1 h hf=>by obtain⟨v0,h1,h2⟩:=h;exact⟨v0,h1,h2.fr hf (fun q hq ⟨j,_,_,hj,_⟩=>by have:=own_ge9 h2.own q hq;omega)⟩,fun a W hA hb hd=>takes5_plain rfl ?_⟩
   obtain⟨v0,e0,ho⟩:=(hd 9 (by simp) _ rfl).1
   have h0:a.tmps[45]?.getD undef = .tuple #[v0,.int .i64 (er:Int)]:=(eval_get a 45).trans e0
   refine Yields.to5 (yields_value (.tuple #[v0,.int .i64 (er:Int)]) ?_ ⟨v0,rfl,ho⟩) _
   go_simp
 · refine⟨rfl,fun v W W1 h hf=>OwB.fr h hf (fun q hq ⟨j,_,_,hj,_⟩=>by have:=own_ge9 (OwB.own h) q hq;omega),fun a W hA hb hd=>takes5_plain rfl ?_⟩
   obtain⟨v0,e0,ho⟩:=hd 10 (by simp) _ rfl
   have h0:a.tmps[35]?.getD undef = .tuple #[v0,.int .i64 (er:Int)]:=(eval_get a 35).trans e0
   refine Yields.to5 (yields_value v0 ?_ ho) _
   go_simp
 · refine⟨rfl,IsR.monoF _ _,fun a W hA hb hd=>takes5_plain rfl ?_⟩
   obtain⟨v0,e0,ho⟩:=hd 10 (by simp) _ rfl
   have h0:a.tmps[35]?.getD undef = .tuple #[v0,.int .i64 (er:Int)]:=(eval_get a 35).trans e0
   refine Yields.to5 (yields_value (.int .i64 (er:Int)) ?_ rfl) _
   go_simp
 · refine⟨rfl,fun v W W1 h hf=>OwB.fr h hf (fun q hq ⟨j,_,_,hj,_⟩=>by have:=own_ge9 (OwB.own h) q hq;omega),fun a W hA hb hd=>takes5_plain rfl ?_⟩
   have ho:OwB W w.heap.size (a.eval (.tmp 46)) blk:=hd 11 (by simp) _ rfl
   exact Yields.to5 (yields_value (a.eval (.tmp 46)) (exec_assign (.tmp 46) rfl W) ho) _
 intro vt w3 hR hb
 have SW:Hid (MsW w.heap.size O lg (all++lgM R m) blk er (vt 45) w3):=Lib.hid (hR 9 _ rfl)
 have BV:Hid (OwB w3 w.heap.size (vt 6) blk):=Lib.hid (hR 13 _ rfl)
 have FW:Hid (Fr w1 w3 (fun q=>q<w.heap.size∧O q=(0,2))):=Lib.hid (hb.imp fun q ⟨j,_,hj⟩=>hj)
 have e36:vt 36 = .pointer (some ⟨p,0,none⟩):=hR 0 _ rfl
 have e37:vt 37 = .pointer (some ⟨p,0,none⟩):=hR 1 _ rfl
 have e38:vt 38 = .pointer (some ⟨p,1,none⟩):=hR 2 _ rfl
 have e39:vt 39 = .pointer (some ⟨rg,0,none⟩):=hR 3 _ rfl
 have e40:vt 40 = .pointer (some ⟨p,0,none⟩):=hR 4 _ rfl
 have e41:vt 41 = .pointer (some ⟨p,0,none⟩):=hR 5 _ rfl
 have e42:vt 42 = .pointer (some ⟨p,2,none⟩):=hR 6 _ rfl
 have e43:vt 43 = .pointer (some ⟨lg,0,none⟩):=hR 7 _ rfl
 have e44:vt 44 = .agg #[.int .u64 (m.cm:Int),.int .u32 (m.pg:Int),.int .u64 (m.rc:Int),.int .u16 (m.rg:Int),.int .u8 (m.lv:Int),.int .u16 (m.gn:Int),.int .u32 (m.tn:Int)]:=hR 8 _ rfl
 have e47:vt 47 = .int .i64 (er:Int):=hR 12 _ rfl
 simp only[List.map_cons,List.map_nil,List.foldl_cons,List.foldl_nil,List.length_cons,List.length_nil,List.drop_succ_cons,List.drop_zero,Act.put,List.setIfInBounds_toArray,List.set_cons_zero,List.set_cons_succ,e36,e37,e38,e39,e40,e41,e42,e43,e44,e47]
 generalize vt 45=q45 at *
 generalize vt 35=q35 at *
 generalize vt 46=q46 at *
 clear hR hb e36 e37 e38 e39 e40 e41 e42 e43 e44 e47
 generalize vt 6=q6 at *
 obtain⟨O3,lo3,hO3,bt3⟩:=SW.out.own BV.out
 have s3:Wr (fun τ=>τ=(0,2)) w O w3 O3:=⟨⟨FW.out.os.trans BB.out.os,FW.out.tape.trans BB.out.tape,FW.out.output.trans BB.out.output,Nat.le_trans BB.out.size FW.out.size,fun i hi hn=>(FW.out.block i (Nat.lt_of_lt_of_le hi BB.out.size) (fun e=>hn e.2)).trans (BB.out.block i hi)⟩,hO3⟩
 have S3:=Lib.hid s3
 have LO3:=Lib.hid lo3
 have P3:=Lib.hid (H0.out.wr s3 (fun i e=>by have:=HPP.out;injection e with e;omega) (fun e=>by cases e))
 have D3:=Lib.hid (HD.out.wr s3 (fun e=>by cases e))
 have BT:=Lib.hid bt3
 clear s3 lo3 hO3 bt3
 by_cases h0:er=0
 case neg=>
  have HZ:=Lib.hid h0
  have z1:((er:Int) != 0)=true:=by simp;omega
  have z2:¬(er:Int)=0:=by omega
  clear h0
  go_wp2_with fail
  go_ret
  rw[←HQ.out,HS.out,if_pos HZ.out]
  have hl:=LO3.out
  unfold lgM at hl
  rw[HS.out,if_neg HZ.out,List.append_nil] at hl
  exact⟨O3,rfl,P3.out,D3.out,hl,S3.out.imp fun τ h=>.inr (.inl h)⟩
 subst h0
 have hlen:=SL.out rfl
 obtain⟨bA,bc,hq6,_,_⟩:=BV.out.shape
 subst hq6
 rw[hlen]
 have IB:Hid (IsB w3 bA 256 bc blk):=Lib.hid (by
  have:=BV.out.isB rfl
  rwa [hlen] at this)
 have BX:Hid (∀x,bA=some x→O3 x.block≠(0,1)):=Lib.hid fun x hx e=>by
  subst hx
  rcases BV.out.own.2 with ⟨e1,_⟩ | ⟨g,cap,cur,e1,hge,_⟩
  · cases e1
  · injection e1 with e1 _ _
    injection e1 with e1
    subst e1
    rw[BT.out _ rfl] at e
    cases e
 have LN:=Lib.hid hlen
 have BY:=Lib.hid BV.out.byt
 have CQ:Hid (∀W,Below w3.heap.size w3 W→W.cell? ⟨p,0,none⟩=some (.pointer (some ⟨d,0,none⟩))∧W.cell? ⟨w.heap.size,0,none⟩=some (.int .u64 (m.cm:Int))∧W.cell? ⟨w.heap.size,1,none⟩=some (.int .u32 (m.pg:Int))∧W.cell? ⟨w.heap.size,2,none⟩=some (.int .u64 (m.rc:Int))∧W.cell? ⟨w.heap.size,3,none⟩=some (.int .u16 (m.rg:Int))∧W.cell? ⟨w.heap.size,4,none⟩=some (.int .u8 (m.lv:Int))∧W.cell? ⟨w.heap.size,5,none⟩=some (.int .u16 (m.gn:Int))∧W.cell? ⟨w.heap.size,6,none⟩=some (.int .u32 (m.tn:Int))):=Lib.hid fun W hW=>by
  obtain⟨b3,hN3,e1,e2,e3⟩:=P3.out
  have q1:=CbB.ab hN3.box hW
  have q2:=(MM.out.fr FW.out (fun e=>by omega)).ab hW
  exact⟨by rw[←e1];exact q1.cell (k:=0) rfl,q2.cell (k:=0) rfl,q2.cell (k:=1) rfl,q2.cell (k:=2) rfl,q2.cell (k:=3) rfl,q2.cell (k:=4) rfl,q2.cell (k:=5) rfl,q2.cell (k:=6) rfl⟩
 clear hlen BT CP MS MQ
 go_upto_region 9 with (fail)
 refine wp_wide3 [⟨51,IsR (.pointer (some ⟨p,0,none⟩)),[],false⟩,⟨52,IsR (.pointer (some ⟨p,0,none⟩)),[0],false⟩,⟨53,IsR (.pointer (some ⟨p,0,none⟩)),[1],false⟩,⟨54,IsR (.pointer (some ⟨d,0,none⟩)),[2],false⟩,⟨55,IsR (.agg #[.int .u64 (m.cm:Int),.int .u32 (m.pg:Int),.int .u64 (m.rc:Int),.int .u16 (m.rg:Int),.int .u8 (m.lv:Int),.int .u16 (m.gn:Int),.int .u32 (m.tn:Int)]),[],false⟩,⟨56,IsR (.agg #[.int .u32 0,.int .u8 4,.int .u8 0,.int .u32 (sl:Int),.int .u64 (m.cm:Int),.int .u16 (m.gn:Int)]),[4],false⟩,⟨57,IsR (.agg #[.int .u32 (sl:Int),.int .u64 (m.cm:Int),.int .u16 (m.gn:Int)]),[5],false⟩,⟨58,IsR (.int .u32 (sl:Int)),[6],false⟩,⟨59,IsR (.int .i64 (sl:Int)),[7],false⟩,⟨60,IsR (.slice bA 256 bc),[],false⟩] (by kernel_rfl) (by kernel_rfl) rfl rfl rfl ⟨?_,?_,?_,?_,?_,?_,?_,?_,?_,?_,trivial⟩ ?_
 · refine⟨rfl,IsR.mono _,fun a W hA hb hd=>takes_plain rfl (yields_value _ ?_ rfl)⟩
   have h0:a.tmps[0]?.getD undef = .pointer (some ⟨p,0,none⟩):=(eval_get a 0).trans ((hA.eval (by simp)).trans rfl)
   go_simp
 · refine⟨rfl,IsR.mono _,fun a W hA hb hd=>takes_plain rfl (yields_value _ ?_ rfl)⟩
   have h51:a.tmps[51]?.getD undef = .pointer (some ⟨p,0,none⟩):=(eval_get a 51).trans (hd 0 (by simp) _ rfl)
   go_simp
 · refine⟨rfl,IsR.mono _,fun a W hA hb hd=>takes_plain rfl (yields_value _ ?_ rfl)⟩
   have h52:a.tmps[52]?.getD undef = .pointer (some ⟨p,0,none⟩):=(eval_get a 52).trans (hd 1 (by simp) _ rfl)
   go_simp
 · refine⟨rfl,IsR.mono _,fun a W hA hb hd=>takes_plain rfl (yields_value _ ?_ rfl)⟩
   have h53:a.tmps[53]?.getD undef = .pointer (some ⟨p,0,none⟩):=(eval_get a 53).trans (hd 2 (by simp) _ rfl)
   have hc:=(CQ.out W hb).1
   go_simp
 · refine⟨rfl,IsR.mono _,fun a W hA hb hd=>takes_plain rfl (yields_value _ ?_ rfl)⟩
   have h3:a.tmps[3]?.getD undef = .pointer (some ⟨w.heap.size,0,none⟩):=(eval_get a 3).trans ((hA.eval (by simp)).trans rfl)
   obtain⟨_,hc0,hc1,hc2,hc3,hc4,hc5,hc6⟩:=CQ.out W hb
   go_simp
 · refine⟨rfl,IsR.mono _,fun a W hA hb hd=>takes_plain rfl ?_⟩
   have h55:a.tmps[55]?.getD undef = .agg #[.int .u64 (m.cm:Int),.int .u32 (m.pg:Int),.int .u64 (m.rc:Int),.int .u16 (m.rg:Int),.int .u8 (m.lv:Int),.int .u16 (m.gn:Int),.int .u32 (m.tn:Int)]:=(eval_get a 55).trans (hd 4 (by simp) _ rfl)
   refine yields_call 82 #[.agg #[.int .u64 (m.cm:Int),.int .u32 (m.pg:Int),.int .u64 (m.rc:Int),.int .u16 (m.rg:Int),.int .u8 (m.lv:Int),.int .u16 (m.gn:Int),.int .u32 (m.tn:Int)]] (by go_simp) ((LQ.out W).mono ?_)
   rintro e W1 ⟨rfl,h3⟩
   exact⟨_,rfl,rfl,h3⟩
 · refine⟨rfl,IsR.mono _,fun a W hA hb hd=>takes_plain rfl (yields_value _ ?_ rfl)⟩
   have h56:a.tmps[56]?.getD undef = .agg #[.int .u32 0,.int .u8 4,.int .u8 0,.int .u32 (sl:Int),.int .u64 (m.cm:Int),.int .u16 (m.gn:Int)]:=(eval_get a 56).trans (hd 5 (by simp) _ rfl)
   have hf:=fun W=>run_fieldL (sl:Int) (m.cm:Int) (m.gn:Int) W
   go_simp
 · refine⟨rfl,IsR.mono _,fun a W hA hb hd=>takes_plain rfl (yields_value _ ?_ rfl)⟩
   have h57:a.tmps[57]?.getD undef = .agg #[.int .u32 (sl:Int),.int .u64 (m.cm:Int),.int .u16 (m.gn:Int)]:=(eval_get a 57).trans (hd 6 (by simp) _ rfl)
   have hf:=fun W=>run_fieldF (sl:Int) (m.cm:Int) (m.gn:Int) W
   go_simp
 · refine⟨rfl,IsR.mono _,fun a W hA hb hd=>takes_plain rfl (yields_value _ ?_ rfl)⟩
   have h58:a.tmps[58]?.getD undef = .int .u32 (sl:Int):=(eval_get a 58).trans (hd 7 (by simp) _ rfl)
   have hw:=hw2
   go_simp
 · refine⟨rfl,IsR.mono _,fun a W hA hb hd=>takes_plain rfl (yields_value _ ?_ rfl)⟩
   have h6:a.tmps[6]?.getD undef = .slice bA 256 bc:=(eval_get a 6).trans ((hA.eval (by simp)).trans rfl)
   go_simp
 intro vs w4 hR hF hb
 have B4:=Lib.hid hb
 have e51:vs 51 = .pointer (some ⟨p,0,none⟩):=hR 0 _ rfl
 have e52:vs 52 = .pointer (some ⟨p,0,none⟩):=hR 1 _ rfl
 have e53:vs 53 = .pointer (some ⟨p,0,none⟩):=hR 2 _ rfl
 have e54:vs 54 = .pointer (some ⟨d,0,none⟩):=hR 3 _ rfl
 have e55:vs 55 = .agg #[.int .u64 (m.cm:Int),.int .u32 (m.pg:Int),.int .u64 (m.rc:Int),.int .u16 (m.rg:Int),.int .u8 (m.lv:Int),.int .u16 (m.gn:Int),.int .u32 (m.tn:Int)]:=hR 4 _ rfl
 have e56:vs 56 = .agg #[.int .u32 0,.int .u8 4,.int .u8 0,.int .u32 (sl:Int),.int .u64 (m.cm:Int),.int .u16 (m.gn:Int)]:=hR 5 _ rfl
 have e57:vs 57 = .agg #[.int .u32 (sl:Int),.int .u64 (m.cm:Int),.int .u16 (m.gn:Int)]:=hR 6 _ rfl
 have e58:vs 58 = .int .u32 (sl:Int):=hR 7 _ rfl
 have e59:vs 59 = .int .i64 (sl:Int):=hR 8 _ rfl
 have e60:vs 60 = .slice bA 256 bc:=hR 9 _ rfl
 simp only[List.map_cons,List.map_nil,List.foldl_cons,List.foldl_nil,List.length_cons,List.length_nil,List.drop_succ_cons,List.drop_zero,Act.put,List.setIfInBounds_toArray,List.set_cons_zero,List.set_cons_succ,e51,e52,e53,e54,e55,e56,e57,e58,e59,e60]
 clear hR hF hb e51 e52 e53 e54 e55 e56 e57 e58 e59 e60
 have p4:=P3.out.wr (Wr.of B4.out (fun _=>False) (fun _ _=>rfl)) (fun _=>id) id
 have d4:=D3.out.wr (Wr.of B4.out (fun _=>False) (fun _ _=>rfl)) id
 have l4:=LO3.out.wr (Wr.of B4.out (fun _=>False) (fun _ _=>rfl)) id
 have P4:=Lib.hid p4
 have L4:=Lib.hid l4
 have S4:=Lib.hid (S3.out.tr (Wr.of (O':=O3) B4.out _ (fun _ _=>rfl)))
 have WR:=Lib.hid (writeM d4 BD.out.1 (by have:=BD.out.2.1;omega) (by have:=BD.out.2.2;omega) (i:=sl) (by have:=BD.out.1.n8;have:=SB.out;omega) (IB.out.ab B4.out) BX.out)
 clear p4 d4 l4
 go_wp2_with fail
 refine WR.out.mono ?_
 rintro e w5 ⟨O5,rfl,dv5,s5⟩
 obtain⟨ew,hew⟩:∃ew,(writeD D (sl) blk).1=ew:=⟨_,rfl⟩
 obtain⟨D5,hD5⟩:∃D5,(writeD D (sl) blk).2=D5:=⟨_,rfl⟩
 have we:=writeD_err D (sl) blk
 have wok:=writeD_ok BD.out.1 (i:=sl) (by have:=BD.out.1.n8;have:=SB.out;omega) LN.out BY.out
 have wst:=writeD_st D (sl) blk
 have hwq:writeD D (sl) blk=(ew,D5):=by rw[←hew,←hD5]
 rw[hew] at we⊢
 rw[hD5] at dv5 wok wst
 have P5:=Lib.hid (P4.out.wr s5 (fun i e=>by have:=HPP.out;injection e with e;omega) (fun e=>by cases e))
 have L5:=Lib.hid (L4.out.wr s5 (fun e=>by cases e))
 have V5:=Lib.hid dv5
 have S5:=Lib.hid ((S4.out.imp (Q:=fun τ=>τ=(0,1)∨τ=(0,2)∨τ=(p,1)) fun τ h=>.inr (.inl h)).tr (s5.imp fun τ h=>.inl h))
 have OK5:=Lib.hid (And.intro wok wst)
 have WE:=Lib.hid we
 have WQ:=Lib.hid hwq
 clear dv5 s5 hew hD5 we wok wst hwq WR S4 P4 L4
 by_cases h0:ew=0
 case neg=>
  have HZ:=Lib.hid h0
  have z1:((ew:Int) != 0)=true:=by simp;omega
  have z2:¬(ew:Int)=0:=by omega
  clear h0
  go_wp2_with fail
  refine (failM P5.out HF.out ew WE.out).mono ?_
  rintro e w' ⟨rfl,hp,hw⟩
  have PG:=Lib.hid hp
  have PW:=Lib.hid hw
  clear hp hw
  go_wp2_with fail
  go_ret
  have hpos:=HPP.out
  obtain⟨em,hem⟩:∃em,ew=em+1:=⟨ew-1,by have:=HZ.out;omega⟩
  rw[←HQ.out,HS.out,if_neg (by simp)]
  dsimp only
  rw[WQ.out]
  have hpg:=PG.out
  rw[decide_eq_false HZ.out] at hpg
  subst hem
  exact⟨O5,rfl,hpg,V5.out.wr PW.out (fun e=>by injection e with e;omega),L5.out.wr PW.out (fun e=>by injection e with e;omega),S5.out.tr (PW.out.imp fun τ h=>.inr (.inr h))⟩
 subst h0
 have c0:w5.cell? ⟨p,0,none⟩=some (.pointer (some ⟨d,0,none⟩)):=by
  obtain⟨b5,hN5,e1,e2,e3⟩:=P5.out
  rw[←e1]
  exact CbB.cell hN5.box (k:=0) rfl
 have SY:=Lib.hid (syncM V5.out OK5.out.1 (by have:=OK5.out.2.1;have:=BD.out.2.1;omega))
 have SE:=Lib.hid (syncD_err D5)
 go_wp2_with fail
 refine SY.out.mono ?_
 rintro e w6 ⟨O6,rfl,dv6,s6⟩
 have P6:=Lib.hid (P5.out.wr s6 (fun i e=>by have:=HPP.out;injection e with e;omega) (fun e=>by cases e))
 have L6:=Lib.hid (L5.out.wr s6 (fun e=>by cases e))
 have V6:=Lib.hid dv6
 have S6:=Lib.hid (S5.out.tr (s6.imp fun τ h=>.inl h))
 clear dv6 s6 SY c0
 go_wp2_with fail
 refine (failM P6.out HF.out (syncD D5).1 SE.out).mono ?_
 rintro e w' ⟨rfl,hp,hw⟩
 have PG:=Lib.hid hp
 have PW:=Lib.hid hw
 clear hp hw
 go_wp2_with fail
 go_ret
 have hpos:=HPP.out
 rw[←HQ.out,HS.out,if_neg (by simp)]
 dsimp only
 rw[WQ.out]
 exact⟨O6,rfl,PG.out,V6.out.wr PW.out (fun e=>by injection e with e;omega),L6.out.wr PW.out (fun e=>by injection e with e;omega),S6.out.tr (PW.out.imp fun τ h=>.inr (.inr h))⟩
theorem meta_any (h:PgM w O p d rg lg T) (hD:DvM w O d D) (hL:LgM w O lg all) (hR:RgM w O rg R) (okD:D.Ok) (hst:D.st≤900000000) (hws:D.ws.length≤90000) (h1000:all.length≤100000) (hm:m.Ok):
 Calls Tryz.prog 75 #[.pointer (some ⟨p,0,none⟩),.agg #[.int .u64 (m.cm:Int),.int .u32 (m.pg:Int),.int .u64 (m.rc:Int),.int .u16 (m.rg:Int),.int .u8 (m.lv:Int),.int .u16 (m.gn:Int),.int .u32 (m.tn:Int)]] w (MetR w O p d rg lg (metaP R T D all m)):=by
 unfold metaP
 by_cases h1:T.fa=true
 · rw[if_pos h1];exact meta_fails h hD hL h1
 rw[if_neg h1]
 have h1':T.fa=false:=by simpa using h1
 by_cases h2:T.cm=0∨T.fl=false∨m.cm≠T.cm
 · rw[if_pos h2];exact meta_bad h hD hL h1' h2
 · rw[if_neg h2]
   refine meta_go h hD hL hR okD hst hws h1000 hm h1' ⟨fun e=>h2 (.inl e),?_,?_⟩
   · cases hfl:T.fl with
     | true=>rfl
     | false=>exact absurd (.inr (.inl hfl)) h2
   · exact Classical.byContradiction fun e=>h2 (.inr (.inr e))
end
theorem wrap_u64S {k:Nat} (h:k+1<18446744073709551616):IntKind.u64.wrap ((k:Int)+1)=((k+1:Nat):Int):=by
 simp only[IntKind.wrap]
 have:IntKind.u64.bits=64:=rfl
 simp[IntKind.signed,IntKind.bits]
 omega
structure RsS where
 lim:Nat
 res:Nat
 com:Nat
def RsS.Ok (S:RsS):Prop:=S.lim<18446744073709551616∧S.res≤S.lim∧S.com≤S.res
def RsM (w:World) (O:Tgm) (r d:Nat) (S:RsS):Prop:=CbB w r 132 #[.pointer (some ⟨d,0,none⟩),.int .u64 (S.lim:Int),.int .u64 (S.res:Int),.int .u64 (S.com:Int),.slice none 0 0]∧O r=(0,4)∧S.Ok
section
variable {P:Nat×Nat→Prop} {w w':World} {O O':Tgm} {r d:Nat} {S:RsS} {D:DvS}
theorem RsM.wr (h:RsM w O r d S) (s:Wr P w O w' O') (hn:¬P (0,4)):RsM w' O' r d S:=⟨h.1.fr s.fr (fun e=>hn (by rw[←h.2.1];exact e)),(s.tg _ h.1.lt).trans h.2.1,h.2.2⟩
set_option maxRecDepth 100000 in
theorem stepM (h:DvM w O d D) (ok:D.Ok) (hst:D.st≤1000000000):Calls Tryz.prog 120 #[.pointer (some ⟨d,0,none⟩)] w fun e w'=>e = .returned (.int .i64 ((stepD D).1:Int))∧DvM w' O d (stepD D).2∧Wr (fun τ=>τ=(0,1)) w O w' O:=by
 obtain⟨g1,g2,wv,h1,t1,t2,t3,t4⟩:=h
 have H:=Lib.hid (step_any h1 ok hst)
 clear h1 ok hst
 go_enter Tryz.func120,Tryz.ntmps120
 go_wp2_with fail
 refine H.out.mono ?_
 rintro e w1 ⟨rfl,h2,h3⟩
 have H2:=Lib.hid h2
 have H3:=Lib.hid h3
 clear h2 h3 H
 go_wp2_with fail
 go_ret
 exact⟨rfl,⟨g1,g2,wv,H2.out,t1,t2,t3,t4⟩,⟨H3.out.imp fun q hq=>by rw[hq];exact t1,fun _ _=>rfl⟩⟩
theorem regsNewM (lim:Nat) (hl:lim<18446744073709551616):Calls Tryz.prog 40 #[.pointer (some ⟨d,0,none⟩),.int .u64 (lim:Int),.slice none 0 0] w fun e w'=>∃r O',e = .returned (.tuple #[.pointer (some ⟨r,0,none⟩),.int .i64 0])∧RsM w' O' r d ⟨lim,0,0⟩∧Wr (fun _=>False) w O w' O'∧w.heap.size≤r:=by
 refine (regsNew_nil d lim w).mono ?_
 rintro e w' ⟨rfl,h1,h2⟩
 exact⟨w.heap.size,markO O w.heap.size (some w.heap.size) (0,4),rfl,⟨h1,markO_new (Nat.le_refl _),hl,Nat.zero_le _,Nat.zero_le _⟩,Wr.of h2 _ (fun k hk=>markO_old hk),Nat.le_refl _⟩
set_option maxRecDepth 100000 in
theorem reservedM (h:RsM w O r d S):Calls Tryz.prog 12 #[.pointer (some ⟨r,0,none⟩)] w fun e w'=>e = .returned (.int .u64 (S.res:Int))∧w=w':=by
 have hc:=h.1.cell (k:=2) rfl
 clear h
 go_enter Tryz.func12,Tryz.ntmps12
 go_wp2_with fail
 go_ret
 exact⟨rfl,rfl⟩
theorem committedM (h:RsM w O r d S):Calls Tryz.prog 13 #[.pointer (some ⟨r,0,none⟩)] w fun e w'=>e = .returned (.int .u64 (S.com:Int))∧w=w':=committed_any r _ _ S.lim S.res S.com w h.1
def reserveP (S:RsS) (D:DvS):Nat×Nat×RsS×DvS:=
 if S.lim≤S.res then (0,90,S,D) else
 match stepD D with
 | (0,D1)=>(S.res+1,0,{ S with res:=S.res+1 },D1)
 | (e+1,D1)=>(0,e+1,S,D1)
def RvR (w:World) (O:Tgm) (r d:Nat) (q:Nat×Nat×RsS×DvS) (e:Ending) (w':World):Prop:=e = .returned (.tuple #[.int .u64 (q.1:Int),.int .i64 (q.2.1:Int)])∧RsM w' O r d q.2.2.1∧DvM w' O d q.2.2.2∧Wr (fun τ=>τ=(0,1)∨τ=(0,4)) w O w' O
set_option maxRecDepth 100000 in
theorem reserveM (h:RsM w O r d S) (hD:DvM w O d D) (ok:D.Ok) (hst:D.st≤1000000000):Calls Tryz.prog 63 #[.pointer (some ⟨r,0,none⟩)] w (RvR w O r d (reserveP S D)):=by
 have H:=Lib.hid h
 have HD:=Lib.hid hD
 have c1:w.cell? ⟨r,1,none⟩=some (.int .u64 (S.lim:Int)):=h.1.cell (k:=1) rfl
 have c2:w.cell? ⟨r,2,none⟩=some (.int .u64 (S.res:Int)):=h.1.cell (k:=2) rfl
 obtain⟨q9,hq9⟩:∃q9,reserveP S D=q9:=⟨_,rfl⟩
 rw[hq9]
 have HQ:=Lib.hid hq9
 by_cases hl:S.lim≤S.res
 · have e1:decide ((S.lim:Int)≤(S.res:Int))=true:=decide_eq_true (by omega)
   have e2:decide (S.lim≤S.res)=true:=decide_eq_true hl
   have HL:=Lib.hid hl
   clear h hD ok hst hq9 hl
   go_enter Tryz.func63,Tryz.ntmps63
   go_wp2_with fail
   go_quiet (fail)
   go_wp2_with fail
   go_ret2
   rw[←HQ.out]
   unfold reserveP
   rw[if_pos HL.out]
   have b:=bel_drewN9 (Below.refl w.heap.size w) nq
   exact⟨rfl,H.out.wr (Wr.of b (fun _=>False) (fun _ _=>rfl)) id,HD.out.wr (Wr.of b (fun _=>False) (fun _ _=>rfl)) id,Wr.of b _ (fun _ _=>rfl)⟩
 · have e1:decide ((S.lim:Int)≤(S.res:Int))=false:=decide_eq_false (by omega)
   have e2:decide (S.lim≤S.res)=false:=decide_eq_false hl
   have HL:=Lib.hid hl
   have SD:Hid (∀W,Wr (fun _=>False) w O W O→Calls Tryz.prog 120 #[.pointer (some ⟨d,0,none⟩)] W fun e w'=>e = .returned (.int .i64 ((stepD D).1:Int))∧DvM w' O d (stepD D).2∧Wr (fun τ=>τ=(0,1)) W O w' O):=Lib.hid fun W hW=>stepM (hD.wr hW id) ok hst
   have c0:Hid (∀k,(w.drewN k).cell? ⟨r,0,none⟩=some (.pointer (some ⟨d,0,none⟩))):=Lib.hid fun k=>h.1.cell (k:=0) rfl
   have SE:=Lib.hid (stepD_err D)
   clear h hD ok hst hq9 hl
   go_enter Tryz.func63,Tryz.ntmps63
   go_wp2_with fail
   go_quiet (fail)
   have c00:=c0.out nq
   go_wp2_with fail
   have s1:Wr (fun _=>False) w O (w.drewN nq) O:=Wr.of (bel_drewN9 (Below.refl w.heap.size w) nq) _ (fun _ _=>rfl)
   refine (SD.out _ s1).mono ?_
   rintro e w2 ⟨rfl,hd2,s2⟩
   have R2:=Lib.hid ((H.out.wr s1 id).wr s2 (fun e=>by cases e))
   have D2:=Lib.hid hd2
   have S2:=Lib.hid ((s1.imp (Q:=fun τ=>τ=(0,1)) fun _=>False.elim).tr s2)
   clear s1 hd2 s2 c0 c00 c1 c2 SD
   have hq:=HQ.out
   unfold reserveP at hq
   rw[if_neg HL.out] at hq
   obtain⟨sd,hsd⟩:∃sd,stepD D=sd:=⟨_,rfl⟩
   have se:=SE.out
   rw[hsd] at hq D2 se⊢
   obtain⟨es,Ds⟩:=sd
   dsimp only at hq D2 se⊢
   clear hsd
   cases es with
   | zero=>
     dsimp only at hq
     have HQ2:=Lib.hid hq
     clear hq se
     have c2:w2.cell? ⟨r,2,none⟩=some (.int .u64 (S.res:Int)):=R2.out.1.cell (k:=2) rfl
     have f2:=R2.out.1.free 2
     have hw:IntKind.u64.wrap ((S.res:Int)+1)=((S.res+1:Nat):Int):=by
      have:=R2.out.2.2.1
      have:=HL.out
      exact wrap_u64S (by omega)
     have X2:=R2.out.1.set 2 (.int .u64 ((S.res+1:Nat):Int))
     have c3:(w2.setCell ⟨r,2,none⟩ (.int .u64 ((S.res+1:Nat):Int))).cell? ⟨r,2,none⟩=some (.int .u64 ((S.res+1:Nat):Int)):=X2.cell (k:=2) rfl
     have XX:=Lib.hid X2
     clear X2
     obtain⟨rn,hrn⟩:∃rn:Nat,S.res+1=rn:=⟨_,rfl⟩
     rw[hrn] at hw c3 XX HQ2
     have HRN:=Lib.hid hrn
     clear hrn
     go_wp2_with fail
     go_ret2
     rw[←HQ2.out]
     have s3:Wr (fun τ=>τ=(0,4)) w2 O (w2.setCell ⟨r,2,none⟩ (.int .u64 (rn:Int))) O:=⟨(fr_setD w2 r 2 _).imp fun q hq=>by rw[hq];exact R2.out.2.1,fun _ _=>rfl⟩
     refine⟨rfl,⟨XX.out,R2.out.2.1,R2.out.2.2.1,?_,?_⟩,D2.out.wr s3 (fun e=>by cases e),(S2.out.imp fun τ h=>.inl h).tr (s3.imp fun τ h=>.inr h)⟩
     · show rn≤S.lim
       have:=HRN.out
       have:=HL.out
       omega
     · show S.com≤rn
       have:=HRN.out
       have:=R2.out.2.2.2.2
       omega
   | succ es=>
     dsimp only at hq
     have HQ2:=Lib.hid hq
     obtain⟨ee,hee⟩:∃ee,es+1=ee:=⟨_,rfl⟩
     rw[hee] at HQ2⊢
     have z1:((ee:Int) != 0)=true:=by simp;omega
     have z2:¬(ee:Int)=0:=by omega
     clear hq se hee
     go_wp2_with fail
     go_ret2
     rw[←HQ2.out]
     exact⟨rfl,R2.out,D2.out,S2.out.imp fun τ h=>.inl h⟩
def advanceP (S:RsS) (D:DvS) (n:Nat):Nat×RsS×DvS:=
 if n≤S.com∨S.res<n then (2,S,D) else
 match stepD D with
 | (0,D1)=>(0,{ S with com:=n },D1)
 | (e+1,D1)=>(e+1,S,D1)
def AvR (w:World) (O:Tgm) (r d:Nat) (q:Nat×RsS×DvS) (e:Ending) (w':World):Prop:=e = .returned (.int .i64 (q.1:Int))∧RsM w' O r d q.2.1∧DvM w' O d q.2.2∧Wr (fun τ=>τ=(0,1)∨τ=(0,4)) w O w' O
set_option maxRecDepth 100000 in
theorem advanceM (n:Nat) (h:RsM w O r d S) (hD:DvM w O d D) (ok:D.Ok) (hst:D.st≤1000000000):Calls Tryz.prog 77 #[.pointer (some ⟨r,0,none⟩),.int .u64 (n:Int)] w (AvR w O r d (advanceP S D n)):=by
 have H:=Lib.hid h
 have HD:=Lib.hid hD
 have c3:w.cell? ⟨r,3,none⟩=some (.int .u64 (S.com:Int)):=h.1.cell (k:=3) rfl
 have c2:w.cell? ⟨r,2,none⟩=some (.int .u64 (S.res:Int)):=h.1.cell (k:=2) rfl
 have c0:w.cell? ⟨r,0,none⟩=some (.pointer (some ⟨d,0,none⟩)):=h.1.cell (k:=0) rfl
 obtain⟨q9,hq9⟩:∃q9,advanceP S D n=q9:=⟨_,rfl⟩
 rw[hq9]
 have HQ:=Lib.hid hq9
 have bad:∀w1,w=w1→n≤S.com∨S.res<n→AvR w O r d q9 (.returned (.int .i64 2)) w1:=fun w1 e hb=>by
  subst e
  rw[←hq9]
  unfold advanceP
  rw[if_pos hb]
  exact⟨rfl,h,hD,Wr.refl _ _ _⟩
 have BAD:=Lib.hid bad
 clear bad
 by_cases h1:n≤S.com
 · have e1:decide ((n:Int)≤(S.com:Int))=true:=decide_eq_true (by omega)
   have e1n:decide (n≤S.com)=true:=decide_eq_true h1
   have H1:=Lib.hid h1
   clear h hD ok hst hq9 h1
   go_enter Tryz.func77,Tryz.ntmps77
   go_wp2_with fail
   go_ret
   exact BAD.out _ rfl (.inl H1.out)
 · have e1:decide ((n:Int)≤(S.com:Int))=false:=decide_eq_false (by omega)
   have e1n:decide (n≤S.com)=false:=decide_eq_false h1
   by_cases h2:S.res<n
   · have e2:decide ((S.res:Int)<(n:Int))=true:=decide_eq_true (by omega)
     have e2n:decide (S.res<n)=true:=decide_eq_true h2
     have H2:=Lib.hid h2
     clear h hD ok hst hq9 h1 h2
     go_enter Tryz.func77,Tryz.ntmps77
     go_wp2_with fail
     go_ret
     exact BAD.out _ rfl (.inr H2.out)
   · have e2:decide ((S.res:Int)<(n:Int))=false:=decide_eq_false (by omega)
     have e2n:decide (S.res<n)=false:=decide_eq_false h2
     have HN:Hid (¬(n≤S.com∨S.res<n)):=Lib.hid (by omega)
     have SD:=Lib.hid (stepM hD ok hst)
     have SE:=Lib.hid (stepD_err D)
     clear h hD ok hst hq9 h1 h2 BAD
     go_enter Tryz.func77,Tryz.ntmps77
     go_wp2_with fail
     refine SD.out.mono ?_
     rintro e w2 ⟨rfl,hd2,s2⟩
     have R2:=Lib.hid (H.out.wr s2 (fun e=>by cases e))
     have D2:=Lib.hid hd2
     have S2:=Lib.hid s2
     clear hd2 s2 c0 c3 c2 SD
     have hq:=HQ.out
     unfold advanceP at hq
     rw[if_neg HN.out] at hq
     obtain⟨sd,hsd⟩:∃sd,stepD D=sd:=⟨_,rfl⟩
     have se:=SE.out
     rw[hsd] at hq D2 se⊢
     obtain⟨es,Ds⟩:=sd
     dsimp only at hq D2 se⊢
     clear hsd
     cases es with
     | zero=>
       dsimp only at hq
       have HQ2:=Lib.hid hq
       clear hq se
       have c3:w2.cell? ⟨r,3,none⟩=some (.int .u64 (S.com:Int)):=R2.out.1.cell (k:=3) rfl
       have f3:=R2.out.1.free 3
       have XX:=Lib.hid (R2.out.1.set 3 (.int .u64 (n:Int)))
       go_wp2_with fail
       go_ret
       rw[←HQ2.out]
       have s3:Wr (fun τ=>τ=(0,4)) w2 O (w2.setCell ⟨r,3,none⟩ (.int .u64 (n:Int))) O:=⟨(fr_setD w2 r 3 _).imp fun q hq=>by rw[hq];exact R2.out.2.1,fun _ _=>rfl⟩
       refine⟨rfl,⟨XX.out,R2.out.2.1,R2.out.2.2.1,R2.out.2.2.2.1,?_⟩,D2.out.wr s3 (fun e=>by cases e),(S2.out.imp fun τ h=>.inl h).tr (s3.imp fun τ h=>.inr h)⟩
       show n≤S.res
       have:=HN.out
       omega
     | succ es=>
       dsimp only at hq
       have HQ2:=Lib.hid hq
       obtain⟨ee,hee⟩:∃ee,es+1=ee:=⟨_,rfl⟩
       rw[hee] at HQ2⊢
       have z1:((ee:Int) != 0)=true:=by simp;omega
       have z2:¬(ee:Int)=0:=by omega
       clear hq se hee
       go_wp2_with fail
       go_ret
       rw[←HQ2.out]
       exact⟨rfl,R2.out,D2.out,S2.out.imp fun τ h=>.inl h⟩
end
section
variable {w:World} {O:Tgm} {p d rg lg r:Nat} {T:PgP} {D:DvS} {S:RsS}
set_option maxRecDepth 100000 in
theorem cmay_any (h:PgM w O p d rg lg T):Calls Tryz.prog 61 #[.pointer (some ⟨p,0,none⟩),.pointer (some ⟨r,0,none⟩)] w fun e w'=>e = .returned (.int .i64 ((bif T.fa then 190 else 0:Nat):Int))∧w=w':=by
 obtain⟨b,hN,_⟩:=h
 have HF:Hid (Calls Tryz.prog 14 #[.pointer (some ⟨p,0,none⟩)] w fun e w'=>e = .returned (.bool T.fa)∧w=w'):=Lib.hid (failed_any hN.box)
 clear hN
 cases hf:T.fa
 all_goals
  rw[hf] at HF
  clear hf
  go_enter Tryz.func61,Tryz.ntmps61
  go_wp2_with fail
  refine HF.out.mono ?_
  rintro e w1 ⟨rfl,rfl⟩
  go_wp2_with fail
  go_ret
  exact⟨rfl,rfl⟩
set_option maxRecDepth 100000 in
theorem start_one {n:Nat} {S1:RsS} {D1:DvS} (h:PgM w O p d rg lg T) (hR:RsM w O r d S) (hD:DvM w O d D) (ok:D.Ok) (hst:D.st≤1000000000) (hf:T.fa=false) (h0:T.cm=0) (hl:T.la≤S.res) (hq:reserveP S D=(n,0,S1,D1)) (hn:T.la<n) (hn6:n<18446744073709551616) (hm:n%2≠S1.com%2):
 Calls Tryz.prog 21 #[.pointer (some ⟨p,0,none⟩),.pointer (some ⟨r,0,none⟩)] w fun e w'=>∃O',e = .returned (.tuple #[.int .u64 (n:Int),.int .i64 0])∧PgM w' O' p d rg lg (beginT T n)∧RsM w' O' r d S1∧DvM w' O' d D1∧Wr (fun τ=>τ=(0,1)∨τ=(0,4)∨τ=(p,1)) w O w' O':=by
 have CM:Hid (Calls Tryz.prog 61 #[.pointer (some ⟨p,0,none⟩),.pointer (some ⟨r,0,none⟩)] w fun e w'=>e = .returned (.int .i64 0)∧w=w'):=Lib.hid (by
  have:=cmay_any (r:=r) h
  rw[hf] at this
  exact this)
 have hpos:0<p:=by obtain⟨b,hN,_⟩:=h;exact hN.pos
 have CC:Hid (Calls Tryz.prog 62 #[.pointer (some ⟨p,0,none⟩)] w fun e w'=>e = .returned (.tuple #[.int .u64 0,.bool false])∧Below w.heap.size w w'):=Lib.hid (by
  obtain⟨b,hN,_⟩:=h
  have h1:=commit_any hN.box
  rw[show (pcS b T).cm=0 from h0] at h1
  exact h1)
 have H:=Lib.hid h
 have HR:=Lib.hid hR
 have HD:=Lib.hid hD
 have OK:=Lib.hid (And.intro ok hst)
 have HF:=Lib.hid hf
 have HZ:=Lib.hid h0
 have HP:=Lib.hid hpos
 have HQ:=Lib.hid hq
 have HN:=Lib.hid (And.intro hn hn6)
 have e1:decide ((S.res:Int)<(T.la:Int))=false:=decide_eq_false (by omega)
 have e1n:decide (S.res<T.la)=false:=decide_eq_false (by omega)
 have e2:(((n:Int)%2)==((S1.com:Int)%2))=false:=by simp;omega
 clear h hR hD ok hst hf h0 hl hq hn hn6 hm hpos
 go_enter Tryz.func21,Tryz.ntmps21
 go_wp2_with fail
 refine CM.out.mono ?_
 rintro e w1 ⟨rfl,rfl⟩
 go_wp2_with fail
 refine CC.out.mono ?_
 rintro e w1 ⟨rfl,hb⟩
 have s1:Wr (fun _=>False) w O w1 (cutO O w.heap.size):=Wr.cut hb _
 have H1:=Lib.hid (H.out.wr s1 (fun _=>id) id)
 have R1:=Lib.hid (HR.out.wr s1 id)
 have V1:=Lib.hid (HD.out.wr s1 id)
 have W1:=Lib.hid s1
 obtain⟨O1,hO1⟩:∃O1,cutO O w.heap.size=O1:=⟨_,rfl⟩
 rw[hO1] at H1 R1 V1 W1
 have LA:Hid (Calls Tryz.prog 23 #[.pointer (some ⟨p,0,none⟩)] w1 fun e w'=>e = .returned (.int .u64 (T.la:Int))∧w1=w'):=Lib.hid (by
  obtain⟨b,hN,_⟩:=H1.out
  exact last_any hN.box)
 clear hb s1 hO1 CM CC H HR HD
 go_wp2_with fail
 refine LA.out.mono ?_
 rintro e w2 ⟨rfl,rfl⟩
 go_wp2_with fail
 refine (reservedM R1.out).mono ?_
 rintro e w2 ⟨rfl,rfl⟩
 clear LA
 go_wp2_with fail
 refine (reserveM R1.out V1.out OK.out.1 OK.out.2).mono ?_
 rw[HQ.out]
 rintro e w2 ⟨rfl,hr2,hd2,s2⟩
 have H2:=Lib.hid (H1.out.wr s2 (fun i e=>by have:=HP.out;rcases e with e | e <;> (injection e with e;omega)) (fun e=>by rcases e with e | e <;> cases e))
 have R2:=Lib.hid hr2
 have V2:=Lib.hid hd2
 have W2:=Lib.hid ((W1.out.imp (Q:=fun τ=>τ=(0,1)∨τ=(0,4)) fun _=>False.elim).tr s2)
 clear hr2 hd2 s2 H1 R1 V1 W1 e1
 dsimp only
 go_wp2_with fail
 refine (committedM R2.out).mono ?_
 rintro e w3 ⟨rfl,rfl⟩
 go_wp2_with fail
 refine (beginM (n:=n) H2.out HN.out.2 HF.out HZ.out HN.out.1).mono ?_
 rintro e w3 ⟨O3,rfl,hp3,s3⟩
 have PQ:=Lib.hid hp3
 have SQ:=Lib.hid s3
 clear hp3 s3
 go_wp2_with fail
 go_ret2
 exact⟨O3,rfl,PQ.out,R2.out.wr SQ.out (fun e=>by have:=HP.out;injection e with e;omega),V2.out.wr SQ.out (fun e=>by have:=HP.out;injection e with e;omega),(W2.out.imp fun τ h=>h.imp id .inl).tr (SQ.out.imp fun τ h=>.inr (.inr h))⟩
end
end Go.Proofs.YtlobgddnlnffbaaGreat
