/-
  Parts of the proof, joined.
-/
import Derived.Test.YtlobgddnlnffbaaGreatBdr
import Derived.Test.YtlobgddnlnffbaaGreatBdk
import Derived.Test.YtlobgddnlnffbaaGreatBdp
import Derived.Deep.QuietTactic
import Derived.BigQuiet
namespace Go.Proofs.YtlobgddnlnffbaaGreat
set_option maxHeartbeats 16000000
open Go.RowKit
set_option linter.unusedVariables false
set_option linter.unusedSimpArgs false
def FnI (w:World) (O:Tgm) (p d rg lg r b0 b1 b2 fb:Nat) (m:Mp) (R:RgL) (T:PgP) (D:DvS) (al:List Sl) (S:RsS) (wx:World):Prop:=∃Ox,PgM wx Ox p d rg lg T∧DvM wx Ox d D∧LgM wx Ox lg al∧RsM wx Ox r d S∧RgM wx Ox rg R∧(CbB wx b0 49 #[.pointer (some ⟨p,0,none⟩)]∧Ox b0=(0,0))∧(CbB wx b1 50 #[.pointer (some ⟨r,0,none⟩)]∧Ox b1=(0,0))∧(CbB wx b2 40 #[.int .u64 (m.cm:Int),.int .u32 (m.pg:Int),.int .u64 (m.rc:Int),.int .u16 (m.rg:Int),.int .u8 (m.lv:Int),.int .u16 (m.gn:Int),.int .u32 (m.tn:Int)]∧Ox b2=(0,0))∧(CbB wx fb 127 #[.func (Fn.func 56) #[.pointer (some ⟨p,0,none⟩)] #[],.func (Fn.func 74) #[] #[.pointer (some ⟨b0,0,none⟩),.pointer (some ⟨b2,0,none⟩)],.func (Fn.func 76) #[] #[.pointer (some ⟨b1,0,none⟩),.pointer (some ⟨b2,0,none⟩)],.func (Fn.func 78) #[.pointer (some ⟨p,0,none⟩)] #[]]∧Ox fb=(0,0))∧Wr (fun τ=>τ=(0,1)∨τ=(0,2)∨τ=(0,4)∨τ=(p,1)) w O wx Ox
theorem FnI.step {w:World} {O Ox Oy:Tgm} {p d rg lg r b0 b1 b2 fb:Nat} {m:Mp} {R:RgL} {T:PgP} {D:DvS} {al:List Sl} {S:RsS} {wx wy:World} (hp:0<p) (hG:RgM wx Ox rg R) (k0:CbB wx b0 49 #[.pointer (some ⟨p,0,none⟩)]∧Ox b0=(0,0)) (k1:CbB wx b1 50 #[.pointer (some ⟨r,0,none⟩)]∧Ox b1=(0,0)) (k2:CbB wx b2 40 #[.int .u64 (m.cm:Int),.int .u32 (m.pg:Int),.int .u64 (m.rc:Int),.int .u16 (m.rg:Int),.int .u8 (m.lv:Int),.int .u16 (m.gn:Int),.int .u32 (m.tn:Int)]∧Ox b2=(0,0)) (k3:CbB wx fb 127 #[.func (Fn.func 56) #[.pointer (some ⟨p,0,none⟩)] #[],.func (Fn.func 74) #[] #[.pointer (some ⟨b0,0,none⟩),.pointer (some ⟨b2,0,none⟩)],.func (Fn.func 76) #[] #[.pointer (some ⟨b1,0,none⟩),.pointer (some ⟨b2,0,none⟩)],.func (Fn.func 78) #[.pointer (some ⟨p,0,none⟩)] #[]]∧Ox fb=(0,0)) (hw:Wr (fun τ=>τ=(0,1)∨τ=(0,2)∨τ=(0,4)∨τ=(p,1)) w O wx Ox)
 (s:Wr (fun τ=>τ=(0,1)∨τ=(0,2)∨τ=(0,4)∨τ=(p,1)) wx Ox wy Oy) (h1:PgM wy Oy p d rg lg T) (h2:DvM wy Oy d D) (h3:LgM wy Oy lg al) (h4:RsM wy Oy r d S):FnI w O p d rg lg r b0 b1 b2 fb m R T D al S wy:=by
 have n0:¬(((0:Nat),(0:Nat))=(0,1)∨((0:Nat),(0:Nat))=(0,2)∨((0:Nat),(0:Nat))=(0,4)∨((0:Nat),(0:Nat))=(p,1)):=fun e=>by
  rcases e with e | e | e | e
  · cases e
  · cases e
  · cases e
  · injection e with _ e;cases e
 have n3:¬(((0:Nat),(3:Nat))=(0,1)∨((0:Nat),(3:Nat))=(0,2)∨((0:Nat),(3:Nat))=(0,4)∨((0:Nat),(3:Nat))=(p,1)):=fun e=>by
  rcases e with e | e | e | e
  · cases e
  · cases e
  · cases e
  · injection e with _ e;cases e
 exact⟨Oy,h1,h2,h3,h4,hG.wr s n3 n0,k0.1.wr k0.2 s n0,k1.1.wr k1.2 s n0,k2.1.wr k2.2 s n0,k3.1.wr k3.2 s n0,hw.tr s⟩
set_option maxRecDepth 100000 in
theorem fin1 {w:World} {O:Tgm} {p d rg lg b0 b2:Nat} {T:PgP} {D:DvS} {al:List Sl} {R:RgL} {m:Mp} (h:PgM w O p d rg lg T) (hD:DvM w O d D) (hL:LgM w O lg al) (hR:RgM w O rg R) (okD:D.Ok) (hst:D.st≤900000000) (hws:D.ws.length≤90000) (h1000:al.length≤100000) (hm:m.Ok) (k0:CbB w b0 49 #[.pointer (some ⟨p,0,none⟩)]) (k2:CbB w b2 40 #[.int .u64 (m.cm:Int),.int .u32 (m.pg:Int),.int .u64 (m.rc:Int),.int .u16 (m.rg:Int),.int .u8 (m.lv:Int),.int .u16 (m.gn:Int),.int .u32 (m.tn:Int)]):
 Calls Tryz.prog 74 #[.pointer (some ⟨b0,0,none⟩),.pointer (some ⟨b2,0,none⟩)] w (MetR w O p d rg lg (metaP R T D al m)):=by
 have H:=Lib.hid (meta_any h hD hL hR okD hst hws h1000 hm)
 have c0:w.cell? ⟨b0,0,none⟩=some (.pointer (some ⟨p,0,none⟩)):=k0.cell (k:=0) rfl
 have m0:w.cell? ⟨b2,0,none⟩=some (.int .u64 (m.cm:Int)):=k2.cell (k:=0) rfl
 have m1:w.cell? ⟨b2,1,none⟩=some (.int .u32 (m.pg:Int)):=k2.cell (k:=1) rfl
 have m2:w.cell? ⟨b2,2,none⟩=some (.int .u64 (m.rc:Int)):=k2.cell (k:=2) rfl
 have m3:w.cell? ⟨b2,3,none⟩=some (.int .u16 (m.rg:Int)):=k2.cell (k:=3) rfl
 have m4:w.cell? ⟨b2,4,none⟩=some (.int .u8 (m.lv:Int)):=k2.cell (k:=4) rfl
 have m5:w.cell? ⟨b2,5,none⟩=some (.int .u16 (m.gn:Int)):=k2.cell (k:=5) rfl
 have m6:w.cell? ⟨b2,6,none⟩=some (.int .u32 (m.tn:Int)):=k2.cell (k:=6) rfl
 clear h hD hL hR okD hst hws h1000 hm k0 k2
 go_enter Tryz.func74,Tryz.ntmps74
 go_wp2_with fail
 refine H.out.mono ?_
 rintro e w1 hq
 obtain⟨O1,rfl,g1,g2,g3,g4⟩:=hq
 have G:=Lib.hid (And.intro g1 (And.intro g2 (And.intro g3 g4)))
 clear g1 g2 g3 g4
 go_wp2_with fail
 go_ret
 exact⟨O1,rfl,G.out⟩
set_option maxRecDepth 100000 in
theorem fin2 {w:World} {O:Tgm} {d r b1 b2:Nat} {D:DvS} {S:RsS} {m:Mp} (h:RsM w O r d S) (hD:DvM w O d D) (okD:D.Ok) (hst:D.st≤1000000000) (k1:CbB w b1 50 #[.pointer (some ⟨r,0,none⟩)]) (k2:CbB w b2 40 #[.int .u64 (m.cm:Int),.int .u32 (m.pg:Int),.int .u64 (m.rc:Int),.int .u16 (m.rg:Int),.int .u8 (m.lv:Int),.int .u16 (m.gn:Int),.int .u32 (m.tn:Int)]):
 Calls Tryz.prog 76 #[.pointer (some ⟨b1,0,none⟩),.pointer (some ⟨b2,0,none⟩)] w (AvR w O r d (advanceP S D m.cm)):=by
 have H:=Lib.hid (advanceM m.cm h hD okD hst)
 have c0:w.cell? ⟨b1,0,none⟩=some (.pointer (some ⟨r,0,none⟩)):=k1.cell (k:=0) rfl
 have m0:w.cell? ⟨b2,0,none⟩=some (.int .u64 (m.cm:Int)):=k2.cell (k:=0) rfl
 clear h hD okD hst k1 k2
 go_enter Tryz.func76,Tryz.ntmps76
 go_wp2_with fail
 refine H.out.mono ?_
 rintro e w1 ⟨rfl,hq⟩
 have G:=Lib.hid hq
 clear hq
 go_wp2_with fail
 go_ret
 exact⟨rfl,G.out⟩
section
variable {w:World} {O:Tgm} {p d rg lg r:Nat} {T:PgP} {D:DvS} {S:RsS} {m:Mp}
set_option maxRecDepth 100000 in
theorem finish_one {all al1 al2:List Sl} {R:RgL} {T1 T2:PgP} {D1 D2 D3:DvS} {S3:RsS} (h:PgM w O p d rg lg T) (hR:RsM w O r d S) (hD:DvM w O d D) (hL:LgM w O lg all) (hG:RgM w O rg R) (hf:T.fa=false) (hc:m.cm≠0) (h0:T.cm=m.cm) (hfl:T.fl=false) (hs:S.res=m.cm) (hr:rightB m=true) (hm:m.Ok)
 (okD:D.Ok) (hst:D.st≤900000000) (hws:D.ws.length≤90000) (hall:all.length≤90000) (hpu:PuOk D.n T) (hnu:T.pu.length≤12) (pq1:flushP R T D all=(0,T1,D1,al1))
 (okD1:D1.Ok) (hst1:D1.st≤900000000) (hws1:D1.ws.length≤90000) (hal1:al1.length≤100000) (pq2:metaP R T1 D1 al1 m=(0,T2,D2,al2)) (okD2:D2.Ok) (hst2:D2.st≤1000000000) (pq3:advanceP S D2 m.cm=(0,S3,D3)) (f2:T2.fa=false) (o2:T2.cm=0∨T2.fl=true) (w2':T2.wa=[]):
 Calls Tryz.prog 29 #[.pointer (some ⟨p,0,none⟩),.pointer (some ⟨r,0,none⟩),.agg #[.int .u64 (m.cm:Int),.int .u32 (m.pg:Int),.int .u64 (m.rc:Int),.int .u16 (m.rg:Int),.int .u8 (m.lv:Int),.int .u16 (m.gn:Int),.int .u32 (m.tn:Int)]] w fun e w'=>∃O',e = .returned (.int .i64 0)∧PgM w' O' p d rg lg { T2 with cm:=0 }∧RsM w' O' r d S3∧DvM w' O' d D3∧LgM w' O' lg al2∧Wr (fun τ=>τ=(0,1)∨τ=(0,2)∨τ=(0,4)∨τ=(p,1)) w O w' O':=by
 have hpos:0<p:=by obtain⟨b,hN,_⟩:=h;exact hN.pos
 have e1:(w.alloc (.cells #[.pointer (some ⟨p,0,none⟩)] 49)).heap.size=w.heap.size+1:=by simp
 have e2:((w.alloc (.cells #[.pointer (some ⟨p,0,none⟩)] 49)).alloc (.cells #[.pointer (some ⟨r,0,none⟩)] 50)).heap.size=w.heap.size+1+1:=by simp
 have k0:=CbB.new w 49 #[.pointer (some ⟨p,0,none⟩)]
 have k1:=CbB.new (w.alloc (.cells #[.pointer (some ⟨p,0,none⟩)] 49)) 50 #[.pointer (some ⟨r,0,none⟩)]
 have k2:=CbB.new ((w.alloc (.cells #[.pointer (some ⟨p,0,none⟩)] 49)).alloc (.cells #[.pointer (some ⟨r,0,none⟩)] 50)) 40 #[.int .u64 (m.cm:Int),.int .u32 (m.pg:Int),.int .u64 (m.rc:Int),.int .u16 (m.rg:Int),.int .u8 (m.lv:Int),.int .u16 (m.gn:Int),.int .u32 (m.tn:Int)]
 rw[e1] at k1
 rw[e2] at k2
 have a1:Below w.heap.size w (w.alloc (.cells #[.pointer (some ⟨p,0,none⟩)] 49)):=(Below.refl _ _).alloc (Nat.le_refl _) _
 have a2:Below (w.alloc (.cells #[.pointer (some ⟨p,0,none⟩)] 49)).heap.size (w.alloc (.cells #[.pointer (some ⟨p,0,none⟩)] 49)) ((w.alloc (.cells #[.pointer (some ⟨p,0,none⟩)] 49)).alloc (.cells #[.pointer (some ⟨r,0,none⟩)] 50)):=(Below.refl _ _).alloc (Nat.le_refl _) _
 have a3:Below ((w.alloc (.cells #[.pointer (some ⟨p,0,none⟩)] 49)).alloc (.cells #[.pointer (some ⟨r,0,none⟩)] 50)).heap.size ((w.alloc (.cells #[.pointer (some ⟨p,0,none⟩)] 49)).alloc (.cells #[.pointer (some ⟨r,0,none⟩)] 50)) (((w.alloc (.cells #[.pointer (some ⟨p,0,none⟩)] 49)).alloc (.cells #[.pointer (some ⟨r,0,none⟩)] 50)).alloc (.cells #[.int .u64 (m.cm:Int),.int .u32 (m.pg:Int),.int .u64 (m.rc:Int),.int .u16 (m.rg:Int),.int .u8 (m.lv:Int),.int .u16 (m.gn:Int),.int .u32 (m.tn:Int)] 40)):=(Below.refl _ _).alloc (Nat.le_refl _) _
 have b0:=below_tr (below_tr a1 a2 a1.size) a3 (below_tr a1 a2 a1.size).size
 have k0:=(k0.ab a2).ab a3
 have k1:=k1.ab a3
 obtain⟨w0,hw0⟩:∃w0,(((w.alloc (.cells #[.pointer (some ⟨p,0,none⟩)] 49)).alloc (.cells #[.pointer (some ⟨r,0,none⟩)] 50)).alloc (.cells #[.int .u64 (m.cm:Int),.int .u32 (m.pg:Int),.int .u64 (m.rc:Int),.int .u16 (m.rg:Int),.int .u8 (m.lv:Int),.int .u16 (m.gn:Int),.int .u32 (m.tn:Int)] 40))=w0:=⟨_,rfl⟩
 rw[hw0] at b0 k0 k1 k2
 have s0:Wr (fun _=>False) w O w0 (cutO O w.heap.size):=Wr.cut b0 _
 have t0:∀k,w.heap.size≤k→cutO O w.heap.size k=(0,0):=fun k hk=>cutO_at hk
 obtain⟨O0,hO0⟩:∃O0,cutO O w.heap.size=O0:=⟨_,rfl⟩
 rw[hO0] at s0 t0
 have H0:=Lib.hid (h.wr s0 (fun _=>id) id)
 have R0:=Lib.hid (hR.wr s0 id)
 have V0:=Lib.hid (hD.wr s0 id)
 have L0:=Lib.hid (hL.wr s0 id)
 have G0:=Lib.hid (hG.wr s0 id id)
 have K0:=Lib.hid (And.intro k0 (And.intro k1 k2))
 have T0:=Lib.hid t0
 have S0:=Lib.hid s0
 have HW0:=Lib.hid hw0
 have HP:=Lib.hid hpos
 have CM:Hid (Calls Tryz.prog 61 #[.pointer (some ⟨p,0,none⟩),.pointer (some ⟨r,0,none⟩)] w0 fun e w'=>e = .returned (.int .i64 0)∧w0=w'):=Lib.hid (by
  have:=cmay_any (r:=r) H0.out
  rw[hf] at this
  exact this)
 have CC:Hid (Calls Tryz.prog 62 #[.pointer (some ⟨p,0,none⟩)] w0 fun e w'=>e = .returned (.tuple #[.int .u64 (m.cm:Int),.bool false])∧Below w0.heap.size w0 w'):=Lib.hid (by
  obtain⟨b,hN,_⟩:=H0.out
  have h1:=commit_any hN.box
  rw[show (pcS b T).cm=m.cm from h0,show (pcS b T).fl=false from hfl,Bool.and_false] at h1
  exact h1)
 have z1:((m.cm:Int)==0)=false:=by simp;omega
 have z2:¬(m.cm:Int)=0:=by omega
 have HS:=Lib.hid hs
 have RE:Hid (rightE m=0):=Lib.hid (by unfold rightE;rw[hr];rfl)
 have HM:=Lib.hid hm
 have q0:w0.cell? ⟨w.heap.size,0,none⟩=some (.pointer (some ⟨p,0,none⟩)):=k0.cell (k:=0) rfl
 have q1:w0.cell? ⟨w.heap.size+1,0,none⟩=some (.pointer (some ⟨r,0,none⟩)):=k1.cell (k:=0) rfl
 have A1:=Lib.hid (And.intro okD (And.intro hst (And.intro hws (And.intro hall (And.intro hpu hnu)))))
 have A2:=Lib.hid (And.intro okD1 (And.intro hst1 (And.intro hws1 hal1)))
 have A3:=Lib.hid (And.intro okD2 hst2)
 have A4:=Lib.hid (And.intro f2 (And.intro o2 w2'))
 have Q1:=Lib.hid pq1
 have Q2:=Lib.hid pq2
 have Q3:=Lib.hid pq3
 have AF:=Lib.hid (And.intro hf (And.intro (show T.cm≠0 by omega) hfl))
 clear e1 e2 k0 k1 k2 a1 a2 a3 b0 s0 t0 hO0 h hR hD hL hG hf hc h0 hfl hs hr hm hw0 hpos okD hst hws hall hpu hnu pq1 okD1 hst1 hws1 hal1 pq2 okD2 hst2 pq3 f2 o2 w2'
 go_enter Tryz.func29,Tryz.ntmps29
 go_upto_region 1 with (fail)
 rw[HW0.out]
 clear HW0
 go_wp2_with fail
 refine CM.out.mono ?_
 rintro e w1 ⟨rfl,rfl⟩
 go_wp2_with fail
 refine CC.out.mono ?_
 rintro e w1 ⟨rfl,hb⟩
 have s1:Wr (fun _=>False) w0 O0 w1 (cutO O0 w0.heap.size):=Wr.cut hb _
 have t1:∀k,w.heap.size≤k→cutO O0 w0.heap.size k=(0,0):=fun k hk=>by
  rcases Nat.lt_or_ge k w0.heap.size with h | h
  · rw[cutO_old h];exact T0.out k hk
  · exact cutO_at h
 obtain⟨O1,hO1⟩:∃O1,cutO O0 w0.heap.size=O1:=⟨_,rfl⟩
 rw[hO1] at s1 t1
 have H1:=Lib.hid (H0.out.wr s1 (fun _=>id) id)
 have R1:=Lib.hid (R0.out.wr s1 id)
 have V1:=Lib.hid (V0.out.wr s1 id)
 have L1:=Lib.hid (L0.out.wr s1 id)
 have G1:=Lib.hid (G0.out.wr s1 id id)
 have K1:=Lib.hid (And.intro (K0.out.1.ab hb) (And.intro (K0.out.2.1.ab hb) (K0.out.2.2.ab hb)))
 have T1':=Lib.hid t1
 have S1:=Lib.hid (S0.out.tr s1)
 have q0:w1.cell? ⟨w.heap.size,0,none⟩=some (.pointer (some ⟨p,0,none⟩)):=K1.out.1.cell (k:=0) rfl
 have q1:w1.cell? ⟨w.heap.size+1,0,none⟩=some (.pointer (some ⟨r,0,none⟩)):=K1.out.2.1.cell (k:=0) rfl
 have m0:w1.cell? ⟨w.heap.size+1+1,0,none⟩=some (.int .u64 (m.cm:Int)):=K1.out.2.2.cell (k:=0) rfl
 clear hb s1 t1 hO1 CM CC H0 R0 V0 L0 G0 K0 T0 S0
 go_wp2_with fail
 refine (reservedM R1.out).mono ?_
 rw[HS.out]
 rintro e w2 ⟨rfl,rfl⟩
 have m1:w1.cell? ⟨w.heap.size+1+1,1,none⟩=some (.int .u32 (m.pg:Int)):=K1.out.2.2.cell (k:=1) rfl
 have m2:w1.cell? ⟨w.heap.size+1+1,2,none⟩=some (.int .u64 (m.rc:Int)):=K1.out.2.2.cell (k:=2) rfl
 have m3:w1.cell? ⟨w.heap.size+1+1,3,none⟩=some (.int .u16 (m.rg:Int)):=K1.out.2.2.cell (k:=3) rfl
 have m4:w1.cell? ⟨w.heap.size+1+1,4,none⟩=some (.int .u8 (m.lv:Int)):=K1.out.2.2.cell (k:=4) rfl
 have m5:w1.cell? ⟨w.heap.size+1+1,5,none⟩=some (.int .u16 (m.gn:Int)):=K1.out.2.2.cell (k:=5) rfl
 have m6:w1.cell? ⟨w.heap.size+1+1,6,none⟩=some (.int .u32 (m.tn:Int)):=K1.out.2.2.cell (k:=6) rfl
 go_wp2_with fail
 refine (right_any m w1).mono ?_
 rw[RE.out]
 rintro e w2 ⟨rfl,hb⟩
 have s2:Wr (fun _=>False) w1 O1 w2 (cutO O1 w1.heap.size):=Wr.cut hb _
 have t2:∀k,w.heap.size≤k→cutO O1 w1.heap.size k=(0,0):=fun k hk=>by
  rcases Nat.lt_or_ge k w1.heap.size with h | h
  · rw[cutO_old h];exact T1'.out k hk
  · exact cutO_at h
 obtain⟨O2,hO2⟩:∃O2,cutO O1 w1.heap.size=O2:=⟨_,rfl⟩
 rw[hO2] at s2 t2
 have H2:=Lib.hid (H1.out.wr s2 (fun _=>id) id)
 have R2:=Lib.hid (R1.out.wr s2 id)
 have V2:=Lib.hid (V1.out.wr s2 id)
 have L2:=Lib.hid (L1.out.wr s2 id)
 have G2:=Lib.hid (G1.out.wr s2 id id)
 have K2:=Lib.hid (And.intro (K1.out.1.ab hb) (And.intro (K1.out.2.1.ab hb) (K1.out.2.2.ab hb)))
 have T2':=Lib.hid t2
 have S2:=Lib.hid (S1.out.tr s2)
 have q0:w2.cell? ⟨w.heap.size,0,none⟩=some (.pointer (some ⟨p,0,none⟩)):=K2.out.1.cell (k:=0) rfl
 clear hb s2 t2 hO2 H1 R1 V1 L1 G1 K1 T1' S1 m0 m1 m2 m3 m4 m5 m6 z1 z2
 go_upto_region 8 with (fail)
 have fb0:=CbB.new w2 127 #[.func (Fn.func 56) #[.pointer (some ⟨p,0,none⟩)] #[],.func (Fn.func 74) #[] #[.pointer (some ⟨w.heap.size,0,none⟩),.pointer (some ⟨w.heap.size+1+1,0,none⟩)],.func (Fn.func 76) #[] #[.pointer (some ⟨w.heap.size+1,0,none⟩),.pointer (some ⟨w.heap.size+1+1,0,none⟩)],.func (Fn.func 78) #[.pointer (some ⟨p,0,none⟩)] #[]]
 have ba:Below w2.heap.size w2 (w2.alloc (.cells #[.func (Fn.func 56) #[.pointer (some ⟨p,0,none⟩)] #[],.func (Fn.func 74) #[] #[.pointer (some ⟨w.heap.size,0,none⟩),.pointer (some ⟨w.heap.size+1+1,0,none⟩)],.func (Fn.func 76) #[] #[.pointer (some ⟨w.heap.size+1,0,none⟩),.pointer (some ⟨w.heap.size+1+1,0,none⟩)],.func (Fn.func 78) #[.pointer (some ⟨p,0,none⟩)] #[]] 127)):=(Below.refl _ _).alloc (Nat.le_refl _) _
 obtain⟨w3,hw3⟩:∃w3,w2.alloc (.cells #[.func (Fn.func 56) #[.pointer (some ⟨p,0,none⟩)] #[],.func (Fn.func 74) #[] #[.pointer (some ⟨w.heap.size,0,none⟩),.pointer (some ⟨w.heap.size+1+1,0,none⟩)],.func (Fn.func 76) #[] #[.pointer (some ⟨w.heap.size+1,0,none⟩),.pointer (some ⟨w.heap.size+1+1,0,none⟩)],.func (Fn.func 78) #[.pointer (some ⟨p,0,none⟩)] #[]] 127)=w3:=⟨_,rfl⟩
 obtain⟨fb,hfb⟩:∃fb,w2.heap.size=fb:=⟨_,rfl⟩
 rw[hw3] at fb0 ba⊢
 have s3:Wr (fun _=>False) w2 O2 w3 O2:=Wr.of ba _ (fun _ _=>rfl)
 have J0:Hid (FnI w O p d rg lg r w.heap.size (w.heap.size+1) (w.heap.size+1+1) fb m R T D all S w3):=Lib.hid ⟨O2,H2.out.wr s3 (fun _=>id) id,V2.out.wr s3 id,L2.out.wr s3 id,R2.out.wr s3 id,G2.out.wr s3 id id,⟨K2.out.1.ab ba,T2'.out _ (Nat.le_refl _)⟩,⟨K2.out.2.1.ab ba,T2'.out _ (by omega)⟩,⟨K2.out.2.2.ab ba,T2'.out _ (by omega)⟩,⟨by rw[←hfb];exact fb0,T2'.out _ (by rw[←hfb];exact S2.out.size)⟩,(S2.out.tr s3).imp fun _=>False.elim⟩
 rw[hfb]
 clear fb0 ba hw3 hfb s3 H2 R2 V2 L2 G2 K2 T2' S2 q0
 go_wp2_with fail
 go_loopw [56] (fun z wx=>(z = .int .i64 0∧FnI w O p d rg lg r w.heap.size (w.heap.size+1) (w.heap.size+1+1) fb m R T D all S wx)∨(z = .int .i64 1∧FnI w O p d rg lg r w.heap.size (w.heap.size+1) (w.heap.size+1+1) fb m R T1 D1 al1 S wx)∨(z = .int .i64 2∧FnI w O p d rg lg r w.heap.size (w.heap.size+1) (w.heap.size+1+1) fb m R T2 D2 al2 S wx)∨(z = .int .i64 3∧FnI w O p d rg lg r w.heap.size (w.heap.size+1) (w.heap.size+1+1) fb m R T2 D3 al2 S3 wx)∨(z = .int .i64 4∧FnI w O p d rg lg r w.heap.size (w.heap.size+1) (w.heap.size+1+1) fb m R { T2 with cm:=0 } D3 al2 S3 wx)) (fun z _=>4-(intOf z).toNat)
 case atStart=>exact .inl ⟨rfl,J0.out⟩
 case round=>
  rcases hrel with ⟨rfl,hst⟩ | ⟨rfl,hst⟩ | ⟨rfl,hst⟩ | ⟨rfl,hst⟩ | ⟨rfl,hst⟩
  · obtain⟨Ox,g1,g2,g3,g4,g5,k0,k1,k2,k3,gw⟩:=hst
    have cf:wr.cell? ⟨fb,0,none⟩=some (.func (Fn.func 56) #[.pointer (some ⟨p,0,none⟩)] #[]):=k3.1.cell (k:=0) rfl
    have CT:=Lib.hid (flush_any g1 g2 g3 g5 A1.out.1 A1.out.2.1 A1.out.2.2.1 A1.out.2.2.2.1 AF.out.1 AF.out.2 A1.out.2.2.2.2.1 A1.out.2.2.2.2.2)
    rw[Q1.out] at CT
    have HG5:=Lib.hid g5
    have KK:=Lib.hid (And.intro k0 (And.intro k1 (And.intro k2 (And.intro k3 gw))))
    have G1:=Lib.hid g1
    have G2:=Lib.hid g2
    have G3:=Lib.hid g3
    have G4:=Lib.hid g4
    clear g1 g2 g3 g4 g5 k0 k1 k2 k3 gw
    go_wp2_with fail
    refine CT.out.mono ?_
    rintro e w8 ⟨O8,rfl,u1,u2,u3,us⟩
    have g1:=G1.out
    have g2:=G2.out
    have g3:=G3.out
    have g4:=G4.out
    have J:FnI w O p d rg lg r w.heap.size (w.heap.size+1) (w.heap.size+1+1) fb m R T1 D1 al1 S w8:=FnI.step HP.out HG5.out KK.out.1 KK.out.2.1 KK.out.2.2.1 KK.out.2.2.2.1 KK.out.2.2.2.2 (us.imp fun τ h=>h.imp id (.imp id .inr)) u1 u2 u3 (g4.wr us (fun e=>by rcases e with e | e | e <;> first | (cases e;done) | (injection e with e _;have:=HP.out;omega)))
    have JJ:=Lib.hid J
    clear J g1 g2 g3 g4 G1 G2 G3 G4 HG5 KK CT cf us u1 u2 u3
    go_wp2_with fail
    go_roundw
    case rel=>exact .inr (.inl ⟨rfl,JJ.out⟩)
    case measure=>simp[intOf]
  · obtain⟨Ox,g1,g2,g3,g4,g5,k0,k1,k2,k3,gw⟩:=hst
    have cf:wr.cell? ⟨fb,1,none⟩=some (.func (Fn.func 74) #[] #[.pointer (some ⟨w.heap.size,0,none⟩),.pointer (some ⟨w.heap.size+1+1,0,none⟩)]):=k3.1.cell (k:=1) rfl
    have CT:=Lib.hid (fin1 g1 g2 g3 g5 A2.out.1 A2.out.2.1 A2.out.2.2.1 A2.out.2.2.2 HM.out k0.1 k2.1)
    rw[Q2.out] at CT
    have HG5:=Lib.hid g5
    have KK:=Lib.hid (And.intro k0 (And.intro k1 (And.intro k2 (And.intro k3 gw))))
    have G1:=Lib.hid g1
    have G2:=Lib.hid g2
    have G3:=Lib.hid g3
    have G4:=Lib.hid g4
    clear g1 g2 g3 g4 g5 k0 k1 k2 k3 gw
    go_wp2_with fail
    refine CT.out.mono ?_
    rintro e w8 ⟨O8,rfl,u1,u2,u3,us⟩
    have g1:=G1.out
    have g2:=G2.out
    have g3:=G3.out
    have g4:=G4.out
    have J:FnI w O p d rg lg r w.heap.size (w.heap.size+1) (w.heap.size+1+1) fb m R T2 D2 al2 S w8:=FnI.step HP.out HG5.out KK.out.1 KK.out.2.1 KK.out.2.2.1 KK.out.2.2.2.1 KK.out.2.2.2.2 (us.imp fun τ h=>h.imp id (.imp id .inr)) u1 u2 u3 (g4.wr us (fun e=>by rcases e with e | e | e <;> first | (cases e;done) | (injection e with e _;have:=HP.out;omega)))
    have JJ:=Lib.hid J
    clear J g1 g2 g3 g4 G1 G2 G3 G4 HG5 KK CT cf us u1 u2 u3
    go_wp2_with fail
    go_roundw
    case rel=>exact .inr (.inr (.inl ⟨rfl,JJ.out⟩))
    case measure=>simp[intOf]
  · obtain⟨Ox,g1,g2,g3,g4,g5,k0,k1,k2,k3,gw⟩:=hst
    have cf:wr.cell? ⟨fb,2,none⟩=some (.func (Fn.func 76) #[] #[.pointer (some ⟨w.heap.size+1,0,none⟩),.pointer (some ⟨w.heap.size+1+1,0,none⟩)]):=k3.1.cell (k:=2) rfl
    have CT:=Lib.hid (fin2 g4 g2 A3.out.1 A3.out.2 k1.1 k2.1)
    rw[Q3.out] at CT
    have HG5:=Lib.hid g5
    have KK:=Lib.hid (And.intro k0 (And.intro k1 (And.intro k2 (And.intro k3 gw))))
    have G1:=Lib.hid g1
    have G2:=Lib.hid g2
    have G3:=Lib.hid g3
    have G4:=Lib.hid g4
    clear g1 g2 g3 g4 g5 k0 k1 k2 k3 gw
    go_wp2_with fail
    refine CT.out.mono ?_
    rintro e w8 ⟨rfl,u4,u2,us⟩
    have g1:=G1.out
    have g2:=G2.out
    have g3:=G3.out
    have g4:=G4.out
    have J:FnI w O p d rg lg r w.heap.size (w.heap.size+1) (w.heap.size+1+1) fb m R T2 D3 al2 S3 w8:=FnI.step HP.out HG5.out KK.out.1 KK.out.2.1 KK.out.2.2.1 KK.out.2.2.2.1 KK.out.2.2.2.2 (us.imp fun τ h=>h.imp id fun h=>.inr (.inl h)) (g1.wr us (fun i e=>by rcases e with e | e <;> (injection e with e _;have:=HP.out;omega)) (fun e=>by rcases e with e | e <;> cases e)) u2 (g3.wr us (fun e=>by rcases e with e | e <;> cases e)) u4
    have JJ:=Lib.hid J
    clear J g1 g2 g3 g4 G1 G2 G3 G4 HG5 KK CT cf us u4 u2
    go_wp2_with fail
    go_roundw
    case rel=>exact .inr (.inr (.inr (.inl ⟨rfl,JJ.out⟩)))
    case measure=>simp[intOf]
  · obtain⟨Ox,g1,g2,g3,g4,g5,k0,k1,k2,k3,gw⟩:=hst
    have cf:wr.cell? ⟨fb,3,none⟩=some (.func (Fn.func 78) #[.pointer (some ⟨p,0,none⟩)] #[]):=k3.1.cell (k:=3) rfl
    have CT:=Lib.hid (scrub_none g1 A4.out.1 A4.out.2.1 A4.out.2.2)
    have HG5:=Lib.hid g5
    have KK:=Lib.hid (And.intro k0 (And.intro k1 (And.intro k2 (And.intro k3 gw))))
    have G1:=Lib.hid g1
    have G2:=Lib.hid g2
    have G3:=Lib.hid g3
    have G4:=Lib.hid g4
    clear g1 g2 g3 g4 g5 k0 k1 k2 k3 gw
    go_wp2_with fail
    refine CT.out.mono ?_
    rintro e w8 ⟨O8,rfl,u1,us⟩
    have g1:=G1.out
    have g2:=G2.out
    have g3:=G3.out
    have g4:=G4.out
    have J:FnI w O p d rg lg r w.heap.size (w.heap.size+1) (w.heap.size+1+1) fb m R { T2 with cm:=0 } D3 al2 S3 w8:=FnI.step HP.out HG5.out KK.out.1 KK.out.2.1 KK.out.2.2.1 KK.out.2.2.2.1 KK.out.2.2.2.2 (us.imp fun τ h=>.inr (.inr (.inr h))) u1 (g2.wr us (fun e=>by injection e with e _;have:=HP.out;omega)) (g3.wr us (fun e=>by injection e with e _;have:=HP.out;omega)) (g4.wr us (fun e=>by injection e with e _;have:=HP.out;omega))
    have JJ:=Lib.hid J
    clear J g1 g2 g3 g4 G1 G2 G3 G4 HG5 KK CT cf us u1
    go_wp2_with fail
    go_roundw
    case rel=>exact .inr (.inr (.inr (.inr ⟨rfl,JJ.out⟩)))
    case measure=>simp[intOf]
  · have JX:=Lib.hid hst
    clear hst
    go_wp2_with fail
    go_ret
    obtain⟨Ox,g1,g2,g3,g4,g5,k0,k1,k2,k3,gw⟩:=JX.out
    exact⟨Ox,rfl,g1,g4,g2,g3,gw⟩
end
open Go.RowKit Go.ChangeShapes Go.WideShapes
theorem own_ltX {w:World} {B n s:Nat} {e:TypeId} {v:Value} {xs:List Value} (h:w.ownsRow B e s v n xs):∀k,v.ownBlock=some k→k<w.heap.size:=fun k hk=>by
 rcases h.2 with ⟨rfl,_⟩ | ⟨g',cap,cur,rfl,_,hh,_⟩
 · cases hk
 · have:g'=k:=by injection hk
   subst this
   exact (Array.getElem?_eq_some_iff.1 hh).1
theorem cb_ne {w:World} {g b:Nat} {T T':TypeId} {cs cs':Array Value} (h:CbB w g T cs) (h':CbB w b T' cs') (hT:T≠T'):g≠b:=fun e=>by
 unfold CbB at h h'
 rw[e,h'] at h
 injection h with h
 injection h with _ h
 exact hT h.symm
section
variable {w w2:World} {B g:Nat} {v1 v2:Value} {b1 b2:List Nat} {st cut:Int} {down:Bool} {L:List Nat}
theorem RdB.lt1 (h:RdB w B g v1 v2 b1 b2 st cut down L) {b:Nat} (hb:b∈b1):b<w.heap.size:=by
 obtain⟨i,hi⟩:=List.getElem?_of_mem hb
 exact (h.at1 i b hi).2.lt
theorem RdB.lt2 (h:RdB w B g v1 v2 b1 b2 st cut down L) {b:Nat} (hb:b∈b2):b<w.heap.size:=by
 obtain⟨i,hi⟩:=List.getElem?_of_mem hb
 obtain⟨_,l,hl,_⟩:=h.at2 i b hi
 exact hl.lt
theorem RdB.push1 (h:RdB w B g v1 v2 b1 b2 st cut down L) (hB:B≤w.heap.size) (hf:Fr w w2 (fun k=>v1.ownBlock=some k)) {b:Nat} (hb:Bk w2 b 5 (blkL L b1.length)) (hlb:w.heap.size≤b) {v':Value}
 (ho:w2.ownsRow B 41 1 v' (b1.length+1) ((b1.map fun b=>.slice (some ⟨b,0,none⟩) 256 256)++[.slice (some ⟨b,0,none⟩) 256 256])) (hv:v'.ownBlock=v1.ownBlock∨∃k,v'.ownBlock=some k∧w.heap.size≤k):
 RdB (w2.setCell ⟨g,0,none⟩ v') B g v' v2 (b1++[b]) b2 st cut down L:=by
 have f2:=fr_cell w2 g 0 v'
 have n1:v1.ownBlock≠some g:=row_ne h.own1 h.box (by decide)
 have hbox:=h.box.fr hf n1
 have ng:∀{q:Nat} {l:List Nat},Bk w q 5 l→q≠g:=fun {q l} hq=>Ne.symm (cb_ne h.box (show CbB w q _ _ from hq) (by decide))
 have nv:∀{q:Nat} {l:List Nat},Bk w q 5 l→v1.ownBlock≠some q:=fun {q l} hq=>row_ne h.own1 (show CbB w q _ _ from hq) (by decide)
 have kp:∀{q:Nat} {l:List Nat},Bk w q 5 l→Bk (w2.setCell ⟨g,0,none⟩ v') q 5 l:=fun {q l} hq=>(hq.fr hf (nv hq)).fr f2 (ng hq)
 refine⟨hbox.set 0 _,?_,?_,?_,?_,?_,?_,h.low⟩
 · rw[List.map_append,List.length_append]
   exact row_fr ho f2 (fun k hk e=>row_ne ho hbox (by decide) (by rw[hk,e]))
 · have o2:=row_fr h.own2 hf (fun k hk e=>h.ne12 k e hk)
   exact row_fr o2 f2 (fun k hk e=>row_ne o2 hbox (by decide) (by rw[hk,e]))
 · intro k hk h2
   rcases hv with e | ⟨q,e,hq⟩
   · exact h.ne12 k (by rw[←e,hk]) h2
   · rw[hk] at e
     injection e with e
     subst e
     have:=own_ltX h.own2 k h2
     omega
 · intro i q hi
   rcases Nat.lt_or_ge i b1.length with hl | hl
   · rw[List.getElem?_append_left hl] at hi
     obtain⟨k1,k2⟩:=h.at1 i q hi
     exact⟨k1,kp k2⟩
   · rw[List.getElem?_append_right hl] at hi
     obtain⟨hj,hq⟩:=List.getElem?_eq_some_iff.1 hi
     simp at hj hq
     subst hq
     obtain rfl:i=b1.length:=by omega
     exact⟨by omega,hb.fr f2 (by have:=h.box.lt;omega)⟩
 · intro i q hi
   obtain⟨k1,l,k2,k3⟩:=h.at2 i q hi
   exact⟨k1,l,kp k2,k3⟩
 · have hn:=h.nd
   rw[List.nodup_append] at hn⊢
   obtain⟨p1,p2,p3⟩:=hn
   refine⟨?_,p2,?_⟩
   · rw[List.nodup_append]
     refine⟨p1,by simp,fun x hx y hy=>?_⟩
     simp at hy
     have:=h.lt1 hx
     omega
   · intro x hx y hy
     rcases List.mem_append.1 hx with hx | hx
     · exact p3 x hx y hy
     · simp at hx
       have:=h.lt2 hy
       omega
theorem RdB.push2 (h:RdB w B g v1 v2 b1 b2 st cut down L) (hB:B≤w.heap.size) (hf:Fr w w2 (fun k=>v2.ownBlock=some k)) {b:Nat} {lb:List Nat} (hb:Bk w2 b 5 lb) (hbl:lb.length=256) (hlb:w.heap.size≤b) {v':Value}
 (ho:w2.ownsRow B 41 1 v' (b2.length+1) ((b2.map fun b=>.slice (some ⟨b,0,none⟩) 256 256)++[.slice (some ⟨b,0,none⟩) 256 256])) (hv:v'.ownBlock=v2.ownBlock∨∃k,v'.ownBlock=some k∧w.heap.size≤k):
 RdB (w2.setCell ⟨g,1,none⟩ v') B g v1 v' b1 (b2++[b]) st cut down L:=by
 have f2:=fr_cell w2 g 1 v'
 have n1:v2.ownBlock≠some g:=row_ne h.own2 h.box (by decide)
 have hbox:=h.box.fr hf n1
 have ng:∀{q:Nat} {l:List Nat},Bk w q 5 l→q≠g:=fun {q l} hq=>Ne.symm (cb_ne h.box (show CbB w q _ _ from hq) (by decide))
 have nv:∀{q:Nat} {l:List Nat},Bk w q 5 l→v2.ownBlock≠some q:=fun {q l} hq=>row_ne h.own2 (show CbB w q _ _ from hq) (by decide)
 have kp:∀{q:Nat} {l:List Nat},Bk w q 5 l→Bk (w2.setCell ⟨g,1,none⟩ v') q 5 l:=fun {q l} hq=>(hq.fr hf (nv hq)).fr f2 (ng hq)
 refine⟨hbox.set 1 _,?_,?_,?_,?_,?_,?_,h.low⟩
 · have o1:=row_fr h.own1 hf (fun k hk e=>h.ne12 k hk e)
   exact row_fr o1 f2 (fun k hk e=>row_ne o1 hbox (by decide) (by rw[hk,e]))
 · rw[List.map_append,List.length_append]
   exact row_fr ho f2 (fun k hk e=>row_ne ho hbox (by decide) (by rw[hk,e]))
 · intro k hk h2
   rcases hv with e | ⟨q,e,hq⟩
   · exact h.ne12 k hk (by rw[←e,h2])
   · rw[h2] at e
     injection e with e
     subst e
     have:=own_ltX h.own1 k hk
     omega
 · intro i q hi
   obtain⟨k1,k2⟩:=h.at1 i q hi
   exact⟨k1,kp k2⟩
 · intro i q hi
   rcases Nat.lt_or_ge i b2.length with hl | hl
   · rw[List.getElem?_append_left hl] at hi
     obtain⟨k1,l,k2,k3⟩:=h.at2 i q hi
     exact⟨k1,l,kp k2,k3⟩
   · rw[List.getElem?_append_right hl] at hi
     obtain⟨hj,hq⟩:=List.getElem?_eq_some_iff.1 hi
     simp at hj hq
     subst hq
     exact⟨by omega,lb,hb.fr f2 (by have:=h.box.lt;omega),hbl⟩
 · have hn:=h.nd
   rw[List.nodup_append] at hn⊢
   obtain⟨p1,p2,p3⟩:=hn
   refine⟨p1,?_,?_⟩
   · rw[List.nodup_append]
     refine⟨p2,by simp,fun x hx y hy=>?_⟩
     simp at hy
     have:=h.lt2 hx
     omega
   · intro x hx y hy
     rcases List.mem_append.1 hy with hy | hy
     · exact p3 x hx y hy
     · simp at hy
       have:=h.lt1 hx
       omega
end
def BnewR (S:Nat) (v:Value) (W:World):Prop:=∃b,v = .slice (some ⟨b,0,none⟩) 256 256∧S≤b∧Bk W b 5 (zeros 256)
theorem BnewR.fr {S:Nat} {v:Value} {W W1:World} {F:Nat→Prop} (h:BnewR S v W) (hf:Fr W W1 F) (hF:∀k,F k→k<S):BnewR S v W1:=by
 obtain⟨b,h1,h2,h3⟩:=h
 exact⟨b,h1,h2,h3.fr hf (fun e=>by have:=hF b e;omega)⟩
def OneSl (S:Nat) (v:Value) (W:World):Prop:=∃G u,v = .slice (some ⟨G,0,none⟩) 1 1∧CbB W G 41 #[u]∧S≤G∧BnewR S u W
theorem infoSlB:(Tryz.prog.info? 41).map (fun i=>(i.zero,i.size,i.bytes))=some (some (.slice none 0 0),1,24):=by kernel_rfl
def AppR (B S:Nat) (v1:Value) (bs:List Nat) (v:Value) (W:World):Prop:=
 ∃b,S≤b∧Bk W b 5 (zeros 256)∧W.ownsRow B 41 1 v (bs.length+1) ((bs.map fun b=>.slice (some ⟨b,0,none⟩) 256 256)++[.slice (some ⟨b,0,none⟩) 256 256])∧(v.ownBlock=v1.ownBlock∨∃k,v.ownBlock=some k∧S≤k)
set_option maxRecDepth 100000 in
theorem ringAdd_yesT (B g m t gn kn kc:Nat) (kA:Option Addr) (key:List Nat) (l:RgL) (w:World) (vs:List ((Nat×Nat)×Value)) (h:RgB w B g m l) (h1:MapB whV whOk w m vs) (h2:RgV w B vs l) (ht:t<4294967296) (hg:gn<65536) (ik:IsB w kA kn kc key) (hk:KeyOk key) (hs:getR (t,gn) l=none):
 Calls Tryz.prog 44 #[.pointer (some ⟨g,0,none⟩),.int .u32 (t:Int),.int .u16 (gn:Int),.slice kA kn kc] w fun e w'=>∃q,e = .returned (.int .i64 0)∧w'.heap[g]? = some (.cells #[.map (some m)] 191 (0,0))∧MapB whV whOk w' m (vs++[((t,gn),q)])∧RgV w' B (vs++[((t,gn),q)]) (l++[((t,gn),key)])∧OwB w' w.heap.size q key∧w.grownBy w' (some m):=by
 have lk:=ik.len
 have hk2:=hk
 unfold KeyOk at hk2
 obtain⟨X,rfl,_,_⟩:=ik.cell (by omega)
 have hc:=h.cell
 have hok:whOk (t,gn):=⟨ht,hg⟩
 have HM:=Lib.hid (smay_any (some X) kn kc 1 w)
 have eM:Hid (decide ((kn=16∨kn=32)∧1≤1∧1≤4)=true):=Lib.hid (decide_eq_true ⟨by omega,by decide,by decide⟩)
 have e1:lookL (t,gn) vs=none:=by
  rcases h2.look (t,gn) with ⟨e1,e2⟩ | ⟨v,k,e1,e2,e3⟩
  · exact e1
  · rw[hs] at e2;cases e2
 have hlk:(Instr.lookup 189 (.map (some m)) (.agg #[.int .u32 (t:Int),.int .u16 (gn:Int)]) true).run Tryz.prog w = .ok (.tuple #[.slice none 0 0,.bool false]) w:=h1.look_none wh_K Tryz.underlying189 hok e1 (zero_bytes w) true
 have HR:=Lib.hid h
 have H1:=Lib.hid h1
 have H2:=Lib.hid h2
 have E1:=Lib.hid e1
 have HK:=Lib.hid hk
 have IK:=Lib.hid ik
 have LK:=Lib.hid lk
 have HN:Hid (kn≤32∧0<kn):=Lib.hid (by omega)
 have HO:=Lib.hid hok
 clear h h1 h2 hok ht hg hk hk2 hs e1 ik lk
 go_enter Tryz.func44,Tryz.ntmps44
 go_wp2_with fail
 refine HM.out.mono ?_
 rw[eM.out]
 rintro e w' ⟨rfl,rfl⟩
 go_wp2_with fail
 refine wp_wide3 [⟨28,IsR (.pointer (some ⟨g,0,none⟩)),[],false⟩,⟨29,IsR (.pointer (some ⟨g,0,none⟩)),[0],false⟩,⟨30,IsR (.pointer (some ⟨g,0,none⟩)),[1],false⟩,⟨31,IsR (.map (some m)),[2],false⟩,⟨32,IsR (.int .u32 (t:Int)),[],false⟩,⟨33,IsR (.int .u16 (gn:Int)),[],false⟩,⟨34,IsR (.agg #[.int .u32 (t:Int),.int .u16 (gn:Int)]),[4,5],false⟩,⟨35,EmR,[],false⟩,⟨36,IsR (.slice (some X) kn kc),[],false⟩,⟨37,OwR w.heap.size key,[7,8],false⟩] (by kernel_rfl) (by kernel_rfl) rfl rfl rfl ⟨?_,?_,?_,?_,?_,?_,?_,?_,?_,?_,trivial⟩ ?_
 · refine⟨rfl,IsR.mono _,fun a W hA hb hd=>takes_plain rfl (yields_value _ ?_ rfl)⟩
   have h0:a.tmps[0]?.getD undef = .pointer (some ⟨g,0,none⟩):=(eval_get a 0).trans ((hA.eval (by simp)).trans rfl)
   go_simp
 · refine⟨rfl,IsR.mono _,fun a W hA hb hd=>takes_plain rfl (yields_value _ ?_ rfl)⟩
   have h28:a.tmps[28]?.getD undef = .pointer (some ⟨g,0,none⟩):=(eval_get a 28).trans (hd 0 (by simp) _ rfl)
   go_simp
 · refine⟨rfl,IsR.mono _,fun a W hA hb hd=>takes_plain rfl (yields_value _ ?_ rfl)⟩
   have h29:a.tmps[29]?.getD undef = .pointer (some ⟨g,0,none⟩):=(eval_get a 29).trans (hd 1 (by simp) _ rfl)
   go_simp
 · refine⟨rfl,IsR.mono _,fun a W hA hb hd=>takes_plain rfl (yields_value _ ?_ rfl)⟩
   have h30:a.tmps[30]?.getD undef = .pointer (some ⟨g,0,none⟩):=(eval_get a 30).trans (hd 2 (by simp) _ rfl)
   have hcc:=(HR.out.ab hb).cell
   go_simp
 · refine⟨rfl,IsR.mono _,fun a W hA hb hd=>takes_plain rfl (yields_value _ ?_ rfl)⟩
   have h1:a.tmps[1]?.getD undef = .int .u32 (t:Int):=(eval_get a 1).trans ((hA.eval (by simp)).trans rfl)
   go_simp
 · refine⟨rfl,IsR.mono _,fun a W hA hb hd=>takes_plain rfl (yields_value _ ?_ rfl)⟩
   have h2:a.tmps[2]?.getD undef = .int .u16 (gn:Int):=(eval_get a 2).trans ((hA.eval (by simp)).trans rfl)
   go_simp
 · refine⟨rfl,IsR.mono _,fun a W hA hb hd=>takes_plain rfl (yields_value _ ?_ rfl)⟩
   have h32:a.tmps[32]?.getD undef = .int .u32 (t:Int):=(eval_get a 32).trans (hd 4 (by simp) _ rfl)
   have h33:a.tmps[33]?.getD undef = .int .u16 (gn:Int):=(eval_get a 33).trans (hd 5 (by simp) _ rfl)
   go_simp
 · refine⟨rfl,EmR.mono,fun a W hA hb hd=>takes_plain rfl ?_⟩
   exact yields_empty rfl
 · refine⟨rfl,IsR.mono _,fun a W hA hb hd=>takes_plain rfl (yields_value _ ?_ rfl)⟩
   have h3:a.tmps[3]?.getD undef = .slice (some X) kn kc:=(eval_get a 3).trans ((hA.eval (by simp)).trans rfl)
   go_simp
 · refine⟨rfl,OwR.mono _ _,fun a W hA hb hd=>takes_plain rfl ?_⟩
   obtain⟨Y,he⟩:=hd 7 (by simp) _ rfl
   have hs:a.eval (.tmp 35) = .slice (some Y) 0 0:=he
   have hx:a.eval (.tmp 36) = .slice (some X) kn kc:=hd 8 (by simp) _ rfl
   exact yields_appG (.tmp 35) (.tmp 36) rfl (isB_empty W Y) hs (IK.out.ab hb) hx (by have:=HN.out.2;omega) (by have:=HN.out.1;omega) fun v1 W1 h1 h2=>by
    rw[List.nil_append] at h1
    exact OwB.lower h1 hb.size
 intro vs9 w9 hR hF hb
 have K9:Hid (OwB w9 w.heap.size (vs9 37) key):=Lib.hid (hR 9 _ rfl)
 have e28:vs9 28 = .pointer (some ⟨g,0,none⟩):=hR 0 _ rfl
 have e29:vs9 29 = .pointer (some ⟨g,0,none⟩):=hR 1 _ rfl
 have e30:vs9 30 = .pointer (some ⟨g,0,none⟩):=hR 2 _ rfl
 have e31:vs9 31 = .map (some m):=hR 3 _ rfl
 have e32:vs9 32 = .int .u32 (t:Int):=hR 4 _ rfl
 have e33:vs9 33 = .int .u16 (gn:Int):=hR 5 _ rfl
 have e34:vs9 34 = .agg #[.int .u32 (t:Int),.int .u16 (gn:Int)]:=hR 6 _ rfl
 have e36:vs9 36 = .slice (some X) kn kc:=hR 8 _ rfl
 simp only[List.map_cons,List.map_nil,List.foldl_cons,List.foldl_nil,List.length_cons,List.length_nil,List.drop_succ_cons,List.drop_zero,Act.put,List.setIfInBounds_toArray,List.set_cons_zero,List.set_cons_succ,e28,e29,e30,e31,e32,e33,e34,e36]
 have B9:=Lib.hid hb
 clear hR hF hb e28 e29 e30 e31 e32 e33 e34 e36
 generalize vs9 35=q35 at *
 generalize vs9 37=q37 at *
 go_wp2_with (refine wpList_mapPut rfl (.tmp 31) (.tmp 34) (.tmp 37) rfl wh_K Tryz.underlying189 rfl (H1.out.ab B9.out) (t,gn) HO.out rfl q37 rfl ?_
              intro w10 h10 hg10 hz10 hb10
              have M10:=Lib.hid h10
              have G10:=Lib.hid hg10
              clear h10 hg10 hz10 hb10)
 go_ret
 have hB:B≤w.heap.size:=Nat.le_of_lt (Nat.lt_of_le_of_lt HR.out.low HR.out.mlt)
 have R9:=HR.out.ab B9.out
 have hne:g≠m:=fun e=>by
  subst e
  obtain⟨es,c,q,_⟩:=H1.out
  rw[HR.out.box] at q
  cases q
 have hput:putL (t,gn) q37 vs=vs++[((t,gn),q37)]:=by simp[putL,E1.out]
 have M9:=H1.out.ab B9.out
 have hgr:w.grownBy w10 (some m):=by
  have hb:=B9.out
  exact⟨G10.out.os.trans hb.os,G10.out.tape.trans hb.tape,G10.out.output.trans hb.output,Nat.le_trans hb.size G10.out.size,fun i hi hne=>(G10.out.block i (Nat.lt_of_lt_of_le hi hb.size) hne).trans (hb.block i hi)⟩
 have hkk:=K9.out.grown G10.out (notMap K9.out M9)
 have hm10:=M10.out
 rw[hput] at hm10
 refine⟨q37,rfl,(G10.out.block g R9.lt (by simp[hne])).trans R9.box,hm10,?_,hkk,hgr⟩
 have hvs:RgV w10 B vs l:=(H2.out.ab B9.out).imp fun v k hv=>hv.grown G10.out (notMap hv M9)
 exact RgV.snoc ((K9.out.lower hB).grown G10.out (notMap K9.out M9)) hvs
theorem ringAddM {w:World} {O:Tgm} {g t gn kn kc:Nat} {kA:Option Addr} {key:List Nat} {l:RgL} (h:RgM w O g l) (ht:t<4294967296) (hg:gn<65536) (ik:IsB w kA kn kc key):
 Calls Tryz.prog 44 #[.pointer (some ⟨g,0,none⟩),.int .u32 (t:Int),.int .u16 (gn:Int),.slice kA kn kc] w fun e w'=>∃O',e = .returned (.int .i64 ((addP (t,gn) key l).1:Int))∧RgM w' O' g (addP (t,gn) key l).2∧Wr (fun τ=>τ=(0,3)) w O w' O':=by
 have H:=h
 obtain⟨m,vs,h1,h2,h3,h4,t1,t2,t3⟩:=h
 have hb:RgB w 0 g m l:=⟨h1,Nat.zero_le _,⟨vs,h2,h3⟩,h4⟩
 have lk:=ik.len
 have no:∀(err:Nat),((err=2∧¬(kn=16∨kn=32))∨(err=8∧(kn=16∨kn=32)∧(getR (t,gn) l).isSome=true))→Calls Tryz.prog 44 #[.pointer (some ⟨g,0,none⟩),.int .u32 (t:Int),.int .u16 (gn:Int),.slice kA kn kc] w fun e w'=>∃O',e = .returned (.int .i64 (err:Int))∧RgM w' O' g l∧Wr (fun τ=>τ=(0,3)) w O w' O':=fun err he=>
  (ringAdd_no 0 g m t gn kn kc err kA l w hb ht hg he).mono fun e w' ⟨e1,e2⟩=>⟨_,e1,H.wr (Wr.cut e2 (fun _=>False)) id id,Wr.cut e2 _⟩
 unfold addP
 by_cases hk:key.length=16∨key.length=32
 · rw[if_pos hk]
   cases hs:getR (t,gn) l with
   | some k=>
     rw[Option.isSome_some,if_pos rfl]
     exact no 8 (.inr ⟨rfl,by omega,by rw[hs];rfl⟩)
   | none=>
     rw[Option.isSome_none,if_neg Bool.false_ne_true]
     refine (ringAdd_yesT 0 g m t gn kn kc kA key l w vs hb h2 h3 ht hg ik hk hs).mono ?_
     rintro e w' ⟨q,rfl,k1,k2,k3,k4,k5⟩
     have lg:g<w.heap.size:=lt_of_block h1
     refine⟨cutO O w.heap.size,rfl,⟨m,_,k1,k2,k3,fun p hp=>?_,(cutO_old lg).trans t1,(cutO_old h2.lt).trans t2,fun p hp k hk2=>?_⟩,(Wr.mk' (Fr.grown k5) (fun k hk=>by injection hk with hk;subst hk;exact t2) (fun k hk=>cutO_old hk))⟩
     · rcases List.mem_append.1 hp with hp | hp
       · exact h4 p hp
       · rw[List.mem_singleton] at hp
         subst hp
         exact hk
     · rcases List.mem_append.1 hp with hp | hp
       · obtain⟨k',hk'⟩:=h3.mem p hp
         exact (cutO_old (row_ltD hk'.own k hk2)).trans (t3 p hp k hk2)
       · rw[List.mem_singleton] at hp
         subst hp
         exact cutO_at (own_ge9 k4.own k hk2)
 · rw[if_neg hk]
   exact no 2 (.inl ⟨rfl,by omega⟩)
def stX (w:World) (N m x:Nat) (τ:Nat×Nat):Tgm:=fun k=>if k=x then τ else stO w N m k
theorem stX_x {w:World} {N m x:Nat} {τ:Nat×Nat}:stX w N m x τ x=τ:=if_pos rfl
theorem stX_c {w:World} {N m x k:Nat} {τ fr:Nat×Nat} {T T':TypeId} {cs cs':Array Value} (hx:CbB w x T cs) (hN:N≤k) (h:w.heap[k]? = some (.cells cs' T' fr)) (hT:T≠T'):stX w N m x τ k=(if T'=141∨T'=148∨T'=174 then (0,1) else if T'=157∨T'=159 then (0,2) else if T'=191 then (0,3) else (0,0)):=by
 unfold stX
 rw[if_neg,stO_c hN h]
 intro e
 subst e
 unfold CbB at hx
 rw[h] at hx
 injection hx with hx
 injection hx with _ hx
 exact hT hx.symm
theorem stX_low {w:World} {N m x k:Nat} {τ:Nat×Nat} (hx:N≤x) (h:k<N):stX w N m x τ k=(0,9):=by unfold stX;rw[if_neg (by omega),stO_low h]
theorem stageX {w:World} {d g1 g2 rg m lg N x:Nat} {wv:Value} {D:DvS} {R:RgL} {all:List Sl} {T:TypeId} {cs:Array Value} {τ:Nat×Nat} (hd:DsB w N d g1 g2 wv D) (hr:RgB w N rg m R) (hrg:N≤rg) (hl:LgB w N lg all) (hlg:N≤lg) (hx:CbB w x T cs) (hT:T≠141∧T≠148∧T≠174∧T≠157∧T≠159∧T≠191∧T≠5):DvM w (stX w N m x τ) d D∧RgM w (stX w N m x τ) rg R∧LgM w (stX w N m x τ) lg all:=by
 obtain⟨q1,q2,q3,q4,q5,q6,q7⟩:=hT
 obtain⟨l1,l2,l3⟩:=hd.low
 refine⟨⟨g1,g2,wv,⟨hd.box,hd.now,hd.firm,row_low hd.row (Nat.zero_le _),hd.ne,⟨Nat.zero_le _,Nat.zero_le _,Nat.zero_le _⟩⟩,(stX_c hx l1 hd.box q1).trans (by decide),(stX_c hx l2 hd.now q2).trans (by decide),(stX_c hx l3 hd.firm q2).trans (by decide),fun k hk=>?_⟩,?_,?_⟩
 · obtain⟨cs,fr,h1⟩:=row_ty9 hd.row k hk
   exact (stX_c hx (own_ge9 hd.row k hk) h1 q3).trans (by decide)
 · obtain⟨vs,h1,h2⟩:=hr.map
   refine⟨m,vs,hr.box,h1,h2.low0,hr.ne,(stX_c hx hrg hr.box q6).trans (by decide),?_,fun p hp k hk=>?_⟩
   · have hm:=hr.low
     obtain⟨es,clock,h3,_⟩:=h1
     unfold stX
     rw[if_neg (fun e=>by
      subst e
      unfold CbB at hx
      rw[h3] at hx
      cases hx)]
     unfold stO
     rw[if_neg (by omega),h3]
     exact if_pos rfl
   · obtain⟨k',hk'⟩:=h2.mem p hp
     obtain⟨cs,fr,h3⟩:=row_ty9 hk'.own k hk
     exact (stX_c hx (own_ge9 hk'.own k hk) h3 q7).trans (by decide)
 · obtain⟨h0,v,h1,h2⟩:=hl
   refine⟨v,h1,row_low h2 (Nat.zero_le _),(stX_c hx hlg h1 q4).trans (by decide),fun k hk=>?_⟩
   obtain⟨cs,fr,h3⟩:=row_ty9 h2 k hk
   exact (stX_c hx (own_ge9 h2 k hk) h3 q5).trans (by decide)
def k2R:RgL:=[((0,0),zeros 16)]
def k2M:Mp:=⟨1,0,0,0,0,0,0⟩
def k2T:PgP:=beginT (newT [(2,8)]) 1
theorem k2M_ok:k2M.Ok:=⟨by decide,by decide,by decide,by decide,by decide,by decide,by decide⟩
def k2D (l f:List Nat) (st:Nat):DvS:=⟨8,l,f,[],st,0,-1,false⟩
theorem k2D_ok {l f:List Nat} {st:Nat} (h1:l.length=2048) (h2:f.length=2048) (b1:Byt l) (b2:Byt f):(k2D l f st).Ok where
 n8:=by show 8≤8;omega
 n4:=by show 8≤4096;omega
 now:=by show l.length=8*256;omega
 firm:=by show f.length=8*256;omega
 bnow:=b1
 bfirm:=b2
 ws:=fun x hx=>by cases hx
 cut:=⟨by show (-1:Int)≤-1;decide,by show (-1:Int)≤9223372036854775807;decide⟩
 fail:=by show 0≤9223372036854775807;decide
theorem k2_step (l f:List Nat) (st:Nat):stepD (k2D l f st)=(0,k2D l f (st+1)):=rfl
theorem k2_sync (l f:List Nat) (st:Nat):syncD (k2D l f st)=(0,k2D l l (st+1)):=rfl
theorem k2_write (l f:List Nat) (st i:Nat) (b:List Nat):writeD (k2D l f st) i b=(0,{ k2D (putD l b i) f (st+1) with ws:=[(i,b)] }):=rfl
theorem k2_sync2 (l f:List Nat) (st:Nat) (ws:List (Nat×List Nat)):syncD { k2D l f st with ws:=ws }=(0,k2D l l (st+1)):=rfl
theorem k2_new:newD 8=k2D (zeros 2048) (zeros 2048) 0:=rfl
theorem k2_reserve (l f:List Nat):reserveP ⟨2,0,0⟩ (k2D l f 0)=(1,0,⟨2,1,0⟩,k2D l f 1):=by
 unfold reserveP
 rw[if_neg (by decide),k2_step]
theorem k2_adv (l f:List Nat) (st:Nat):advanceP ⟨2,1,0⟩ (k2D l f st) 1=(0,⟨2,1,1⟩,k2D l f (st+1)):=by
 unfold advanceP
 rw[if_neg (by decide),k2_step]
theorem k2_flush (l f:List Nat) (st:Nat):flushP k2R k2T (k2D l f st) []=(0,{ k2T with fl:=true,fa:=false },k2D l l (st+1),[]):=by
 have h1:U32.srt (k2T.pu.map (·.1))=[]:=by simp[U32.srt,k2T,beginT]
 unfold flushP
 rw[h1]
 unfold flushF
 simp only
 rw[k2_sync]
 rfl
def k2B:List Nat:=(mSealP k2R k2M).1
theorem k2_seal:mSealP k2R k2M=(k2B,0):=by
 have h:(mSealP k2R k2M).2=0:=by
  unfold mSealP
  rw[show rightB k2M=true from by decide,show getR (0,k2M.gn) k2R=some (zeros 16) from rfl]
  simp only[cond_true]
  rw[sealM (.inl (zeros_len 16))]
 unfold k2B
 rw[←h]
theorem k2_meta (l:List Nat) (st:Nat):metaP k2R { k2T with fl:=true,fa:=false } (k2D l l st) [] k2M=(0,{ k2T with fl:=true,fa:=false },k2D (putD l k2B 1) (putD l k2B 1) (st+2),[]++lgM k2R k2M):=by
 unfold metaP
 rw[if_neg (by decide),if_neg (by decide),k2_seal,if_neg (by decide),show k2M.cm%2=1 from rfl,k2_write]
 simp only
 rw[k2_sync2]
 rfl
theorem k2B_len:k2B.length=256:=by
 unfold k2B mSealP
 rw[show rightB k2M=true from by decide,show getR (0,k2M.gn) k2R=some (zeros 16) from rfl]
 simp only[cond_true]
 exact (seal_ok9 (.inl (zeros_len 16)) (by decide) (by decide) (mbytes_len k2M)).2
theorem k2B_byt:Byt k2B:=by
 unfold k2B mSealP
 rw[show rightB k2M=true from by decide,show getR (0,k2M.gn) k2R=some (zeros 16) from rfl]
 simp only[cond_true]
 refine sealP_byt (byt_zeros 16) ?_ (labM_ok k2M_ok)
 unfold mbytes
 exact byt_app (flatN_byt _) (byt_zeros _)
set_option maxRecDepth 100000 in
theorem known20_any (w:World):Calls Tryz.prog 9 #[] w fun e w'=>e = .returned (.bool true)∧Below w.heap.size w w':=by
 have hmk:∀W:World,(Instr.makeSlice 41 (.int .i64 16) (.int .i64 16)).run Tryz.prog W = .ok (.slice (some ⟨W.heap.size,0,none⟩) 16 16) (W.alloc (.cells (bts (zeros 16)) 5)):=fun W=>make_u8 16 16 (Nat.le_refl _) (by decide) W
 go_enter Tryz.func9,Tryz.ntmps9
 go_wp2_with fail
 refine (diskNew_any 8 w (by decide) (by decide)).mono ?_
 rintro e w1 ⟨d,g1,g2,rfl,hd,hb1⟩
 have D1:=Lib.hid hd.ds
 have B1:=Lib.hid hb1
 clear hd hb1
 go_wp2_with fail
 refine (regsNew_nil d 2 w1).mono ?_
 rintro e w2 ⟨rfl,hx,hb2⟩
 obtain⟨r,hr0⟩:∃r,w1.heap.size=r:=⟨_,rfl⟩
 rw[hr0] at hx⊢
 have X2:=Lib.hid hx
 have D2:=Lib.hid (D1.out.ab hb2)
 have B2:=Lib.hid (below_tr B1.out hb2 B1.out.size)
 have RL:Hid (w.heap.size≤r):=Lib.hid (by rw[←hr0];exact B1.out.size)
 clear hx hb2 hr0 D1 B1
 go_wp2_with fail
 refine (newRing_any w2).mono ?_
 rintro e w3 ⟨rg,m,rfl,hge,hr,hb3⟩
 have D3:=Lib.hid (D2.out.ab hb3)
 have X3:=Lib.hid (X2.out.ab hb3)
 have R3:=Lib.hid (hr.lowr B2.out.size)
 have GE3:=Lib.hid (Nat.le_trans B2.out.size hge)
 have B3:=Lib.hid (below_tr B2.out hb3 B2.out.size)
 clear hr hb3 hge D2 B2 X2
 go_wp2_with fail
 refine (newLog_any w3).mono ?_
 rintro e w4 ⟨lg,rfl,hge,hl,hb4⟩
 have D4:=Lib.hid (D3.out.ab hb4)
 have X4:=Lib.hid (X3.out.ab hb4)
 have R4:=Lib.hid (R3.out.ab hb4)
 have GE4:=Lib.hid (Nat.le_trans B3.out.size hge)
 have B4:=Lib.hid (below_tr B3.out hb4 B3.out.size)
 have L4:=Lib.hid (LgB.empty (B:=w.heap.size) hl B4.out.size)
 clear hl hb4 hge D3 B3 R3 X3
 obtain⟨dv,ri,lo⟩:=stageX (τ:=(0,4)) D4.out R4.out GE3.out L4.out GE4.out X4.out (by decide)
 obtain⟨O4,hO4⟩:∃O4,stX w4 w.heap.size m r (0,4)=O4:=⟨_,rfl⟩
 have OL:Hid (∀k,k<w.heap.size→O4 k=(0,9)):=Lib.hid fun k hk=>by rw[←hO4];exact stX_low RL.out hk
 have TX:Hid (O4 r=(0,4)):=Lib.hid (by rw[←hO4];exact stX_x)
 rw[hO4] at dv ri lo
 have DV:=Lib.hid dv
 have RI:=Lib.hid ri
 have LO:=Lib.hid lo
 have RS:Hid (RsM w4 O4 r d ⟨2,0,0⟩):=Lib.hid ⟨X4.out,TX.out,show 2<18446744073709551616 by decide,show 0≤2 by decide,show 0≤0 by decide⟩
 clear dv ri lo hO4 D4 R4 L4 X4 GE3 GE4 TX RL
 go_wp2_with fail
 have b5:Below w4.heap.size w4 (w4.alloc (.cells #[.int .u32 2,.int .u32 8] 118)):=(Below.refl _ _).alloc (Nat.le_refl _) _
 have s5:Wr (fun _=>False) w4 O4 (w4.alloc (.cells #[.int .u32 2,.int .u32 8] 118)) O4:=Wr.of b5 _ (fun _ _=>rfl)
 have r5:RnB (w4.alloc (.cells #[.int .u32 2,.int .u32 8] 118)) (some ⟨w4.heap.size,0,none⟩) 1 1 [(2,8)]:=by
  obtain⟨A,c,h1,h2,_⟩:=(RuB.one w4 2 8).rn
  injection h1 with e1 e2 e3
  subst e1 e3
  exact h2
 refine (new_ok (DV.out.wr s5 id) r5 (by decide) (by decide) (by decide) (rg:=rg) (lg:=lg)).mono ?_
 rintro e w6 ⟨p,O6,rfl,hp6,s6,hge6⟩
 have P6:=Lib.hid hp6
 have S6:=Lib.hid (s5.tr s6)
 have PP:Hid (0<p):=Lib.hid (by obtain⟨b,h,_⟩:=hp6;exact h.pos)
 have DV6:=Lib.hid (DV.out.wr S6.out id)
 have RI6:=Lib.hid (RI.out.wr S6.out id id)
 have LO6:=Lib.hid (LO.out.wr S6.out id)
 have RS6:=Lib.hid (RS.out.wr S6.out id)
 clear b5 s5 r5 hp6 s6 hge6 DV RI LO RS
 go_wp2_with fail
 have hI:IsB (w6.alloc (.cells (bts (zeros 16)) 5)) (some ⟨w6.heap.size,0,none⟩) 16 16 (zeros 16):=isB_whole (Bk.newAt _ (zeros 16) rfl) (byt_zeros 16) (zeros_len 16) (by decide)
 have hba:Below w6.heap.size w6 (w6.alloc (.cells (bts (zeros 16)) 5)):=(Below.refl _ _).alloc (Nat.le_refl _) _
 have sa:Wr (fun _=>False) w6 O6 (w6.alloc (.cells (bts (zeros 16)) 5)) O6:=Wr.of hba _ (fun _ _=>rfl)
 refine (ringAddM (t:=0) (gn:=0) (RI6.out.wr sa id id) (by decide) (by decide) hI).mono ?_
 rw[show addP (0,0) (zeros 16) []=(0,k2R) from rfl]
 rintro e w7 ⟨O7,rfl,hr7,s7⟩
 have S7:=Lib.hid (sa.imp (Q:=fun τ=>τ=(0,3)) (fun _=>False.elim) |>.tr s7)
 have P7:=Lib.hid (P6.out.wr S7.out (fun i e=>by have:=PP.out;injection e with e;omega) (fun e=>by cases e))
 have DV7:=Lib.hid (DV6.out.wr S7.out (fun e=>by cases e))
 have RI7:=Lib.hid hr7
 have LO7:=Lib.hid (LO6.out.wr S7.out (fun e=>by cases e))
 have RS7:=Lib.hid (RS6.out.wr S7.out (fun e=>by cases e))
 have T7:=Lib.hid ((S6.out.imp (Q:=fun τ=>τ=(0,3)) fun _=>False.elim).tr S7.out)
 clear hI hba sa hr7 s7 S6 S7 P6 DV6 RI6 LO6 RS6
 dsimp only
 go_wp2_with fail
 refine (start_one (n:=1) P7.out RS7.out DV7.out (by rw[k2_new];exact k2D_ok (zeros_len _) (zeros_len _) (byt_zeros _) (byt_zeros _)) (by decide) rfl rfl (by decide) (by rw[k2_new];exact k2_reserve _ _) (by decide) (by decide) (by decide)).mono ?_
 rintro e w8 ⟨O8,rfl,hp8,hs8,hd8,s8⟩
 have P8:Hid (PgM w8 O8 p d rg lg k2T):=Lib.hid hp8
 have DV8:=Lib.hid hd8
 have RS8:=Lib.hid hs8
 have RI8:=Lib.hid (RI7.out.wr s8 (fun e=>by have:=PP.out;rcases e with e | e | e <;> first | (cases e;done) | (injection e with e;omega)) (fun e=>by have:=PP.out;rcases e with e | e | e <;> first | (cases e;done) | (injection e with e;omega)))
 have LO8:=Lib.hid (LO7.out.wr s8 (fun e=>by have:=PP.out;rcases e with e | e | e <;> first | (cases e;done) | (injection e with e;omega)))
 have T8:=Lib.hid ((T7.out.imp (Q:=fun τ=>τ=(0,1)∨τ=(0,2)∨τ=(0,3)∨τ=(0,4)∨τ=(p,1)) fun τ h=>.inr (.inr (.inl h))).tr (s8.imp fun τ h=>h.imp id fun h=>.inr (.inr h)))
 clear hp8 hs8 hd8 s8 P7 DV7 RS7 RI7 LO7 T7
 go_wp2_with fail
 refine (finish_one (m:=k2M) P8.out RS8.out DV8.out LO8.out RI8.out rfl (by decide) rfl rfl rfl (by decide) k2M_ok (k2D_ok (zeros_len _) (zeros_len _) (byt_zeros _) (byt_zeros _)) (by show 1≤900000000;decide) (by show 0≤90000;decide) (by decide) (fun x hx=>by cases hx) (by decide) (k2_flush _ _ _)
  (k2D_ok (zeros_len _) (zeros_len _) (byt_zeros _) (byt_zeros _)) (by show 2≤900000000;decide) (by show 0≤90000;decide) (by decide) (k2_meta _ _) (k2D_ok (putD_len (zeros_len _) (by decide) (by rw[k2B_len];decide)) (putD_len (zeros_len _) (by decide) (by rw[k2B_len];decide)) (putD_byt (byt_zeros _) k2B_byt) (putD_byt (byt_zeros _) k2B_byt)) (by show 4≤1000000000;decide) (k2_adv _ _ _) rfl (.inr rfl) rfl).mono ?_
 rintro e w9 ⟨O9,rfl,hp9,hs9,hd9,hl9,s9⟩
 have RS9:=Lib.hid hs9
 have T9:=Lib.hid (T8.out.tr (s9.imp fun τ h=>h.imp id fun h=>h.imp id .inr))
 clear hp9 hs9 hd9 hl9 s9
 go_wp2_with fail
 refine (committedM RS9.out).mono ?_
 rintro e w10 ⟨rfl,rfl⟩
 go_wp2_with fail
 go_ret
 refine⟨rfl,T9.out.below B4.out B4.out.size (fun k hk h=>?_)⟩
 rw[OL.out k hk] at h
 have:=PP.out
 simp at h
theorem zero_blkN {i n:Nat} (hi:i<n):blkL (zeros (n*256)) i=zeros 256:=by
 unfold blkL zeros
 rw[List.drop_replicate,List.take_replicate,Nat.min_eq_left (by omega)]
set_option maxRecDepth 100000 in
theorem rd8_any (n:Nat) (hn:n≤100000) (w:World):Calls Tryz.prog 46 #[.int .i64 (n:Int)] w fun e w'=>∃g v1 v2 b1 b2,e = .returned (.pointer (some ⟨g,0,none⟩))∧RdB w' w.heap.size g v1 v2 b1 b2 0 (-1) false (zeros (n*256))∧b1.length=n∧b2.length=n∧Below w.heap.size w w':=by
 have HN:=Lib.hid hn
 clear hn
 go_enter Tryz.func46,Tryz.ntmps46
 go_wp2_with fail
 go_loopw [4] (fun z wr=>∃i:Nat,i≤n∧z = .int .i64 (i:Int)∧∃v1 v2 b1 b2,RdB wr w.heap.size w.heap.size v1 v2 b1 b2 0 (-1) false (zeros (n*256))∧b1.length=i∧b2.length=i∧Below w.heap.size w wr) (fun z _=>n-(intOf z).toNat)
 case atStart=>
  refine⟨0,Nat.zero_le _,rfl,.slice none 0 0,.slice none 0 0,[],[],⟨CbB.new _ _ _,World.ownsRow_nil _ _ _ _,World.ownsRow_nil _ _ _ _,fun k hk=>(by cases hk),fun i b hi=>(by simp at hi),fun i b hi=>(by simp at hi),by simp,Nat.le_refl _⟩,rfl,rfl,(Below.refl _ _).alloc (Nat.le_refl _) _⟩
 case round=>
  obtain⟨i,hi,rfl,v1,v2,b1,b2,hr,hl1,hl2,hb⟩:=hrel
  by_cases hlt:i<n
  · have hlti:(i:Int)<(n:Int):=by omega
    have hib:(i:Int)≤100000:=by have:=HN.out;omega
    have HR:=Lib.hid hr
    have HB:=Lib.hid hb
    have L1:=Lib.hid hl1
    have L2:=Lib.hid hl2
    have HL:=Lib.hid hlt
    clear hr hb hlt hi hl1 hl2
    go_wp2_with fail
    · skip
      refine wp_wide5 (fun i k=>i=4∧v1.ownBlock=some k) [⟨11,IsR (.pointer (some ⟨w.heap.size,0,none⟩)),[],false⟩,⟨12,IsR (v1),[0],false⟩,⟨13,BnewR wr.heap.size,[],false⟩,⟨14,OneSl wr.heap.size,[2],false⟩,⟨15,AppR w.heap.size wr.heap.size v1 b1,[1,3],false⟩,⟨16,IsR (.pointer (some ⟨w.heap.size,0,none⟩)),[],false⟩] (by kernel_rfl) (by kernel_rfl) rfl rfl rfl ⟨?_,?_,?_,?_,?_,?_,trivial⟩ ?_
      · refine⟨rfl,IsR.monoF _ _,fun a W hA hb hd=>Takes.to5 (takes_plain rfl (yields_value _ ?_ rfl)) _⟩
        have h3:a.tmps[3]?.getD undef = .pointer (some ⟨w.heap.size,0,none⟩):=(eval_get a 3).trans ((hA.eval (by simp)).trans rfl)
        go_simp
      · refine⟨rfl,IsR.monoF _ _,fun a W hA hb hd=>Takes.to5 (takes_plain rfl (yields_value _ ?_ rfl)) _⟩
        have h11:a.tmps[11]?.getD undef = .pointer (some ⟨w.heap.size,0,none⟩):=(eval_get a 11).trans (hd 0 (by simp) _ rfl)
        have hc:W.cell? ⟨w.heap.size,0,none⟩=some v1:=(HR.out.box.fr hb (fun ⟨j,_,_,hj⟩=>row_ne HR.out.own1 HR.out.box (by decide) hj)).cell (k:=0) rfl
        obtain⟨A,cp,hv⟩:=row_shape HR.out.own1
        subst hv
        go_simp
      · refine⟨rfl,fun z W W1 h1 hf=>h1.fr hf (fun k ⟨j,_,_,hj⟩=>own_ltX HR.out.own1 k hj),fun a W hA hb hd=>takes5_plain rfl ?_⟩
        refine .inl ⟨.slice (some ⟨W.heap.size,0,none⟩) 256 256,W.alloc (.cells (bts (zeros 256)) 5),?_,⟨_,rfl,hb.size,Bk.new _ _ _⟩,Fr.of ((Below.refl _ _).alloc (Nat.le_refl _) _) _⟩
        have hmk:=make_u8 256 256 (Nat.le_refl _) (by decide) W
        have hx:a.eval (.const (.int .i64 256)) = .int .i64 ((256:Nat):Int):=rfl
        unfold execOp
        simp only[hx,hmk,Sem.run_bind,Result.andThen_ok,Sem.run_pure]
      · refine⟨rfl,fun z W W1 ⟨G1,u,h1,h2,h3,h4⟩ hf=>⟨G1,u,h1,h2.fr hf (fun ⟨j,_,_,hj⟩=>by have:=own_ltX HR.out.own1 _ hj;omega),h3,h4.fr hf (fun k ⟨j,_,_,hj⟩=>own_ltX HR.out.own1 k hj)⟩,fun a W hA hb hd=>takes5_plain rfl ?_⟩
        obtain⟨b,hu,hbs,hbk⟩:=hd 2 (by simp) _ rfl
        have h13:a.tmps[13]?.getD undef = .slice (some ⟨b,0,none⟩) 256 256:=(eval_get a 13).trans hu
        refine .inl ⟨.slice (some ⟨W.heap.size,0,none⟩) 1 1,W.alloc (.cells #[.slice (some ⟨b,0,none⟩) 256 256] 41),?_,⟨_,_,rfl,CbB.new _ _ _,hb.size,b,rfl,hbs,hbk.alloc _⟩,Fr.of ((Below.refl _ _).alloc (Nat.le_refl _) _) _⟩
        go_simp
      · refine⟨rfl,fun z W W1 ⟨b,h1,h2,h3,h4⟩ hf=>⟨b,h1,h2.fr hf (fun ⟨j,_,_,hj⟩=>by have:=own_ltX HR.out.own1 _ hj;omega),row_fr h3 hf (fun k hk ⟨j,hj,hj2,_⟩=>hj hj2),h4⟩,fun a W hA hb hd=>takes5_plain rfl ?_⟩
        have hs:a.eval (.tmp 12)=v1:=hd 1 (by simp) _ rfl
        obtain⟨Gs,u,he,hcb,hGs,b,rfl,hbs,hbk⟩:=hd 3 (by simp) _ rfl
        have hx:a.eval (.tmp 14) = .slice (some ⟨Gs,0,none⟩) 1 1:=he
        have hown:=row_fr HR.out.own1 hb (fun k hk ⟨j,hj,hj2,_⟩=>hj hj2)
        obtain⟨i0,hi0,hz0,hz1,hz2⟩:=info_parts infoSlB
        obtain⟨vq,W1,hrun,r1,r2,_,r4⟩:=run_append_own_at (P:=Tryz.prog) W w.heap.size 58 58 41 i0 _ 1 24 Tryz.underlying58 hi0 hz0 hz1 hz2 rfl (by decide) v1 b1.length _ hown ⟨Gs,0,none⟩ 1 1 [.slice (some ⟨b,0,none⟩) 256 256] rfl (row_at hcb) (by simp[Value.oneCell']) (by have:=HN.out;have:=HL.out;have:=L1.out;have:=L2.out;simp only[maxLen];have:=L1.out;have:=HL.out;omega) (by have:=HN.out;have:=HL.out;have:=L1.out;have:=L2.out;have:=L1.out;have:=HL.out;omega) (Nat.le_trans HB.out.size hb.size)
        refine .inl ⟨vq,W1,?_,⟨b,hbs,hbk.fr (Fr.grown r2) (fun e=>by have:=own_ltX HR.out.own1 _ e;omega),r1,?_⟩,(Fr.grown r2).imp fun k hk=>⟨rfl,hk⟩⟩
        · unfold execOp
          simp only[resolve,invoke,builtin,Sem.run_bind,Sem.run_pure,Result.andThen_ok,List.map_toArray,List.map_cons,List.map_nil,hs,hx,hrun]
        · rcases r4 with r4 | r4
          · exact .inl r4
          · exact .inr ⟨_,r4,hb.size⟩
      · refine⟨rfl,IsR.monoF _ _,fun a W hA hb hd=>Takes.to5 (takes_plain rfl (yields_value _ ?_ rfl)) _⟩
        have h3:a.tmps[3]?.getD undef = .pointer (some ⟨w.heap.size,0,none⟩):=(eval_get a 3).trans ((hA.eval (by simp)).trans rfl)
        go_simp
      intro vs0 wrn hR hb
      obtain⟨b,hbs,hbk,hrow,hvv⟩:AppR w.heap.size wr.heap.size v1 b1 (vs0 15) wrn:=hR 4 _ rfl
      have e11:vs0 11 = .pointer (some ⟨w.heap.size,0,none⟩):=hR 0 _ rfl
      have e12:vs0 12=v1:=hR 1 _ rfl
      have e16:vs0 16 = .pointer (some ⟨w.heap.size,0,none⟩):=hR 5 _ rfl
      simp only[List.map_cons,List.map_nil,List.foldl_cons,List.foldl_nil,List.length_cons,List.length_nil,List.drop_succ_cons,List.drop_zero,Act.put,List.setIfInBounds_toArray,List.set_cons_zero,List.set_cons_succ,e11,e12,e16]
      have FR:Hid (Fr wr wrn (fun k=>v1.ownBlock=some k)):=Lib.hid (hb.imp fun k ⟨j,_,hj⟩=>hj)
      have NW:=Lib.hid (HR.out.push1 HB.out.size FR.out (by rw[L1.out,zero_blkN (by have:=HL.out;omega)];exact hbk) hbs hrow hvv)
      have G2:=Lib.hid (HR.out.box.fr FR.out (row_ne HR.out.own1 HR.out.box (by decide)))
      have BB:=Lib.hid (Fr.below FR.out (fun k hk=>own_ge9 HR.out.own1 k hk) HB.out HB.out.size)
      obtain⟨A1,c1,hv1⟩:=row_shape hrow
      generalize vs0 15=q15 at *
      subst hv1
      have hf:=G2.out.free 0
      have hcl:=G2.out.cell (k:=0) rfl
      clear hR hb hrow hvv e11 e12 e16
      generalize vs0 13=q13 at *
      generalize vs0 14=q14 at *
      go_upto_region 6 with (fail)
      obtain⟨wm,hwm⟩:∃wm,wrn.setCell ⟨w.heap.size,0,none⟩ (.slice A1 (b1.length+1) c1)=wm:=⟨_,rfl⟩
      have BM:Hid (Below w.heap.size w wm):=Lib.hid (by rw[←hwm];exact Fr.below (fr_cell _ _ _ _) (fun k hk=>by omega) BB.out BB.out.size)
      rw[hwm] at NW⊢
      clear hwm hf hcl G2 FR hbk hbs BB HR HB
      have HB:=BM
      clear BM
      refine wp_wide5 (fun i k=>i=4∧v2.ownBlock=some k) [⟨17,IsR (.pointer (some ⟨w.heap.size,1,none⟩)),[],false⟩,⟨18,IsR (v2),[0],false⟩,⟨19,BnewR wm.heap.size,[],false⟩,⟨20,OneSl wm.heap.size,[2],false⟩,⟨21,AppR w.heap.size wm.heap.size v2 b2,[1,3],false⟩,⟨22,IsR (.pointer (some ⟨w.heap.size,1,none⟩)),[],false⟩] (by kernel_rfl) (by kernel_rfl) rfl rfl rfl ⟨?_,?_,?_,?_,?_,?_,trivial⟩ ?_
      · refine⟨rfl,IsR.monoF _ _,fun a W hA hb hd=>Takes.to5 (takes_plain rfl (yields_value _ ?_ rfl)) _⟩
        have h3:a.tmps[3]?.getD undef = .pointer (some ⟨w.heap.size,0,none⟩):=(eval_get a 3).trans ((hA.eval (by simp)).trans rfl)
        go_simp
      · refine⟨rfl,IsR.monoF _ _,fun a W hA hb hd=>Takes.to5 (takes_plain rfl (yields_value _ ?_ rfl)) _⟩
        have h17:a.tmps[17]?.getD undef = .pointer (some ⟨w.heap.size,1,none⟩):=(eval_get a 17).trans (hd 0 (by simp) _ rfl)
        have hc:W.cell? ⟨w.heap.size,1,none⟩=some v2:=(NW.out.box.fr hb (fun ⟨j,_,_,hj⟩=>row_ne NW.out.own2 NW.out.box (by decide) hj)).cell (k:=1) rfl
        obtain⟨A,cp,hv⟩:=row_shape NW.out.own2
        subst hv
        go_simp
      · refine⟨rfl,fun z W W1 h1 hf=>h1.fr hf (fun k ⟨j,_,_,hj⟩=>own_ltX NW.out.own2 k hj),fun a W hA hb hd=>takes5_plain rfl ?_⟩
        refine .inl ⟨.slice (some ⟨W.heap.size,0,none⟩) 256 256,W.alloc (.cells (bts (zeros 256)) 5),?_,⟨_,rfl,hb.size,Bk.new _ _ _⟩,Fr.of ((Below.refl _ _).alloc (Nat.le_refl _) _) _⟩
        have hmk:=make_u8 256 256 (Nat.le_refl _) (by decide) W
        have hx:a.eval (.const (.int .i64 256)) = .int .i64 ((256:Nat):Int):=rfl
        unfold execOp
        simp only[hx,hmk,Sem.run_bind,Result.andThen_ok,Sem.run_pure]
      · refine⟨rfl,fun z W W1 ⟨G1,u,h1,h2,h3,h4⟩ hf=>⟨G1,u,h1,h2.fr hf (fun ⟨j,_,_,hj⟩=>by have:=own_ltX NW.out.own2 _ hj;omega),h3,h4.fr hf (fun k ⟨j,_,_,hj⟩=>own_ltX NW.out.own2 k hj)⟩,fun a W hA hb hd=>takes5_plain rfl ?_⟩
        obtain⟨b,hu,hbs,hbk⟩:=hd 2 (by simp) _ rfl
        have h19:a.tmps[19]?.getD undef = .slice (some ⟨b,0,none⟩) 256 256:=(eval_get a 19).trans hu
        refine .inl ⟨.slice (some ⟨W.heap.size,0,none⟩) 1 1,W.alloc (.cells #[.slice (some ⟨b,0,none⟩) 256 256] 41),?_,⟨_,_,rfl,CbB.new _ _ _,hb.size,b,rfl,hbs,hbk.alloc _⟩,Fr.of ((Below.refl _ _).alloc (Nat.le_refl _) _) _⟩
        go_simp
      · refine⟨rfl,fun z W W1 ⟨b,h1,h2,h3,h4⟩ hf=>⟨b,h1,h2.fr hf (fun ⟨j,_,_,hj⟩=>by have:=own_ltX NW.out.own2 _ hj;omega),row_fr h3 hf (fun k hk ⟨j,hj,hj2,_⟩=>hj hj2),h4⟩,fun a W hA hb hd=>takes5_plain rfl ?_⟩
        have hs:a.eval (.tmp 18)=v2:=hd 1 (by simp) _ rfl
        obtain⟨Gs,u,he,hcb,hGs,b,rfl,hbs,hbk⟩:=hd 3 (by simp) _ rfl
        have hx:a.eval (.tmp 20) = .slice (some ⟨Gs,0,none⟩) 1 1:=he
        have hown:=row_fr NW.out.own2 hb (fun k hk ⟨j,hj,hj2,_⟩=>hj hj2)
        obtain⟨i0,hi0,hz0,hz1,hz2⟩:=info_parts infoSlB
        obtain⟨vq,W1,hrun,r1,r2,_,r4⟩:=run_append_own_at (P:=Tryz.prog) W w.heap.size 58 58 41 i0 _ 1 24 Tryz.underlying58 hi0 hz0 hz1 hz2 rfl (by decide) v2 b2.length _ hown ⟨Gs,0,none⟩ 1 1 [.slice (some ⟨b,0,none⟩) 256 256] rfl (row_at hcb) (by simp[Value.oneCell']) (by have:=HN.out;have:=HL.out;have:=L1.out;have:=L2.out;simp only[maxLen];have:=L2.out;have:=HL.out;omega) (by have:=HN.out;have:=HL.out;have:=L1.out;have:=L2.out;have:=L2.out;have:=HL.out;omega) (Nat.le_trans HB.out.size hb.size)
        refine .inl ⟨vq,W1,?_,⟨b,hbs,hbk.fr (Fr.grown r2) (fun e=>by have:=own_ltX NW.out.own2 _ e;omega),r1,?_⟩,(Fr.grown r2).imp fun k hk=>⟨rfl,hk⟩⟩
        · unfold execOp
          simp only[resolve,invoke,builtin,Sem.run_bind,Sem.run_pure,Result.andThen_ok,List.map_toArray,List.map_cons,List.map_nil,hs,hx,hrun]
        · rcases r4 with r4 | r4
          · exact .inl r4
          · exact .inr ⟨_,r4,hb.size⟩
      · refine⟨rfl,IsR.monoF _ _,fun a W hA hb hd=>Takes.to5 (takes_plain rfl (yields_value _ ?_ rfl)) _⟩
        have h3:a.tmps[3]?.getD undef = .pointer (some ⟨w.heap.size,0,none⟩):=(eval_get a 3).trans ((hA.eval (by simp)).trans rfl)
        go_simp
      intro vs1 wmn hR hb
      obtain⟨b,hbs,hbk,hrow,hvv⟩:AppR w.heap.size wm.heap.size v2 b2 (vs1 21) wmn:=hR 4 _ rfl
      have e17:vs1 17 = .pointer (some ⟨w.heap.size,1,none⟩):=hR 0 _ rfl
      have e18:vs1 18=v2:=hR 1 _ rfl
      have e22:vs1 22 = .pointer (some ⟨w.heap.size,1,none⟩):=hR 5 _ rfl
      simp only[List.map_cons,List.map_nil,List.foldl_cons,List.foldl_nil,List.length_cons,List.length_nil,List.drop_succ_cons,List.drop_zero,Act.put,List.setIfInBounds_toArray,List.set_cons_zero,List.set_cons_succ,e17,e18,e22]
      have FR:Hid (Fr wm wmn (fun k=>v2.ownBlock=some k)):=Lib.hid (hb.imp fun k ⟨j,_,hj⟩=>hj)
      have NW2:=Lib.hid (NW.out.push2 HB.out.size FR.out hbk (by rw[zeros_len]) hbs hrow hvv)
      have G2:=Lib.hid (NW.out.box.fr FR.out (row_ne NW.out.own2 NW.out.box (by decide)))
      have BB:=Lib.hid (Fr.below FR.out (fun k hk=>own_ge9 NW.out.own2 k hk) HB.out HB.out.size)
      obtain⟨A2,c2,hv2⟩:=row_shape hrow
      generalize vs1 21=q21 at *
      subst hv2
      have hf:=G2.out.free 1
      have hcl:=G2.out.cell (k:=1) rfl
      clear hR hb hrow hvv e17 e18 e22
      generalize vs1 19=q19 at *
      generalize vs1 20=q20 at *
      have B7:=Lib.hid (Fr.below (fr_cell wmn w.heap.size 1 (.slice A2 (b2.length+1) c2)) (fun k hk=>by omega) BB.out BB.out.size)
      clear G2 FR hbk hbs BB HB NW
      go_wp2_with fail
      go_roundw
      case rel=>exact⟨i+1,HL.out,by go_num,_,_,_,_,NW2.out,by rw[List.length_append,L1.out];rfl,by rw[List.length_append,L2.out];rfl,B7.out⟩
      case measure=>simp[intOf];have:=HL.out;omega
  · obtain rfl:i=n:=by omega
    have HR:=Lib.hid hr
    have HB:=Lib.hid hb
    have L1:=Lib.hid hl1
    have L2:=Lib.hid hl2
    clear hr hb hlt hi hl1 hl2
    go_wp2_with fail
    go_ret
    exact⟨w.heap.size,v1,v2,b1,b2,rfl,HR.out,L1.out,L2.out,HB.out⟩
theorem bel_dN {B:Nat} {a b:World} (h:Below B a b) (n:Nat):Below B a (b.drewN n):=⟨h.os,h.tape,h.output,h.size,h.block⟩
end Go.Proofs.YtlobgddnlnffbaaGreat
