/-
  Parts of the proof, joined.
-/
import Derived.Test.YtlbjdbaeffacgaaGreatBds
import Derived.Test.YtlbjdbaeffacgaaGreatBdl
import Derived.Test.YtlbjdbaeffacgaaGreatBdm
import Derived.Test.YtlbjdbaeffacgaaGreatBdq
import Derived.Maps.AppendAt
namespace Go.Proofs.YtlbjdbaeffacgaaGreat
set_option maxHeartbeats 16000000
open Go.RowKit
set_option linter.unusedVariables false
set_option linter.unusedSimpArgs false
def FnI (w:World) (O:Tgm) (p d rg lg r b0 b1 b2 fb:Nat) (m:Mp) (R:RgL) (T:PgP) (D:DvS) (al:List Sl) (S:RsS) (wx:World):Prop:=∃Ox,PgM wx Ox p d rg lg T∧DvM wx Ox d D∧LgM wx Ox lg al∧RsM wx Ox r d S∧RgM wx Ox rg R∧(CbB wx b0 35 #[.pointer (some ⟨p,0,none⟩)]∧Ox b0=(0,0))∧(CbB wx b1 29 #[.pointer (some ⟨r,0,none⟩)]∧Ox b1=(0,0))∧(CbB wx b2 56 #[.int .u64 (m.cm:Int),.int .u32 (m.pg:Int),.int .u64 (m.rc:Int),.int .u16 (m.rg:Int),.int .u8 (m.lv:Int),.int .u16 (m.gn:Int),.int .u32 (m.tn:Int)]∧Ox b2=(0,0))∧(CbB wx fb 118 #[.func (Fn.func 42) #[.pointer (some ⟨p,0,none⟩)] #[],.func (Fn.func 43) #[] #[.pointer (some ⟨b0,0,none⟩),.pointer (some ⟨b2,0,none⟩)],.func (Fn.func 45) #[] #[.pointer (some ⟨b1,0,none⟩),.pointer (some ⟨b2,0,none⟩)],.func (Fn.func 47) #[.pointer (some ⟨p,0,none⟩)] #[]]∧Ox fb=(0,0))∧Wr (fun τ=>τ=(0,1)∨τ=(0,2)∨τ=(0,4)∨τ=(p,1)) w O wx Ox
theorem FnI.step {w:World} {O Ox Oy:Tgm} {p d rg lg r b0 b1 b2 fb:Nat} {m:Mp} {R:RgL} {T:PgP} {D:DvS} {al:List Sl} {S:RsS} {wx wy:World} (hp:0<p) (hG:RgM wx Ox rg R) (k0:CbB wx b0 35 #[.pointer (some ⟨p,0,none⟩)]∧Ox b0=(0,0)) (k1:CbB wx b1 29 #[.pointer (some ⟨r,0,none⟩)]∧Ox b1=(0,0)) (k2:CbB wx b2 56 #[.int .u64 (m.cm:Int),.int .u32 (m.pg:Int),.int .u64 (m.rc:Int),.int .u16 (m.rg:Int),.int .u8 (m.lv:Int),.int .u16 (m.gn:Int),.int .u32 (m.tn:Int)]∧Ox b2=(0,0)) (k3:CbB wx fb 118 #[.func (Fn.func 42) #[.pointer (some ⟨p,0,none⟩)] #[],.func (Fn.func 43) #[] #[.pointer (some ⟨b0,0,none⟩),.pointer (some ⟨b2,0,none⟩)],.func (Fn.func 45) #[] #[.pointer (some ⟨b1,0,none⟩),.pointer (some ⟨b2,0,none⟩)],.func (Fn.func 47) #[.pointer (some ⟨p,0,none⟩)] #[]]∧Ox fb=(0,0)) (hw:Wr (fun τ=>τ=(0,1)∨τ=(0,2)∨τ=(0,4)∨τ=(p,1)) w O wx Ox)
 (s:Wr (fun τ=>τ=(0,1)∨τ=(0,2)∨τ=(0,4)∨τ=(p,1)) wx Ox wy Oy) (h1:PgM wy Oy p d rg lg T) (h2:DvM wy Oy d D) (h3:LgM wy Oy lg al) (h4:RsM wy Oy r d S):FnI w O p d rg lg r b0 b1 b2 fb m R T D al S wy:=by
 have n0:¬(((0:Nat),(0:Nat))=(0,1)∨((0:Nat),(0:Nat))=(0,2)∨((0:Nat),(0:Nat))=(0,4)∨((0:Nat),(0:Nat))=(p,1)):=fun e=>by
  rcases e with e | e | e | e
  · cases e
  · cases e
  · cases e
  · injection e with _ e;cases e
 have n3:¬(((0:Nat),(3:Nat))=(0,1)∨((0:Nat),(3:Nat))=(0,2)∨((0:Nat),(3:Nat))=(0,4)∨((0:Nat),(3:Nat))=(p,1)):=fun e=>by
  rcases e with e | e | e | e
  · cases e
  · cases e
  · cases e
  · injection e with _ e;cases e
 exact⟨Oy,h1,h2,h3,h4,hG.wr s n3 n0,k0.1.wr k0.2 s n0,k1.1.wr k1.2 s n0,k2.1.wr k2.2 s n0,k3.1.wr k3.2 s n0,hw.tr s⟩
set_option maxRecDepth 100000 in
theorem fin1 {w:World} {O:Tgm} {p d rg lg b0 b2:Nat} {T:PgP} {D:DvS} {al:List Sl} {R:RgL} {m:Mp} (h:PgM w O p d rg lg T) (hD:DvM w O d D) (hL:LgM w O lg al) (hR:RgM w O rg R) (okD:D.Ok) (hst:D.st≤900000000) (hws:D.ws.length≤90000) (h1000:al.length≤100000) (hm:m.Ok) (k0:CbB w b0 35 #[.pointer (some ⟨p,0,none⟩)]) (k2:CbB w b2 56 #[.int .u64 (m.cm:Int),.int .u32 (m.pg:Int),.int .u64 (m.rc:Int),.int .u16 (m.rg:Int),.int .u8 (m.lv:Int),.int .u16 (m.gn:Int),.int .u32 (m.tn:Int)]):
 Calls Tryz.prog 43 #[.pointer (some ⟨b0,0,none⟩),.pointer (some ⟨b2,0,none⟩)] w (MetR w O p d rg lg (metaP R T D al m)):=by
 have H:=Lib.hid (meta_any h hD hL hR okD hst hws h1000 hm)
 have c0:w.cell? ⟨b0,0,none⟩=some (.pointer (some ⟨p,0,none⟩)):=k0.cell (k:=0) rfl
 have m0:w.cell? ⟨b2,0,none⟩=some (.int .u64 (m.cm:Int)):=k2.cell (k:=0) rfl
 have m1:w.cell? ⟨b2,1,none⟩=some (.int .u32 (m.pg:Int)):=k2.cell (k:=1) rfl
 have m2:w.cell? ⟨b2,2,none⟩=some (.int .u64 (m.rc:Int)):=k2.cell (k:=2) rfl
 have m3:w.cell? ⟨b2,3,none⟩=some (.int .u16 (m.rg:Int)):=k2.cell (k:=3) rfl
 have m4:w.cell? ⟨b2,4,none⟩=some (.int .u8 (m.lv:Int)):=k2.cell (k:=4) rfl
 have m5:w.cell? ⟨b2,5,none⟩=some (.int .u16 (m.gn:Int)):=k2.cell (k:=5) rfl
 have m6:w.cell? ⟨b2,6,none⟩=some (.int .u32 (m.tn:Int)):=k2.cell (k:=6) rfl
 clear h hD hL hR okD hst hws h1000 hm k0 k2
 go_enter Tryz.func43,Tryz.ntmps43
 go_wp2_with fail
 refine H.out.mono ?_
 rintro e w1 hq
 obtain⟨O1,rfl,g1,g2,g3,g4⟩:=hq
 have G:=Lib.hid (And.intro g1 (And.intro g2 (And.intro g3 g4)))
 clear g1 g2 g3 g4
 go_wp2_with fail
 go_ret
 exact⟨O1,rfl,G.out⟩
set_option maxRecDepth 100000 in
theorem fin2 {w:World} {O:Tgm} {d r b1 b2:Nat} {D:DvS} {S:RsS} {m:Mp} (h:RsM w O r d S) (hD:DvM w O d D) (okD:D.Ok) (hst:D.st≤1000000000) (k1:CbB w b1 29 #[.pointer (some ⟨r,0,none⟩)]) (k2:CbB w b2 56 #[.int .u64 (m.cm:Int),.int .u32 (m.pg:Int),.int .u64 (m.rc:Int),.int .u16 (m.rg:Int),.int .u8 (m.lv:Int),.int .u16 (m.gn:Int),.int .u32 (m.tn:Int)]):
 Calls Tryz.prog 45 #[.pointer (some ⟨b1,0,none⟩),.pointer (some ⟨b2,0,none⟩)] w (AvR w O r d (advanceP S D m.cm)):=by
 have H:=Lib.hid (advanceM m.cm h hD okD hst)
 have c0:w.cell? ⟨b1,0,none⟩=some (.pointer (some ⟨r,0,none⟩)):=k1.cell (k:=0) rfl
 have m0:w.cell? ⟨b2,0,none⟩=some (.int .u64 (m.cm:Int)):=k2.cell (k:=0) rfl
 clear h hD okD hst k1 k2
 go_enter Tryz.func45,Tryz.ntmps45
 go_wp2_with fail
 refine H.out.mono ?_
 rintro e w1 ⟨rfl,hq⟩
 have G:=Lib.hid hq
 clear hq
 go_wp2_with fail
 go_ret
 exact⟨rfl,G.out⟩
section
variable {w:World} {O:Tgm} {p d rg lg r:Nat} {T:PgP} {D:DvS} {S:RsS} {m:Mp}
set_option maxRecDepth 100000 in
theorem finish_one {all al1 al2:List Sl} {R:RgL} {T1 T2:PgP} {D1 D2 D3:DvS} {S3:RsS} (h:PgM w O p d rg lg T) (hR:RsM w O r d S) (hD:DvM w O d D) (hL:LgM w O lg all) (hG:RgM w O rg R) (hf:T.fa=false) (hc:m.cm≠0) (h0:T.cm=m.cm) (hfl:T.fl=false) (hs:S.res=m.cm) (hr:rightB m=true) (hm:m.Ok)
 (okD:D.Ok) (hst:D.st≤900000000) (hws:D.ws.length≤90000) (hall:all.length≤90000) (hpu:PuOk D.n T) (hnu:T.pu.length≤5000) (pq1:flushP R T D all=(0,T1,D1,al1))
 (okD1:D1.Ok) (hst1:D1.st≤900000000) (hws1:D1.ws.length≤90000) (hal1:al1.length≤100000) (pq2:metaP R T1 D1 al1 m=(0,T2,D2,al2)) (okD2:D2.Ok) (hst2:D2.st≤1000000000) (pq3:advanceP S D2 m.cm=(0,S3,D3)) (f2:T2.fa=false) (o2:T2.cm=0∨T2.fl=true) (w2':T2.wa=[]):
 Calls Tryz.prog 14 #[.pointer (some ⟨p,0,none⟩),.pointer (some ⟨r,0,none⟩),.agg #[.int .u64 (m.cm:Int),.int .u32 (m.pg:Int),.int .u64 (m.rc:Int),.int .u16 (m.rg:Int),.int .u8 (m.lv:Int),.int .u16 (m.gn:Int),.int .u32 (m.tn:Int)]] w fun e w'=>∃O',e = .returned (.int .i64 0)∧PgM w' O' p d rg lg { T2 with cm:=0 }∧RsM w' O' r d S3∧DvM w' O' d D3∧LgM w' O' lg al2∧Wr (fun τ=>τ=(0,1)∨τ=(0,2)∨τ=(0,4)∨τ=(p,1)) w O w' O':=by
 have hpos:0<p:=by obtain⟨b,hN,_⟩:=h;exact hN.pos
 have e1:(w.alloc (.cells #[.pointer (some ⟨p,0,none⟩)] 35)).heap.size=w.heap.size+1:=by simp
 have e2:((w.alloc (.cells #[.pointer (some ⟨p,0,none⟩)] 35)).alloc (.cells #[.pointer (some ⟨r,0,none⟩)] 29)).heap.size=w.heap.size+1+1:=by simp
 have k0:=CbB.new w 35 #[.pointer (some ⟨p,0,none⟩)]
 have k1:=CbB.new (w.alloc (.cells #[.pointer (some ⟨p,0,none⟩)] 35)) 29 #[.pointer (some ⟨r,0,none⟩)]
 have k2:=CbB.new ((w.alloc (.cells #[.pointer (some ⟨p,0,none⟩)] 35)).alloc (.cells #[.pointer (some ⟨r,0,none⟩)] 29)) 56 #[.int .u64 (m.cm:Int),.int .u32 (m.pg:Int),.int .u64 (m.rc:Int),.int .u16 (m.rg:Int),.int .u8 (m.lv:Int),.int .u16 (m.gn:Int),.int .u32 (m.tn:Int)]
 rw[e1] at k1
 rw[e2] at k2
 have a1:Below w.heap.size w (w.alloc (.cells #[.pointer (some ⟨p,0,none⟩)] 35)):=(Below.refl _ _).alloc (Nat.le_refl _) _
 have a2:Below (w.alloc (.cells #[.pointer (some ⟨p,0,none⟩)] 35)).heap.size (w.alloc (.cells #[.pointer (some ⟨p,0,none⟩)] 35)) ((w.alloc (.cells #[.pointer (some ⟨p,0,none⟩)] 35)).alloc (.cells #[.pointer (some ⟨r,0,none⟩)] 29)):=(Below.refl _ _).alloc (Nat.le_refl _) _
 have a3:Below ((w.alloc (.cells #[.pointer (some ⟨p,0,none⟩)] 35)).alloc (.cells #[.pointer (some ⟨r,0,none⟩)] 29)).heap.size ((w.alloc (.cells #[.pointer (some ⟨p,0,none⟩)] 35)).alloc (.cells #[.pointer (some ⟨r,0,none⟩)] 29)) (((w.alloc (.cells #[.pointer (some ⟨p,0,none⟩)] 35)).alloc (.cells #[.pointer (some ⟨r,0,none⟩)] 29)).alloc (.cells #[.int .u64 (m.cm:Int),.int .u32 (m.pg:Int),.int .u64 (m.rc:Int),.int .u16 (m.rg:Int),.int .u8 (m.lv:Int),.int .u16 (m.gn:Int),.int .u32 (m.tn:Int)] 56)):=(Below.refl _ _).alloc (Nat.le_refl _) _
 have b0:=below_tr (below_tr a1 a2 a1.size) a3 (below_tr a1 a2 a1.size).size
 have k0:=(k0.ab a2).ab a3
 have k1:=k1.ab a3
 obtain⟨w0,hw0⟩:∃w0,(((w.alloc (.cells #[.pointer (some ⟨p,0,none⟩)] 35)).alloc (.cells #[.pointer (some ⟨r,0,none⟩)] 29)).alloc (.cells #[.int .u64 (m.cm:Int),.int .u32 (m.pg:Int),.int .u64 (m.rc:Int),.int .u16 (m.rg:Int),.int .u8 (m.lv:Int),.int .u16 (m.gn:Int),.int .u32 (m.tn:Int)] 56))=w0:=⟨_,rfl⟩
 rw[hw0] at b0 k0 k1 k2
 have s0:Wr (fun _=>False) w O w0 (cutO O w.heap.size):=Wr.cut b0 _
 have t0:∀k,w.heap.size≤k→cutO O w.heap.size k=(0,0):=fun k hk=>cutO_at hk
 obtain⟨O0,hO0⟩:∃O0,cutO O w.heap.size=O0:=⟨_,rfl⟩
 rw[hO0] at s0 t0
 have H0:=Lib.hid (h.wr s0 (fun _=>id) id)
 have R0:=Lib.hid (hR.wr s0 id)
 have V0:=Lib.hid (hD.wr s0 id)
 have L0:=Lib.hid (hL.wr s0 id)
 have G0:=Lib.hid (hG.wr s0 id id)
 have K0:=Lib.hid (And.intro k0 (And.intro k1 k2))
 have T0:=Lib.hid t0
 have S0:=Lib.hid s0
 have HW0:=Lib.hid hw0
 have HP:=Lib.hid hpos
 have CM:Hid (Calls Tryz.prog 34 #[.pointer (some ⟨p,0,none⟩),.pointer (some ⟨r,0,none⟩)] w0 fun e w'=>e = .returned (.int .i64 0)∧w0=w'):=Lib.hid (by
  have:=cmay_any (r:=r) H0.out
  rw[hf] at this
  exact this)
 have CC:Hid (Calls Tryz.prog 35 #[.pointer (some ⟨p,0,none⟩)] w0 fun e w'=>e = .returned (.tuple #[.int .u64 (m.cm:Int),.bool false])∧Below w0.heap.size w0 w'):=Lib.hid (by
  obtain⟨b,hN,_⟩:=H0.out
  have h1:=commit_any hN.box
  rw[show (pcS b T).cm=m.cm from h0,show (pcS b T).fl=false from hfl,Bool.and_false] at h1
  exact h1)
 have z1:((m.cm:Int)==0)=false:=by simp;omega
 have z2:¬(m.cm:Int)=0:=by omega
 have HS:=Lib.hid hs
 have RE:Hid (rightE m=0):=Lib.hid (by unfold rightE;rw[hr];rfl)
 have HM:=Lib.hid hm
 have q0:w0.cell? ⟨w.heap.size,0,none⟩=some (.pointer (some ⟨p,0,none⟩)):=k0.cell (k:=0) rfl
 have q1:w0.cell? ⟨w.heap.size+1,0,none⟩=some (.pointer (some ⟨r,0,none⟩)):=k1.cell (k:=0) rfl
 have A1:=Lib.hid (And.intro okD (And.intro hst (And.intro hws (And.intro hall (And.intro hpu hnu)))))
 have A2:=Lib.hid (And.intro okD1 (And.intro hst1 (And.intro hws1 hal1)))
 have A3:=Lib.hid (And.intro okD2 hst2)
 have A4:=Lib.hid (And.intro f2 (And.intro o2 w2'))
 have Q1:=Lib.hid pq1
 have Q2:=Lib.hid pq2
 have Q3:=Lib.hid pq3
 have AF:=Lib.hid (And.intro hf (And.intro (show T.cm≠0 by omega) hfl))
 clear e1 e2 k0 k1 k2 a1 a2 a3 b0 s0 t0 hO0 h hR hD hL hG hf hc h0 hfl hs hr hm hw0 hpos okD hst hws hall hpu hnu pq1 okD1 hst1 hws1 hal1 pq2 okD2 hst2 pq3 f2 o2 w2'
 go_enter Tryz.func14,Tryz.ntmps14
 go_upto_region 1 with (fail)
 rw[HW0.out]
 clear HW0
 go_wp2_with fail
 refine CM.out.mono ?_
 rintro e w1 ⟨rfl,rfl⟩
 go_wp2_with fail
 refine CC.out.mono ?_
 rintro e w1 ⟨rfl,hb⟩
 have s1:Wr (fun _=>False) w0 O0 w1 (cutO O0 w0.heap.size):=Wr.cut hb _
 have t1:∀k,w.heap.size≤k→cutO O0 w0.heap.size k=(0,0):=fun k hk=>by
  rcases Nat.lt_or_ge k w0.heap.size with h | h
  · rw[cutO_old h];exact T0.out k hk
  · exact cutO_at h
 obtain⟨O1,hO1⟩:∃O1,cutO O0 w0.heap.size=O1:=⟨_,rfl⟩
 rw[hO1] at s1 t1
 have H1:=Lib.hid (H0.out.wr s1 (fun _=>id) id)
 have R1:=Lib.hid (R0.out.wr s1 id)
 have V1:=Lib.hid (V0.out.wr s1 id)
 have L1:=Lib.hid (L0.out.wr s1 id)
 have G1:=Lib.hid (G0.out.wr s1 id id)
 have K1:=Lib.hid (And.intro (K0.out.1.ab hb) (And.intro (K0.out.2.1.ab hb) (K0.out.2.2.ab hb)))
 have T1':=Lib.hid t1
 have S1:=Lib.hid (S0.out.tr s1)
 have q0:w1.cell? ⟨w.heap.size,0,none⟩=some (.pointer (some ⟨p,0,none⟩)):=K1.out.1.cell (k:=0) rfl
 have q1:w1.cell? ⟨w.heap.size+1,0,none⟩=some (.pointer (some ⟨r,0,none⟩)):=K1.out.2.1.cell (k:=0) rfl
 have m0:w1.cell? ⟨w.heap.size+1+1,0,none⟩=some (.int .u64 (m.cm:Int)):=K1.out.2.2.cell (k:=0) rfl
 clear hb s1 t1 hO1 CM CC H0 R0 V0 L0 G0 K0 T0 S0
 go_wp2_with fail
 refine (reservedM R1.out).mono ?_
 rw[HS.out]
 rintro e w2 ⟨rfl,rfl⟩
 have m1:w1.cell? ⟨w.heap.size+1+1,1,none⟩=some (.int .u32 (m.pg:Int)):=K1.out.2.2.cell (k:=1) rfl
 have m2:w1.cell? ⟨w.heap.size+1+1,2,none⟩=some (.int .u64 (m.rc:Int)):=K1.out.2.2.cell (k:=2) rfl
 have m3:w1.cell? ⟨w.heap.size+1+1,3,none⟩=some (.int .u16 (m.rg:Int)):=K1.out.2.2.cell (k:=3) rfl
 have m4:w1.cell? ⟨w.heap.size+1+1,4,none⟩=some (.int .u8 (m.lv:Int)):=K1.out.2.2.cell (k:=4) rfl
 have m5:w1.cell? ⟨w.heap.size+1+1,5,none⟩=some (.int .u16 (m.gn:Int)):=K1.out.2.2.cell (k:=5) rfl
 have m6:w1.cell? ⟨w.heap.size+1+1,6,none⟩=some (.int .u32 (m.tn:Int)):=K1.out.2.2.cell (k:=6) rfl
 go_wp2_with fail
 refine (right_any m w1).mono ?_
 rw[RE.out]
 rintro e w2 ⟨rfl,hb⟩
 have s2:Wr (fun _=>False) w1 O1 w2 (cutO O1 w1.heap.size):=Wr.cut hb _
 have t2:∀k,w.heap.size≤k→cutO O1 w1.heap.size k=(0,0):=fun k hk=>by
  rcases Nat.lt_or_ge k w1.heap.size with h | h
  · rw[cutO_old h];exact T1'.out k hk
  · exact cutO_at h
 obtain⟨O2,hO2⟩:∃O2,cutO O1 w1.heap.size=O2:=⟨_,rfl⟩
 rw[hO2] at s2 t2
 have H2:=Lib.hid (H1.out.wr s2 (fun _=>id) id)
 have R2:=Lib.hid (R1.out.wr s2 id)
 have V2:=Lib.hid (V1.out.wr s2 id)
 have L2:=Lib.hid (L1.out.wr s2 id)
 have G2:=Lib.hid (G1.out.wr s2 id id)
 have K2:=Lib.hid (And.intro (K1.out.1.ab hb) (And.intro (K1.out.2.1.ab hb) (K1.out.2.2.ab hb)))
 have T2':=Lib.hid t2
 have S2:=Lib.hid (S1.out.tr s2)
 have q0:w2.cell? ⟨w.heap.size,0,none⟩=some (.pointer (some ⟨p,0,none⟩)):=K2.out.1.cell (k:=0) rfl
 clear hb s2 t2 hO2 H1 R1 V1 L1 G1 K1 T1' S1 m0 m1 m2 m3 m4 m5 m6 z1 z2
 go_upto_region 8 with (fail)
 have fb0:=CbB.new w2 118 #[.func (Fn.func 42) #[.pointer (some ⟨p,0,none⟩)] #[],.func (Fn.func 43) #[] #[.pointer (some ⟨w.heap.size,0,none⟩),.pointer (some ⟨w.heap.size+1+1,0,none⟩)],.func (Fn.func 45) #[] #[.pointer (some ⟨w.heap.size+1,0,none⟩),.pointer (some ⟨w.heap.size+1+1,0,none⟩)],.func (Fn.func 47) #[.pointer (some ⟨p,0,none⟩)] #[]]
 have ba:Below w2.heap.size w2 (w2.alloc (.cells #[.func (Fn.func 42) #[.pointer (some ⟨p,0,none⟩)] #[],.func (Fn.func 43) #[] #[.pointer (some ⟨w.heap.size,0,none⟩),.pointer (some ⟨w.heap.size+1+1,0,none⟩)],.func (Fn.func 45) #[] #[.pointer (some ⟨w.heap.size+1,0,none⟩),.pointer (some ⟨w.heap.size+1+1,0,none⟩)],.func (Fn.func 47) #[.pointer (some ⟨p,0,none⟩)] #[]] 118)):=(Below.refl _ _).alloc (Nat.le_refl _) _
 obtain⟨w3,hw3⟩:∃w3,w2.alloc (.cells #[.func (Fn.func 42) #[.pointer (some ⟨p,0,none⟩)] #[],.func (Fn.func 43) #[] #[.pointer (some ⟨w.heap.size,0,none⟩),.pointer (some ⟨w.heap.size+1+1,0,none⟩)],.func (Fn.func 45) #[] #[.pointer (some ⟨w.heap.size+1,0,none⟩),.pointer (some ⟨w.heap.size+1+1,0,none⟩)],.func (Fn.func 47) #[.pointer (some ⟨p,0,none⟩)] #[]] 118)=w3:=⟨_,rfl⟩
 obtain⟨fb,hfb⟩:∃fb,w2.heap.size=fb:=⟨_,rfl⟩
 rw[hw3] at fb0 ba⊢
 have s3:Wr (fun _=>False) w2 O2 w3 O2:=Wr.of ba _ (fun _ _=>rfl)
 have J0:Hid (FnI w O p d rg lg r w.heap.size (w.heap.size+1) (w.heap.size+1+1) fb m R T D all S w3):=Lib.hid ⟨O2,H2.out.wr s3 (fun _=>id) id,V2.out.wr s3 id,L2.out.wr s3 id,R2.out.wr s3 id,G2.out.wr s3 id id,⟨K2.out.1.ab ba,T2'.out _ (Nat.le_refl _)⟩,⟨K2.out.2.1.ab ba,T2'.out _ (by omega)⟩,⟨K2.out.2.2.ab ba,T2'.out _ (by omega)⟩,⟨by rw[←hfb];exact fb0,T2'.out _ (by rw[←hfb];exact S2.out.size)⟩,(S2.out.tr s3).imp fun _=>False.elim⟩
 rw[hfb]
 clear fb0 ba hw3 hfb s3 H2 R2 V2 L2 G2 K2 T2' S2 q0
 go_wp2_with fail
 go_loopw [56] (fun z wx=>(z = .int .i64 0∧FnI w O p d rg lg r w.heap.size (w.heap.size+1) (w.heap.size+1+1) fb m R T D all S wx)∨(z = .int .i64 1∧FnI w O p d rg lg r w.heap.size (w.heap.size+1) (w.heap.size+1+1) fb m R T1 D1 al1 S wx)∨(z = .int .i64 2∧FnI w O p d rg lg r w.heap.size (w.heap.size+1) (w.heap.size+1+1) fb m R T2 D2 al2 S wx)∨(z = .int .i64 3∧FnI w O p d rg lg r w.heap.size (w.heap.size+1) (w.heap.size+1+1) fb m R T2 D3 al2 S3 wx)∨(z = .int .i64 4∧FnI w O p d rg lg r w.heap.size (w.heap.size+1) (w.heap.size+1+1) fb m R { T2 with cm:=0 } D3 al2 S3 wx)) (fun z _=>4-(intOf z).toNat)
 case atStart=>exact .inl ⟨rfl,J0.out⟩
 case round=>
  rcases hrel with ⟨rfl,hst⟩ | ⟨rfl,hst⟩ | ⟨rfl,hst⟩ | ⟨rfl,hst⟩ | ⟨rfl,hst⟩
  · obtain⟨Ox,g1,g2,g3,g4,g5,k0,k1,k2,k3,gw⟩:=hst
    have cf:wr.cell? ⟨fb,0,none⟩=some (.func (Fn.func 42) #[.pointer (some ⟨p,0,none⟩)] #[]):=k3.1.cell (k:=0) rfl
    have CT:=Lib.hid (flush_any g1 g2 g3 g5 A1.out.1 A1.out.2.1 A1.out.2.2.1 A1.out.2.2.2.1 AF.out.1 AF.out.2 A1.out.2.2.2.2.1 A1.out.2.2.2.2.2)
    rw[Q1.out] at CT
    have HG5:=Lib.hid g5
    have KK:=Lib.hid (And.intro k0 (And.intro k1 (And.intro k2 (And.intro k3 gw))))
    have G1:=Lib.hid g1
    have G2:=Lib.hid g2
    have G3:=Lib.hid g3
    have G4:=Lib.hid g4
    clear g1 g2 g3 g4 g5 k0 k1 k2 k3 gw
    go_wp2_with fail
    refine CT.out.mono ?_
    rintro e w8 ⟨O8,rfl,u1,u2,u3,us⟩
    have g1:=G1.out
    have g2:=G2.out
    have g3:=G3.out
    have g4:=G4.out
    have J:FnI w O p d rg lg r w.heap.size (w.heap.size+1) (w.heap.size+1+1) fb m R T1 D1 al1 S w8:=FnI.step HP.out HG5.out KK.out.1 KK.out.2.1 KK.out.2.2.1 KK.out.2.2.2.1 KK.out.2.2.2.2 (us.imp fun τ h=>h.imp id (.imp id .inr)) u1 u2 u3 (g4.wr us (fun e=>by rcases e with e | e | e <;> first | (cases e;done) | (injection e with e _;have:=HP.out;omega)))
    have JJ:=Lib.hid J
    clear J g1 g2 g3 g4 G1 G2 G3 G4 HG5 KK CT cf us u1 u2 u3
    go_wp2_with fail
    go_roundw
    case rel=>exact .inr (.inl ⟨rfl,JJ.out⟩)
    case measure=>simp[intOf]
  · obtain⟨Ox,g1,g2,g3,g4,g5,k0,k1,k2,k3,gw⟩:=hst
    have cf:wr.cell? ⟨fb,1,none⟩=some (.func (Fn.func 43) #[] #[.pointer (some ⟨w.heap.size,0,none⟩),.pointer (some ⟨w.heap.size+1+1,0,none⟩)]):=k3.1.cell (k:=1) rfl
    have CT:=Lib.hid (fin1 g1 g2 g3 g5 A2.out.1 A2.out.2.1 A2.out.2.2.1 A2.out.2.2.2 HM.out k0.1 k2.1)
    rw[Q2.out] at CT
    have HG5:=Lib.hid g5
    have KK:=Lib.hid (And.intro k0 (And.intro k1 (And.intro k2 (And.intro k3 gw))))
    have G1:=Lib.hid g1
    have G2:=Lib.hid g2
    have G3:=Lib.hid g3
    have G4:=Lib.hid g4
    clear g1 g2 g3 g4 g5 k0 k1 k2 k3 gw
    go_wp2_with fail
    refine CT.out.mono ?_
    rintro e w8 ⟨O8,rfl,u1,u2,u3,us⟩
    have g1:=G1.out
    have g2:=G2.out
    have g3:=G3.out
    have g4:=G4.out
    have J:FnI w O p d rg lg r w.heap.size (w.heap.size+1) (w.heap.size+1+1) fb m R T2 D2 al2 S w8:=FnI.step HP.out HG5.out KK.out.1 KK.out.2.1 KK.out.2.2.1 KK.out.2.2.2.1 KK.out.2.2.2.2 (us.imp fun τ h=>h.imp id (.imp id .inr)) u1 u2 u3 (g4.wr us (fun e=>by rcases e with e | e | e <;> first | (cases e;done) | (injection e with e _;have:=HP.out;omega)))
    have JJ:=Lib.hid J
    clear J g1 g2 g3 g4 G1 G2 G3 G4 HG5 KK CT cf us u1 u2 u3
    go_wp2_with fail
    go_roundw
    case rel=>exact .inr (.inr (.inl ⟨rfl,JJ.out⟩))
    case measure=>simp[intOf]
  · obtain⟨Ox,g1,g2,g3,g4,g5,k0,k1,k2,k3,gw⟩:=hst
    have cf:wr.cell? ⟨fb,2,none⟩=some (.func (Fn.func 45) #[] #[.pointer (some ⟨w.heap.size+1,0,none⟩),.pointer (some ⟨w.heap.size+1+1,0,none⟩)]):=k3.1.cell (k:=2) rfl
    have CT:=Lib.hid (fin2 g4 g2 A3.out.1 A3.out.2 k1.1 k2.1)
    rw[Q3.out] at CT
    have HG5:=Lib.hid g5
    have KK:=Lib.hid (And.intro k0 (And.intro k1 (And.intro k2 (And.intro k3 gw))))
    have G1:=Lib.hid g1
    have G2:=Lib.hid g2
    have G3:=Lib.hid g3
    have G4:=Lib.hid g4
    clear g1 g2 g3 g4 g5 k0 k1 k2 k3 gw
    go_wp2_with fail
    refine CT.out.mono ?_
    rintro e w8 ⟨rfl,u4,u2,us⟩
    have g1:=G1.out
    have g2:=G2.out
    have g3:=G3.out
    have g4:=G4.out
    have J:FnI w O p d rg lg r w.heap.size (w.heap.size+1) (w.heap.size+1+1) fb m R T2 D3 al2 S3 w8:=FnI.step HP.out HG5.out KK.out.1 KK.out.2.1 KK.out.2.2.1 KK.out.2.2.2.1 KK.out.2.2.2.2 (us.imp fun τ h=>h.imp id fun h=>.inr (.inl h)) (g1.wr us (fun i e=>by rcases e with e | e <;> (injection e with e _;have:=HP.out;omega)) (fun e=>by rcases e with e | e <;> cases e)) u2 (g3.wr us (fun e=>by rcases e with e | e <;> cases e)) u4
    have JJ:=Lib.hid J
    clear J g1 g2 g3 g4 G1 G2 G3 G4 HG5 KK CT cf us u4 u2
    go_wp2_with fail
    go_roundw
    case rel=>exact .inr (.inr (.inr (.inl ⟨rfl,JJ.out⟩)))
    case measure=>simp[intOf]
  · obtain⟨Ox,g1,g2,g3,g4,g5,k0,k1,k2,k3,gw⟩:=hst
    have cf:wr.cell? ⟨fb,3,none⟩=some (.func (Fn.func 47) #[.pointer (some ⟨p,0,none⟩)] #[]):=k3.1.cell (k:=3) rfl
    have CT:=Lib.hid (scrub_none g1 A4.out.1 A4.out.2.1 A4.out.2.2)
    have HG5:=Lib.hid g5
    have KK:=Lib.hid (And.intro k0 (And.intro k1 (And.intro k2 (And.intro k3 gw))))
    have G1:=Lib.hid g1
    have G2:=Lib.hid g2
    have G3:=Lib.hid g3
    have G4:=Lib.hid g4
    clear g1 g2 g3 g4 g5 k0 k1 k2 k3 gw
    go_wp2_with fail
    refine CT.out.mono ?_
    rintro e w8 ⟨O8,rfl,u1,us⟩
    have g1:=G1.out
    have g2:=G2.out
    have g3:=G3.out
    have g4:=G4.out
    have J:FnI w O p d rg lg r w.heap.size (w.heap.size+1) (w.heap.size+1+1) fb m R { T2 with cm:=0 } D3 al2 S3 w8:=FnI.step HP.out HG5.out KK.out.1 KK.out.2.1 KK.out.2.2.1 KK.out.2.2.2.1 KK.out.2.2.2.2 (us.imp fun τ h=>.inr (.inr (.inr h))) u1 (g2.wr us (fun e=>by injection e with e _;have:=HP.out;omega)) (g3.wr us (fun e=>by injection e with e _;have:=HP.out;omega)) (g4.wr us (fun e=>by injection e with e _;have:=HP.out;omega))
    have JJ:=Lib.hid J
    clear J g1 g2 g3 g4 G1 G2 G3 G4 HG5 KK CT cf us u1
    go_wp2_with fail
    go_roundw
    case rel=>exact .inr (.inr (.inr (.inr ⟨rfl,JJ.out⟩)))
    case measure=>simp[intOf]
  · have JX:=Lib.hid hst
    clear hst
    go_wp2_with fail
    go_ret
    obtain⟨Ox,g1,g2,g3,g4,g5,k0,k1,k2,k3,gw⟩:=JX.out
    exact⟨Ox,rfl,g1,g4,g2,g3,gw⟩
end
open Go.RowKit Go.ChangeShapes Go.WideShapes
set_option maxRecDepth 100000 in
theorem vopen_upR (d:Nat) (L:List Nat) (w:World) (r lim:Nat) (res:Int) (com Bg g m:Nat) (l:RgL) (h:∀s,com%2=s→∀W,Below w.heap.size w W→Calls Tryz.prog 25 #[.pointer (some ⟨d,0,none⟩),.int .i64 (s:Int)] W fun e w'=>∃g,e = .returned (.tuple #[.slice (some ⟨g,0,none⟩) 256 256,.int .i64 0])∧IsB w' (some ⟨g,0,none⟩) 256 256 (blkL L s)∧Below W.heap.size W w') (hr:RsB w r d lim res com) (hg:RgB w Bg g m l) (hc64:com<18446744073709551616) (hc:0<com):
 Calls Tryz.prog 15 #[.pointer (some ⟨d,0,none⟩),.pointer (some ⟨r,0,none⟩),.pointer (some ⟨g,0,none⟩)] w fun e w'=>e = .returned (opnV (openR l com L))∧Below w.heap.size w w':=by
 have B0:Hid (Below w.heap.size w (w.alloc (.cells #[.int .u64 0,.int .u32 0,.int .u64 0,.int .u16 0,.int .u8 0,.int .u16 0,.int .u32 0] 56))):=Lib.hid ((Below.refl _ _).alloc (Nat.le_refl _) _)
 have Q0:Hid (CbB (w.alloc (.cells #[.int .u64 0,.int .u32 0,.int .u64 0,.int .u16 0,.int .u8 0,.int .u16 0,.int .u32 0] 56)) w.heap.size 56 (mpv mp0)):=Lib.hid (CbB.new _ _ _)
 have HC:=Lib.hid (committedX d r lim res com _ (show RsB _ r d lim res com from CbB.ab (show CbB w r 93 _ from hr) B0.out))
 unfold openR
 obtain⟨s,hs⟩:∃s,com%2=s:=⟨_,rfl⟩
 rw[hs]
 have HR:=Lib.hid (h s hs _ B0.out)
 have HG:=Lib.hid (hg.ab B0.out)
 have HM:=Lib.hid fun A n c W h1 h2=>mOpen_any Bg g m (s:Int) l A n c (blkL L s) W h1 h2
 have hm:(com:Int)%2=(s:Int):=by omega
 have hm0:(0:Int)≤(s:Int):=by omega
 have hm1:(s:Int)<2:=by omega
 have hne:¬(com:Int)=0:=by omega
 have hne2:decide ((com:Int)=0)=false:=by simp;omega
 obtain⟨rr,hrr⟩:∃rr:OpnR,rr=(if (mOpenP l (s:Int) (blkL L s)).err=0∧(mOpenP l (s:Int) (blkL L s)).m.cm=com then ⟨(mOpenP l (s:Int) (blkL L s)).m,0⟩ else ⟨mp0,210⟩):=⟨_,rfl⟩
 rw[←hrr]
 generalize mOpenP l (s:Int) (blkL L s)=D at *
 obtain⟨⟨d0,d1,d2,d3,d4,d5,d6⟩,er⟩:=D
 simp only at hrr
 have HRR:=Lib.hid hrr
 have HV:Hid (opnV ⟨⟨d0,d1,d2,d3,d4,d5,d6⟩,er⟩ = .tuple #[.agg #[.int .u64 (d0:Int),.int .u32 (d1:Int),.int .u64 (d2:Int),.int .u16 (d3:Int),.int .u8 (d4:Int),.int .u16 (d5:Int),.int .u32 (d6:Int)],.int .i64 (er:Int)]):=Lib.hid rfl
 clear h hr hg hc hc64 hs hrr
 go_enter Tryz.func15,Tryz.ntmps15
 go_wp2_with fail
 refine HC.out.mono ?_
 rintro e w1 ⟨rfl,rfl⟩
 clear HC
 go_wp2_with fail
 refine HR.out.mono ?_
 rintro e w1 ⟨gb,rfl,ib,hb⟩
 have G1:=Lib.hid (HG.out.ab hb)
 have Q1:=Lib.hid (Q0.out.ab hb)
 have B1:=Lib.hid (below_tr B0.out hb B0.out.size)
 have IB:=Lib.hid ib
 clear ib hb HG HR B0 Q0
 go_wp2_with fail
 refine (HM.out _ _ _ _ G1.out IB.out).mono ?_
 rw[HV.out]
 rintro e w2 ⟨rfl,hb⟩
 have Q2:=Lib.hid (Q1.out.ab hb)
 have B2:=Lib.hid (below_tr B1.out hb B1.out.size)
 have Z2:Hid (w.heap.size<w2.heap.size):=Lib.hid Q2.out.lt
 clear hb G1 IB HM HV Q1 B1
 have Q3:Hid (CbB (w2.alloc (.cells #[.int .u64 (d0:Int),.int .u32 (d1:Int),.int .u64 (d2:Int),.int .u16 (d3:Int),.int .u8 (d4:Int),.int .u16 (d5:Int),.int .u32 (d6:Int)] 56)) w.heap.size 56 (mpv mp0)):=Lib.hid (Q2.out.ab ((Below.refl _ _).alloc (Nat.le_refl _) _))
 have B3:Hid (Below w.heap.size w (w2.alloc (.cells #[.int .u64 (d0:Int),.int .u32 (d1:Int),.int .u64 (d2:Int),.int .u16 (d3:Int),.int .u8 (d4:Int),.int .u16 (d5:Int),.int .u32 (d6:Int)] 56))):=Lib.hid (B2.out.alloc B2.out.size _)
 by_cases hok:er=0∧d0=com
 · have HRE:Hid (rr=⟨⟨d0,d1,d2,d3,d4,d5,d6⟩,0⟩):=Lib.hid (HRR.out.trans (if_pos hok))
   obtain⟨rfl,rfl⟩:=hok
   clear HRR
   go_wp2_with (first
    | (with_reducible refine wpList_storeC (o:=⟨none,.store _ (.tmp 6) (.tmp 58),_,_,_,_⟩) ?_ 56 (.tmp 6) (.tmp 58) ?_ w.heap.size ?_ (mpv ⟨d0,d1,d2,d3,d4,d5,d6⟩) ?_ (cs:=mpv mp0) (t:=56) Q3.out (szMp _) ?_ (mpv_one _) ?_
       · rfl
       · rfl
       · rfl
       · rfl
       · rfl
       intro w7 hw7
       have Q7:Hid (MpB w7 w.heap.size ⟨d0,d1,d2,d3,d4,d5,d6⟩):=Lib.hid (by rw[hw7];exact CbB.row Q3.out _)
       have B7:Hid (Below w.heap.size w w7):=Lib.hid (by rw[hw7];exact Below.row B3.out (Nat.le_refl _) _)
       clear hw7))
   exact bodyPost_ret (vres_open _ w.heap.size _ ⟨d0,d1,d2,d3,d4,d5,d6⟩ 0 rfl rfl Q7.out) rfl ⟨by rw[HRE.out],B7.out⟩
 · have HRE:Hid (rr=⟨mp0,210⟩):=Lib.hid (HRR.out.trans (if_neg hok))
   have hcs:((er:Int) != 0)=true∨(((er:Int) != 0)=false∧((d0:Int) != (com:Int))=true):=by
    by_cases f1:er=0
    · right
      have:d0≠com:=fun e=>hok ⟨f1,e⟩
      exact⟨by simp[f1],by simp;omega⟩
    · left
      simp[f1]
   clear hok
   rcases hcs with f1 | ⟨f1,f2⟩
   all_goals
    go_wp2_with (first
     | (with_reducible refine wpList_storeC (o:=⟨none,.store _ (.tmp 6) (.tmp 57),_,_,_,_⟩) ?_ 56 (.tmp 6) (.tmp 57) ?_ w.heap.size ?_ (mpv mp0) ?_ (cs:=mpv mp0) (t:=56) Q3.out (szMp _) ?_ (mpv_one _) ?_
        · rfl
        · rfl
        · rfl
        · rfl
        · rfl
        intro w7 hw7
        have Q7:Hid (MpB w7 w.heap.size mp0):=Lib.hid (by rw[hw7];exact CbB.row Q3.out _)
        have B7:Hid (Below w.heap.size w w7):=Lib.hid (by rw[hw7];exact Below.row B3.out (Nat.le_refl _) _)
        clear hw7))
    exact bodyPost_ret (vres_open _ w.heap.size _ mp0 210 rfl rfl Q7.out) rfl ⟨by rw[HRE.out],B7.out⟩
theorem vopenM {w:World} {O:Tgm} {d r g:Nat} {D:DvS} {S:RsS} {R:RgL} (h:DvM w O d D) (ok:D.Ok) (hd:D.down=false) (hr:RsM w O r d S) (hg:RgM w O g R) (hc:0<S.com):
 Calls Tryz.prog 15 #[.pointer (some ⟨d,0,none⟩),.pointer (some ⟨r,0,none⟩),.pointer (some ⟨g,0,none⟩)] w fun e w'=>e = .returned (opnV (openR R S.com D.now))∧Below w.heap.size w w':=by
 obtain⟨g1,g2,wv,h1,_⟩:=h
 obtain⟨m,vs,k1,k2,k3,k4,_⟩:=hg
 have hn:=ok.n8
 exact vopen_upR d D.now w r S.lim S.res S.com 0 g m R (fun s hs W hW=>(read_any s (by omega) hd ok (h1.ab hW)).mono fun e w' ⟨g,e1,_,e2,e3⟩=>⟨g,e1,e2,e3⟩) hr.1 ⟨k1,Nat.zero_le _,⟨vs,k2,k3⟩,k4⟩ (by have:=hr.2.2;unfold RsS.Ok at this;omega) hc
set_option maxRecDepth 100000 in
theorem ringAdd_yesT (B g m t gn kn kc:Nat) (kA:Option Addr) (key:List Nat) (l:RgL) (w:World) (vs:List ((Nat×Nat)×Value)) (h:RgB w B g m l) (h1:MapB whV whOk w m vs) (h2:RgV w B vs l) (ht:t<4294967296) (hg:gn<65536) (ik:IsB w kA kn kc key) (hk:KeyOk key) (hs:getR (t,gn) l=none):
 Calls Tryz.prog 11 #[.pointer (some ⟨g,0,none⟩),.int .u32 (t:Int),.int .u16 (gn:Int),.slice kA kn kc] w fun e w'=>∃q,e = .returned (.int .i64 0)∧w'.heap[g]? = some (.cells #[.map (some m)] 96 (0,0))∧MapB whV whOk w' m (vs++[((t,gn),q)])∧RgV w' B (vs++[((t,gn),q)]) (l++[((t,gn),key)])∧OwB w' w.heap.size q key∧w.grownBy w' (some m):=by
 have lk:=ik.len
 have hk2:=hk
 unfold KeyOk at hk2
 obtain⟨X,rfl,_,_⟩:=ik.cell (by omega)
 have hc:=h.cell
 have hok:whOk (t,gn):=⟨ht,hg⟩
 have HM:=Lib.hid (smay_any (some X) kn kc 1 w)
 have eM:Hid (decide ((kn=16∨kn=32)∧1≤1∧1≤4)=true):=Lib.hid (decide_eq_true ⟨by omega,by decide,by decide⟩)
 have e1:lookL (t,gn) vs=none:=by
  rcases h2.look (t,gn) with ⟨e1,e2⟩ | ⟨v,k,e1,e2,e3⟩
  · exact e1
  · rw[hs] at e2;cases e2
 have hlk:(Instr.lookup 94 (.map (some m)) (.agg #[.int .u32 (t:Int),.int .u16 (gn:Int)]) true).run Tryz.prog w = .ok (.tuple #[.slice none 0 0,.bool false]) w:=h1.look_none wh_K Tryz.underlying94 hok e1 (zero_bytes w) true
 have HR:=Lib.hid h
 have H1:=Lib.hid h1
 have H2:=Lib.hid h2
 have E1:=Lib.hid e1
 have HK:=Lib.hid hk
 have IK:=Lib.hid ik
 have LK:=Lib.hid lk
 have HN:Hid (kn≤32∧0<kn):=Lib.hid (by omega)
 have HO:=Lib.hid hok
 clear h h1 h2 hok ht hg hk hk2 hs e1 ik lk
 go_enter Tryz.func11,Tryz.ntmps11
 go_wp2_with fail
 refine HM.out.mono ?_
 rw[eM.out]
 rintro e w' ⟨rfl,rfl⟩
 go_wp2_with fail
 refine wp_wide3 [⟨28,IsR (.pointer (some ⟨g,0,none⟩)),[],false⟩,⟨29,IsR (.pointer (some ⟨g,0,none⟩)),[0],false⟩,⟨30,IsR (.pointer (some ⟨g,0,none⟩)),[1],false⟩,⟨31,IsR (.map (some m)),[2],false⟩,⟨32,IsR (.int .u32 (t:Int)),[],false⟩,⟨33,IsR (.int .u16 (gn:Int)),[],false⟩,⟨34,IsR (.agg #[.int .u32 (t:Int),.int .u16 (gn:Int)]),[4,5],false⟩,⟨35,EmR,[],false⟩,⟨36,IsR (.slice (some X) kn kc),[],false⟩,⟨37,OwR w.heap.size key,[7,8],false⟩] (by kernel_rfl) (by kernel_rfl) rfl rfl rfl ⟨?_,?_,?_,?_,?_,?_,?_,?_,?_,?_,trivial⟩ ?_
 · refine⟨rfl,IsR.mono _,fun a W hA hb hd=>takes_plain rfl (yields_value _ ?_ rfl)⟩
   have h0:a.tmps[0]?.getD undef = .pointer (some ⟨g,0,none⟩):=(eval_get a 0).trans ((hA.eval (by simp)).trans rfl)
   go_simp
 · refine⟨rfl,IsR.mono _,fun a W hA hb hd=>takes_plain rfl (yields_value _ ?_ rfl)⟩
   have h28:a.tmps[28]?.getD undef = .pointer (some ⟨g,0,none⟩):=(eval_get a 28).trans (hd 0 (by simp) _ rfl)
   go_simp
 · refine⟨rfl,IsR.mono _,fun a W hA hb hd=>takes_plain rfl (yields_value _ ?_ rfl)⟩
   have h29:a.tmps[29]?.getD undef = .pointer (some ⟨g,0,none⟩):=(eval_get a 29).trans (hd 1 (by simp) _ rfl)
   go_simp
 · refine⟨rfl,IsR.mono _,fun a W hA hb hd=>takes_plain rfl (yields_value _ ?_ rfl)⟩
   have h30:a.tmps[30]?.getD undef = .pointer (some ⟨g,0,none⟩):=(eval_get a 30).trans (hd 2 (by simp) _ rfl)
   have hcc:=(HR.out.ab hb).cell
   go_simp
 · refine⟨rfl,IsR.mono _,fun a W hA hb hd=>takes_plain rfl (yields_value _ ?_ rfl)⟩
   have h1:a.tmps[1]?.getD undef = .int .u32 (t:Int):=(eval_get a 1).trans ((hA.eval (by simp)).trans rfl)
   go_simp
 · refine⟨rfl,IsR.mono _,fun a W hA hb hd=>takes_plain rfl (yields_value _ ?_ rfl)⟩
   have h2:a.tmps[2]?.getD undef = .int .u16 (gn:Int):=(eval_get a 2).trans ((hA.eval (by simp)).trans rfl)
   go_simp
 · refine⟨rfl,IsR.mono _,fun a W hA hb hd=>takes_plain rfl (yields_value _ ?_ rfl)⟩
   have h32:a.tmps[32]?.getD undef = .int .u32 (t:Int):=(eval_get a 32).trans (hd 4 (by simp) _ rfl)
   have h33:a.tmps[33]?.getD undef = .int .u16 (gn:Int):=(eval_get a 33).trans (hd 5 (by simp) _ rfl)
   go_simp
 · refine⟨rfl,EmR.mono,fun a W hA hb hd=>takes_plain rfl ?_⟩
   exact yields_empty rfl
 · refine⟨rfl,IsR.mono _,fun a W hA hb hd=>takes_plain rfl (yields_value _ ?_ rfl)⟩
   have h3:a.tmps[3]?.getD undef = .slice (some X) kn kc:=(eval_get a 3).trans ((hA.eval (by simp)).trans rfl)
   go_simp
 · refine⟨rfl,OwR.mono _ _,fun a W hA hb hd=>takes_plain rfl ?_⟩
   obtain⟨Y,he⟩:=hd 7 (by simp) _ rfl
   have hs:a.eval (.tmp 35) = .slice (some Y) 0 0:=he
   have hx:a.eval (.tmp 36) = .slice (some X) kn kc:=hd 8 (by simp) _ rfl
   exact yields_appG (.tmp 35) (.tmp 36) rfl (isB_empty W Y) hs (IK.out.ab hb) hx (by have:=HN.out.2;omega) (by have:=HN.out.1;omega) fun v1 W1 h1 h2=>by
    rw[List.nil_append] at h1
    exact OwB.lower h1 hb.size
 intro vs9 w9 hR hF hb
 have K9:Hid (OwB w9 w.heap.size (vs9 37) key):=Lib.hid (hR 9 _ rfl)
 have e28:vs9 28 = .pointer (some ⟨g,0,none⟩):=hR 0 _ rfl
 have e29:vs9 29 = .pointer (some ⟨g,0,none⟩):=hR 1 _ rfl
 have e30:vs9 30 = .pointer (some ⟨g,0,none⟩):=hR 2 _ rfl
 have e31:vs9 31 = .map (some m):=hR 3 _ rfl
 have e32:vs9 32 = .int .u32 (t:Int):=hR 4 _ rfl
 have e33:vs9 33 = .int .u16 (gn:Int):=hR 5 _ rfl
 have e34:vs9 34 = .agg #[.int .u32 (t:Int),.int .u16 (gn:Int)]:=hR 6 _ rfl
 have e36:vs9 36 = .slice (some X) kn kc:=hR 8 _ rfl
 simp only[List.map_cons,List.map_nil,List.foldl_cons,List.foldl_nil,List.length_cons,List.length_nil,List.drop_succ_cons,List.drop_zero,Act.put,List.setIfInBounds_toArray,List.set_cons_zero,List.set_cons_succ,e28,e29,e30,e31,e32,e33,e34,e36]
 have B9:=Lib.hid hb
 clear hR hF hb e28 e29 e30 e31 e32 e33 e34 e36
 generalize vs9 35=q35 at *
 generalize vs9 37=q37 at *
 go_wp2_with (refine wpList_mapPut rfl (.tmp 31) (.tmp 34) (.tmp 37) rfl wh_K Tryz.underlying94 rfl (H1.out.ab B9.out) (t,gn) HO.out rfl q37 rfl ?_
              intro w10 h10 hg10 hz10 hb10
              have M10:=Lib.hid h10
              have G10:=Lib.hid hg10
              clear h10 hg10 hz10 hb10)
 go_ret
 have hB:B≤w.heap.size:=Nat.le_of_lt (Nat.lt_of_le_of_lt HR.out.low HR.out.mlt)
 have R9:=HR.out.ab B9.out
 have hne:g≠m:=fun e=>by
  subst e
  obtain⟨es,c,q,_⟩:=H1.out
  rw[HR.out.box] at q
  cases q
 have hput:putL (t,gn) q37 vs=vs++[((t,gn),q37)]:=by simp[putL,E1.out]
 have M9:=H1.out.ab B9.out
 have hgr:w.grownBy w10 (some m):=by
  have hb:=B9.out
  exact⟨G10.out.os.trans hb.os,G10.out.tape.trans hb.tape,G10.out.output.trans hb.output,Nat.le_trans hb.size G10.out.size,fun i hi hne=>(G10.out.block i (Nat.lt_of_lt_of_le hi hb.size) hne).trans (hb.block i hi)⟩
 have hkk:=K9.out.grown G10.out (notMap K9.out M9)
 have hm10:=M10.out
 rw[hput] at hm10
 refine⟨q37,rfl,(G10.out.block g R9.lt (by simp[hne])).trans R9.box,hm10,?_,hkk,hgr⟩
 have hvs:RgV w10 B vs l:=(H2.out.ab B9.out).imp fun v k hv=>hv.grown G10.out (notMap hv M9)
 exact RgV.snoc ((K9.out.lower hB).grown G10.out (notMap K9.out M9)) hvs
theorem ringAddM {w:World} {O:Tgm} {g t gn kn kc:Nat} {kA:Option Addr} {key:List Nat} {l:RgL} (h:RgM w O g l) (ht:t<4294967296) (hg:gn<65536) (ik:IsB w kA kn kc key):
 Calls Tryz.prog 11 #[.pointer (some ⟨g,0,none⟩),.int .u32 (t:Int),.int .u16 (gn:Int),.slice kA kn kc] w fun e w'=>∃O',e = .returned (.int .i64 ((addP (t,gn) key l).1:Int))∧RgM w' O' g (addP (t,gn) key l).2∧Wr (fun τ=>τ=(0,3)) w O w' O':=by
 have H:=h
 obtain⟨m,vs,h1,h2,h3,h4,t1,t2,t3⟩:=h
 have hb:RgB w 0 g m l:=⟨h1,Nat.zero_le _,⟨vs,h2,h3⟩,h4⟩
 have lk:=ik.len
 have no:∀(err:Nat),((err=2∧¬(kn=16∨kn=32))∨(err=8∧(kn=16∨kn=32)∧(getR (t,gn) l).isSome=true))→Calls Tryz.prog 11 #[.pointer (some ⟨g,0,none⟩),.int .u32 (t:Int),.int .u16 (gn:Int),.slice kA kn kc] w fun e w'=>∃O',e = .returned (.int .i64 (err:Int))∧RgM w' O' g l∧Wr (fun τ=>τ=(0,3)) w O w' O':=fun err he=>
  (ringAdd_no 0 g m t gn kn kc err kA l w hb ht hg he).mono fun e w' ⟨e1,e2⟩=>⟨_,e1,H.wr (Wr.cut e2 (fun _=>False)) id id,Wr.cut e2 _⟩
 unfold addP
 by_cases hk:key.length=16∨key.length=32
 · rw[if_pos hk]
   cases hs:getR (t,gn) l with
   | some k=>
     rw[Option.isSome_some,if_pos rfl]
     exact no 8 (.inr ⟨rfl,by omega,by rw[hs];rfl⟩)
   | none=>
     rw[Option.isSome_none,if_neg Bool.false_ne_true]
     refine (ringAdd_yesT 0 g m t gn kn kc kA key l w vs hb h2 h3 ht hg ik hk hs).mono ?_
     rintro e w' ⟨q,rfl,k1,k2,k3,k4,k5⟩
     have lg:g<w.heap.size:=lt_of_block h1
     refine⟨cutO O w.heap.size,rfl,⟨m,_,k1,k2,k3,fun p hp=>?_,(cutO_old lg).trans t1,(cutO_old h2.lt).trans t2,fun p hp k hk2=>?_⟩,(Wr.mk' (Fr.grown k5) (fun k hk=>by injection hk with hk;subst hk;exact t2) (fun k hk=>cutO_old hk))⟩
     · rcases List.mem_append.1 hp with hp | hp
       · exact h4 p hp
       · rw[List.mem_singleton] at hp
         subst hp
         exact hk
     · rcases List.mem_append.1 hp with hp | hp
       · obtain⟨k',hk'⟩:=h3.mem p hp
         exact (cutO_old (row_ltD hk'.own k hk2)).trans (t3 p hp k hk2)
       · rw[List.mem_singleton] at hp
         subst hp
         exact cutO_at (own_ge9 k4.own k hk2)
 · rw[if_neg hk]
   exact no 2 (.inl ⟨rfl,by omega⟩)
def stX (w:World) (N m x:Nat) (τ:Nat×Nat):Tgm:=fun k=>if k=x then τ else stO w N m k
theorem stX_x {w:World} {N m x:Nat} {τ:Nat×Nat}:stX w N m x τ x=τ:=if_pos rfl
theorem stX_c {w:World} {N m x k:Nat} {τ fr:Nat×Nat} {T T':TypeId} {cs cs':Array Value} (hx:CbB w x T cs) (hN:N≤k) (h:w.heap[k]? = some (.cells cs' T' fr)) (hT:T≠T'):stX w N m x τ k=(if T'=91∨T'=122∨T'=141 then (0,1) else if T'=106∨T'=184 then (0,2) else if T'=96 then (0,3) else (0,0)):=by
 unfold stX
 rw[if_neg,stO_c hN h]
 intro e
 subst e
 unfold CbB at hx
 rw[h] at hx
 injection hx with hx
 injection hx with _ hx
 exact hT hx.symm
theorem stX_low {w:World} {N m x k:Nat} {τ:Nat×Nat} (hx:N≤x) (h:k<N):stX w N m x τ k=(0,9):=by unfold stX;rw[if_neg (by omega),stO_low h]
theorem stageX {w:World} {d g1 g2 rg m lg N x:Nat} {wv:Value} {D:DvS} {R:RgL} {all:List Sl} {T:TypeId} {cs:Array Value} {τ:Nat×Nat} (hd:DsB w N d g1 g2 wv D) (hr:RgB w N rg m R) (hrg:N≤rg) (hl:LgB w N lg all) (hlg:N≤lg) (hx:CbB w x T cs) (hT:T≠91∧T≠122∧T≠141∧T≠106∧T≠184∧T≠96∧T≠5):DvM w (stX w N m x τ) d D∧RgM w (stX w N m x τ) rg R∧LgM w (stX w N m x τ) lg all:=by
 obtain⟨q1,q2,q3,q4,q5,q6,q7⟩:=hT
 obtain⟨l1,l2,l3⟩:=hd.low
 refine⟨⟨g1,g2,wv,⟨hd.box,hd.now,hd.firm,row_low hd.row (Nat.zero_le _),hd.ne,⟨Nat.zero_le _,Nat.zero_le _,Nat.zero_le _⟩⟩,(stX_c hx l1 hd.box q1).trans (by decide),(stX_c hx l2 hd.now q2).trans (by decide),(stX_c hx l3 hd.firm q2).trans (by decide),fun k hk=>?_⟩,?_,?_⟩
 · obtain⟨cs,fr,h1⟩:=row_ty9 hd.row k hk
   exact (stX_c hx (own_ge9 hd.row k hk) h1 q3).trans (by decide)
 · obtain⟨vs,h1,h2⟩:=hr.map
   refine⟨m,vs,hr.box,h1,h2.low0,hr.ne,(stX_c hx hrg hr.box q6).trans (by decide),?_,fun p hp k hk=>?_⟩
   · have hm:=hr.low
     obtain⟨es,clock,h3,_⟩:=h1
     unfold stX
     rw[if_neg (fun e=>by
      subst e
      unfold CbB at hx
      rw[h3] at hx
      cases hx)]
     unfold stO
     rw[if_neg (by omega),h3]
     exact if_pos rfl
   · obtain⟨k',hk'⟩:=h2.mem p hp
     obtain⟨cs,fr,h3⟩:=row_ty9 hk'.own k hk
     exact (stX_c hx (own_ge9 hk'.own k hk) h3 q7).trans (by decide)
 · obtain⟨h0,v,h1,h2⟩:=hl
   refine⟨v,h1,row_low h2 (Nat.zero_le _),(stX_c hx hlg h1 q4).trans (by decide),fun k hk=>?_⟩
   obtain⟨cs,fr,h3⟩:=row_ty9 h2 k hk
   exact (stX_c hx (own_ge9 h2 k hk) h3 q5).trans (by decide)
def k2D (l f:List Nat) (st:Nat):DvS:=⟨8,l,f,[],st,0,-1,false⟩
theorem k2D_ok {l f:List Nat} {st:Nat} (h1:l.length=2048) (h2:f.length=2048) (b1:Byt l) (b2:Byt f):(k2D l f st).Ok where
 n8:=by show 8≤8;omega
 n4:=by show 8≤4096;omega
 now:=by show l.length=8*256;omega
 firm:=by show f.length=8*256;omega
 bnow:=b1
 bfirm:=b2
 ws:=fun x hx=>by cases hx
 cut:=⟨by show (-1:Int)≤-1;decide,by show (-1:Int)≤1000000000;decide⟩
 fail:=by show 0≤1000000000;decide
theorem k2_step (l f:List Nat) (st:Nat):stepD (k2D l f st)=(0,k2D l f (st+1)):=rfl
theorem k2_sync (l f:List Nat) (st:Nat):syncD (k2D l f st)=(0,k2D l l (st+1)):=rfl
theorem k2_write (l f:List Nat) (st i:Nat) (b:List Nat):writeD (k2D l f st) i b=(0,{ k2D (putD l b i) f (st+1) with ws:=[(i,b)] }):=rfl
theorem k2_sync2 (l f:List Nat) (st:Nat) (ws:List (Nat×List Nat)):syncD { k2D l f st with ws:=ws }=(0,k2D l l (st+1)):=rfl
theorem blkL_at (L:List Nat) (j k:Nat):(blkL L j)[k]? = if k<256 then L[j*256+k]? else none:=by
 unfold blkL
 rw[List.getElem?_take]
 split
 · rw[List.getElem?_drop]
 · rfl
set_option maxRecDepth 20000 in
theorem putD_at {L b:List Nat} {n i:Nat} (hL:L.length=n*256) (hi:i<n) (hb:b.length=256) (m:Nat):(putD L b i)[m]? = if m<i*256 then L[m]? else if m<i*256+256 then b[m-i*256]? else L[m]?:=by
 unfold putD
 have h1:(L.take (i*256)).length=i*256:=by rw[List.length_take];omega
 by_cases h:m<i*256
 · rw[if_pos h,List.getElem?_append_left (by omega),List.getElem?_take,if_pos h]
 · rw[if_neg h,List.getElem?_append_right (by omega),h1]
   by_cases h2:m<i*256+256
   · rw[if_pos h2,List.getElem?_append_left (by omega)]
   · rw[if_neg h2,List.getElem?_append_right (by omega),List.getElem?_drop,hb,show i*256+256+(m-i*256-256)=m from by omega]
set_option maxRecDepth 20000 in
theorem blkL_putN {L b:List Nat} {n i:Nat} (hL:L.length=n*256) (hi:i<n) (hb:b.length=256) (j:Nat):blkL (putD L b i) j=if j=i then b else blkL L j:=by
 apply List.ext_getElem?
 intro k
 rw[blkL_at,putD_at hL hi hb]
 by_cases hj:j=i
 · subst hj
   rw[if_pos rfl]
   by_cases hk:k<256
   · have h8:¬j*256+k<j*256:=by omega
     have h9:j*256+k<j*256+256:=by omega
     rw[if_pos hk,if_neg h8,if_pos h9,show j*256+k-j*256=k from by omega]
   · have h9:b.length≤k:=by omega
     rw[if_neg hk]
     exact (List.getElem?_eq_none h9).symm
 · rw[if_neg hj,blkL_at]
   by_cases hk:k<256
   · rw[if_pos hk,if_pos hk]
     by_cases h1:j*256+k<i*256
     · rw[if_pos h1]
     · have h9:¬j*256+k<i*256+256:=by omega
       rw[if_neg h1,if_neg h9]
   · rw[if_neg hk,if_neg hk]
theorem zero_blkV {i n:Nat} (hi:i<n):blkL (zeros (n*256)) i=zeros 256:=by
 unfold blkL zeros
 rw[List.drop_replicate,List.take_replicate,Nat.min_eq_left (by omega)]
section
variable (key:List Nat) (ts:List Nat)
def rR:RgL:=[((0,9),key)]
def rM (i:Nat):Mp:=⟨i,0,0,0,0,9,ts.getD (i-1) 0⟩
def rB (i:Nat):List Nat:=(mSealP (rR key) (rM ts i)).1
def rI:Nat→List Nat
 | 0=>zeros 2048
 | i+1=>putD (rI i) (rB key ts (i+1)) ((i+1)%2)
def rT:Nat→PgP
 | 0=>newT [(2,8)]
 | i+1=>{ beginT (rT i) (i+1) with fl:=true,fa:=false,cm:=0 }
def rD (i:Nat):DvS:=k2D (rI key ts i) (rI key ts i) (5*i)
def rS (i:Nat):RsS:=⟨1099511627776,i,i⟩
def rL:Nat→List Sl
 | 0=>[]
 | i+1=>rL i++lgM (rR key) (rM ts (i+1))
end
section
variable {key:List Nat} {ts:List Nat} {i:Nat}
theorem rM_ok (hi:i≤1000) (ht:∀t∈ts,t<4294967296):(rM ts i).Ok:=by
 refine⟨by show i<_;omega,by show 0<4294967296;decide,by show 0<18446744073709551616;decide,by show 0<65536;decide,by show 0<256;decide,by show 9<65536;decide,?_⟩
 show ts.getD (i-1) 0<4294967296
 rw[List.getD_eq_getElem?_getD]
 cases h:ts[i-1]? with
 | none=>show 0<4294967296;decide
 | some t=>exact ht t (List.mem_of_getElem? h)
theorem rM_right (hi:0<i):rightB (rM ts i)=true:=by
 have h:decide (i=0)=false:=decide_eq_false (by omega)
 unfold rightB rM noRefB
 simp
 omega
theorem rB_seal (hk:KeyOk key) (hi:0<i):mSealP (rR key) (rM ts i)=(rB key ts i,0):=by
 have h:(mSealP (rR key) (rM ts i)).2=0:=by
  unfold mSealP
  rw[rM_right hi,show getR (0,(rM ts i).gn) (rR key)=some key from rfl]
  simp only[cond_true]
  rw[sealM hk]
 unfold rB
 rw[←h]
theorem rB_len (hk:KeyOk key) (hi:0<i):(rB key ts i).length=256:=by
 unfold rB mSealP
 rw[rM_right hi,show getR (0,(rM ts i).gn) (rR key)=some key from rfl]
 simp only[cond_true]
 exact (seal_ok9 hk (by show 1≤4;decide) (by show 4≤4;decide) (mbytes_len _)).2
theorem rB_byt (hk:KeyOk key) (hb:Byt key) (hi:0<i) (hi9:i≤1000) (ht:∀t∈ts,t<4294967296):Byt (rB key ts i):=by
 unfold rB mSealP
 rw[rM_right hi,show getR (0,(rM ts i).gn) (rR key)=some key from rfl]
 simp only[cond_true]
 refine sealP_byt hb ?_ (labM_ok (rM_ok hi9 ht))
 unfold mbytes
 exact byt_app (flatN_byt _) (byt_zeros _)
theorem rI_len (hk:KeyOk key):∀i,(rI key ts i).length=2048
 | 0=>zeros_len _
 | i+1=>putD_len (rI_len hk i) (by omega) (by rw[rB_len hk (by omega)];decide)
theorem rI_byt (hk:KeyOk key) (hb:Byt key) (ht:∀t∈ts,t<4294967296):∀i,i≤1000→Byt (rI key ts i)
 | 0,_=>byt_zeros _
 | i+1,h=>putD_byt (rI_byt hk hb ht i (by omega)) (rB_byt hk hb (by omega) h ht)
theorem rD_ok (hk:KeyOk key) (hb:Byt key) (ht:∀t∈ts,t<4294967296) (h:i≤1000) (st:Nat):(k2D (rI key ts i) (rI key ts i) st).Ok:=k2D_ok (rI_len hk i) (rI_len hk i) (rI_byt hk hb ht i h) (rI_byt hk hb ht i h)
theorem rT_facts:∀i,(rT i).fa=false∧(rT i).cm=0∧(rT i).la=i∧(rT i).wa=[]∧(rT i).kn=[]
 | 0=>⟨rfl,rfl,rfl,rfl,rfl⟩
 | i+1=>⟨rfl,rfl,rfl,(rT_facts i).2.2.2.1,(rT_facts i).2.2.2.2⟩
theorem r_res (h:i<1000) (l f:List Nat) (st:Nat):reserveP (rS i) (k2D l f st)=(i+1,0,⟨1099511627776,i+1,i⟩,k2D l f (st+1)):=by
 unfold reserveP
 rw[if_neg (by show ¬1099511627776≤i;omega),k2_step]
 rfl
theorem r_adv (l f:List Nat) (st:Nat):advanceP ⟨1099511627776,i+1,i⟩ (k2D l f st) (i+1)=(0,rS (i+1),k2D l f (st+1)):=by
 unfold advanceP
 rw[if_neg (by simp),k2_step]
 rfl
theorem r_flush (R:RgL) (l f:List Nat) (st:Nat) (al:List Sl):flushP R (beginT (rT i) (i+1)) (k2D l f st) al=(0,{ beginT (rT i) (i+1) with fl:=true,fa:=false },k2D l l (st+1),al):=by
 have h1:U32.srt ((beginT (rT i) (i+1)).pu.map (·.1))=[]:=by simp[U32.srt,beginT]
 unfold flushP
 rw[h1]
 unfold flushF
 simp only
 rw[k2_sync]
 rfl
theorem r_meta (hk:KeyOk key) (l:List Nat) (st:Nat) (al:List Sl):metaP (rR key) { beginT (rT i) (i+1) with fl:=true,fa:=false } (k2D l l st) al (rM ts (i+1))=(0,{ beginT (rT i) (i+1) with fl:=true,fa:=false },k2D (putD l (rB key ts (i+1)) ((i+1)%2)) (putD l (rB key ts (i+1)) ((i+1)%2)) (st+2),al++lgM (rR key) (rM ts (i+1))):=by
 unfold metaP
 rw[if_neg (show ¬(false=true) from by decide),if_neg (by show ¬(i+1=0∨true=false∨i+1≠i+1);simp),rB_seal hk (by omega),if_neg (by simp),show (rM ts (i+1)).cm%2=(i+1)%2 from rfl,k2_write]
 simp only
 rw[k2_sync2]
 rfl
theorem rL_len:∀i,(rL key ts i).length≤i
 | 0=>Nat.le_refl _
 | i+1=>by
   have h1:=rL_len i
   have h2:(lgM (rR key) (rM ts (i+1))).length≤1:=by unfold lgM;split <;> simp
   show (rL key ts i++lgM (rR key) (rM ts (i+1))).length≤i+1
   rw[List.length_append]
   omega
theorem rI_blk (hk:KeyOk key):∀(i s:Nat),s<2→blkL (rI key ts i) s=zeros 256∨∃k,0<k∧k≤i∧k%2=s∧blkL (rI key ts i) s=rB key ts k
 | 0,s,hs=>.inl (zero_blkV (n:=8) (by omega))
 | i + 1,s,hs=>by
   have h1:=blkL_putN (n:=8) (rI_len (ts:=ts) hk i) (i:=(i+1)%2) (by omega) (rB_len (ts:=ts) hk (show 0<i+1 by omega)) s
   by_cases he:s=(i+1)%2
   · rw[if_pos he] at h1
     exact .inr ⟨i+1,by omega,Nat.le_refl _,he.symm,h1⟩
   · rw[if_neg he] at h1
     rcases rI_blk hk i s hs with h2 | ⟨k,k1,k2,k3,k4⟩
     · exact .inl (h1.trans h2)
     · exact .inr ⟨k,k1,by omega,k3,h1.trans k4⟩
theorem rI_now (hk:KeyOk key):blkL (rI key ts (i+1)) ((i+1)%2)=rB key ts (i+1):=by
 have h1:=blkL_putN (n:=8) (rI_len (ts:=ts) hk i) (i:=(i+1)%2) (by omega) (rB_len (ts:=ts) hk (show 0<i+1 by omega)) ((i+1)%2)
 rw[if_pos rfl] at h1
 exact h1
theorem r_open (hk:KeyOk key) (ht:∀t∈ts,t<4294967296) {k s:Nat} (h0:0<k) (h9:k≤1000) (hs:k%2=s):mOpenP (rR key) ((s:Nat):Int) (rB key ts k)=⟨rM ts k,0⟩:=by
 have h:=mOpen_seal (rM_ok (ts:=ts) h9 ht) (rM_right h0) (show getR (0,(rM ts k).gn) (rR key)=some key from rfl) hk ((s:Nat):Int)
 rw[show (mSealP (rR key) (rM ts k)).1=rB key ts k from rfl] at h
 rw[h,if_pos (by omega),if_pos (by show ((k%2:Nat):Int)=(s:Int);rw[hs])]
theorem r_zero (R:RgL) (s:Int):(mOpenP R s (zeros 256)).err≠0:=by
 have hno:¬toldOk (zeros 256):=by
  unfold toldOk
  rw[show (zeros 256).take 4=zeros 4 from by unfold zeros;rw[List.take_replicate];rfl]
  rintro ⟨h,_⟩
  exact absurd h (by decide)
 have ht:(toldP (zeros 256)).err≠0:=by
  unfold toldP
  rw[if_pos (zeros_len 256),if_neg hno]
  decide
 unfold mOpenP
 split
 · rw[if_neg (fun h=>ht h.1)]
   decide
 · decide
theorem open_now (hk:KeyOk key) (ht:∀t∈ts,t<4294967296) (h:i<1000):openR (rR key) (i+1) (rI key ts (i+1))=⟨rM ts (i+1),0⟩:=by
 unfold openR
 rw[rI_now hk,r_open hk ht (by omega) (by omega) rfl,if_pos ⟨rfl,rfl⟩]
theorem open_back (hk:KeyOk key) (ht:∀t∈ts,t<4294967296) {j n:Nat} {L:List Nat} (hj:j<n) (hn:n≤1000) (hL:blkL L (n%2)=blkL (rI key ts j) (n%2)):openR (rR key) n L=⟨mp0,210⟩:=by
 unfold openR
 rw[if_neg]
 rw[hL]
 rintro ⟨h1,h2⟩
 rcases rI_blk (ts:=ts) hk j (n%2) (by omega) with h3 | ⟨k,k1,k2,k3,k4⟩
 · rw[h3] at h1
   exact r_zero _ _ h1
 · rw[k4,r_open hk ht k1 (by omega) k3] at h2
   have:k=n:=h2
   omega
def layD (D:DvS) (L:List Nat):Nat→DvS
 | 0=>D
 | k+1=>foreignD (layD D L k) k (blkL L k)
theorem layD_facts {D:DvS} {L:List Nat} (ok:D.Ok) (h8:D.n=8) (hL:L.length=2048) (hb:Byt L):∀k,k≤8→(layD D L k).Ok∧(layD D L k).n=8∧(layD D L k).down=D.down∧∀j,j<k→blkL (layD D L k).now j=blkL L j
 | 0,_=>⟨ok,h8,rfl,fun j hj=>absurd hj (Nat.not_lt_zero _)⟩
 | k+1,hk=>by
   obtain⟨k1,k2,k3,k4⟩:=layD_facts ok h8 hL hb k (by omega)
   have hl:(blkL L k).length=256:=blkL_lenN (n:=8) hL (by omega)
   have hy:Byt (blkL L k):=fun x hx=>hb x (List.mem_of_mem_drop (List.mem_of_mem_take hx))
   refine⟨foreignD_ok k1 (by rw[k2];omega) hl hy,k2,k3,fun j hj=>?_⟩
   have h1:=blkL_putN (n:=8) (L:=(layD D L k).now) (by rw[k1.now,k2]) (i:=k) (by omega) hl j
   refine Eq.trans h1 ?_
   by_cases he:j=k
   · rw[if_pos he,he]
   · rw[if_neg he];exact k4 j (by omega)
end
section
variable {w:World} {B d g1 g2:Nat} {wv:Value} {D:DvS}
set_option maxRecDepth 100000 in
theorem firm_any (i:Nat) (hi:i<D.n) (ok:D.Ok) (h:DsB w B d g1 g2 wv D):
 Calls Tryz.prog 33 #[.pointer (some ⟨d,0,none⟩),.int .i64 (i:Int)] w fun e w'=>∃g,e = .returned (.tuple #[.slice (some ⟨g,0,none⟩) 256 256,.int .i64 0])∧w.heap.size≤g∧IsB w' (some ⟨g,0,none⟩) 256 256 (blkL D.firm i)∧Below w.heap.size w w':=by
 have HH:=Lib.hid (has_yes i hi h)
 have c0:w.cell? ⟨d,1,none⟩=some (.slice (some ⟨g2,0,none⟩) D.n D.n):=h.box.cell (k:=1) rfl
 have i0:(0:Int)≤(i:Int):=by omega
 have i1:(i:Int)<(D.n:Int):=by omega
 have HD:=Lib.hid h
 have OK:=Lib.hid ok
 have BL:=Lib.hid (blkL_lenN ok.firm hi)
 clear h ok
 go_enter Tryz.func33,Tryz.ntmps33
 go_wp2_with fail
 refine HH.out.mono ?_
 rintro e w1 ⟨rfl,rfl⟩
 clear HH
 go_wp2_with (first
  | (with_reducible refine wpList_loadSub (o:=⟨some 19,.load _ _,_,_,_,_⟩) ?_ 122 (.tmp 18) ?_ ⟨g2,i*256,none⟩ ?_ (bts (blkL D.firm i)) (.array 256 5) (HD.out.firm.sub i) Tryz.underlying122 ?_ ?_ ?_
     · rfl
     · rfl
     · rfl
     · rfl
     · rw[bts_size,BL.out];exact szBlkD)
  | (with_reducible refine wpList_allocD (o:=⟨some 6,.alloc _,_,_,_,_⟩) ?_ 122 ?_ 256 zeroBlkD ?_
     · rfl
     · rfl)
  | (with_reducible refine wpList_storeN (o:=⟨none,.store _ (.tmp 6) (.tmp 19),_,_,_,_⟩) ?_ 122 (.tmp 6) (.tmp 19) ?_ w.heap.size ?_ (blkL D.firm i) ?_ (Bk.new w 122 (zeros 256)) ?_ ?_ ?_
     · rfl
     · rfl
     · rfl
     · rfl
     · rw[BL.out];exact szBlkD
     · rw[BL.out];rfl
     intro w2 hw2))
 go_ret2
 exact⟨_,rfl,Nat.le_refl _,isB_whole ((Bk.new _ _ _).row _) (blkL_byt OK.out.bfirm) BL.out (by decide),Below.row ((Below.refl _ _).alloc (Nat.le_refl _) _) (Nat.le_refl _) _⟩
end
structure RvB (w:World) (O:Tgm) (p d rg lg r:Nat) (R:RgL) (T:PgP) (D:DvS) (S:RsS) (al:List Sl):Prop where
 pg:PgM w O p d rg lg T
 dv:DvM w O d D
 ri:RgM w O rg R
 lo:LgM w O lg al
 rs:RsM w O r d S
section
variable {w w':World} {O O':Tgm} {p d rg lg r:Nat} {R:RgL} {T:PgP} {D:DvS} {S:RsS} {al:List Sl} {P:Nat×Nat→Prop}
theorem RvB.pos (h:RvB w O p d rg lg r R T D S al):0<p:=by obtain⟨b,h1,_⟩:=h.pg;exact h1.pos
theorem RvB.no (h:RvB w O p d rg lg r R T D S al) (s:Wr P w O w' O') (hp:∀i,¬P (p,i)) (h0:∀i,i≤4→¬P (0,i)):RvB w' O' p d rg lg r R T D S al:=
 ⟨h.pg.wr s hp (h0 0 (by decide)),h.dv.wr s (h0 1 (by decide)),h.ri.wr s (h0 3 (by decide)) (h0 0 (by decide)),h.lo.wr s (h0 2 (by decide)),h.rs.wr s (h0 4 (by decide))⟩
theorem RvB.ab (h:RvB w O p d rg lg r R T D S al) (hb:Below w.heap.size w w'):RvB w' (cutO O w.heap.size) p d rg lg r R T D S al:=h.no (Wr.cut hb (fun _=>False)) (fun _=>id) (fun _ _=>id)
end
section
variable {w:World} {O:Tgm} {p d rg lg r i:Nat} {key ts:List Nat}
theorem start_rv (hk:KeyOk key) (hy:Byt key) (ht:∀t∈ts,t<4294967296) (hi:i<900) (h:RvB w O p d rg lg r (rR key) (rT i) (rD key ts i) (rS i) (rL key ts i)):
 Calls Tryz.prog 13 #[.pointer (some ⟨p,0,none⟩),.pointer (some ⟨r,0,none⟩)] w fun e w'=>∃O',e = .returned (.tuple #[.int .u64 ((i+1:Nat):Int),.int .i64 0])∧RvB w' O' p d rg lg r (rR key) (beginT (rT i) (i+1)) (k2D (rI key ts i) (rI key ts i) (5*i+1)) ⟨1099511627776,i+1,i⟩ (rL key ts i)∧Wr (fun τ=>τ=(0,1)∨τ=(0,4)∨τ=(p,1)) w O w' O':=by
 obtain⟨f1,f2,f3,f4,f5⟩:=rT_facts i
 have hp:=h.pos
 refine (start_one (n:=i+1) h.pg h.rs h.dv (rD_ok hk hy ht (by omega) _) (by show 5*i≤1000000000;omega) f1 f2 (by rw[f3];exact Nat.le_refl _) (r_res (by omega) _ _ _) (by rw[f3];omega) (by omega) (by show (i+1)%2≠i%2;omega)).mono ?_
 rintro e w' ⟨O',rfl,h1,h2,h3,h4⟩
 have hn:∀j,j=0∨j=2∨j=3→¬(((0,j):Nat×Nat)=(0,1)∨((0,j):Nat×Nat)=(0,4)∨((0,j):Nat×Nat)=(p,1)):=fun j hj e=>by
  rcases e with e | e | e <;> (injection e with e1 e2;omega)
 exact⟨O',rfl,⟨h1,h3,h.ri.wr h4 (hn 3 (by simp)) (hn 0 (by simp)),h.lo.wr h4 (hn 2 (by simp)),h2⟩,h4⟩
theorem finish_rv (hk:KeyOk key) (hy:Byt key) (ht:∀t∈ts,t<4294967296) (hi:i<900) (h:RvB w O p d rg lg r (rR key) (beginT (rT i) (i+1)) (k2D (rI key ts i) (rI key ts i) (5*i+1)) ⟨1099511627776,i+1,i⟩ (rL key ts i)):
 Calls Tryz.prog 14 #[.pointer (some ⟨p,0,none⟩),.pointer (some ⟨r,0,none⟩),.agg #[.int .u64 ((i+1:Nat):Int),.int .u32 0,.int .u64 0,.int .u16 0,.int .u8 0,.int .u16 9,.int .u32 ((ts.getD i 0:Nat):Int)]] w fun e w'=>∃O',e = .returned (.int .i64 0)∧RvB w' O' p d rg lg r (rR key) (rT (i+1)) (rD key ts (i+1)) (rS (i+1)) (rL key ts (i+1))∧Wr (fun τ=>τ=(0,1)∨τ=(0,2)∨τ=(0,4)∨τ=(p,1)) w O w' O':=by
 obtain⟨f1,f2,f3,f4,f5⟩:=rT_facts i
 have hp:=h.pos
 have hl:=rL_len (key:=key) (ts:=ts) i
 have hl2:=rL_len (key:=key) (ts:=ts) (i+1)
 have hI:∀st,(k2D (rI key ts i) (rI key ts i) st).Ok:=rD_ok hk hy ht (by omega)
 have hJ:∀st,(k2D (rI key ts (i+1)) (rI key ts (i+1)) st).Ok:=rD_ok hk hy ht (by omega)
 refine (finish_one (m:=rM ts (i+1)) h.pg h.rs h.dv h.lo h.ri f1 (by show i+1≠0;omega) rfl rfl rfl (rM_right (by omega)) (rM_ok (by omega) ht) (hI _) (by show 5*i+1≤900000000;omega) (by show 0≤90000;decide) (by omega) (fun x hx=>by cases hx) (by show 0≤5000;decide) (r_flush _ _ _ _ _)
  (hI _) (by show 5*i+1+1≤900000000;omega) (by show 0≤90000;decide) (by omega) (r_meta hk _ _ _) (hJ _) (by show 5*i+1+1+2≤1000000000;omega) (r_adv _ _ _) rfl (.inr rfl) f4).mono ?_
 rintro e w' ⟨O',rfl,h1,h2,h3,h4,h5⟩
 have hn:∀j,j=0∨j=3→¬(((0,j):Nat×Nat)=(0,1)∨((0,j):Nat×Nat)=(0,2)∨((0,j):Nat×Nat)=(0,4)∨((0,j):Nat×Nat)=(p,1)):=fun j hj e=>by
  rcases e with e | e | e | e <;> (injection e with e1 e2;omega)
 exact⟨O',rfl,⟨h1,h3,h.ri.wr h5 (hn 3 (by simp)) (hn 0 (by simp)),h4,h2⟩,h5⟩
end
def IsW (w:World) (A:Option Addr) (n c:Nat) (l:List Nat):Prop:=IsRow .u32 w A n c (l.map fun x:Nat=>(x:Int))∧∀t∈l,t<4294967296
theorem IsW.len {w:World} {A:Option Addr} {n c:Nat} {l:List Nat} (h:IsW w A n c l):l.length=n:=by simpa using h.1.len
theorem IsW.cell {w:World} {A:Option Addr} {n c:Nat} {l:List Nat} (h:IsW w A n c l) (hn:0<n):∃x,A=some x∧x.block<w.heap.size∧∀i,i<n→w.cell? (x.add i)=some (.int .u32 ((l.getD i 0:Nat):Int)):=by
 obtain⟨x,e,hb,hx⟩:=h.1.at hn
 refine⟨x,e,hb,fun i hi=>?_⟩
 have hl:=h.len
 rw[hx i hi]
 simp[List.getD,List.getElem?_eq_getElem (show i<l.length by omega)]
theorem IsW.ab {w w':World} {A:Option Addr} {n c:Nat} {l:List Nat} (h:IsW w A n c l) (hb:Below w.heap.size w w'):IsW w' A n c l:=⟨h.1.below hb,h.2⟩
theorem wrd_of_row {w:World} {A:Option Addr} {n c:Nat} {zs:List Int} (h:IsRow .u32 w A n c zs):∃l:List Nat,zs=l.map (fun x:Nat=>(x:Int))∧∀t∈l,t<4294967296:=by
 have hw:∀z∈zs,0≤z∧z<4294967296:=by
  intro z hz
  have:=h.wf z hz
  simp only[Lit.wf,Bool.and_eq_true,decide_eq_true_eq] at this
  have e1:IntKind.u32.min=0:=rfl
  have e2:IntKind.u32.max=4294967295:=rfl
  omega
 refine⟨zs.map Int.toNat,?_,fun t ht=>?_⟩
 · rw[List.map_map]
   refine (List.map_id zs).symm.trans (List.map_congr_left fun z hz=>?_)
   have:=hw z hz
   show z=((z.toNat:Nat):Int)
   omega
 · obtain⟨z,hz,rfl⟩:=List.mem_map.1 ht
   have:=hw z hz
   omega
def ImT (w:World) (O:Tgm) (v:Value) (L:List Nat):Prop:=∃g c,v = .slice (some ⟨g,0,none⟩) 8 c∧g<w.heap.size∧O g=(0,0)∧∀i,i<8→∃q,w.cell? ⟨g,i,none⟩=some (.slice (some ⟨q,0,none⟩) 256 256)∧q<w.heap.size∧O q=(0,0)∧IsB w (some ⟨q,0,none⟩) 256 256 (blkL L i)
theorem ImT.wr {w w':World} {O O':Tgm} {v:Value} {L:List Nat} {P:Nat×Nat→Prop} (h:ImT w O v L) (s:Wr P w O w' O') (hn:¬P (0,0)):ImT w' O' v L:=by
 obtain⟨g,c,h1,h2,h3,h4⟩:=h
 refine⟨g,c,h1,Nat.lt_of_lt_of_le h2 s.size,(s.tg g h2).trans h3,fun i hi=>?_⟩
 obtain⟨q,k1,k2,k3,k4⟩:=h4 i hi
 refine⟨q,?_,Nat.lt_of_lt_of_le k2 s.size,(s.tg q k2).trans k3,k4.fr s.fr (fun x hx e=>hn (by injection hx with hx;subst hx;rw[←k3];exact e))⟩
 rw[←k1]
 exact World.cell?_of_block (s.fr.block g h2 (fun e=>hn (by rw[←h3];exact e)))
def ImsT (w:World) (O:Tgm) (B:Nat) (v:Value) (n:Nat) (I:Nat→List Nat):Prop:=∃vs:List Value,w.ownsRow B 46 1 v n vs∧(∀k,v.ownBlock=some k→O k=(0,6))∧∀i,i<n→∃u,vs[i]? = some u∧ImT w O u (I i)
theorem ImsT.wr {w w':World} {O O':Tgm} {v:Value} {n B:Nat} {I:Nat→List Nat} {P:Nat×Nat→Prop} (h:ImsT w O B v n I) (s:Wr P w O w' O') (hn:¬P (0,0)) (h6:¬P (0,6)):ImsT w' O' B v n I:=by
 obtain⟨vs,h1,h2,h3⟩:=h
 refine⟨vs,row_fr h1 s.fr (fun k hk e=>h6 (by rw[←h2 k hk];exact e)),fun k hk=>(s.tg k (row_ltD h1 k hk)).trans (h2 k hk),fun i hi=>?_⟩
 obtain⟨u,k1,k2⟩:=h3 i hi
 exact⟨u,k1,k2.wr s hn⟩
theorem wpList_appRow9 {rest:List Oper} {ops:Array Oper} {o:Oper} {a:Act} {w:World} {Q:Exit→Act→World→Prop} (hgd:o.guard=none) (s x:Operand) {T e:TypeId}
 (ho:o.op = .call { callee:=.builtin .append,args:=#[s,x],argTypes:=#[T,T] })
 (ht:Tryz.prog.underlying T=some (.slice e)) {z:Value} {by_:Nat} (hinf:(Tryz.prog.info? e).map (fun i=>(i.zero,i.size,i.bytes))=some (some z,1,by_)) (hzs:z.cells.size=1)
 {B n:Nat} {v u:Value} {xs:List Value} (hown:w.ownsRow B e 1 v n xs) (hs:a.eval s=v) {y:Addr} {c:Nat} (hx:a.eval x = .slice (some y) 1 c)
 (hc:w.cell? y=some u) (h1:u.oneCell'=true) (hb:n≤100000) (hby:by_≤100) (hB:B≤w.heap.size)
 (h:∀v' w',w'.ownsRow B e 1 v' (n+1) (xs++[u])→w.grownBy w' v.ownBlock→(v'.ownBlock=v.ownBlock∨v'.ownBlock=some w.heap.size)→wpList Tryz.prog ops Q rest (a.put o.dst v') w'):wpList Tryz.prog ops Q (o::rest) a w:=by
 obtain⟨i0,hi0,hz0,hz1,hz2⟩:=info_parts hinf
 have hm:(n+1)*by_≤100001*100:=Nat.mul_le_mul (by omega) hby
 obtain⟨v',w',hrun,r1,r2,_,r3⟩:=run_append_own_at (P:=Tryz.prog) w B T o.type e i0 _ 1 by_ ht hi0 hz0 hz1 hz2 hzs (by decide) v n xs hown y 1 c [u] rfl (fun j q hj=>by
  match j,hj with
  | 0,hj=>simp at hj;subst hj;rw[addr_zero];exact hc) (by simp[h1]) (by simp only[maxLen];omega) (by omega) hB
 refine wpList_plain hgd fun K hK=>?_
 unfold Oper.wp execOp
 simp only[ho,resolve,invoke,builtin,Sem.run_bind,Sem.run_pure,Result.andThen_ok,List.map_toArray,List.map_cons,List.map_nil,hs,hx,hrun]
 exact hK _ _ (h v' w' r1 r2 r3)
end Go.Proofs.YtlbjdbaeffacgaaGreat
