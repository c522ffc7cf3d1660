/-
  Parts of the proof, joined.
-/
import Derived.Test.YtgdhinjhbjolgaaGreatBed
import Derived.Test.YtgdhinjhbjolgaaGreatBda
import Derived.JoinedOf
namespace Go.Proofs.YtgdhinjhbjolgaaGreat
set_option maxHeartbeats 16000000
open Go.RowKit
set_option linter.unusedVariables false
set_option linter.unusedSimpArgs false
def StepC (w:World) (a:Addr) (q:StepI):Prop:=CallC w a q.c∧w.cell? ⟨a.block,a.off+14,none⟩=some (.bool q.op)∧w.cell? ⟨a.block,a.off+15,none⟩=some (.bool q.cp)
theorem StepQ.cz {w:World} {a:Addr} {q:StepI} (h:StepQ w a q):StepC w a q:=by
 refine⟨h.1.cz,?_,?_⟩
 · rw[←add_addr a 14 (by decide)];exact h.2.1
 · rw[←add_addr a 15 (by decide)];exact h.2.2
theorem StepsB.at {w:World} {x:Addr} {n c:Nat} {l:List StepI} (h:StepsB w (some x) n c l) {i:Nat} {q:StepI} (hi:l[i]? = some q):StepQ w (x.add (i*16)) q:=by
 obtain⟨y,e,_,k⟩:=h.cel i q hi
 injection e with e
 subst e
 exact k
theorem Pl2.old1 {bk:Nat} {w0 W:World} {O:Tg} {s s' r:Nat} {T T2:List TnP} (h:Pl2 bk w0 s' r T T2 W O) (ho:IdB W O s bk T) (hn:s≠s') (hr:s≠r) {c:CallP} (hc:c.B W) {k:Nat} (hl:LimT2 k T) (hk:k≤800):
 Calls Tryz.prog 8 #[.pointer (some ⟨s,0,none⟩),.agg c.cs] W fun e W2=>∃v O2 T3,e = .returned v∧IdB W2 O2 s bk T3∧Pl2 bk w0 s' r T T2 W2 O2:=by
 obtain⟨m,bs,ib⟩:=ho
 refine (do_any ib hc (fun t ht=>(hl.all t ht).up hk) (by have:=hl.len;omega)).mono ?_
 rintro e W2 ⟨cs,O2,e1,an,ib2,st⟩
 exact⟨_,O2,_,e1,ib2,h.old hn hr st⟩
theorem Pl2.old2 {bk:Nat} {w0 W:World} {O:Tg} {s s' r:Nat} {T T2 T3:List TnP} (h:Pl2 bk w0 s' r T T2 W O) (ho:IdB W O s bk T3) (hn:s≠s') (hr:s≠r):
 Calls Tryz.prog 9 #[.pointer (some ⟨s,0,none⟩)] W fun e W2=>∃O2,e = .returned (.int .i64 0)∧Pl2 bk w0 s' r T T2 W2 O2:=by
 obtain⟨m,bs,ib⟩:=ho
 refine (popen_any ib).mono ?_
 rintro e W2 ⟨O2,rfl,ib2,st⟩
 exact⟨O2,rfl,h.old hn hr st⟩
def delC:CallP:=⟨2,1,nilA,0,0,0,0,0,0,none,0,0,[],nilA,nilA,nilA,false⟩
theorem delC_b (w:World):delC.B w:=⟨⟨(show ckOk 2 from rfl),(show 1<4294967296 by decide),(show 0<18446744073709551616 by decide),(show 0<18446744073709551616 by decide),(show 0<18446744073709551616 by decide),(show 0<256 by decide)⟩,nilB w,nilB w,nilB w,nilB w,opsNil w⟩
def Do2I (b:Nat) (w0:World) (s r:Nat) (T T':List TnP) (w6:World) (O6:Tg) (a1:AnsP) (v:Value) (W:World):Prop:=∃cs O',v = .agg cs∧AnsI W cs a1∧Pl2 b w0 s r T T' W O'∧Stp (fun τ=>τ.1=r) w6 O6 W O'
theorem Do2I.mono (b:Nat) (w0:World) (s r:Nat) (T T':List TnP) (w6:World) (O6:Tg) (a1:AnsP):Mono (Do2I b w0 s r T T' w6 O6 a1):=by
 rintro v W W' ⟨cs,O',e,h1,h2,h3⟩ hb
 exact⟨cs,cutTg O' W.heap.size,e,h1.ab hb,h2.ab hb,h3.tr (Stp.cut hb _)⟩
theorem Pl2.do2I {b:Nat} {w0 w6 W:World} {s r:Nat} {T T2:List TnP} {O6:Tg} (h:Pl2 b w0 s r T T2 w6 O6) (hw:Below w6.heap.size w6 W) {c:CallP} (hc:c.B W) {k:Nat} (hl:LimT2 k T2) (hk:k≤800):
 Calls Tryz.prog 15 #[.pointer (some ⟨r,0,none⟩),.agg c.cs] W fun e W2=>∃v,e = .returned v∧Do2I b w0 s r T (stepP b T2 c).2 w6 O6 (stepP b T2 c).1 v W2∧Fr W W2 (tgF O6 r):=by
 have h1:=h.ab hw
 have hp:=h.pr
 refine (h1.do2 hc hl hk).mono ?_
 rintro e W2 ⟨cs,O2,rfl,an,k2,st⟩
 refine⟨_,rfl,⟨cs,O2,rfl,an,k2,(Stp.cut hw _).tr st⟩,st.fr.imp fun k ⟨τ,e1,e2⟩=>?_⟩
 unfold cutTg at e1
 split at e1
 · exact⟨τ,e1,e2⟩
 · injection e1 with e1
   subst e1
   exact absurd e2 (by show ¬0=r;omega)
section
variable {A:Option Addr} {n c:Nat} {l:List StepI} {w:World}
set_option maxRecDepth 100000 in
theorem plays_bad (b:Int) (hb:b<8∨4096<b):
 Calls Tryz.prog 3 #[.int .i64 b,.slice A n c] w fun e w'=>e = .returned (.bool true)∧Below w.heap.size w w':=by
 have HN:=zz fun W=>idNew_bad b hb W
 have HK:=zz fun W=>known26_any W
 rcases hb with h | h
 · have h8:decide (b<8)=true:=by simp;omega
   go_enter Tryz.func3,Tryz.ntmps3
   go_wp2_with fail
   refine (HN.out _).mono ?_
   rintro e w1 ⟨rfl,hb⟩
   have B1:=zz hb
   clear hb
   go_wp2_with fail
   refine (HK.out _).mono ?_
   rintro e w3 ⟨rfl,hb⟩
   have B3:=zz (below_tr B1.out hb B1.out.size)
   clear hb
   go_wp2_with fail
   go_ret
   exact⟨rfl,B3.out⟩
 · have h8:decide (b<8)=false:=by simp;omega
   have h9:decide (4096<b)=true:=by simp;omega
   go_enter Tryz.func3,Tryz.ntmps3
   go_wp2_with fail
   refine (HN.out _).mono ?_
   rintro e w1 ⟨rfl,hb⟩
   have B1:=zz hb
   clear hb
   go_wp2_with fail
   refine (HK.out _).mono ?_
   rintro e w3 ⟨rfl,hb⟩
   have B3:=zz (below_tr B1.out hb B1.out.size)
   clear hb
   go_wp2_with fail
   go_ret
   exact⟨rfl,B3.out⟩
set_option maxRecDepth 100000 in
theorem plays_many (b:Nat) (hb:8≤b) (hb2:b≤4096) (hn:200<n):
 Calls Tryz.prog 3 #[.int .i64 (b:Int),.slice A n c] w fun e w'=>e = .returned (.bool true)∧Below w.heap.size w w':=by
 have HN:=zz fun W=>idNew_any b hb hb2 W (fun _=>none)
 have HK:=zz fun W=>known26_any W
 have n0:decide ((b:Int)<8)=false:=by simp;omega
 have n1:decide ((4096:Int)<(b:Int))=false:=by simp;omega
 have n2:decide ((200:Int)<(n:Int))=true:=by simp;omega
 have m2:(200:Int)<(n:Int):=by omega
 clear hb hb2 hn
 go_enter Tryz.func3,Tryz.ntmps3
 go_wp2_with fail
 refine (HN.out _).mono ?_
 rintro e w1 ⟨rfl,ib,sz,hb⟩
 have B1:=zz hb
 clear hb ib sz
 go_wp2_with fail
 refine (HK.out _).mono ?_
 rintro e w3 ⟨rfl,hb⟩
 have B3:=zz (below_tr B1.out hb B1.out.size)
 clear hb
 go_wp2_with fail
 go_ret
 exact⟨rfl,B3.out⟩
set_option maxRecDepth 100000 in
theorem plays_ok (b:Nat) (hb:8≤b) (hb2:b≤4096) (hn:n≤200) (h:StepsB w A n c l) (hs:∀q∈l,CallS q.c):
 Calls Tryz.prog 3 #[.int .i64 (b:Int),.slice A n c] w fun e w'=>e = .returned (.bool true)∧Below w.heap.size w w':=by
 have HN:=zz fun W O=>idNew_any b hb hb2 W O
 have HR:=zz fun W O (h:0<W.heap.size)=>rnew_any b W O h
 have HK:=zz fun W=>known26_any W
 have n0:decide ((b:Int)<8)=false:=by simp;omega
 have n1:decide ((4096:Int)<(b:Int))=false:=by simp;omega
 have n2:decide ((200:Int)<(n:Int))=false:=by simp;omega
 have n3:(n:Int)≤200:=by omega
 have NN:=zz hn
 have HC:=zz h
 have HSS:=zz hs
 clear hb hb2 hn h hs
 go_enter Tryz.func3,Tryz.ntmps3
 go_wp2_with fail
 refine (HN.out _ (fun _=>none)).mono ?_
 rintro e w1 ⟨rfl,ib1,sz1,hb1⟩
 have IB:=zz ib1
 have SZ:=zz sz1
 have B1:=zz hb1
 have P1:Hid (0<w1.heap.size):=zz (by omega)
 clear ib1 sz1 hb1
 go_wp2_with fail
 refine (HR.out _ (newTg (fun _=>none) w.heap.size (w.heap.size+1)) P1.out).mono ?_
 rintro e w2 ⟨rfl,rb2,hb2⟩
 have S2:=SZ.out
 have K0:Hid (Pl2 b w (w.heap.size+1) w1.heap.size [] [] w2 (rnwTg (newTg (fun _=>none) w.heap.size (w.heap.size+1)) w1.heap.size)):=zz ⟨IB.out.stp (Stp.of hb2 (fun _=>False) fun k hk=>by unfold rnwTg;rw[if_neg (by omega)]) fun _ h=>h,rb2,below_tr B1.out hb2 B1.out.size,fun k hk=>by unfold rnwTg newTg;rw[if_neg (by omega),if_neg (by omega)],by omega⟩
 clear rb2 hb2 S2 IB SZ B1 HN HR P1
 obtain⟨s0,hs0⟩:∃s,w.heap.size+1=s:=⟨_,rfl⟩
 obtain⟨r,hr⟩:∃s,w1.heap.size=s:=⟨_,rfl⟩
 rw[hs0,hr] at K0⊢
 clear hs0 hr
 go_wp2_with fail
 go_loopw [5,8] (fun y z wr=>∃(i s:Nat) (O:Tg) (T:List TnP),i≤n∧y = .pointer (some ⟨s,0,none⟩)∧z = .int .i64 (i:Int)∧Pl2 b w s r T T wr O∧LimT2 i T) (fun _ z _=>n-(intOf z).toNat)
 case atStart=>exact⟨0,s0,_,[],Nat.zero_le _,rfl,rfl,K0.out,⟨fun t ht=>(by cases ht),Nat.zero_le _⟩⟩
 case round=>
  clear K0
  obtain⟨i,s,O,T,hi,rfl,rfl,k,lt⟩:=hrel
  have K:=zz k
  have L0:=zz lt
  clear k lt
  by_cases hlt:i<n
  · obtain ⟨⟨q,qo,qp⟩,hq⟩:∃q,l[i]? = some q:=⟨_,List.getElem?_eq_getElem (by rw[HC.out.len];exact hlt)⟩
    obtain⟨x,rfl,hxl,_⟩:=HC.out.cel i _ hq
    have HQ:=zz hq
    have XL:=zz (show (x.add (i*16)).block<w.heap.size by rw[add_block];exact hxl)
    have KL:=zz hlt
    have hlti:(i:Int)<(n:Int):=by omega
    have hi0:(0:Int)≤(i:Int):=by omega
    have I8:Hid (i≤800):=zz (by have:=NN.out;omega)
    have I9:Hid (i+1≤800):=zz (by have:=NN.out;omega)
    have CQ0:=(HC.out.ab K.out.bl).at hq
    have QL:=zz (show q.ops.length=q.oN from CQ0.1.2.ops.len)
    have HS:Hid (CallS q):=zz (HSS.out _ (List.mem_of_getElem? hq))
    have s14:wr.cell? ⟨(x.add (i*16)).block,(x.add (i*16)).off+14,none⟩=some (.bool qo):=CQ0.cz.2.1
    have s15:wr.cell? ⟨(x.add (i*16)).block,(x.add (i*16)).off+15,none⟩=some (.bool qp):=CQ0.cz.2.2
    clear hq hi hlt hxl CQ0
    cases qp
    · cases qo
      · go_upto_region 19 with (fail)
        clear s14 s15
        have CQ:=zz ((HC.out.ab K.out.bl).at HQ.out)
        obtain⟨c0,c1,c2,c3,c4,c5,c6,c7,c8,c9,c10,c11,c12,c13⟩:CallC wr (x.add (i*16)) q:=CQ.out.cz.1
        have HT:=zz (tame_any q wr CQ.out.1.2)
        unfold CallP.cs at HT
        clear CQ
        go_wp2_with fail
        refine HT.out.mono ?_
        rintro e w1 ⟨⟨bt,rfl⟩,hb⟩
        have k1:=K.out.ab hb
        obtain⟨O1,hO1⟩:∃Ox,cutTg O wr.heap.size=Ox:=⟨_,rfl⟩
        rw[hO1] at k1
        clear HT K hb hO1 c0 c1 c2 c3 c4 c5 c6 c7 c8 c9 c10 c11 c12 c13
        have K:=zz k1
        clear k1
        cases bt
        · have L:=zz (L0.out.up (Nat.le_succ i))
          clear L0
          have HT5:=zz (show (i:Int)%5+1=((i%5+1:Nat):Int) by omega)
          obtain⟨tt,htt⟩:∃tt,i%5+1=tt:=⟨_,rfl⟩
          have hb5:tt<4294967296:=by omega
          have h50:(0:Int)≤(tt:Int):=by omega
          have h51:(tt:Int)<4294967296:=by omega
          rw[htt] at HT5
          have h52:=HT5.out
          have HM1:=zz (K.out.map1 hb5 L.out I9.out)
          clear htt hb5 HT5
          go_wp2_with fail
          refine HM1.out.mono ?_
          rintro e wa ⟨B1,m1,d1,rfl,pr1,hb⟩
          have K2:=zz (K.out.ab hb)
          have P1:=zz pr1
          clear HM1 K hb pr1
          have K:=K2
          clear K2
          have HM2:=zz (K.out.map2 tt L.out I9.out)
          go_wp2_with fail
          refine HM2.out.mono ?_
          rintro e wb ⟨B2,m2,d2,rfl,pr2,rfl⟩
          have HSM:=zz (prsSame_yes B1 B2 m1 d1 m2 d2 _ wa P1.out pr2)
          clear HM2 P1 pr2
          obtain⟨E,hE⟩:∃E,mapE T tt=E:=⟨_,rfl⟩
          rw[hE]
          clear hE h50 h51 h52
          go_wp2_with fail
          refine HSM.out.mono ?_
          rintro e wc ⟨rfl,hb⟩
          have K2:=zz (K.out.ab hb)
          clear K hb HSM
          have K:=K2
          clear K2
          go_wp2_with fail
          go_roundw
          case rel=>exact⟨i+1,_,_,_,KL.out,rfl,by go_num,K.out,L.out⟩
          case measure=>simp[intOf];have:=KL.out;omega
        · have CQ:=zz ((HC.out.ab K.out.bl).at HQ.out)
          obtain⟨c0,c1,c2,c3,c4,c5,c6,c7,c8,c9,c10,c11,c12,c13⟩:CallC w1 (x.add (i*16)) q:=CQ.out.cz.1
          have HCC:=zz (copyC_any (O:=O1) CQ.out.1.2 HS.out)
          unfold CallP.cs at HCC
          clear CQ
          go_wp2_with fail
          refine HCC.out.mono ?_
          rintro e w2 ⟨p,rfl,hper,hpB,hpS,hb⟩
          have PE:=zz (step_alike hper b T)
          have k2:=K.out.ab hb
          obtain⟨O2,hO2⟩:∃Ox,cutTg O1 w1.heap.size=Ox:=⟨_,rfl⟩
          rw[hO2] at k2 hpS
          have K2:=zz k2
          have PB:=zz hpB
          have PS:=zz hpS
          clear HCC K hb hper hpB hpS k2 hO2 c0 c1 c2 c3 c4 c5 c6 c7 c8 c9 c10 c11 c12 c13
          go_upto_region 21 with (fail)
          have ba:Below w2.heap.size w2 (w2.alloc (.cells #[.int .i64 p.kind,.int .u32 (p.ten:Int),.slice p.sec.A p.sec.n p.sec.c,.int .i64 p.quota,.int .i64 p.n,.int .u64 (p.hd:Int),.int .u64 (p.oth:Int),.int .u64 (p.sn:Int),.int .u8 (p.rt:Int),.slice p.oA p.oN p.oC,.slice p.key.A p.key.n p.key.c,.slice p.frm.A p.frm.n p.frm.c,.slice p.upto.A p.upto.n p.upto.c,.bool p.back] 37)):=alB
          have k3:=K2.out.ab ba
          have B3:=PB.out.ab ba
          have S3:=PS.out.stp (Stp.cut ba (fun _=>False)) (fun h=>h)
          have X3:=AtX.new w2 O2 37 #[.int .i64 p.kind,.int .u32 (p.ten:Int),.slice p.sec.A p.sec.n p.sec.c,.int .i64 p.quota,.int .i64 p.n,.int .u64 (p.hd:Int),.int .u64 (p.oth:Int),.int .u64 (p.sn:Int),.int .u8 (p.rt:Int),.slice p.oA p.oN p.oC,.slice p.key.A p.key.n p.key.c,.slice p.frm.A p.frm.n p.frm.c,.slice p.upto.A p.upto.n p.upto.c,.bool p.back]
          obtain⟨O3,hO3⟩:∃Ox,cutTg O2 w2.heap.size=Ox:=⟨_,rfl⟩
          rw[hO3] at k3 S3 X3
          obtain⟨w3,hw3⟩:∃w3,w2.alloc (.cells #[.int .i64 p.kind,.int .u32 (p.ten:Int),.slice p.sec.A p.sec.n p.sec.c,.int .i64 p.quota,.int .i64 p.n,.int .u64 (p.hd:Int),.int .u64 (p.oth:Int),.int .u64 (p.sn:Int),.int .u8 (p.rt:Int),.slice p.oA p.oN p.oC,.slice p.key.A p.key.n p.key.c,.slice p.frm.A p.frm.n p.frm.c,.slice p.upto.A p.upto.n p.upto.c,.bool p.back] 37)=w3:=⟨_,rfl⟩
          rw[hw3] at k3 B3 S3 X3⊢
          obtain⟨g,hg⟩:∃g,w2.heap.size=g:=⟨_,rfl⟩
          rw[hg] at X3⊢
          clear hg hw3 hO3 ba K2 PB PS
          have K:=zz k3
          have PS:=zz S3
          have XP:=zz X3
          have x3:=X3.1
          have d0:w3.cell? ⟨g,0,none⟩=some (.int .i64 p.kind):=x3.cell (k:=0) rfl
          have d1:w3.cell? ⟨g,1,none⟩=some (.int .u32 (p.ten:Int)):=x3.cell (k:=1) rfl
          have d2:w3.cell? ⟨g,2,none⟩=some (.slice p.sec.A p.sec.n p.sec.c):=x3.cell (k:=2) rfl
          have d3:w3.cell? ⟨g,3,none⟩=some (.int .i64 p.quota):=x3.cell (k:=3) rfl
          have d4:w3.cell? ⟨g,4,none⟩=some (.int .i64 p.n):=x3.cell (k:=4) rfl
          have d5:w3.cell? ⟨g,5,none⟩=some (.int .u64 (p.hd:Int)):=x3.cell (k:=5) rfl
          have d6:w3.cell? ⟨g,6,none⟩=some (.int .u64 (p.oth:Int)):=x3.cell (k:=6) rfl
          have d7:w3.cell? ⟨g,7,none⟩=some (.int .u64 (p.sn:Int)):=x3.cell (k:=7) rfl
          have d8:w3.cell? ⟨g,8,none⟩=some (.int .u8 (p.rt:Int)):=x3.cell (k:=8) rfl
          have d9:w3.cell? ⟨g,9,none⟩=some (.slice p.oA p.oN p.oC):=x3.cell (k:=9) rfl
          have d10:w3.cell? ⟨g,10,none⟩=some (.slice p.key.A p.key.n p.key.c):=x3.cell (k:=10) rfl
          have d11:w3.cell? ⟨g,11,none⟩=some (.slice p.frm.A p.frm.n p.frm.c):=x3.cell (k:=11) rfl
          have d12:w3.cell? ⟨g,12,none⟩=some (.slice p.upto.A p.upto.n p.upto.c):=x3.cell (k:=12) rfl
          have d13:w3.cell? ⟨g,13,none⟩=some (.bool p.back):=x3.cell (k:=13) rfl
          have HD:=K.out.do1 B3 L0.out I8.out
          rw[PE.out] at HD
          obtain⟨a0,ha0⟩:∃a,(stepP b T q).1=a:=⟨_,rfl⟩
          obtain⟨T',hT'⟩:∃T',(stepP b T q).2=T':=⟨_,rfl⟩
          rw[ha0,hT'] at HD
          have HA0:=zz ha0
          have HT':=zz hT'
          have HDD:=zz HD
          unfold CallP.cs at HDD
          clear ha0 hT' HD k3 B3 S3 X3 x3 PE
          go_wp2_with fail
          refine HDD.out.mono ?_
          rintro e w4 ⟨cs,O4,rfl,an,k4,st4⟩
          obtain⟨A1,n1,k1,A2,n2,k2,A3,n3,k3,rfl,ow⟩:=an.err
          have BV:=zz ow.byt
          have AN:=zz an
          have NS:=zz K.out.ps
          have PS4:=zz (PS.out.low st4 (fun e=>absurd NS.out (by rw[←e];decide)))
          have X4:=XP.out.stp st4 (fun e=>absurd NS.out (by rw[←e];decide))
          have K4:=zz k4
          have LE4:=zz st4.size
          have XP4:=zz X4
          clear HDD K PS XP an k4 st4 ow X4 d0 d1 d2 d3 d4 d5 d6 d7 d8 d9 d10 d11 d12 d13
          go_upto_region 22 with (fail)
          have ba:Below w4.heap.size w4 (w4.alloc (.cells #[.int .i64 a0.err,.int .u64 (a0.hd:Int),.int .u64 (a0.sn:Int),.slice A1 n1 k1,.slice A2 n2 k2,.int .i64 a0.cnt,.slice A3 n3 k3] 44)):=alB
          have k5:=K4.out.ab ba
          have S5:=PS4.out.stp (O':=nonTg (cutTg O4 w4.heap.size) w3.heap.size) (Stp.of ba (fun _=>False) fun k hk=>by
           unfold nonTg
           by_cases h:k<w3.heap.size
           · rw[if_pos h,if_pos h];unfold cutTg;rw[if_pos hk]
           · rw[if_neg h,if_neg h]) (fun h=>h)
          have AN5:=AN.out.stp (Stp.cut ba (fun _=>False)) (fun h=>h)
          have X5:=AtX.new w4 O4 44 #[.int .i64 a0.err,.int .u64 (a0.hd:Int),.int .u64 (a0.sn:Int),.slice A1 n1 k1,.slice A2 n2 k2,.int .i64 a0.cnt,.slice A3 n3 k3]
          have XP5:=XP4.out.1.ab ba
          obtain⟨O5,hO5⟩:∃Ox,cutTg O4 w4.heap.size=Ox:=⟨_,rfl⟩
          rw[hO5] at k5 S5 AN5 X5
          obtain⟨w5,hw5⟩:∃w5,w4.alloc (.cells #[.int .i64 a0.err,.int .u64 (a0.hd:Int),.int .u64 (a0.sn:Int),.slice A1 n1 k1,.slice A2 n2 k2,.int .i64 a0.cnt,.slice A3 n3 k3] 44)=w5:=⟨_,rfl⟩
          rw[hw5] at k5 S5 AN5 X5 XP5⊢
          obtain⟨g2,hg2⟩:∃g,w4.heap.size=g:=⟨_,rfl⟩
          rw[hg2] at X5 LE4⊢
          clear hg2 hw5 hO5 ba K4 AN PS4 XP4
          have K:=zz k5
          have AN:=zz AN5
          have XA:=zz X5
          have d0:w5.cell? ⟨g,0,none⟩=some (.int .i64 p.kind):=XP5.cell (k:=0) rfl
          have d1:w5.cell? ⟨g,1,none⟩=some (.int .u32 (p.ten:Int)):=XP5.cell (k:=1) rfl
          have d2:w5.cell? ⟨g,2,none⟩=some (.slice p.sec.A p.sec.n p.sec.c):=XP5.cell (k:=2) rfl
          have d3:w5.cell? ⟨g,3,none⟩=some (.int .i64 p.quota):=XP5.cell (k:=3) rfl
          have d4:w5.cell? ⟨g,4,none⟩=some (.int .i64 p.n):=XP5.cell (k:=4) rfl
          have d5:w5.cell? ⟨g,5,none⟩=some (.int .u64 (p.hd:Int)):=XP5.cell (k:=5) rfl
          have d6:w5.cell? ⟨g,6,none⟩=some (.int .u64 (p.oth:Int)):=XP5.cell (k:=6) rfl
          have d7:w5.cell? ⟨g,7,none⟩=some (.int .u64 (p.sn:Int)):=XP5.cell (k:=7) rfl
          have d8:w5.cell? ⟨g,8,none⟩=some (.int .u8 (p.rt:Int)):=XP5.cell (k:=8) rfl
          have d9:w5.cell? ⟨g,9,none⟩=some (.slice p.oA p.oN p.oC):=XP5.cell (k:=9) rfl
          have d10:w5.cell? ⟨g,10,none⟩=some (.slice p.key.A p.key.n p.key.c):=XP5.cell (k:=10) rfl
          have d11:w5.cell? ⟨g,11,none⟩=some (.slice p.frm.A p.frm.n p.frm.c):=XP5.cell (k:=11) rfl
          have d12:w5.cell? ⟨g,12,none⟩=some (.slice p.upto.A p.upto.n p.upto.c):=XP5.cell (k:=12) rfl
          have d13:w5.cell? ⟨g,13,none⟩=some (.bool p.back):=XP5.cell (k:=13) rfl
          have HSP:=zz (spoil_low S5)
          unfold CallP.cs at HSP
          clear k5 S5 AN5 X5 XP5
          go_wp2_with fail
          refine HSP.out.mono ?_
          rintro e w6 ⟨v6,rfl,fr6⟩
          have k6:=K.out.zz (W2:=w6) (O2:=O5) ⟨fr6.imp fun k h=>⟨_,h.2,rfl⟩,fun _ _=>rfl⟩
          have AN6:=AN.out.frL fr6 fun g h=>h.1
          have X6:AtX w6 O5 g2 44 #[.int .i64 a0.err,.int .u64 (a0.hd:Int),.int .u64 (a0.sn:Int),.slice A1 n1 k1,.slice A2 n2 k2,.int .i64 a0.cnt,.slice A3 n3 k3]:=⟨XA.out.1.fr fr6 (fun h=>by have:=h.1;have:=LE4.out;omega),XA.out.2⟩
          clear HSP K AN XA fr6 LE4 d0 d1 d2 d3 d4 d5 d6 d7 d8 d9 d10 d11 d12 d13
          have K:=zz k6
          have AN:=zz AN6
          have XA:=zz X6
          clear k6 AN6 X6
          have CQ:=zz ((HC.out.ab K.out.bl).at HQ.out)
          go_upto_region 23 with (fail)
          have NP:=zz K.out.pr
          have NG:Hid (¬tgF O5 r g2):=zz fun ⟨τ,e1,e2⟩=>by
           rw[XA.out.2] at e1
           injection e1 with e1
           subst e1
           exact absurd NP.out (by rw[←e2];decide)
          have NX:Hid (¬tgF O5 r (x.add (i*16)).block):=zz fun ⟨τ,e1,e2⟩=>by
           rw[K.out.no _ XL.out] at e1
           cases e1
          have XL6:=zz (Nat.lt_of_lt_of_le XL.out K.out.bl.size)
          refine wp_wideW 7 (tgF O5 r) [⟨100,IsR (.agg #[.int .i64 a0.err,.int .u64 (a0.hd:Int),.int .u64 (a0.sn:Int),.slice A1 n1 k1,.slice A2 n2 k2,.int .i64 a0.cnt,.slice A3 n3 k3]),[],false⟩,⟨101,IsR (.pointer (some ⟨r,0,none⟩)),[],false⟩,⟨102,IsR (.slice (some x) n c),[],false⟩,⟨103,IsR (.int .i64 (i:Int)),[],false⟩,⟨104,IsR (.pointer (some (x.add (i*16)))),[2,3],false⟩,⟨105,IsR (.pointer (some (x.add (i*16)))),[4],false⟩,⟨106,IsR (.agg #[.int .i64 q.kind,.int .u32 (q.ten:Int),.slice q.sec.A q.sec.n q.sec.c,.int .i64 q.quota,.int .i64 q.n,.int .u64 (q.hd:Int),.int .u64 (q.oth:Int),.int .u64 (q.sn:Int),.int .u8 (q.rt:Int),.slice q.oA q.oN q.oC,.slice q.key.A q.key.n q.key.c,.slice q.frm.A q.frm.n q.frm.c,.slice q.upto.A q.upto.n q.upto.c,.bool q.back]),[5],false⟩,⟨107,Do2I b w s r T' T' w6 O5 a0,[1,6],false⟩] (by kernel_rfl) (by kernel_rfl) rfl rfl rfl ⟨?_,?_,?_,?_,?_,?_,?_,?_,trivial⟩ ?_
          · refine okV rfl rfl (by decide) fun a W hA hb hd=>?_
            have h11:a.tmps[11]?.getD undef = .pointer (some ⟨g2,0,none⟩):=gt' hA (by simp) rfl
            have xw:=XA.out.1.fr hb NG.out
            have y0:W.cell? ⟨g2,0,none⟩=some (.int .i64 a0.err):=xw.cell (k:=0) rfl
            have y1:W.cell? ⟨g2,1,none⟩=some (.int .u64 (a0.hd:Int)):=xw.cell (k:=1) rfl
            have y2:W.cell? ⟨g2,2,none⟩=some (.int .u64 (a0.sn:Int)):=xw.cell (k:=2) rfl
            have y3:W.cell? ⟨g2,3,none⟩=some (.slice A1 n1 k1):=xw.cell (k:=3) rfl
            have y4:W.cell? ⟨g2,4,none⟩=some (.slice A2 n2 k2):=xw.cell (k:=4) rfl
            have y5:W.cell? ⟨g2,5,none⟩=some (.int .i64 a0.cnt):=xw.cell (k:=5) rfl
            have y6:W.cell? ⟨g2,6,none⟩=some (.slice A3 n3 k3):=xw.cell (k:=6) rfl
            go_simp
          · refine okV rfl rfl (by decide) fun a W hA hb hd=>?_
            have h7:a.tmps[7]?.getD undef = .pointer (some ⟨r,0,none⟩):=gt' hA (by simp) rfl
            go_simp
          · refine okV rfl rfl (by decide) fun a W hA hb hd=>?_
            have h1:a.tmps[1]?.getD undef = .slice (some x) n c:=gt' hA (by simp) rfl
            go_simp
          · refine okV rfl rfl (by decide) fun a W hA hb hd=>?_
            have h8:a.tmps[8]?.getD undef = .int .i64 (i:Int):=gt' hA (by simp) rfl
            go_simp
          · refine okV rfl rfl (by decide) fun a W hA hb hd=>?_
            have h102:a.tmps[102]?.getD undef = .slice (some x) n c:=gh (hd 2 (by simp) _ rfl)
            have h103:a.tmps[103]?.getD undef = .int .i64 (i:Int):=gh (hd 3 (by simp) _ rfl)
            go_simp
          · refine okV rfl rfl (by decide) fun a W hA hb hd=>?_
            have h104:a.tmps[104]?.getD undef = .pointer (some (x.add (i*16))):=gh (hd 4 (by simp) _ rfl)
            go_simp
          · refine okV rfl rfl (by decide) fun a W hA hb hd=>?_
            have h105:a.tmps[105]?.getD undef = .pointer (some (x.add (i*16))):=gh (hd 5 (by simp) _ rfl)
            have cf:CallC W (x.add (i*16)) q:=CallC.fr (q:=q) CQ.out.cz.1 (hb.block _ XL6.out NX.out)
            obtain⟨c0,c1,c2,c3,c4,c5,c6,c7,c8,c9,c10,c11,c12,c13⟩:=cf
            go_simp
          · refine⟨rfl,Do2I.mono _ _ _ _ _ _ _ _ _,.inl rfl,fun a W hA hb hd=>⟨fun e=>absurd rfl e,fun _ hw=>?_⟩⟩
            have h101:a.tmps[101]?.getD undef = .pointer (some ⟨r,0,none⟩):=gh (hd 1 (by simp) _ rfl)
            have h106:a.tmps[106]?.getD undef = .agg #[.int .i64 q.kind,.int .u32 (q.ten:Int),.slice q.sec.A q.sec.n q.sec.c,.int .i64 q.quota,.int .i64 q.n,.int .u64 (q.hd:Int),.int .u64 (q.oth:Int),.int .u64 (q.sn:Int),.int .u8 (q.rt:Int),.slice q.oA q.oN q.oC,.slice q.key.A q.key.n q.key.c,.slice q.frm.A q.frm.n q.frm.c,.slice q.upto.A q.upto.n q.upto.c,.bool q.back]:=gh (hd 6 (by simp) _ rfl)
            have hcall:=K.out.do2I hw (c:=q) ((CQ.out.1.2).ab hw) L0.out I8.out
            rw[HA0.out,HT'.out] at hcall
            exact .inl ⟨by simp[Region.wanted],.inr ⟨15,#[.pointer (some ⟨r,0,none⟩),.agg #[.int .i64 q.kind,.int .u32 (q.ten:Int),.slice q.sec.A q.sec.n q.sec.c,.int .i64 q.quota,.int .i64 q.n,.int .u64 (q.hd:Int),.int .u64 (q.oth:Int),.int .u64 (q.sn:Int),.int .u8 (q.rt:Int),.slice q.oA q.oN q.oC,.slice q.key.A q.key.n q.key.c,.slice q.frm.A q.frm.n q.frm.c,.slice q.upto.A q.upto.n q.upto.c,.bool q.back]],by go_simp,hcall⟩⟩
          intro vs W9 hR hb
          have e100:vs 100 = .agg #[.int .i64 a0.err,.int .u64 (a0.hd:Int),.int .u64 (a0.sn:Int),.slice A1 n1 k1,.slice A2 n2 k2,.int .i64 a0.cnt,.slice A3 n3 k3]:=hR 0 _ rfl
          have e101:vs 101 = .pointer (some ⟨r,0,none⟩):=hR 1 _ rfl
          have e102:vs 102 = .slice (some x) n c:=hR 2 _ rfl
          have e103:vs 103 = .int .i64 (i:Int):=hR 3 _ rfl
          have e104:vs 104 = .pointer (some (x.add (i*16))):=hR 4 _ rfl
          have e105:vs 105 = .pointer (some (x.add (i*16))):=hR 5 _ rfl
          have e106:vs 106 = .agg #[.int .i64 q.kind,.int .u32 (q.ten:Int),.slice q.sec.A q.sec.n q.sec.c,.int .i64 q.quota,.int .i64 q.n,.int .u64 (q.hd:Int),.int .u64 (q.oth:Int),.int .u64 (q.sn:Int),.int .u8 (q.rt:Int),.slice q.oA q.oN q.oC,.slice q.key.A q.key.n q.key.c,.slice q.frm.A q.frm.n q.frm.c,.slice q.upto.A q.upto.n q.upto.c,.bool q.back]:=hR 6 _ rfl
          obtain⟨cs9,O9,e107,an9,k9,st9⟩:Do2I b w s r T' T' w6 O5 a0 (vs 107) W9:=hR 7 _ rfl
          simp only[List.map_cons,List.map_nil,List.foldl_cons,List.foldl_nil,List.length_cons,List.length_nil,List.drop_succ_cons,List.drop_zero,Act.put,List.setIfInBounds_toArray,List.set_cons_zero,List.set_cons_succ,e100,e101,e102,e103,e104,e105,e106,e107]
          have A9:=zz (AN.out.stp st9 (fun e=>absurd NP.out (by rw[←e];decide)))
          have X9:=zz (XA.out.stp st9 (fun e=>absurd NP.out (by rw[←e];decide)))
          have SH:Hid (AnsL a0):=zz (by rw[←HA0.out];exact step_sh (by have:=L0.out.len;have:=I8.out;omega) b)
          have HSM:=zz (ansSameI W9 _ _ _ _ a0 A9.out an9 SH.out.prs SH.out.lst BV.out)
          have K9:=zz k9
          clear hR hb e100 e101 e102 e103 e104 e105 e106 e107 an9 k9 st9 K AN XA CQ NG NX XL6
          go_wp2_with fail
          refine HSM.out.mono ?_
          rintro e w10 ⟨rfl,hb⟩
          have kA:=K9.out.ab hb
          have anA:=A9.out.stp (Stp.cut hb (fun _=>False)) (fun h=>h)
          have xA:=X9.out.1.ab hb
          have y0:w10.cell? ⟨g2,0,none⟩=some (.int .i64 a0.err):=xA.cell (k:=0) rfl
          have y1:w10.cell? ⟨g2,1,none⟩=some (.int .u64 (a0.hd:Int)):=xA.cell (k:=1) rfl
          have y2:w10.cell? ⟨g2,2,none⟩=some (.int .u64 (a0.sn:Int)):=xA.cell (k:=2) rfl
          have y3:w10.cell? ⟨g2,3,none⟩=some (.slice A1 n1 k1):=xA.cell (k:=3) rfl
          have y4:w10.cell? ⟨g2,4,none⟩=some (.slice A2 n2 k2):=xA.cell (k:=4) rfl
          have y5:w10.cell? ⟨g2,5,none⟩=some (.int .i64 a0.cnt):=xA.cell (k:=5) rfl
          have y6:w10.cell? ⟨g2,6,none⟩=some (.slice A3 n3 k3):=xA.cell (k:=6) rfl
          have K:=zz kA
          have HSP:=zz (spoilt_ans anA)
          clear HSM hb kA anA xA K9 A9 X9
          go_wp2_with fail
          refine HSP.out.mono ?_
          rintro e w11 ⟨v11,rfl,stB⟩
          have K2:=zz (K.out.zz stB)
          have L:Hid (LimT2 (i+1) T'):=zz (by rw[←HT'.out];exact step_lim L0.out QL.out b)
          clear HSP K stB y0 y1 y2 y3 y4 y5 y6 L0
          have K:=K2
          clear K2
          have HT5:=zz (show (i:Int)%5+1=((i%5+1:Nat):Int) by omega)
          obtain⟨tt,htt⟩:∃tt,i%5+1=tt:=⟨_,rfl⟩
          have hb5:tt<4294967296:=by omega
          have h50:(0:Int)≤(tt:Int):=by omega
          have h51:(tt:Int)<4294967296:=by omega
          rw[htt] at HT5
          have h52:=HT5.out
          have HM1:=zz (K.out.map1 hb5 L.out I9.out)
          clear htt hb5 HT5
          go_wp2_with fail
          refine HM1.out.mono ?_
          rintro e wa ⟨B1,m1,d1,rfl,pr1,hb⟩
          have K2:=zz (K.out.ab hb)
          have P1:=zz pr1
          clear HM1 K hb pr1
          have K:=K2
          clear K2
          have HM2:=zz (K.out.map2 tt L.out I9.out)
          go_wp2_with fail
          refine HM2.out.mono ?_
          rintro e wb ⟨B2,m2,d2,rfl,pr2,rfl⟩
          have HSM:=zz (prsSame_yes B1 B2 m1 d1 m2 d2 _ wa P1.out pr2)
          clear HM2 P1 pr2
          obtain⟨E,hE⟩:∃E,mapE T' tt=E:=⟨_,rfl⟩
          rw[hE]
          clear hE h50 h51 h52
          go_wp2_with fail
          refine HSM.out.mono ?_
          rintro e wc ⟨rfl,hb⟩
          have K2:=zz (K.out.ab hb)
          clear K hb HSM
          have K:=K2
          clear K2
          go_wp2_with fail
          go_roundw
          case rel=>exact⟨i+1,_,_,_,KL.out,rfl,by go_num,K.out,L.out⟩
          case measure=>simp[intOf];have:=KL.out;omega
      · have HO:=zz (K.out.opn2 L0.out I8.out)
        go_wp2_with fail
        refine HO.out.mono ?_
        rintro e w1 ⟨O1,v1,rfl,k1⟩
        have HP:=zz k1.opn1
        clear HO K k1
        go_wp2_with fail
        refine HP.out.mono ?_
        rintro e w2 ⟨O2,rfl,k2⟩
        have K:=zz k2
        have L:=zz (L0.out.opn.up (Nat.le_succ i))
        clear HP k2 L0
        have HT5:=zz (show (i:Int)%5+1=((i%5+1:Nat):Int) by omega)
        obtain⟨tt,htt⟩:∃tt,i%5+1=tt:=⟨_,rfl⟩
        have hb5:tt<4294967296:=by omega
        have h50:(0:Int)≤(tt:Int):=by omega
        have h51:(tt:Int)<4294967296:=by omega
        rw[htt] at HT5
        have h52:=HT5.out
        have HM1:=zz (K.out.map1 hb5 L.out I9.out)
        clear htt hb5 HT5
        go_wp2_with fail
        refine HM1.out.mono ?_
        rintro e wa ⟨B1,m1,d1,rfl,pr1,hb⟩
        have K2:=zz (K.out.ab hb)
        have P1:=zz pr1
        clear HM1 K hb pr1
        have K:=K2
        clear K2
        have HM2:=zz (K.out.map2 tt L.out I9.out)
        go_wp2_with fail
        refine HM2.out.mono ?_
        rintro e wb ⟨B2,m2,d2,rfl,pr2,rfl⟩
        have HSM:=zz (prsSame_yes B1 B2 m1 d1 m2 d2 _ wa P1.out pr2)
        clear HM2 P1 pr2
        obtain⟨E,hE⟩:∃E,mapE (T.map opnT) tt=E:=⟨_,rfl⟩
        rw[hE]
        clear hE h50 h51 h52
        go_wp2_with fail
        refine HSM.out.mono ?_
        rintro e wc ⟨rfl,hb⟩
        have K2:=zz (K.out.ab hb)
        clear K hb HSM
        have K:=K2
        clear K2
        go_wp2_with fail
        go_roundw
        case rel=>exact⟨i+1,_,_,_,KL.out,rfl,by go_num,K.out,L.out⟩
        case measure=>simp[intOf];have:=KL.out;omega
    · have CP:=zz K.out.copy
      go_wp2_with fail
      refine CP.out.mono ?_
      rintro e w1 ⟨s',O1,rfl,ne1,ib1,k1⟩
      have NE:=zz ne1
      have NR:=zz K.out.ne
      have IB1:=zz ib1
      have K1:=zz k1
      clear CP K ne1 ib1 k1
      have HD:=zz (K1.out.old1 IB1.out NE.out NR.out (delC_b w1) L0.out I8.out)
      unfold CallP.cs delC at HD
      go_wp2_with fail
      refine HD.out.mono ?_
      rintro e w2 ⟨v2,O2,T3,rfl,ib2,k2⟩
      have HO:=zz (k2.old2 ib2 NE.out NR.out)
      clear HD IB1 K1 ib2 k2
      go_wp2_with fail
      refine HO.out.mono ?_
      rintro e w3 ⟨O3,rfl,k3⟩
      have K:=zz k3
      have L:=zz (L0.out.up (Nat.le_succ i))
      clear HO k3 NE NR L0
      have HT5:=zz (show (i:Int)%5+1=((i%5+1:Nat):Int) by omega)
      obtain⟨tt,htt⟩:∃tt,i%5+1=tt:=⟨_,rfl⟩
      have hb5:tt<4294967296:=by omega
      have h50:(0:Int)≤(tt:Int):=by omega
      have h51:(tt:Int)<4294967296:=by omega
      rw[htt] at HT5
      have h52:=HT5.out
      have HM1:=zz (K.out.map1 hb5 L.out I9.out)
      clear htt hb5 HT5
      go_wp2_with fail
      refine HM1.out.mono ?_
      rintro e wa ⟨B1,m1,d1,rfl,pr1,hb⟩
      have K2:=zz (K.out.ab hb)
      have P1:=zz pr1
      clear HM1 K hb pr1
      have K:=K2
      clear K2
      have HM2:=zz (K.out.map2 tt L.out I9.out)
      go_wp2_with fail
      refine HM2.out.mono ?_
      rintro e wb ⟨B2,m2,d2,rfl,pr2,rfl⟩
      have HSM:=zz (prsSame_yes B1 B2 m1 d1 m2 d2 _ wa P1.out pr2)
      clear HM2 P1 pr2
      obtain⟨E,hE⟩:∃E,mapE T tt=E:=⟨_,rfl⟩
      rw[hE]
      clear hE h50 h51 h52
      go_wp2_with fail
      refine HSM.out.mono ?_
      rintro e wc ⟨rfl,hb⟩
      have K2:=zz (K.out.ab hb)
      clear K hb HSM
      have K:=K2
      clear K2
      go_wp2_with fail
      go_roundw
      case rel=>exact⟨i+1,_,_,_,KL.out,rfl,by go_num,K.out,L.out⟩
      case measure=>simp[intOf];have:=KL.out;omega
  · obtain rfl:i=n:=by omega
    clear hi hlt
    go_wp2_with fail
    refine (HK.out _).mono ?_
    rintro e w3 ⟨rfl,hb⟩
    have BB:=zz (below_tr K.out.bl hb K.out.bl.size)
    clear hb
    go_wp2_with fail
    go_ret
    exact⟨rfl,BB.out⟩
end
set_option maxRecDepth 100000 in
theorem plays_walk (z0:Int) (v:Value) (w:World) (h0:(Lit.int .i64 z0).wf=true) (hk:∃base,Value.okWide Tryz.prog w .any base 22 v) {H:Type} {enc:TypeId×Value→H} {d:DataW H} {p:List MemPlace} (hd:DataW.Trod enc Tryz.prog w 0 (fun _=>true) true 22 v d p) (hp:∀x∈p,x.block<w.heap.size) (hw:WtB 22 d):
 Calls Tryz.prog 3 #[.int .i64 z0,v] w fun e w'=>e = .returned (.bool true)∧Below w.heap.size w w':=by
 obtain⟨base,hk⟩:=hk
 obtain⟨A,n,c,l,rfl,h,hs⟩:=open_stepsW hk hd hp hw
 by_cases hb:8≤z0
 · by_cases hb2:z0≤4096
   · obtain⟨b,rfl⟩:∃b:Nat,z0=(b:Int):=⟨z0.toNat,by omega⟩
     by_cases hn:n≤200
     · exact plays_ok b (by omega) (by omega) hn h hs
     · exact plays_many b (by omega) (by omega) (by omega)
   · exact plays_bad z0 (.inr (by omega))
 · exact plays_bad z0 (.inl (by omega))
open Go.ChangeShapes Go.WideShapes Go.ChangeAt Go.RowKit
theorem make_of {P:Program} {l:List Char} (h:P.initOrder=String.ofList l) (hw:(match behindMainWord (wordsSigns l) with | c::_=>!(c == "gc".toList||c == "spec".toList)&&c == "cut".toList | []=>false)=true):P.make=some .cut:=by
 unfold Program.make
 rw[h,String.toList_ofList]
 revert hw
 generalize behindMainWord (wordsSigns l)=W
 cases W with
 | nil=>intro hw;cases hw
 | cons c r=>
   intro hw
   simp only[Bool.and_eq_true,Bool.not_eq_true'] at hw
   simp only[hw.1,hw.2,Bool.true_or,if_true]
   rfl
theorem lifts_of {P:Program} {l:List Char} (h:P.initOrder=String.ofList l) (hw:(!((behindMainWord (wordsSigns l)).head? == some "carried".toList)&&(stripLifts liftWords (behindMainWord (wordsSigns l))).1.isEmpty)=true):P.liftsFinal=false:=by
 unfold Program.liftsFinal Program.headLifts
 rw[h,String.toList_ofList]
 revert hw
 generalize behindMainWord (wordsSigns l)=W
 intro hw
 simp only[Bool.and_eq_true,Bool.not_eq_true',List.isEmpty_iff] at hw
 simp only[hw.1,hw.2,Bool.false_and,Bool.false_or]
 split <;> rfl
theorem enter_of {P:Program} {l:List Char} (h:P.initOrder=String.ofList l) (hw:(match behindMainWord (wordsSigns l) with | c::rest=>((stripLifts liftWords (c::rest)).2.head? == some "cut".toList&&(stripLifts liftWords (c::rest)).1.isEmpty) | []=>false)=true)
 (hl:P.laysLater=false) (hr:P.bearsReflect=false) (hd:P.doorRows=[]):P.mayEnter=true:=by
 unfold Program.mayEnter Program.doorFits
 rw[h,String.toList_ofList]
 revert hw
 generalize behindMainWord (wordsSigns l)=W
 cases W with
 | nil=>intro hw;cases hw
 | cons c r=>
   intro hw
   simp only[Bool.and_eq_true,List.isEmpty_iff] at hw
   simp only[hw.1,hw.2,hl,hr,hd]
   simp
set_option maxRecDepth 1000000 in
theorem J.make:Tryz.checked.prog.make=some .cut:=make_of rfl (by kernel_rfl)
set_option maxRecDepth 1000000 in
theorem J.lifts:Tryz.checked.prog.liftsFinal=false:=lifts_of rfl (by kernel_rfl)
set_option maxRecDepth 1000000 in
theorem J.enter:Tryz.checked.prog.mayEnter=true:=enter_of rfl (by kernel_rfl) (by kernel_rfl) (by kernel_rfl) (by kernel_rfl)
theorem joined_of {P:Program} {f:FuncId} {fn:Func} {s:ChangeSpec} {c:OpenClaim} (h1:P.mayEnter=true) (h2:P.liftsFinal=false) (h3:P.make=some .cut) (h4:c.lifted=false) (h5:c.make = .cut)
 (h:(c.wf (OpenSpec.ofChange s)&&laidOutB P&&mapsRowed P &&
   fn.params.all (P.readableRec ·)&&namedTie P c.named s.vars &&
   (c.stops==[])&&(P.stops==[])&&(c.knobs==[])&&(P.stopKnobs==[]) &&
   (c.inPlace==P.inPlace f)&&(c.unfollowed==P.unfollowed f)&&(c.recurses==P.recurses f)&&(c.named==P.varsNamed f) &&
   (c.maps==(fn.params.toList++s.plain.varTypes P).any (P.mapsRec ·))&&(c.ifaces==(fn.params.toList++s.plain.varTypes P).any (P.ifacesRec ·))&&(c.mapsOut==P.mapsAmong fn.resultTypes.toList) &&
   (c.loops==(fn.params.toList++s.plain.varTypes P).any (P.loopsFrom ·))&&(c.wideKeys==(fn.params.toList++s.plain.varTypes P++fn.resultTypes.toList).any (P.wideKeysFrom ·)) &&
   s.vars.all (P.varReadable ·)&&fn.resultTypes.all (fun t=>P.readableRec t&&decide (t<P.types.size))&&(c.ifacesOut==fn.resultTypes.toList.any (P.ifacesRec ·))&&(c.loopsOut==fn.resultTypes.toList.any (P.loopsFrom ·))&&(c.plainKeys==P.plainKeys)&&c.shortTexts.isNone&&P.stopsHeard)=true)
 (k:((c.kinds==(if c.domain.isEmpty then [] else fn.params.toList.map fun t=>match P.underlying t with | some (.int k)=>some k | _=>none))&&(c.pinned==c.pinnedBy) &&
   (c.veiled==(fn.params.toList++s.plain.varTypes P++fn.resultTypes.toList).any (P.veiledRec ·))&&c.veiledFits P fn.params.toList (fn.params.toList++s.plain.varTypes P++fn.resultTypes.toList))=true):joinedFacts P f fn s c=true:=by
 unfold joinedFacts
 rw[h,h1,h2,h3,h4,h5]
 simp only[Bool.true_and]
 simp only[Bool.and_eq_true] at k
 simp only[Bool.and_eq_true,k,and_true]
 exact⟨⟨rfl,by decide⟩,k.1.1.1⟩
end Go.Proofs.YtgdhinjhbjolgaaGreat
