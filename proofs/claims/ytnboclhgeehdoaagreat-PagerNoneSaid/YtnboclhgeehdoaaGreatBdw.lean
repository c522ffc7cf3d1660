/-
  Parts of the proof, joined.
-/
import Derived.Test.YtnboclhgeehdoaaGreatBdv
import Derived.Test.YtnboclhgeehdoaaGreatBdj
import Derived.Test.YtnboclhgeehdoaaGreatBdi
namespace Go.Proofs.YtnboclhgeehdoaaGreat
set_option maxHeartbeats 16000000
open Go.RowKit
set_option linter.unusedVariables false
set_option linter.unusedSimpArgs false
def stO (w:World) (N m:Nat):Tgm:=fun k=>if k<N then (0,9) else match w.heap[k]? with
 | some (.cells _ T _)=>if T=102∨T=151∨T=181 then (0,1) else if T=108∨T=179 then (0,2) else if T=105 then (0,3) else (0,0)
 | some (.map _ _)=>if k=m then (0,3) else (0,0)
 | _=>(0,0)
theorem stO_c {w:World} {N m k:Nat} {cs:Array Value} {T:TypeId} {fr:Nat×Nat} (hN:N≤k) (h:w.heap[k]? = some (.cells cs T fr)):stO w N m k=(if T=102∨T=151∨T=181 then (0,1) else if T=108∨T=179 then (0,2) else if T=105 then (0,3) else (0,0)):=by unfold stO;rw[if_neg (by omega),h]
theorem stO_low {w:World} {N m k:Nat} (h:k<N):stO w N m k=(0,9):=by unfold stO;rw[if_pos h]
theorem row_ty9 {w:World} {B n s:Nat} {e:TypeId} {v:Value} {xs:List Value} (h:w.ownsRow B e s v n xs):∀k,v.ownBlock=some k→∃cs fr,w.heap[k]? = some (.cells cs e fr):=fun k hk=>by
 rcases h.2 with ⟨rfl,_⟩ | ⟨g,cap,cur,rfl,_,hb,_⟩
 · cases hk
 · simp only[Value.ownBlock,Option.some.injEq] at hk
   subst hk
   exact⟨_,_,hb⟩
theorem RgV.low0 {w:World} {B:Nat}:∀{vs:List ((Nat×Nat)×Value)} {l:RgL},RgV w B vs l→RgV w 0 vs l
 | [],[],_=>trivial
 | p::ps,q::qs,h=>⟨⟨h.1.1,h.1.2.lower (Nat.zero_le _)⟩,RgV.low0 h.2⟩
 | [],_::_,h=>h.elim
 | _::_,[],h=>h.elim
theorem stage {w:World} {d g1 g2 rg m lg N:Nat} {wv:Value} {D:DvS} {R:RgL} {all:List Sl} (hd:DsB w N d g1 g2 wv D) (hr:RgB w N rg m R) (hrg:N≤rg) (hl:LgB w N lg all) (hlg:N≤lg):DvM w (stO w N m) d D∧RgM w (stO w N m) rg R∧LgM w (stO w N m) lg all:=by
 obtain⟨l1,l2,l3⟩:=hd.low
 refine⟨⟨g1,g2,wv,⟨hd.box,hd.now,hd.firm,row_low hd.row (Nat.zero_le _),hd.ne,⟨Nat.zero_le _,Nat.zero_le _,Nat.zero_le _⟩⟩,(stO_c l1 hd.box).trans (by decide),(stO_c l2 hd.now).trans (by decide),(stO_c l3 hd.firm).trans (by decide),fun k hk=>?_⟩,?_,?_⟩
 · obtain⟨cs,fr,h1⟩:=row_ty9 hd.row k hk
   exact (stO_c (own_ge9 hd.row k hk) h1).trans (by decide)
 · obtain⟨vs,h1,h2⟩:=hr.map
   refine⟨m,vs,hr.box,h1,h2.low0,hr.ne,(stO_c hrg hr.box).trans (by decide),?_,fun p hp k hk=>?_⟩
   · have hm:=hr.low
     obtain⟨es,clock,h3,_⟩:=h1
     unfold stO
     rw[if_neg (by omega),h3]
     exact if_pos rfl
   · obtain⟨k',hk'⟩:=h2.mem p hp
     obtain⟨cs,fr,h3⟩:=row_ty9 hk'.own k hk
     exact (stO_c (own_ge9 hk'.own k hk) h3).trans (by decide)
 · obtain⟨h0,v,h1,h2⟩:=hl
   refine⟨v,h1,row_low h2 (Nat.zero_le _),(stO_c hlg h1).trans (by decide),fun k hk=>?_⟩
   obtain⟨cs,fr,h3⟩:=row_ty9 h2 k hk
   exact (stO_c (own_ge9 h2 k hk) h3).trans (by decide)
def newD (b:Nat):DvS:=⟨b,zeros (b*256),zeros (b*256),[],0,0,-1,false⟩
theorem newD_ok {b:Nat} (h8:8≤b) (h4:b≤4096):(newD b).Ok where
 n8:=h8
 n4:=h4
 now:=by simp[newD,zeros]
 firm:=by simp[newD,zeros]
 bnow:=fun x hx=>by simp[newD,zeros] at hx;omega
 bfirm:=fun x hx=>by simp[newD,zeros] at hx;omega
 ws:=fun x hx=>by cases hx
 cut:=⟨by show (-1:Int)≤-1;decide,by show (-1:Int)≤1000000000;decide⟩
 fail:=by show 0≤1000000000;decide
theorem DkN.ds {w:World} {B d b g1 g2:Nat} (h:DkN w B d b g1 g2):DsB w B d g1 g2 (.slice none 0 0) (newD b):=
 ⟨h.box,h.now,h.firm,World.ownsRow_nil _ _ _ _,h.ne,h.low⟩
theorem RgV.lowr {w:World} {B C:Nat} (hC:C≤B):∀{vs:List ((Nat×Nat)×Value)} {l:RgL},RgV w B vs l→RgV w C vs l
 | [],[],_=>trivial
 | p::ps,q::qs,h=>⟨⟨h.1.1,h.1.2.lower hC⟩,RgV.lowr hC h.2⟩
 | [],_::_,h=>h.elim
 | _::_,[],h=>h.elim
theorem RgB.lowr {w:World} {B C g m:Nat} {l:RgL} (h:RgB w B g m l) (hC:C≤B):RgB w C g m l:=by
 obtain⟨vs,h1,h2⟩:=h.map
 exact⟨h.box,Nat.le_trans hC h.low,⟨vs,h1,h2.lowr hC⟩,h.ne⟩
def beginT (T:PgP) (n:Nat):PgP:={ T with cm:=n,la:=n,fl:=false,pu:=[],dr:=[] }
section
variable {w:World} {O:Tgm} {p d rg lg:Nat} {T:PgP}
theorem beginM {n:Nat} (h:PgM w O p d rg lg T) (hn:n<18446744073709551616) (hf:T.fa=false) (h0:T.cm=0) (hl:T.la<n):
 Calls Tryz.prog 25 #[.pointer (some ⟨p,0,none⟩),.int .u64 (n:Int)] w fun e w'=>∃O',e = .returned (.int .i64 0)∧PgM w' O' p d rg lg (beginT T n)∧Wr (fun τ=>τ=(p,1)) w O w' O':=by
 obtain⟨b,hN,rfl,rfl,rfl⟩:=h
 refine (begin_ok n hn hN.box hf h0 hl).mono ?_
 rintro e w' ⟨a,c,rfl,hbx,ha,hc,ga,gc,hac,hfr⟩
 have hO:∀k,k<w.heap.size→(fun k=>if k<w.heap.size then O k else if k=a then (p,4) else if k=c then (p,5) else (0,0)) k=O k:=fun k hk=>if_pos hk
 have s:Wr (fun τ=>τ=(p,1)) w O w' (fun k=>if k<w.heap.size then O k else if k=a then (p,4) else if k=c then (p,5) else (0,0)):=⟨hfr.imp fun q hq=>by rw[hq];exact hN.tb,hO⟩
 have hp:=hN.pos
 have fz:=fun (k:Nat) (i:Nat) (hi:i≠1) (e:O k=(p,i)) (q:O k=(p,1))=>hi (by rw[e] at q;injection q)
 have f0:¬((0:Nat),(0:Nat))=(p,1):=fun e=>by injection e with e;omega
 obtain⟨vs,k1,k2⟩:=hN.kn
 have ta:(fun k=>if k<w.heap.size then O k else if k=a then (p,4) else if k=c then (p,5) else (0,0)) a=(p,4):=by dsimp only;rw[if_neg (by omega),if_pos rfl]
 have tc:(fun k=>if k<w.heap.size then O k else if k=a then (p,4) else if k=c then (p,5) else (0,0)) c=(p,5):=by dsimp only;rw[if_neg (by omega),if_neg (by omega),if_pos rfl]
 refine⟨_,rfl,⟨{ b with pv:=.map (some a),dv:=.map (some c) },?_,rfl,rfl,rfl⟩,s⟩
 exact {
  box:=hbx
  pos:=hN.pos
  tb:=(s.tg _ (CbB.lt hN.box)).trans hN.tb
  free:=row_fr hN.free s.fr (fun k hk e=>f0 (by rw[←hN.tf k hk];exact e))
  tf:=fun k hk=>(s.tg _ (row_ltD hN.free k hk)).trans (hN.tf k hk)
  kn:=⟨vs,k1.same (s.fr.block _ k1.lt (fz _ 2 (by decide) hN.tk)),k2.imp fun v a t hv=>hv.wr s f0⟩
  tk:=(s.tg _ k1.lt).trans hN.tk
  wa:=hN.wa.same (s.fr.block _ hN.wa.lt (fz _ 3 (by decide) hN.tw))
  tw:=(s.tg _ hN.wa.lt).trans hN.tw
  pu:=.inr ⟨a,rfl,ha,ta⟩
  dr:=.inr ⟨c,rfl,hc,tc⟩
  pi:=hN.pi.same (s.fr.block _ hN.pi.lt (fz _ 6 (by decide) hN.ti))
  ti:=(s.tg _ hN.pi.lt).trans hN.ti
  rgt:=hN.rgt
  okr:=hN.okr
  num:=hN.num
  cmo:=⟨hn,hn⟩
  opn:=fun _=>⟨⟨a,rfl⟩,⟨c,rfl⟩⟩ }
def tenV (v:Value):Nat:=match v with
 | .agg cs=>match cs[0]? with
   | some (Value.int _ z)=>z.toNat
   | _=>0
 | _=>0
def cntV (t:Nat) (vs:List (Nat×Value)):Nat:=(vs.filter fun q=>decide (tenV q.2=t)).length
def usedP (kn:KnL) (t:Nat):Nat:=(kn.filter fun q=>decide (q.2.1.ten=t)).length
theorem cntV_le (t:Nat) (vs:List (Nat×Value)):cntV t vs≤vs.length:=List.length_filter_le _ _
theorem cntV_snoc (t:Nat) (vs:List (Nat×Value)) (q:Nat×Value):cntV t (vs++[q])=cntV t vs+(if tenV q.2=t then 1 else 0):=by
 unfold cntV
 rw[List.filter_append,List.length_append,List.filter_cons]
 by_cases h:tenV q.2=t
 · rw[if_pos (decide_eq_true h),if_pos h];rfl
 · rw[if_neg (by simpa using h),if_neg h];rfl
theorem KnV.used (t:Nat):∀{vs:List (Nat×Value)} {l:KnL},KnV w O vs l→cntV t vs=usedP l t
 | [],[],_=>rfl
 | p::ps,q::qs,h=>by
   have ih:=KnV.used t h.2
   obtain⟨x,h1,_⟩:=h.1.2
   have h2:tenV p.2=q.2.1.ten:=by rw[h1];simp[tenV]
   unfold cntV usedP at ih⊢
   rw[List.filter_cons,List.filter_cons,h2]
   split
   · rw[List.length_cons,List.length_cons,ih]
   · exact ih
 | [],_::_,h=>h.elim
 | _::_,[],h=>h.elim
theorem nodup_keys {a:List (Nat×Value)} (ha:(a.map (·.1)).Nodup):a.Nodup:=by
 unfold List.Nodup at *
 exact (List.pairwise_map.1 ha).imp (fun h e=>h (by rw[e]))
theorem cntV_perm (t:Nat) {a b:List (Nat×Value)} (ha:(a.map (·.1)).Nodup) (hb:(b.map (·.1)).Nodup) (h:∀x,x∈a↔x∈b):cntV t a=cntV t b:=
 (((List.perm_ext_iff_of_nodup (nodup_keys ha) (nodup_keys hb)).2 h).filter _).length_eq
theorem KnV.shape:∀{vs:List (Nat×Value)} {l:KnL},KnV w O vs l→∀q∈vs,∃(l':Lb) (A:Option Addr) (n c:Nat),q.2 = .agg #[.int .u32 (l'.ten:Int),.int .u8 (l'.k:Int),.int .u8 (l'.lv:Int),.int .u32 (l'.pg:Int),.int .u64 (l'.cm:Int),.int .u16 (l'.gn:Int),.slice A n c]∧l'.Ok
 | [],[],_,_,hq=>by cases hq
 | p :: ps,q::qs,h,r,hr=>by
   rcases List.mem_cons.1 hr with rfl | hr
   · obtain⟨x,h1,⟨A,n,c,rfl,_⟩,h3⟩:=h.1.2
     exact⟨_,_,_,_,h1,h3⟩
   · exact KnV.shape h.2 r hr
 | [],_::_,h,_,_=>h.elim
 | _::_,[],h,_,_=>h.elim
set_option maxRecDepth 100000 in
theorem used_any (t:Nat) (ht:t<4294967296) (h:PgM w O p d rg lg T) (hl:T.kn.length≤100000):Calls Tryz.prog 29 #[.pointer (some ⟨p,0,none⟩),.int .u32 (t:Int)] w fun e w'=>e = .returned (.int .i64 (usedP T.kn t:Int))∧Below w.heap.size w w':=by
 obtain⟨b,hN,_,_,_⟩:=h
 obtain⟨vs,hm,hv⟩:=hN.kn
 have c4:w.cell? ⟨p,4,none⟩=some (.map (some b.kn)):=CbB.cell hN.box (k:=4) rfl
 have US:=Lib.hid (hv.used t)
 have SH:=Lib.hid hv.shape
 have ND:=Lib.hid (hm.nodup u32p_K)
 have VL:Hid (vs.length≤100000):=Lib.hid (by rw[hv.len];exact hl)
 have M0:=Lib.hid hm
 rw[←US.out]
 obtain⟨kn,hkn⟩:∃kn,b.kn=kn:=⟨_,rfl⟩
 rw[hkn] at c4 M0
 clear hN hm hv hl hkn US
 go_enter Tryz.func29,Tryz.ntmps29
 go_wp2_with (first
  | (refine wpList_mapRange rfl (.tmp 13) rfl Tryz.underlying109 rfl M0.out ?_
     intro w1 r1 b1 s1
     have R1:=Lib.hid r1
     have B1:=Lib.hid b1
     clear r1 b1 s1
     simp[Act.put]))
 go_loopg [5] (vs.length) (fun k v wr=>∃d,vs.length-d.length≤k∧RngB u32Vp u32Okp wr kn w.heap.size vs d∧v = .int .i64 (cntV t d:Int)∧Below w.heap.size w wr∧w.heap.size<wr.heap.size)
 case atStart=>exact⟨[],by simp,R1.out,rfl,B1.out,R1.out.lt⟩
 case round=>
  obtain⟨d,hk,hr,hn,hb,hs⟩:=hrel
  subst hn
  have HK:=Lib.hid hk
  have NB:=Lib.hid hb
  have NS:=Lib.hid hs
  have DL:Hid (cntV t d≤100000):=Lib.hid (by have h2:=hr.len_le;have h3:=VL.out;have h4:=cntV_le t d;omega)
  rcases hr.next u32p_K 0 with ⟨hall,hrun⟩ | ⟨q,w2,hp,hd,hrun,hr2,hg2,hs2,hent,hbel⟩
  · have GO:Hid (cntV t d=cntV t vs):=Lib.hid (by
     obtain⟨_,_,_,_,_,_,_,_,_,_,_,_,_,_,hsub,hnd⟩:=hr
     exact cntV_perm t hnd ND.out fun x=>⟨hsub x,hall x⟩)
    clear hk hr hb hs hall
    go_wp2_with fail
    go_ret
    exact⟨by rw[←GO.out];rfl,NB.out⟩
  · obtain⟨pg,pv⟩:=q
    obtain⟨l',xA,xn,xc,hpv,hlo⟩:=SH.out _ hp
    dsimp only at hpv
    subst hpv
    simp only[u32Vp] at hrun hent
    have HM:Hid (d.length<vs.length):=Lib.hid (by have:=hr2.len_le;simp at this;omega)
    have B2:=Lib.hid (hbel _ _ hb (Nat.le_refl _))
    have S2:Hid (w.heap.size<w2.heap.size):=Lib.hid (by rw[hs2];exact hs)
    have R2:=Lib.hid hr2
    have CN:=Lib.hid (cntV_snoc t d (pg,.agg #[.int .u32 (l'.ten:Int),.int .u8 (l'.k:Int),.int .u8 (l'.lv:Int),.int .u32 (l'.pg:Int),.int .u64 (l'.cm:Int),.int .u16 (l'.gn:Int),.slice xA xn xc]))
    have TV:Hid (tenV (.agg #[.int .u32 (l'.ten:Int),.int .u8 (l'.k:Int),.int .u8 (l'.lv:Int),.int .u32 (l'.pg:Int),.int .u64 (l'.cm:Int),.int .u16 (l'.gn:Int),.slice xA xn xc])=l'.ten):=Lib.hid (by simp[tenV])
    clear hk hr hb hs hp hd hr2 hg2 hs2 hbel hlo
    have WP:=wrap_i64P (z:=(cntV t d:Int)+1) (by omega) (by have:=DL.out;omega)
    by_cases ht1:l'.ten=t
    · have e1:((l'.ten:Int)==(t:Int))=true:=by simp;omega
      have HT:=Lib.hid ht1
      clear ht1
      go_wp2_with fail
      go_roundg (vs.length-(d.length+1))
      case measure=>have:=HM.out;have:=HK.out;omega
      case rel=>
       have ba:Below w2.heap.size w2 (w2.alloc (.cells #[.int .u32 (l'.ten:Int),.int .u8 (l'.k:Int),.int .u8 (l'.lv:Int),.int .u32 (l'.pg:Int),.int .u64 (l'.cm:Int),.int .u16 (l'.gn:Int),.slice xA xn xc] 139)):=(Below.refl _ _).alloc (Nat.le_refl _) _
       refine⟨_,by simp,R2.out.ab ba,?_,below_tr B2.out ba (Nat.le_of_lt S2.out),Nat.lt_of_lt_of_le S2.out ba.size⟩
       rw[CN.out]
       rw[TV.out,if_pos HT.out]
       rfl
    · have e1:((l'.ten:Int)==(t:Int))=false:=by simp;omega
      have HT:=Lib.hid ht1
      clear ht1
      go_wp2_with fail
      go_roundg (vs.length-(d.length+1))
      case measure=>have:=HM.out;have:=HK.out;omega
      case rel=>
       have ba:Below w2.heap.size w2 (w2.alloc (.cells #[.int .u32 (l'.ten:Int),.int .u8 (l'.k:Int),.int .u8 (l'.lv:Int),.int .u32 (l'.pg:Int),.int .u64 (l'.cm:Int),.int .u16 (l'.gn:Int),.slice xA xn xc] 139)):=(Below.refl _ _).alloc (Nat.le_refl _) _
       refine⟨_,by simp,R2.out.ab ba,?_,below_tr B2.out ba (Nat.le_of_lt S2.out),Nat.lt_of_lt_of_le S2.out ba.size⟩
       rw[CN.out]
       rw[TV.out,if_neg HT.out]
       rfl
set_option maxRecDepth 100000 in
theorem blank_none (c:Nat) (A:Option Addr) (w:World):Calls Tryz.prog 69 #[.pointer (some ⟨p,0,none⟩),.slice A 0 c] w fun e w'=>e = .returned (.int .i64 0)∧Below w.heap.size w w':=by
 go_enter Tryz.func69,Tryz.ntmps69
 go_wp2_with fail
 go_loopw [10] (fun z wx=>z = .int .i64 0∧wx=w) (fun z _=>0)
 case atStart=>exact⟨rfl,rfl⟩
 case round=>
  obtain⟨rfl,rfl⟩:=hrel
  go_wp2_with fail
  go_ret
  exact⟨rfl,Below.refl _ _⟩
set_option maxRecDepth 100000 in
theorem scrub_none (h:PgM w O p d rg lg T) (hf:T.fa=false) (ho:T.cm=0∨T.fl=true) (hw:T.wa=[]):Calls Tryz.prog 28 #[.pointer (some ⟨p,0,none⟩)] w fun e w'=>∃O',e = .returned (.int .i64 0)∧PgM w' O' p d rg lg { T with cm:=0 }∧Wr (fun τ=>τ=(p,1)) w O w' O':=by
 have HF:=Lib.hid hf
 have HM0:=Lib.hid h
 obtain⟨b,hN,rfl,rfl,rfl⟩:=h
 have HM:=Lib.hid (may_any hN.box)
 rw[show mayP (pcS b T)=0 from by unfold mayP pcS;rw[hf];rfl] at HM
 have HO:=Lib.hid (open_any hN.box)
 rw[show openB (pcS b T)=false from by unfold openB pcS;rcases ho with e | e <;> simp[e]] at HO
 have c5:w.cell? ⟨p,5,none⟩=some (.map (some b.mw)):=CbB.cell hN.box (k:=5) rfl
 have RI:=Lib.hid (rising_any b.mw T.wa w hN.wa (by rw[hw];decide))
 rw[hw] at RI
 simp only[List.map_nil,show U32.srt []=[] from by simp[U32.srt]] at RI
 clear hf ho hw hN
 go_enter Tryz.func28,Tryz.ntmps28
 go_wp2_with fail
 refine HM.out.mono ?_
 rintro e w1 ⟨rfl,rfl⟩
 go_wp2_with fail
 refine HO.out.mono ?_
 rintro e w1 ⟨rfl,rfl⟩
 go_wp2_with fail
 refine RI.out.mono ?_
 rintro e w2 ⟨v,rfl,hv,hb⟩
 obtain⟨A2,c2,rfl⟩:=row_shape hv
 have M2:=Lib.hid (HM0.out.wr (Wr.cut (O:=O) hb (fun _=>False)) (fun _=>id) id)
 have S2:=Lib.hid (Wr.cut (O:=O) hb (fun _=>False))
 clear hv hb HM HO RI c5
 go_wp2_with fail
 go_loopw [4,23] (fun z1 z2 wx=>z1 = .slice none 0 0∧z2 = .int .i64 0∧w2=wx) (fun _ _ _=>0)
 case atStart=>exact⟨rfl,rfl,rfl⟩
 case round=>
  obtain⟨rfl,rfl,rfl⟩:=hrel
  go_wp2_with fail
  refine (blank_none 0 none _).mono ?_
  rintro e w3 ⟨rfl,hb3⟩
  have M3:=Lib.hid (M2.out.wr (Wr.cut hb3 (fun _=>False)) (fun _=>id) id)
  have S3:=Lib.hid (S2.out.tr (Wr.cut hb3 (fun _=>False)))
  clear hb3
  go_wp2_with fail
  refine (failM M3.out HF.out 0 (by decide)).mono ?_
  rintro e w4 ⟨rfl,hp4,hw4⟩
  rw[show ({ T with fa:=!decide ((0:Nat)=0) }:PgP)=T from by rw[←show T.fa = !decide ((0:Nat)=0) from HF.out]] at hp4
  obtain⟨b4,hN4,e1,e2,e3⟩:=hp4
  have c9:w4.cell? ⟨p,9,none⟩=some (.int .u64 (T.cm:Int)):=CbB.cell hN4.box (k:=9) rfl
  have f9:w4.frozen? ⟨p,9,none⟩=false:=CbB.free hN4.box 9
  have N4:=Lib.hid hN4
  have E4:=Lib.hid (And.intro e1 (And.intro e2 e3))
  have S4:=Lib.hid hw4
  clear hN4 e1 e2 e3 hw4
  go_wp2_with fail
  go_loopw [49] (fun z wx=>z = .int .i64 0∧w4=wx) (fun _ _=>0)
  case atStart=>exact⟨rfl,rfl⟩
  case round=>
   obtain⟨rfl,rfl⟩:=hrel
   go_wp2_with fail
   go_ret
   have s5:Wr (fun τ=>τ=(p,1)) w4 (cutO (cutO O w.heap.size) w2.heap.size) (w4.setCell ⟨p,9,none⟩ (.int .u64 0)) (cutO (cutO O w.heap.size) w2.heap.size):=⟨(fr_setD w4 p 9 _).imp fun q hq=>by rw[hq];exact N4.out.tb,fun _ _=>rfl⟩
   refine⟨_,rfl,⟨_,N4.out.upd (T':={ T with cm:=0 }) (v:=b4.fv) s5 (CbB.set N4.out.box 9 (.int .u64 0)) (row_fr N4.out.free (fr_setD w4 p 9 _) (fun q hq e=>?_)) N4.out.tf rfl rfl rfl rfl rfl N4.out.rgt N4.out.okr N4.out.num ⟨show 0<18446744073709551616 by decide,N4.out.cmo.2⟩ (fun e=>absurd rfl e),E4.out.1,E4.out.2.1,E4.out.2.2⟩,((S3.out.imp fun _=>False.elim).tr S4.out).tr s5⟩
   have h1:=N4.out.tf q hq
   rw[e,N4.out.tb] at h1
   have:=N4.out.pos
   injection h1 with h1
   omega
end
def kR9:RgL:=[((1,3),zeros 16)]
def kL9:Lb:=⟨1,1,0,2,5,3⟩
def kP9:List Nat:=List.replicate 224 7
theorem kP9_len:kP9.length=224:=List.length_replicate
theorem kP9_byt:Byt kP9:=fun x hx=>by rw[(List.mem_replicate.1 hx).2];decide
def kT9:PgP:=putT (beginT (newT [(2,8)]) 5) (2,8) [] kL9 kP9
theorem kL9_ok:kL9.Ok:=⟨by decide,by decide,by decide,by decide,by decide,by decide⟩
theorem kSO9:SOk (zeros 16) kL9:=⟨.inl (by decide),by decide,by decide⟩
theorem kS9:sealP (zeros 16) kL9 kP9=(headL kL9++sealA (zeros 16) (nonceL kL9) (aadL kL9) kP9,0):=by
 unfold sealP
 rw[if_pos ⟨kSO9,kP9_len⟩]
theorem srt_one (n:Nat):U32.srt [n]=[n]:=by unfold U32.srt;exact List.mergeSort_singleton _
theorem kNew9:newP 1 kR9=(3,0):=by
 have h:U16.srt (gensK 1 (kR9.map (·.1)))=[3]:=(show U16.srt [3]=[3] from List.mergeSort_singleton _)
 unfold newP
 rw[h]
 rfl
theorem writeD_new (b:Nat) (i:Nat) (s:List Nat):writeD (newD b) i s=(0,⟨b,putD (zeros (b*256)) s i,zeros (b*256),[(i,s)],1,0,-1,false⟩):=rfl
theorem syncD_new (b:Nat) (l f:List Nat) (ws:List (Nat×List Nat)):syncD ⟨b,l,f,ws,1,0,-1,false⟩=(0,⟨b,l,l,[],2,0,-1,false⟩):=rfl
def kD9 (S:List Nat):DvS:=⟨8,putD (zeros (8*256)) S 2,putD (zeros (8*256)) S 2,[],2,0,-1,false⟩
theorem kFlush9:flushP kR9 kT9 (newD 8) []=(0,{ kT9 with fl:=true,fa:=false },kD9 (sealP (zeros 16) kL9 kP9).1,[⟨kL9,zeros 16,kP9,(sealP (zeros 16) kL9 kP9).1⟩]):=by
 have h1:U32.srt (kT9.pu.map (·.1))=[2]:=srt_one 2
 have h2:getK 2 kT9.kn=some (kL9,kP9):=rfl
 have h3:getR (kL9.ten,kL9.gn) kR9=some (zeros 16):=rfl
 have h4:flushF kR9 kT9.kn [2] (newD 8) []=(0,⟨8,putD (zeros (8*256)) (sealP (zeros 16) kL9 kP9).1 2,zeros (8*256),[(2,(sealP (zeros 16) kL9 kP9).1)],1,0,-1,false⟩,[⟨kL9,zeros 16,kP9,(sealP (zeros 16) kL9 kP9).1⟩]):=by
  unfold flushF flush1
  rw[h2]
  simp only
  rw[h3]
  simp only
  rw[writeD_new]
  rfl
 unfold flushP
 rw[h1,h4]
 simp only
 rw[syncD_new]
 rfl
theorem kGet9:getP kR9 (kD9 (sealP (zeros 16) kL9 kP9).1) (newT []) kL9=(0,kP9,{ newT [] with kn:=[(2,(kL9,kP9))] }):=by
 have hl:(sealP (zeros 16) kL9 kP9).1.length=256:=(seal_ok9 (.inl (by decide)) (by decide) (by decide) kP9_len).2
 have h1:blkL (kD9 (sealP (zeros 16) kL9 kP9).1).now 2=(sealP (zeros 16) kL9 kP9).1:=by
  show blkL (putD (zeros (8*256)) _ 2) 2=_
  rw[blkL_put (zeros_len _) (by decide) (by omega),List.drop_of_length_le (by
   unfold blkL
   rw[List.length_take]
   omega),List.append_nil]
 have h2:openP (zeros 16) kL9 (sealP (zeros 16) kL9 kP9).1=(kP9,0):=by
  rw[kS9]
  exact openP_seal kSO9 kP9_len
 unfold getP
 rw[if_neg (by decide),if_neg (by decide),if_neg (by show ¬¬(1<2∧2<8);decide)]
 rw[show getK kL9.pg (newT []).kn=none from rfl]
 dsimp only
 rw[if_neg (show ¬hasR (newT []).fr kL9.pg=true from by decide),if_neg (show ¬(kD9 (sealP (zeros 16) kL9 kP9).1).down=true from by show ¬(false=true);decide),show getR (kL9.ten,kL9.gn) kR9=some (zeros 16) from rfl]
 dsimp only
 rw[show kL9.pg=2 from rfl,h1,h2,if_pos rfl]
 rfl
theorem CbB.wr {P:Nat×Nat→Prop} {w w':World} {O O':Tgm} {k:Nat} {T:TypeId} {cs:Array Value} (h:CbB w k T cs) (ht:O k=(0,0)) (s:Wr P w O w' O') (hn:¬P (0,0)):CbB w' k T cs∧O' k=(0,0):=⟨CbB.fr h s.fr (fun e=>hn (by rw[←ht];exact e)),(s.tg _ h.lt).trans ht⟩
theorem sealP_byt {key text:List Nat} {l:Lb} (hb:Byt key) (ht:Byt text) (hl:l.Ok):Byt (sealP key l text).1:=by
 unfold sealP
 split
 · next h=>exact byt_app (headL_byt l hl) (byt_app (cryptA_byt h.1.1 hb (flatN_byt _) ht) (tagA_byt h.1.1 hb (flatN_byt _)))
 · exact fun x hx=>by cases hx
def FilR (N:Nat) (v:Value) (W:World):Prop:=∃g,v = .slice (some ⟨g,0,none⟩) 224 224∧IsB W (some ⟨g,0,none⟩) 224 224 kP9∧N≤g
theorem FilR.mono {N:Nat}:Mono (FilR N):=fun _ _ _ ⟨g,h1,h2,h3⟩ hb=>⟨g,h1,h2.ab hb,h3⟩
set_option maxRecDepth 100000 in
theorem known19_any (w:World):Calls Tryz.prog 12 #[] w fun e w'=>e = .returned (.bool true)∧Below w.heap.size w w':=by
 have hmk:∀W:World,(Instr.makeSlice 64 (.int .i64 16) (.int .i64 16)).run Tryz.prog W = .ok (.slice (some ⟨W.heap.size,0,none⟩) 16 16) (W.alloc (.cells (bts (zeros 16)) 5)):=fun W=>make_u8 16 16 (Nat.le_refl _) (by decide) W
 go_enter Tryz.func12,Tryz.ntmps12
 go_wp2_with fail
 refine (diskNew_any 8 w (by decide) (by decide)).mono ?_
 rintro e w1 ⟨d,g1,g2,rfl,hd,hb1⟩
 have D1:=Lib.hid hd.ds
 have B1:=Lib.hid hb1
 clear hd hb1
 go_wp2_with fail
 refine (newRing_any w1).mono ?_
 rintro e w2 ⟨rg,m,rfl,hge,hr,hb2⟩
 have D2:=Lib.hid (D1.out.ab hb2)
 have R2:=Lib.hid (hr.lowr B1.out.size)
 have GE2:=Lib.hid (Nat.le_trans B1.out.size hge)
 have B2:=Lib.hid (below_tr B1.out hb2 B1.out.size)
 clear hr hb2 hge D1 B1
 go_wp2_with fail
 refine (newLog_any w2).mono ?_
 rintro e w3 ⟨lg,rfl,hge,hl,hb3⟩
 have D3:=Lib.hid (D2.out.ab hb3)
 have R3:=Lib.hid (R2.out.ab hb3)
 have GE3:=Lib.hid (Nat.le_trans B2.out.size hge)
 have B3:=Lib.hid (below_tr B2.out hb3 B2.out.size)
 have L3:=Lib.hid (LgB.empty (B:=w.heap.size) hl B3.out.size)
 clear hl hb3 hge D2 B2 R2
 go_wp2_with fail
 have hI:IsB (w3.alloc (.cells (bts (zeros 16)) 5)) (some ⟨w3.heap.size,0,none⟩) 16 16 (zeros 16):=isB_whole (Bk.newAt _ (zeros 16) rfl) (byt_zeros 16) (zeros_len 16) (by decide)
 have hba:Below w3.heap.size w3 (w3.alloc (.cells (bts (zeros 16)) 5)):=(Below.refl _ _).alloc (Nat.le_refl _) _
 refine (ringAdd_any _ rg m 1 3 16 16 _ (zeros 16) [] _ (R3.out.ab hba) (by decide) (by decide) hI).mono ?_
 rintro e w4 ⟨rfl,hr,hg⟩
 have b4:Below w.heap.size w w4:=below_grown (below_tr B3.out hba B3.out.size) hg R3.out.low (below_tr B3.out hba B3.out.size).size
 obtain⟨vs3,hm3,hm4⟩:=(R3.out.ab hba).map
 obtain⟨es,ck,hme,hm5⟩:=hm3
 have dm:d≠m∧g1≠m∧g2≠m∧lg≠m:=⟨fun e=>(by have h:=(D3.out.ab hba).box;unfold CbB at h;rw[e,hme] at h;cases h),fun e=>(by have h:=(D3.out.ab hba).now;unfold Bk at h;rw[e,hme] at h;cases h),fun e=>(by have h:=(D3.out.ab hba).firm;unfold Bk at h;rw[e,hme] at h;cases h),fun e=>(by
  obtain⟨v,h,_⟩:=(L3.out.ab hba).box
  unfold CbB at h;rw[e,hme] at h;cases h)⟩
 have fg:Fr (w3.alloc (.cells (bts (zeros 16)) 5)) w4 (fun k=>k=m):=(Fr.grown hg).imp fun k hk=>by injection hk with hk;exact hk.symm
 have d4:DsB w4 w.heap.size d g1 g2 (.slice none 0 0) (newD 8):=(D3.out.ab hba).fr fg fun k hk=>by
  subst hk
  exact⟨dm.1.symm,dm.2.1.symm,dm.2.2.1.symm,by simp[Value.ownBlock]⟩
 have l4:LgB w4 w.heap.size lg []:=by
  obtain⟨h0,v,h1,h2⟩:=L3.out.ab hba
  refine LgB.mk b4.size ⟨v,h1.fr fg dm.2.2.2,row_fr h2 fg fun k hk e=>?_⟩
  obtain⟨cs,fr,h3⟩:=row_ty9 h2 k hk
  rw[e,hme] at h3
  cases h3
 rw[show addP (1,3) (zeros 16) []=(0,kR9) from rfl] at hr
 obtain⟨dv,ri,lo⟩:=stage d4 hr GE2.out l4 GE3.out
 have DV:=Lib.hid dv
 have RI:=Lib.hid ri
 have LO:=Lib.hid lo
 have B4:=Lib.hid b4
 clear hI hba hr hg hm4 hm5 hme es ck dm fg d4 l4 D3 L3 R3 B3 dv ri lo b4
 obtain⟨O4,hO4⟩:∃O4,stO w4 w.heap.size m=O4:=⟨_,rfl⟩
 have OL:Hid (∀k,k<w.heap.size→O4 k=(0,9)):=Lib.hid fun k hk=>by rw[←hO4];exact stO_low hk
 rw[hO4] at DV RI LO
 clear hO4
 rw[show (addP (1,3) (zeros 16) []).1=0 from rfl]
 go_wp2_with fail
 have b5:Below w4.heap.size w4 (w4.alloc (.cells #[.int .u32 2,.int .u32 8] 72)):=(Below.refl _ _).alloc (Nat.le_refl _) _
 have s5:Wr (fun _=>False) w4 O4 (w4.alloc (.cells #[.int .u32 2,.int .u32 8] 72)) O4:=Wr.of b5 _ (fun _ _=>rfl)
 have r5:RnB (w4.alloc (.cells #[.int .u32 2,.int .u32 8] 72)) (some ⟨w4.heap.size,0,none⟩) 1 1 [(2,8)]:=by
  obtain⟨A,c,h1,h2,_⟩:=(RuB.one w4 2 8).rn
  injection h1 with e1 e2 e3
  subst e1 e3
  exact h2
 refine (new_ok (DV.out.wr s5 id) r5 (by decide) (by decide) (by decide) (rg:=rg) (lg:=lg)).mono ?_
 rintro e w6 ⟨p,O6,rfl,hp6,s6,hge6⟩
 have P6:=Lib.hid hp6
 have S6:=Lib.hid (s5.tr s6)
 have PP:Hid (0<p):=Lib.hid (by obtain⟨b,h,_⟩:=hp6;exact h.pos)
 clear b5 s5 r5 hp6 s6 hge6
 go_wp2_with fail
 refine (beginM (n:=5) P6.out (by decide) rfl rfl (by decide)).mono ?_
 rintro e w7 ⟨O7,rfl,hp7,s7⟩
 have P7:=Lib.hid hp7
 have S7:=Lib.hid ((S6.out.imp fun _=>False.elim).tr (s7.imp (Q:=fun τ=>τ.1=p) fun τ h=>by rw[h]))
 clear hp7 s7 S6 P6
 go_wp2_with fail
 refine (fill_any 7 (by decide) w7).mono ?_
 rintro e w8 ⟨g,rfl,hg8,bk8,hb8⟩
 have s8:Wr (fun _=>False) w7 O7 w8 (cutO O7 w7.heap.size):=Wr.cut hb8 _
 have P8:=Lib.hid (P7.out.wr s8 (fun _=>id) id)
 have S8:=Lib.hid (S7.out.tr (s8.imp fun _=>False.elim))
 have I8:Hid (IsB w8 (some ⟨g,0,none⟩) 224 224 kP9):=Lib.hid (isB_whole bk8 kP9_byt kP9_len (by decide))
 have T8:Hid ((cutO O7 w7.heap.size (⟨g,0,none⟩:Addr).block).1≠p):=Lib.hid (by
  rw[cutO_at hg8]
  have:=PP.out
  show 0≠p
  omega)
 clear hg8 bk8 hb8 s8 S7 P7
 have np:∀i,¬((0:Nat),i)=(p,1):=fun i e=>by injection e with e _;have:=PP.out;omega
 have RI8:=Lib.hid (RI.out.wr S8.out (fun e=>by have:=PP.out;simp at e;omega) (fun e=>by have:=PP.out;simp at e;omega))
 go_wp2_with fail
 refine (put_ok (t:=1) (k:=1) (lv:=0) (gen:=3) (r:=(2,8)) (rest:=[]) P8.out RI8.out rfl ⟨by decide,rfl⟩ (by decide) (by decide) (by decide) (by decide) kNew9 (by decide) rfl I8.out T8.out).mono ?_
 rintro e w9 ⟨O9,rfl,hp9,s9⟩
 have P9:Hid (PgM w9 O9 p d rg lg kT9):=Lib.hid hp9
 have S9:=Lib.hid (S8.out.tr s9)
 clear hp9 s9 S8 P8 I8 T8 RI8
 have bx:=CbB.new w9 45 #[.int .u32 2,.int .u64 5,.int .u16 3]
 have ba:Below w9.heap.size w9 (w9.alloc (.cells #[.int .u32 2,.int .u64 5,.int .u16 3] 45)):=(Below.refl _ _).alloc (Nat.le_refl _) _
 have cr0:(w9.alloc (.cells #[.int .u32 2,.int .u64 5,.int .u16 3] 45)).cell? ⟨w9.heap.size,0,none⟩=some (.int .u32 2):=bx.cell (k:=0) rfl
 have cr1:(w9.alloc (.cells #[.int .u32 2,.int .u64 5,.int .u16 3] 45)).cell? ⟨w9.heap.size,1,none⟩=some (.int .u64 5):=bx.cell (k:=1) rfl
 have cr2:(w9.alloc (.cells #[.int .u32 2,.int .u64 5,.int .u16 3] 45)).cell? ⟨w9.heap.size,2,none⟩=some (.int .u16 3):=bx.cell (k:=2) rfl
 have sa:Wr (fun _=>False) w9 O9 (w9.alloc (.cells #[.int .u32 2,.int .u64 5,.int .u16 3] 45)) (cutO O9 w9.heap.size):=Wr.cut ba _
 have BX:=Lib.hid (And.intro bx (cutO_at (O:=O9) (Nat.le_refl w9.heap.size)))
 have PA:=Lib.hid (P9.out.wr sa (fun _=>id) id)
 have SA:=Lib.hid (S9.out.tr (sa.imp fun _=>False.elim))
 have DA:=Lib.hid (DV.out.wr SA.out (fun e=>by have:=PP.out;simp at e;omega))
 have LA:=Lib.hid (LO.out.wr SA.out (fun e=>by have:=PP.out;simp at e;omega))
 have RA:=Lib.hid (RI.out.wr SA.out (fun e=>by have:=PP.out;simp at e;omega) (fun e=>by have:=PP.out;simp at e;omega))
 clear bx ba sa P9 S9
 go_wp2_with fail
 obtain⟨wa,hwa⟩:∃wa,w9.alloc (.cells #[.int .u32 2,.int .u64 5,.int .u16 3] 45)=wa:=⟨_,rfl⟩
 obtain⟨Oa,hOa⟩:∃Oa,cutO O9 w9.heap.size=Oa:=⟨_,rfl⟩
 rw[hwa] at BX PA SA DA LA RA⊢
 rw[hOa] at BX PA SA DA LA RA
 obtain⟨bx,hbx⟩:∃bx,w9.heap.size=bx:=⟨_,rfl⟩
 rw[hbx] at BX⊢
 clear hwa hOa hbx cr0 cr1 cr2
 refine (flush_any PA.out DA.out LA.out RA.out (newD_ok (by decide) (by decide)) (by decide) (by decide) (by decide) rfl ⟨by decide,rfl⟩ (fun x hx=>?_) (by decide)).mono ?_
 · have hx2:x=(2,.bool true):=by
    have:x∈[((2:Nat),Value.bool true)]:=hx
    simpa using this
   subst hx2
   exact⟨by decide,_,rfl,kP9_len,by decide,by decide⟩
 rw[kFlush9]
 rintro e wb ⟨Ob,rfl,hpb,hdb,hlb,sb⟩
 have nb:¬(((0:Nat),(0:Nat))=(0,1)∨((0:Nat),(0:Nat))=(0,2)∨((0:Nat),(0:Nat))=(p,1)):=fun e=>by
  rcases e with e | e | e
  · cases e
  · cases e
  · cases e
 have nc:¬(((0:Nat),(3:Nat))=(0,1)∨((0:Nat),(3:Nat))=(0,2)∨((0:Nat),(3:Nat))=(p,1)):=fun e=>by
  rcases e with e | e | e
  · cases e
  · cases e
  · injection e with _ e;cases e
 have PB:=Lib.hid hpb
 have DB:=Lib.hid hdb
 have LB:=Lib.hid hlb
 have RB:=Lib.hid (RA.out.wr sb nc nb)
 have BXb:=Lib.hid (BX.out.1.wr BX.out.2 sb nb)
 have SB:=Lib.hid ((SA.out.imp (Q:=fun τ=>τ=(0,1)∨τ=(0,2)∨τ.1=p) fun τ h=>.inr (.inr h)).tr (sb.imp fun τ h=>h.imp id (.imp id fun e=>by rw[e])))
 clear hpb hdb hlb sb nb nc PA DA LA RA BX SA
 go_wp2_with fail
 refine (scrub_none PB.out rfl (.inr rfl) rfl).mono ?_
 rintro e wc ⟨Oc,rfl,hpc,sc⟩
 have n1:∀i,¬((0:Nat),i)=(p,1):=fun i e=>by have:=PP.out;injection e with e _;omega
 have DC:=Lib.hid (DB.out.wr sc (n1 1))
 have RC:=Lib.hid (RB.out.wr sc (n1 3) (n1 0))
 have BXc:=Lib.hid (BXb.out.1.wr BXb.out.2 sc (n1 0))
 have SC:=Lib.hid (SB.out.tr (sc.imp fun τ h=>.inr (.inr (by rw[h]))))
 clear hpc sc n1 PB DB LB RB BXb SB
 go_wp2_with fail
 refine (new_ok DC.out (RnB.nilB wc) (by decide) rfl rfl (rg:=rg) (lg:=lg)).mono ?_
 rintro e wd ⟨q,Od,rfl,hpd,sd,hqd⟩
 have PD:=Lib.hid hpd
 have QQ:Hid (0<q):=Lib.hid (by obtain⟨b,h,_⟩:=hpd;exact h.pos)
 have DD:=Lib.hid (DC.out.wr sd id)
 have RD:=Lib.hid (RC.out.wr sd id id)
 have BXd:=Lib.hid (BXc.out.1.wr BXc.out.2 sd id)
 have SD:=Lib.hid (SC.out.tr (sd.imp fun _=>False.elim))
 clear hpd sd hqd DC RC BXc SC
 have cr0:wd.cell? ⟨bx,0,none⟩=some (.int .u32 2):=BXd.out.1.cell (k:=0) rfl
 have cr1:wd.cell? ⟨bx,1,none⟩=some (.int .u64 5):=BXd.out.1.cell (k:=1) rfl
 have cr2:wd.cell? ⟨bx,2,none⟩=some (.int .u16 3):=BXd.out.1.cell (k:=2) rfl
 go_wp2_with fail
 have hsl:(sealP (zeros 16) kL9 kP9).1.length=256:=(seal_ok9 (.inl (by decide)) (by decide) (by decide) kP9_len).2
 have hby:Byt (sealP (zeros 16) kL9 kP9).1:=sealP_byt (byt_zeros 16) kP9_byt kL9_ok
 have okD:(kD9 (sealP (zeros 16) kL9 kP9).1).Ok:=syncD_ok (D:=⟨8,putD (zeros (8*256)) (sealP (zeros 16) kL9 kP9).1 2,zeros (8*256),[(2,(sealP (zeros 16) kL9 kP9).1)],1,0,-1,false⟩) (writeD_ok (D:=newD 8) (i:=2) (newD_ok (by decide) (by decide)) (by decide) hsl hby)
 refine (pget_any (l:=kL9) PD.out DD.out RD.out okD kL9_ok (fun q hq=>by cases hq)).mono ?_
 rw[kGet9]
 rintro e we ⟨v8,Oe,rfl,ho,hpe,se⟩
 obtain⟨A8,c8,rfl,_,_⟩:=ho.shape
 have i8:=ho.isB rfl
 rw[kP9_len] at i8⊢
 have I8:=Lib.hid i8
 have PQ:=Lib.hid hpe
 have SE:=Lib.hid ((SD.out.imp (Q:=fun τ=>τ=(0,1)∨τ=(0,2)∨τ.1=p∨τ.1=q) fun τ h=>h.imp id (.imp id .inl)).tr (se.imp fun τ h=>.inr (.inr (.inr (by rw[h])))))
 clear hsl hby okD ho i8 hpe se cr0 cr1 cr2 PD DD RD BXd SD
 go_wp2_with fail
 refine wp_wide3 [⟨84,IsR (.int .i64 0),[],false⟩,⟨85,IsR (.bool true),[0],false⟩,⟨86,IsR (.bool true),[1],false⟩,⟨87,IsR (.int .i64 0),[2],false⟩,⟨88,IsR (.bool true),[2,3],false⟩,⟨89,IsR (.bool true),[2,4],false⟩,⟨90,IsR (.bool true),[5],false⟩,⟨91,IsR (.slice A8 224 c8),[6],false⟩,⟨92,IsR (.string (strOf kP9)),[6,7],false⟩,⟨93,FilR we.heap.size,[6],false⟩,⟨94,IsR (.string (strOf kP9)),[6,9],false⟩,⟨95,IsR (.bool true),[6,8,10],false⟩,⟨96,IsR (.bool true),[6,11],false⟩,⟨97,IsR (.bool true),[12],false⟩,⟨98,IsR (.pointer (some ⟨q,0,none⟩)),[13],false⟩,⟨99,IsR (.int .i64 1),[13,14],false⟩,⟨100,IsR (.bool true),[13,15],false⟩,⟨101,IsR (.bool true),[13,16],false⟩] (by kernel_rfl) (by kernel_rfl) rfl rfl rfl ⟨?_,?_,?_,?_,?_,?_,?_,?_,?_,?_,?_,?_,?_,?_,?_,?_,?_,?_,trivial⟩ ?_
 · refine⟨rfl,IsR.mono _,fun a W hA hb hd=>takes_plain rfl (yields_value _ ?_ rfl)⟩
   have h2:a.tmps[2]?.getD undef = .int .i64 0:=(eval_get a 2).trans ((hA.eval (by simp)).trans rfl)
   go_simp
 · refine⟨rfl,IsR.mono _,fun a W hA hb hd=>takes_plain rfl (yields_value _ ?_ rfl)⟩
   have h84:a.tmps[84]?.getD undef = .int .i64 0:=(eval_get a 84).trans (hd 0 (by simp) _ rfl)
   go_simp
 · refine⟨rfl,IsR.mono _,fun a W hA hb hd=>takes_plain rfl (yields_value _ ?_ rfl)⟩
   have h85:a.tmps[85]?.getD undef = .bool true:=(eval_get a 85).trans (hd 1 (by simp) _ rfl)
   go_simp
 · refine⟨rfl,IsR.mono _,fun a W hA hb hd=>takes_on (i:=2) (d:=86) (b:=true) rfl rfl rfl (hd 2 (by simp) _ rfl) (yields_value _ ?_ rfl)⟩
   have h9:a.tmps[9]?.getD undef = .int .i64 0:=(eval_get a 9).trans ((hA.eval (by simp)).trans rfl)
   go_simp
 · refine⟨rfl,IsR.mono _,fun a W hA hb hd=>takes_on (i:=2) (d:=86) (b:=true) rfl rfl rfl (hd 2 (by simp) _ rfl) (yields_value _ ?_ rfl)⟩
   have h87:a.tmps[87]?.getD undef = .int .i64 0:=(eval_get a 87).trans (hd 3 (by simp) _ rfl)
   go_simp
 · refine⟨rfl,IsR.mono _,fun a W hA hb hd=>takes_plain rfl (yields_value _ ?_ rfl)⟩
   have h86:a.tmps[86]?.getD undef = .bool true:=(eval_get a 86).trans (hd 2 (by simp) _ rfl)
   have h88:a.tmps[88]?.getD undef = .bool true:=(eval_get a 88).trans (hd 4 (by simp) _ rfl)
   go_simp
 · refine⟨rfl,IsR.mono _,fun a W hA hb hd=>takes_plain rfl (yields_value _ ?_ rfl)⟩
   have h89:a.tmps[89]?.getD undef = .bool true:=(eval_get a 89).trans (hd 5 (by simp) _ rfl)
   go_simp
 · refine⟨rfl,IsR.mono _,fun a W hA hb hd=>takes_on (i:=6) (d:=90) (b:=true) rfl rfl rfl (hd 6 (by simp) _ rfl) (yields_value _ ?_ rfl)⟩
   have h8:a.tmps[8]?.getD undef = .slice A8 224 c8:=(eval_get a 8).trans ((hA.eval (by simp)).trans rfl)
   go_simp
 · refine⟨rfl,IsR.mono _,fun a W hA hb hd=>takes_on (i:=6) (d:=90) (b:=true) rfl rfl rfl (hd 6 (by simp) _ rfl) (yields_value _ ?_ rfl)⟩
   have h91:a.tmps[91]?.getD undef = .slice A8 224 c8:=(eval_get a 91).trans (hd 7 (by simp) _ rfl)
   have hc:=run_str (I8.out.ab hb) 64 5 9 Tryz.underlying64 Tryz.underlying5 Tryz.underlying9
   go_simp
 · refine⟨rfl,FilR.mono,fun a W hA hb hd=>takes_on (i:=6) (d:=90) (b:=true) rfl rfl rfl (hd 6 (by simp) _ rfl) ?_⟩
   refine yields_call 24 #[.int .u8 7] (by go_simp) ((fill_any 7 (by decide) W).mono ?_)
   rintro e W1 ⟨g,rfl,h1,h2,h3⟩
   exact⟨_,rfl,⟨g,rfl,isB_whole h2 kP9_byt kP9_len (by decide),Nat.le_trans hb.size h1⟩,h3⟩
 · refine⟨rfl,IsR.mono _,fun a W hA hb hd=>takes_on (i:=6) (d:=90) (b:=true) rfl rfl rfl (hd 6 (by simp) _ rfl) ?_⟩
   obtain⟨g,e0,h1,h2⟩:=hd 9 (by simp) _ rfl
   have h0:a.tmps[93]?.getD undef = .slice (some ⟨g,0,none⟩) 224 224:=(eval_get a 93).trans e0
   have hc:=run_str h1 64 5 9 Tryz.underlying64 Tryz.underlying5 Tryz.underlying9
   refine yields_value (.string (strOf kP9)) ?_ rfl
   go_simp
 · refine⟨rfl,IsR.mono _,fun a W hA hb hd=>takes_on (i:=6) (d:=90) (b:=true) rfl rfl rfl (hd 6 (by simp) _ rfl) (yields_value _ ?_ rfl)⟩
   have h92:a.tmps[92]?.getD undef = .string (strOf kP9):=(eval_get a 92).trans (hd 8 (by simp) _ rfl)
   have h94:a.tmps[94]?.getD undef = .string (strOf kP9):=(eval_get a 94).trans (hd 10 (by simp) _ rfl)
   go_simp
 · refine⟨rfl,IsR.mono _,fun a W hA hb hd=>takes_plain rfl (yields_value _ ?_ rfl)⟩
   have h90:a.tmps[90]?.getD undef = .bool true:=(eval_get a 90).trans (hd 6 (by simp) _ rfl)
   have h95:a.tmps[95]?.getD undef = .bool true:=(eval_get a 95).trans (hd 11 (by simp) _ rfl)
   go_simp
 · refine⟨rfl,IsR.mono _,fun a W hA hb hd=>takes_plain rfl (yields_value _ ?_ rfl)⟩
   have h96:a.tmps[96]?.getD undef = .bool true:=(eval_get a 96).trans (hd 12 (by simp) _ rfl)
   go_simp
 · refine⟨rfl,IsR.mono _,fun a W hA hb hd=>takes_on (i:=13) (d:=97) (b:=true) rfl rfl rfl (hd 13 (by simp) _ rfl) (yields_value _ ?_ rfl)⟩
   have h7:a.tmps[7]?.getD undef = .pointer (some ⟨q,0,none⟩):=(eval_get a 7).trans ((hA.eval (by simp)).trans rfl)
   go_simp
 · refine⟨rfl,IsR.mono _,fun a W hA hb hd=>takes_on (i:=13) (d:=97) (b:=true) rfl rfl rfl (hd 13 (by simp) _ rfl) ?_⟩
   have h98:a.tmps[98]?.getD undef = .pointer (some ⟨q,0,none⟩):=(eval_get a 98).trans (hd 14 (by simp) _ rfl)
   refine yields_call 29 #[.pointer (some ⟨q,0,none⟩),.int .u32 1] (by go_simp) ((used_any 1 (by decide) (PQ.out.wr (Wr.of hb (fun _=>False) (fun _ _=>rfl)) (fun _=>id) id) (by decide)).mono ?_)
   rintro e W1 ⟨rfl,h3⟩
   exact⟨_,rfl,rfl,h3⟩
 · refine⟨rfl,IsR.mono _,fun a W hA hb hd=>takes_on (i:=13) (d:=97) (b:=true) rfl rfl rfl (hd 13 (by simp) _ rfl) (yields_value _ ?_ rfl)⟩
   have h99:a.tmps[99]?.getD undef = .int .i64 1:=(eval_get a 99).trans (hd 15 (by simp) _ rfl)
   go_simp
 · refine⟨rfl,IsR.mono _,fun a W hA hb hd=>takes_plain rfl (yields_value _ ?_ rfl)⟩
   have h97:a.tmps[97]?.getD undef = .bool true:=(eval_get a 97).trans (hd 13 (by simp) _ rfl)
   have h100:a.tmps[100]?.getD undef = .bool true:=(eval_get a 100).trans (hd 16 (by simp) _ rfl)
   go_simp
 intro vs wr hR hF hb
 have e84:vs 84 = .int .i64 0:=hR 0 _ rfl
 have e85:vs 85 = .bool true:=hR 1 _ rfl
 have e86:vs 86 = .bool true:=hR 2 _ rfl
 have e87:vs 87 = .int .i64 0:=hR 3 _ rfl
 have e88:vs 88 = .bool true:=hR 4 _ rfl
 have e89:vs 89 = .bool true:=hR 5 _ rfl
 have e90:vs 90 = .bool true:=hR 6 _ rfl
 have e91:vs 91 = .slice A8 224 c8:=hR 7 _ rfl
 have e92:vs 92 = .string (strOf kP9):=hR 8 _ rfl
 have e94:vs 94 = .string (strOf kP9):=hR 10 _ rfl
 have e95:vs 95 = .bool true:=hR 11 _ rfl
 have e96:vs 96 = .bool true:=hR 12 _ rfl
 have e97:vs 97 = .bool true:=hR 13 _ rfl
 have e98:vs 98 = .pointer (some ⟨q,0,none⟩):=hR 14 _ rfl
 have e99:vs 99 = .int .i64 1:=hR 15 _ rfl
 have e100:vs 100 = .bool true:=hR 16 _ rfl
 have e101:vs 101 = .bool true:=hR 17 _ rfl
 simp only[List.map_cons,List.map_nil,List.foldl_cons,List.foldl_nil,List.length_cons,List.length_nil,List.drop_succ_cons,List.drop_zero,Act.put,List.setIfInBounds_toArray,List.set_cons_zero,List.set_cons_succ,e84,e85,e86,e87,e88,e89,e90,e91,e92,e94,e95,e96,e97,e98,e99,e100,e101]
 generalize vs 93=q93 at *
 have BR:=Lib.hid hb
 clear hR hF hb e84 e85 e86 e87 e88 e89 e90 e91 e92 e94 e95 e96 e97 e98 e99 e100 e101
 go_wp2_with fail
 go_ret
 refine⟨rfl,Wr.below (SE.out.tr (Wr.of BR.out _ (fun _ _=>rfl))) B4.out B4.out.size (fun k hk h=>?_)⟩
 rw[OL.out k hk] at h
 have:=PP.out
 have:=QQ.out
 simp at h
 omega
section
variable {P:Program} {Q:Exit→Act→World→Prop}
def sinkLB (ops:Array Oper) (n li:Nat):Bool:=
 (List.range n).all fun i=>decide (i=li)||(List.range (n+1)).any fun j=>decide (i<j) && !decide (j=li)&&Region.waitsFor .any ops j i
def freeLB (ops:Array Oper) (li:Nat):Bool:=match ops[li]? with
 | none=>false
 | some oi=>(List.range ops.size).all fun j=>j==li||Region.waitsFor .any ops li j||match ops[j]? with
   | some oj=>oj.after.any (fun e=>Region.binds .any e&&e.on==li)||oi.apart ops oj
   | none=>true
theorem freeL {ops:Array Oper} {li:Nat} {ol:Oper} {listed:Array Bool} (ho:ops[li]? = some ol) (h:freeLB ops li=true) (hr:li∈Region.ready .any ops listed):Region.free .any ops listed li=true:=by
 unfold freeLB at h
 unfold Region.free
 rw[ho] at h⊢
 simp only[List.all_eq_true] at h⊢
 intro j hj
 have h1:=h j hj
 rw[Bool.or_eq_true,Bool.or_eq_true] at h1
 rw[Bool.or_eq_true,Bool.or_eq_true]
 rcases h1 with (h1 | h1) | h1
 · exact .inl (.inl h1)
 · obtain⟨_,oi,hoi,hall⟩:=mem_ready.1 hr
   obtain⟨oj,hoj,e,he,hb,hon⟩:=Region.waitsFor_spec h1
   have:oj=oi:=Option.some.inj (hoj.symm.trans hoi)
   subst this
   have h3:=hall e he hb
   rw[hon] at h3
   refine .inl (.inr ?_)
   cases hq:listed.getD j true with
   | true=>rfl
   | false=>rw[getD_both hq] at h3;cases h3
 · exact .inr h1
theorem tail_waitsL {ops:Array Oper} {n li:Nat} {listed:Array Bool} (hs:sinkLB ops n li=true) (hc:Region.chainB .any ops n=true) (hn:n<ops.size) (inv:HeadInv .any ops n listed):
 ∀(d i:Nat),n-i=d→i<n→i≠li→listed.getD i true=false→∀t,n≤t→t∉Region.ready .any ops listed:=by
 intro d
 induction d using Nat.strongRecOn with
 | _ d ih=>
   intro i hd hi hil hun t ht hr
   obtain⟨_,ot,hot,hall⟩:=mem_ready.1 hr
   have htlt:t<ops.size:=(Array.getElem?_eq_some_iff.1 hot).1
   by_cases htn:t=n
   · subst htn
     have h1:=List.all_eq_true.1 hs i (List.mem_range.2 hi)
     rw[decide_eq_false hil,Bool.false_or] at h1
     obtain⟨j,hj,h2⟩:=List.any_eq_true.1 h1
     simp only[Bool.and_eq_true,decide_eq_true_eq,Bool.not_eq_true',decide_eq_false_iff_not] at h2
     obtain⟨oj,hoj,e,he,hb,hon⟩:=Region.waitsFor_spec h2.2
     have hjl:j≤t:=by have:=List.mem_range.1 hj;omega
     by_cases hjt:j=t
     · subst hjt
       have:oj=ot:=Option.some.inj (hoj.symm.trans hot)
       subst this
       have h3:=hall e he hb
       rw[hon] at h3
       rw[getD_both hun] at h3
       cases h3
     · have hju:listed.getD j true=false:=by
        have hjs:j<listed.size:=by rw[inv.size];omega
        refine getD_in hjs ?_
        cases hlj:listed.getD j false with
        | false=>rfl
        | true=>
          have h3:=inv.closed j oj hoj hlj e he hb
          rw[hon,getD_both hun] at h3
          cases h3
       exact ih (t-j) (by omega) j rfl (by omega) h2.1.2 hju t (Nat.le_refl _) hr
   · have h1:=List.all_eq_true.1 hc t (List.mem_range.2 htlt)
     simp only[Bool.or_eq_true,decide_eq_true_eq] at h1
     rcases h1 with h1 | hw
     · omega
     · obtain⟨oj,hoj,e,he,hb,hon⟩:=Region.waitsFor_spec hw
       have:oj=ot:=Option.some.inj (hoj.symm.trans hot)
       subst this
       have h3:=hall e he hb
       rw[hon] at h3
       have h4:=inv.tail (t-1) (by omega) (by omega)
       rw[getD_both h4] at h3
       cases h3
def wideLB (ops:Array Oper) (n:Nat) (deps:Array (List Nat)) (li:Nat):Bool:=
 decide (n<ops.size)&&sinkLB ops n li&&Region.chainB .any ops n&&Region.seqB .any ops (ops.size-n) n (allL ops.size n)&&Region.noSelect ops&&freeLB ops li &&
  (List.range n).all (fun j=>(deps.getD j []).all fun d=>decide (d<n)&&Region.waitsFor .any ops j d) &&
  (List.range n).all (fun j=>match ops[j]? with
    | some o=>o.after.toList.all fun e=>!Region.binds .any e||decide (e.on<j)
    | none=>false)
structure WideL (ops:Array Oper) (n:Nat) (deps:Array (List Nat)) (li:Nat):Prop where
 lt:n<ops.size
 sink:sinkLB ops n li=true
 chain:Region.chainB .any ops n=true
 seq:Region.seqB .any ops (ops.size-n) n (allL ops.size n)=true
 nosel:Region.noSelect ops=true
 free:freeLB ops li=true
 dep:∀j,j<n→∀d∈deps.getD j [],d<n∧Region.waitsFor .any ops j d=true
 low:∀j,j<n→∃o,ops[j]? = some o∧∀e∈o.after,Region.binds .any e=true→e.on<j
theorem wideL_of {ops:Array Oper} {n li:Nat} {deps:Array (List Nat)} (h:wideLB ops n deps li=true):WideL ops n deps li:=by
 simp only[wideLB,Bool.and_eq_true,decide_eq_true_eq,List.all_eq_true,List.mem_range] at h
 obtain⟨⟨⟨⟨⟨⟨⟨h1,h2⟩,h3⟩,h4⟩,h7⟩,h8⟩,h5⟩,h6⟩:=h
 refine⟨h1,h2,h3,h4,h7,h8,fun j hj d hd=>h5 j hj d hd,fun j hj=>?_⟩
 have:=h6 j hj
 cases ho:ops[j]? with
 | none=>rw[ho] at this;cases this
 | some o=>
   rw[ho] at this
   refine⟨o,rfl,fun e he hb=>?_⟩
   simp only[List.all_eq_true] at this
   have:=this e (by simpa using he)
   simpa[hb] using this
theorem wideL_any {l:List Oper} {hs:List Head} {a0:Act} {w0:World} {g li:Nat} {hl0:Head} {ol:Oper} (hW:wideLB l.toArray hs.length (hs.map (·.deps)).toArray li=true) (hQ:∀c a v d w,Q (.panic c) (a.put d v) w→Q (.panic c) a w) (hlh:hs[li]? = some hl0) (hlo:l[li]? = some ol)
 (hlp:ol.guard=none∧hl0.fresh=false∧∀a W,Agree (hs.map (·.dst)) a0 a→Below w0.heap.size w0 W→(∀j∈hl0.deps,∀(hj:Head),hs[j]? = some hj→hj.R (a.eval (.tmp hj.dst)) W)→∃v,(∀w,(execOp a.eval ol).run P w = .ok (.value v) w)∧hl0.R v W) (hg:(l.drop hs.length).length=g)
 (hdst:∀(i:Nat) (h:Head) (o:Oper),hs[i]? = some h→l[i]? = some o→o.dst=some h.dst) (hlen:hs.length≤l.length) (hin:∀h∈hs,h.dst<a0.tmps.size) (hdis:(hs.map (·.dst)).Nodup)
 (hm:∀h∈hs,Mono h.R)
 (hy:∀(i:Nat) (h:Head) (o:Oper),hs[i]? = some h→l[i]? = some o→∀a W,Agree (hs.map (·.dst)) a0 a→Below w0.heap.size w0 W→(∀j∈h.deps,∀(hj:Head),hs[j]? = some hj→hj.R (a.eval (.tmp hj.dst)) W)→Takes P l.toArray o a W h.fresh h.R)
 (hk:∀a W,Agree (hs.map (·.dst)) a0 a→Below w0.heap.size w0 W→(∀(i:Nat) (h:Head),hs[i]? = some h→h.R (a.eval (.tmp h.dst)) W)→(∀(i j:Nat) (h k:Head),hs[i]? = some h→hs[j]? = some k→i≠j→h.fresh=true→k.fresh=true→blk (a.eval (.tmp h.dst))≠blk (a.eval (.tmp k.dst)))→wpList P l.toArray Q (l.drop hs.length) a W):
 ∀(f:Nat) (listed:Array Bool) (a:Act) (W:World),HeadInv .any l.toArray hs.length listed→unl listed hs.length=f→FreeInv hs a0 w0 listed a W→wpAny P .any l.toArray Q (f+g) listed a W
 | 0,listed,a,W,inv,hu,hI=>by
   have hWd:=wideL_of hW
   have hall:=unl_zero _ hu
   rw[Nat.zero_add]
   have hsq:=hWd.seq
   rw[←all_listed inv hWd.lt hall,show l.toArray.size-hs.length=g by rw[←hg];simp] at hsq
   have:=wpAny_of_seq (md:=.any) (Q':=Q) (P:=P) (l.drop hs.length) hs.length listed a W (fun j=>by simp[List.getElem?_drop]) (by rw[hg];exact hsq) (hk a W hI.1 hI.2.1 (fun i h hi=>hI.2.2.1 i h hi (hall i (lt_of_some hi))) (fun i j h k hi hj hij=>hI.2.2.2.2 i j h k hi hj hij (hall i (lt_of_some hi)) (hall j (lt_of_some hj))))
   rwa [hg] at this
 | f + 1, listed,a,W,inv,hu,hI=>by
   have hWd:=wideL_of hW
   obtain⟨i0,hi0,hun0,hlow0⟩:=unl_pos (listed:=listed) hs.length (by omega)
   have hsz:=inv.size
   have hun0':listed.getD i0 true=false:=getD_in (by have:=hWd.lt;omega) hun0
   rw[show f+1+g=(f+g)+1 by omega]
   have hne:i0∈Region.ready .any l.toArray listed:=by
    obtain⟨o,ho,hb⟩:=hWd.low i0 hi0
    exact mem_ready.2 ⟨hun0',o,ho,fun e he hbd=>hlow0 _ (hb e he hbd)⟩
   have step:∀i,i∈Region.ready .any l.toArray listed→i<hs.length→(∀h o,hs[i]? = some h→l[i]? = some o→(∀j∈h.deps,∀(hj:Head),hs[j]? = some hj→hj.R (a.eval (.tmp hj.dst)) W)∧∀v W',h.R v W'→Below W.heap.size W W'→Fresh h.fresh v W W'→wpAny P .any l.toArray Q (f+g) (listed.setIfInBounds i true) (a.put (some h.dst) v) W'):=fun i hi hin2=>by
    intro h o hh ho
    have hdep:∀d∈((hs.map (·.deps)).toArray.getD i []),listed.getD d false=true:=fun d hd=>by
     obtain⟨_,oi,hoi,hall⟩:=mem_ready.1 hi
     obtain⟨oj,hoj,e,he,hb,hon⟩:=Region.waitsFor_spec (hWd.dep i hin2 d hd).2
     have:oj=oi:=Option.some.inj (hoj.symm.trans hoi)
     subst this
     rw[←hon]
     exact hall e he hb
    have hrec:unl (listed.setIfInBounds i true) hs.length=f:=by
     have:=unl_set (listed:=listed) (i:=i) (by have:=hWd.lt;omega) (getD_both (mem_ready.1 hi).1) hs.length hin2
     omega
    have hd:=hdst i h o hh ho
    have hmem:h∈hs:=List.mem_of_getElem? hh
    have hdep2:∀j∈h.deps,∀(hj:Head),hs[j]? = some hj→hj.R (a.eval (.tmp hj.dst)) W:=fun j hj hj' hjj=>by
     have hd1:((hs.map (·.deps)).toArray.getD i [])=h.deps:=by simp[hh]
     exact hI.2.2.1 j hj' hjj (hdep j (by rw[hd1];exact hj))
    have hself:∀v,(a.put (some h.dst) v).eval (.tmp h.dst)=v:=fun v=>by
     have hs1:h.dst<a.tmps.size:=by rw[hI.1.2.1];exact hin h hmem
     simp[Act.put,Act.eval,hs1]
    have hoth:∀v (j:Nat) (hj:Head),hs[j]? = some hj→j≠i→(a.put (some h.dst) v).eval (.tmp hj.dst)=a.eval (.tmp hj.dst):=fun v j hj hjj hij=>by
     refine eval_put_ne (fun e=>hij ?_) _ _
     have hjl:=lt_of_some hjj
     have e1:(hs.map (·.dst))[j]'(by simpa using hjl)=(hs.map (·.dst))[i]'(by simpa using hin2):=by
      rw[List.getElem?_eq_getElem hjl] at hjj
      rw[List.getElem?_eq_getElem hin2] at hh
      injection hjj with hjj
      injection hh with hh
      simp only[List.getElem_map,hjj,hh]
      exact e.symm
     exact (List.getElem_inj hdis).1 e1
    have hlis:∀(j:Nat),j≠i→(listed.setIfInBounds i true).getD j false=true→listed.getD j false=true:=fun j hij h'=>by
     rw[Array.getD_eq_getD_getElem?,Array.getElem?_setIfInBounds_ne (Ne.symm hij)] at h'
     rw[Array.getD_eq_getD_getElem?]
     exact h'
    have key:∀v W',h.R v W'→Below W.heap.size W W'→Fresh h.fresh v W W'→wpAny P .any l.toArray Q (f+g) (listed.setIfInBounds i true) (a.put (some h.dst) v) W':=fun v W' hR hb hfr=>by
     refine wideL_any hW hQ hlh hlo hlp hg hdst hlen hin hdis hm hy hk f _ _ _ (inv.set hi hin2) hrec ⟨hI.1.put (List.mem_map.2 ⟨h,hmem,rfl⟩) v,below_tr hI.2.1 hb hI.2.1.size,fun j hj hjj hlj=>?_,fun j hj hjj hlj hf=>?_,fun j k hj hk' hjj hkk hjk hlj hlk hfj hfk=>?_⟩
     · by_cases hij:j=i
       · subst hij
         rw[hh] at hjj
         injection hjj with hjj
         subst hjj
         rw[hself]
         exact hR
       · rw[hoth v j hj hjj hij]
         exact hm hj (List.mem_of_getElem? hjj) _ _ _ (hI.2.2.1 j hj hjj (hlis j hij hlj)) hb
     · by_cases hij:j=i
       · subst hij
         rw[hh] at hjj
         injection hjj with hjj
         subst hjj
         rw[hself]
         obtain⟨g',e1,e2,e3⟩:=hfr hf
         exact⟨g',e1,Nat.le_trans hI.2.1.size e2,e3⟩
       · rw[hoth v j hj hjj hij]
         obtain⟨g',e1,e2,e3⟩:=hI.2.2.2.1 j hj hjj (hlis j hij hlj) hf
         exact⟨g',e1,e2,Nat.lt_of_lt_of_le e3 hb.size⟩
     · by_cases hij:j=i
       · subst hij
         have hki:k≠j:=Ne.symm hjk
         rw[hh] at hjj
         injection hjj with hjj
         subst hjj
         rw[hself,hoth v k hk' hkk hki]
         obtain⟨g',e1,e2,e3⟩:=hfr hfj
         obtain⟨g2,f1,f2,f3⟩:=hI.2.2.2.1 k hk' hkk (hlis k hki hlk) hfk
         rw[e1,f1]
         intro e
         injection e with e
         omega
       · by_cases hik:k=i
         · subst hik
           rw[hh] at hkk
           injection hkk with hkk
           subst hkk
           rw[hself,hoth v j hj hjj hij]
           obtain⟨g',e1,e2,e3⟩:=hfr hfk
           obtain⟨g2,f1,f2,f3⟩:=hI.2.2.2.1 j hj hjj (hlis j hij hlj) hfj
           rw[e1,f1]
           intro e
           injection e with e
           omega
         · rw[hoth v j hj hjj hij,hoth v k hk' hkk hik]
           exact hI.2.2.2.2 j k hj hk' hjj hkk hjk (hlis j hij hlj) (hlis k hik hlk) hfj hfk
    exact⟨hdep2,key⟩
   by_cases hi0l:i0=li
   · subst hi0l
     have hoi:l.toArray[i0]? = some ol:=by simpa using hlo
     obtain⟨hdp,hkey⟩:=step i0 hne hi0 hl0 ol hlh hlo
     obtain⟨v,hv,hR⟩:=hlp.2.2 a W hI.1 hI.2.1 hdp
     refine wpAny_take hoi hWd.nosel (freeL hoi hWd.free hne) (by simpa using hne) (fun c a w=>hQ c a v ol.dst w) (.inl ⟨by simp[Region.wanted,hlp.1],hv⟩) ?_
     rw[hdst i0 hl0 ol hlh hlo]
     exact hkey v W hR (Below.refl _ _) (by rw[hlp.2.1];exact fresh_no _ _ _)
   refine⟨fun e=>(by rw[e] at hne;cases hne),fun i hi=>?_⟩
   have hin2:i<hs.length:=by
    rcases Nat.lt_or_ge i hs.length with h | h
    · exact h
    · exact absurd hi (tail_waitsL hWd.sink hWd.chain hWd.lt inv _ i0 rfl hi0 hi0l hun0' i h)
   have hil:i<l.length:=by omega
   obtain⟨h,hh⟩:∃h,hs[i]? = some h:=⟨_,List.getElem?_eq_getElem hin2⟩
   obtain⟨o,ho⟩:∃o,l[i]? = some o:=⟨_,List.getElem?_eq_getElem hil⟩
   obtain⟨hdep2,key⟩:=step i hi hin2 h o hh ho
   have hd:=hdst i h o hh ho
   unfold wpOp
   rw[show l.toArray[i]? = some o by simpa using ho]
   simp only
   rcases hy i h o hh ho a W hI.1 hI.2.1 hdep2 with ⟨hwt,hyl⟩ | ⟨hwt,hR,hfr⟩
   · rw[if_pos hwt]
     refine .inl ?_
     unfold Oper.wp
     rcases hyl with ⟨v,W',hr,hR,hb,hfr⟩ | ⟨fn,args,hr,hc⟩
     · rw[hr]
       simp only[Oper.upon,hd]
       exact key v W' hR hb hfr
     · rw[hr]
       simp only[Oper.upon,hd]
       exact hc.mono fun e W' ⟨v,he,hR,hb,hfr⟩=>by subst he;exact key v W' hR hb hfr
   · rw[if_neg (by rw[hwt];exact Bool.false_ne_true)]
     rw[hd]
     exact key undef W hR (Below.refl _ _) (by rw[hfr];exact fresh_no _ _ _)
theorem wp_wideLa {id:Nat} {a0:Act} {w0:World} {l:List Oper} (hs:List Head) (li:Nat) {hl0:Head} {ol:Oper} (hlh:hs[li]? = some hl0) (hlo:l[li]? = some ol) (hQ:∀c a v d w,Q (.panic c) (a.put d v) w→Q (.panic c) a w)
 (hlp:ol.guard=none∧hl0.fresh=false∧∀a W,Agree (hs.map (·.dst)) a0 a→Below w0.heap.size w0 W→(∀j∈hl0.deps,∀(hj:Head),hs[j]? = some hj→hj.R (a.eval (.tmp hj.dst)) W)→∃v,(∀w,(execOp a.eval ol).run P w = .ok (.value v) w)∧hl0.R v W) (hmx:P.follows .mixedOrders=true) (hlen:hs.length≤l.length)
 (hB:wideLB l.toArray hs.length (hs.map (·.deps)).toArray li=true)
 (hdst:∀(i:Nat) (h:Head) (o:Oper),hs[i]? = some h→l[i]? = some o→o.dst=some h.dst) (hin:∀h∈hs,h.dst<a0.tmps.size) (hdis:(hs.map (·.dst)).Nodup) (hm:∀h∈hs,Mono h.R)
 (hy:∀(i:Nat) (h:Head) (o:Oper),hs[i]? = some h→l[i]? = some o→∀a W,Agree (hs.map (·.dst)) a0 a→Below w0.heap.size w0 W→(∀j∈h.deps,∀(hj:Head),hs[j]? = some hj→hj.R (a.eval (.tmp hj.dst)) W)→Takes P l.toArray o a W h.fresh h.R)
 (hk:∀(vs:Tmp→Value) W,(∀(i:Nat) (h:Head),hs[i]? = some h→h.R (vs h.dst) W)→(∀(i j:Nat) (h k:Head),hs[i]? = some h→hs[j]? = some k→i≠j→h.fresh=true→k.fresh=true→blk (vs h.dst)≠blk (vs k.dst))→Below w0.heap.size w0 W→wpList P l.toArray Q (l.drop hs.length) ((hs.map (·.dst)).foldl (fun x d=>x.put (some d) (vs d)) a0) W):
 (Code.region id l.toArray true).wp P Q a0 w0:=by
 refine wp_region_any hmx ?_
 have hinv:HeadInv .any l.toArray hs.length (Array.replicate l.toArray.size false):=⟨by simp,fun j oj hj hl=>(by rw[getD_replicate_false] at hl;cases hl),fun t ht ht'=>getD_in (by simpa using ht') (getD_replicate_false _ _)⟩
 have hunl:∀n,unl (Array.replicate l.toArray.size false) n=n:=fun n=>by
  induction n with
  | zero=>rfl
  | succ n ih=>rw[unl,ih,getD_replicate_false];simp
 have h1:=wideL_any (P:=P) (Q:=Q) (l:=l) (hs:=hs) (a0:=a0) (w0:=w0) (g:=l.length-hs.length) hB hQ hlh hlo hlp (by simp) hdst hlen hin hdis hm hy
  (fun a W hA hb hR hF=>by
    have:=hk (fun d=>a.eval (.tmp d)) W hR hF hb
    rw[←Agree.rebuild _ _ hA] at this
    exact this) hs.length (Array.replicate l.toArray.size false) a0 { w0 with drawn:=w0.drawn+1 } hinv (hunl _)
  ⟨Agree.refl _ _,(Below.refl _ w0).drew,fun i h hi hl=>(by rw[getD_replicate_false] at hl;cases hl),fun i h hi hl=>(by rw[getD_replicate_false] at hl;cases hl),fun i j h k hi hj hij hl=>(by rw[getD_replicate_false] at hl;cases hl)⟩
 have hsz:l.toArray.size=hs.length+(l.length-hs.length):=by rw[List.size_toArray];omega
 have e:wpAny P .any l.toArray Q l.toArray.size=wpAny P .any l.toArray Q (hs.length+(l.length-hs.length)):=congrArg _ hsz
 rw[e]
 exact h1
theorem wp_wideL {id:Nat} {a0:Act} {w0:World} {l:List Oper} (hs:List Head) (li:Nat) {hl0:Head} {ol:Oper} (hlh:hs[li]? = some hl0) (hlo:l[li]? = some ol) (hQ:∀c a v d w,Q (.panic c) (a.put d v) w→Q (.panic c) a w)
 (hlp:ol.guard=none∧hl0.fresh=false∧∀a W,Agree (hs.map (·.dst)) a0 a→Below w0.heap.size w0 W→(∀j∈hl0.deps,∀(hj:Head),hs[j]? = some hj→hj.R (a.eval (.tmp hj.dst)) W)→∃v,(∀w,(execOp a.eval ol).run P w = .ok (.value v) w)∧hl0.R v W) (hmx:P.follows .mixedOrders=true)
 (hB:wideLB l.toArray hs.length (hs.map (·.deps)).toArray li=true)
 (hlen:decide (hs.length≤l.length)=true) (hin:(hs.map (·.dst)).all (fun d=>decide (d<a0.tmps.size))=true) (hdis:decide ((hs.map (·.dst)).Nodup)=true)
 (hok:AllHeads (Head.ok3 P l.toArray hs a0 w0) hs l)
 (hk:∀(vs:Tmp→Value) W,(∀(i:Nat) (h:Head),hs[i]? = some h→h.R (vs h.dst) W)→(∀(i j:Nat) (h k:Head),hs[i]? = some h→hs[j]? = some k→i≠j→h.fresh=true→k.fresh=true→blk (vs h.dst)≠blk (vs k.dst))→Below w0.heap.size w0 W→wpList P l.toArray Q (l.drop hs.length) ((hs.map (·.dst)).foldl (fun x d=>x.put (some d) (vs d)) a0) W):
 (Code.region id l.toArray true).wp P Q a0 w0:=by
 have hlen':=of_decide_eq_true hlen
 have hmem:∀h∈hs,∃(i:Nat) (o:Oper),hs[i]? = some h∧l[i]? = some o:=fun h hh=>by
  obtain⟨i,hi,rfl⟩:=List.getElem_of_mem hh
  exact⟨i,_,List.getElem?_eq_getElem hi,List.getElem?_eq_getElem (by omega)⟩
 refine wp_wideLa hs li hlh hlo hQ hlp hmx hlen' hB (fun i h o hi ho=>(hok.at i h o hi ho).1) (fun h hh=>?_) (of_decide_eq_true hdis) (fun h hh=>?_) (fun i h o hi ho=>(hok.at i h o hi ho).2.2) hk
 · have:=List.all_eq_true.1 hin h.dst (List.mem_map.2 ⟨h,hh,rfl⟩)
   exact of_decide_eq_true this
 · obtain⟨i,o,hi,ho⟩:=hmem h hh
   exact (hok.at i h o hi ho).2.1
end
end Go.Proofs.YtnboclhgeehdoaaGreat
