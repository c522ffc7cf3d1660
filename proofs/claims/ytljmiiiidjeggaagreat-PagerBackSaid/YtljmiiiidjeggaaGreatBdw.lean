/-
  Parts of the proof, joined.
-/
import Derived.Test.YtljmiiiidjeggaaGreatBdv
import Derived.Test.YtljmiiiidjeggaaGreatBdj
import Derived.Test.YtljmiiiidjeggaaGreatBdc
import Derived.Lib.AppendZeros
import Derived.Lib.AppendZerosOnto
import Derived.Test.YtljmiiiidjeggaaGreatBdi
import Derived.BigRegion
import Derived.Test.YtljmiiiidjeggaaGreatBdt
import Derived.Deep.QuietTactic
import Derived.BigQuiet
import Derived.Test.YtljmiiiidjeggaaGreatBdk
namespace Go.Proofs.YtljmiiiidjeggaaGreat
set_option maxHeartbeats 16000000
open Go.RowKit
set_option linter.unusedVariables false
set_option linter.unusedSimpArgs false
def stO (w:World) (N m:Nat):Tgm:=fun k=>if k<N then (0,9) else match w.heap[k]? with
 | some (.cells _ T _)=>if T=125∨T=121∨T=170 then (0,1) else if T=136∨T=134 then (0,2) else if T=145 then (0,3) else (0,0)
 | some (.map _ _)=>if k=m then (0,3) else (0,0)
 | _=>(0,0)
theorem stO_c {w:World} {N m k:Nat} {cs:Array Value} {T:TypeId} {fr:Nat×Nat} (hN:N≤k) (h:w.heap[k]? = some (.cells cs T fr)):stO w N m k=(if T=125∨T=121∨T=170 then (0,1) else if T=136∨T=134 then (0,2) else if T=145 then (0,3) else (0,0)):=by unfold stO;rw[if_neg (by omega),h]
theorem stO_low {w:World} {N m k:Nat} (h:k<N):stO w N m k=(0,9):=by unfold stO;rw[if_pos h]
theorem row_ty9 {w:World} {B n s:Nat} {e:TypeId} {v:Value} {xs:List Value} (h:w.ownsRow B e s v n xs):∀k,v.ownBlock=some k→∃cs fr,w.heap[k]? = some (.cells cs e fr):=fun k hk=>by
 rcases h.2 with ⟨rfl,_⟩ | ⟨g,cap,cur,rfl,_,hb,_⟩
 · cases hk
 · simp only[Value.ownBlock,Option.some.injEq] at hk
   subst hk
   exact⟨_,_,hb⟩
theorem RgV.low0 {w:World} {B:Nat}:∀{vs:List ((Nat×Nat)×Value)} {l:RgL},RgV w B vs l→RgV w 0 vs l
 | [],[],_=>trivial
 | p::ps,q::qs,h=>⟨⟨h.1.1,h.1.2.lower (Nat.zero_le _)⟩,RgV.low0 h.2⟩
 | [],_::_,h=>h.elim
 | _::_,[],h=>h.elim
theorem stage {w:World} {d g1 g2 rg m lg N:Nat} {wv:Value} {D:DvS} {R:RgL} {all:List Sl} (hd:DsB w N d g1 g2 wv D) (hr:RgB w N rg m R) (hrg:N≤rg) (hl:LgB w N lg all) (hlg:N≤lg):DvM w (stO w N m) d D∧RgM w (stO w N m) rg R∧LgM w (stO w N m) lg all:=by
 obtain⟨l1,l2,l3⟩:=hd.low
 refine⟨⟨g1,g2,wv,⟨hd.box,hd.now,hd.firm,row_low hd.row (Nat.zero_le _),hd.ne,⟨Nat.zero_le _,Nat.zero_le _,Nat.zero_le _⟩⟩,(stO_c l1 hd.box).trans (by decide),(stO_c l2 hd.now).trans (by decide),(stO_c l3 hd.firm).trans (by decide),fun k hk=>?_⟩,?_,?_⟩
 · obtain⟨cs,fr,h1⟩:=row_ty9 hd.row k hk
   exact (stO_c (own_ge9 hd.row k hk) h1).trans (by decide)
 · obtain⟨vs,h1,h2⟩:=hr.map
   refine⟨m,vs,hr.box,h1,h2.low0,hr.ne,(stO_c hrg hr.box).trans (by decide),?_,fun p hp k hk=>?_⟩
   · have hm:=hr.low
     obtain⟨es,clock,h3,_⟩:=h1
     unfold stO
     rw[if_neg (by omega),h3]
     exact if_pos rfl
   · obtain⟨k',hk'⟩:=h2.mem p hp
     obtain⟨cs,fr,h3⟩:=row_ty9 hk'.own k hk
     exact (stO_c (own_ge9 hk'.own k hk) h3).trans (by decide)
 · obtain⟨h0,v,h1,h2⟩:=hl
   refine⟨v,h1,row_low h2 (Nat.zero_le _),(stO_c hlg h1).trans (by decide),fun k hk=>?_⟩
   obtain⟨cs,fr,h3⟩:=row_ty9 h2 k hk
   exact (stO_c (own_ge9 h2 k hk) h3).trans (by decide)
def newD (b:Nat):DvS:=⟨b,zeros (b*256),zeros (b*256),[],0,0,-1,false⟩
theorem newD_ok {b:Nat} (h8:8≤b) (h4:b≤4096):(newD b).Ok where
 n8:=h8
 n4:=h4
 now:=by simp[newD,zeros]
 firm:=by simp[newD,zeros]
 bnow:=fun x hx=>by simp[newD,zeros] at hx;omega
 bfirm:=fun x hx=>by simp[newD,zeros] at hx;omega
 ws:=fun x hx=>by cases hx
 cut:=⟨by show (-1:Int)≤-1;decide,by show (-1:Int)≤1000000000;decide⟩
 fail:=by show 0≤1000000000;decide
theorem DkN.ds {w:World} {B d b g1 g2:Nat} (h:DkN w B d b g1 g2):DsB w B d g1 g2 (.slice none 0 0) (newD b):=
 ⟨h.box,h.now,h.firm,World.ownsRow_nil _ _ _ _,h.ne,h.low⟩
theorem RgV.lowr {w:World} {B C:Nat} (hC:C≤B):∀{vs:List ((Nat×Nat)×Value)} {l:RgL},RgV w B vs l→RgV w C vs l
 | [],[],_=>trivial
 | p::ps,q::qs,h=>⟨⟨h.1.1,h.1.2.lower hC⟩,RgV.lowr hC h.2⟩
 | [],_::_,h=>h.elim
 | _::_,[],h=>h.elim
theorem RgB.lowr {w:World} {B C g m:Nat} {l:RgL} (h:RgB w B g m l) (hC:C≤B):RgB w C g m l:=by
 obtain⟨vs,h1,h2⟩:=h.map
 exact⟨h.box,Nat.le_trans hC h.low,⟨vs,h1,h2.lowr hC⟩,h.ne⟩
def beginT (T:PgP) (n:Nat):PgP:={ T with cm:=n,la:=n,fl:=false,pu:=[],dr:=[] }
section
variable {w:World} {O:Tgm} {p d rg lg:Nat} {T:PgP}
theorem beginM {n:Nat} (h:PgM w O p d rg lg T) (hn:n<18446744073709551616) (hf:T.fa=false) (h0:T.cm=0) (hl:T.la<n):
 Calls Tryz.prog 10 #[.pointer (some ⟨p,0,none⟩),.int .u64 (n:Int)] w fun e w'=>∃O',e = .returned (.int .i64 0)∧PgM w' O' p d rg lg (beginT T n)∧Wr (fun τ=>τ=(p,1)) w O w' O':=by
 obtain⟨b,hN,rfl,rfl,rfl⟩:=h
 refine (begin_ok n hn hN.box hf h0 hl).mono ?_
 rintro e w' ⟨a,c,rfl,hbx,ha,hc,ga,gc,hac,hfr⟩
 have hO:∀k,k<w.heap.size→(fun k=>if k<w.heap.size then O k else if k=a then (p,4) else if k=c then (p,5) else (0,0)) k=O k:=fun k hk=>if_pos hk
 have s:Wr (fun τ=>τ=(p,1)) w O w' (fun k=>if k<w.heap.size then O k else if k=a then (p,4) else if k=c then (p,5) else (0,0)):=⟨hfr.imp fun q hq=>by rw[hq];exact hN.tb,hO⟩
 have hp:=hN.pos
 have fz:=fun (k:Nat) (i:Nat) (hi:i≠1) (e:O k=(p,i)) (q:O k=(p,1))=>hi (by rw[e] at q;injection q)
 have f0:¬((0:Nat),(0:Nat))=(p,1):=fun e=>by injection e with e;omega
 obtain⟨vs,k1,k2⟩:=hN.kn
 have ta:(fun k=>if k<w.heap.size then O k else if k=a then (p,4) else if k=c then (p,5) else (0,0)) a=(p,4):=by dsimp only;rw[if_neg (by omega),if_pos rfl]
 have tc:(fun k=>if k<w.heap.size then O k else if k=a then (p,4) else if k=c then (p,5) else (0,0)) c=(p,5):=by dsimp only;rw[if_neg (by omega),if_neg (by omega),if_pos rfl]
 refine⟨_,rfl,⟨{ b with pv:=.map (some a),dv:=.map (some c) },?_,rfl,rfl,rfl⟩,s⟩
 exact {
  box:=hbx
  pos:=hN.pos
  tb:=(s.tg _ (CbB.lt hN.box)).trans hN.tb
  free:=row_fr hN.free s.fr (fun k hk e=>f0 (by rw[←hN.tf k hk];exact e))
  tf:=fun k hk=>(s.tg _ (row_ltD hN.free k hk)).trans (hN.tf k hk)
  kn:=⟨vs,k1.same (s.fr.block _ k1.lt (fz _ 2 (by decide) hN.tk)),k2.imp fun v a t hv=>hv.wr s f0⟩
  tk:=(s.tg _ k1.lt).trans hN.tk
  wa:=hN.wa.same (s.fr.block _ hN.wa.lt (fz _ 3 (by decide) hN.tw))
  tw:=(s.tg _ hN.wa.lt).trans hN.tw
  pu:=.inr ⟨a,rfl,ha,ta⟩
  dr:=.inr ⟨c,rfl,hc,tc⟩
  pi:=hN.pi.same (s.fr.block _ hN.pi.lt (fz _ 6 (by decide) hN.ti))
  ti:=(s.tg _ hN.pi.lt).trans hN.ti
  rgt:=hN.rgt
  okr:=hN.okr
  num:=hN.num
  cmo:=⟨hn,hn⟩
  opn:=fun _=>⟨⟨a,rfl⟩,⟨c,rfl⟩⟩ }
set_option maxRecDepth 100000 in
theorem pfree_any (h:PgM w O p d rg lg T):Calls Tryz.prog 16 #[.pointer (some ⟨p,0,none⟩)] w fun e w'=>∃v,e = .returned v∧RuB w' w.heap.size v T.fr∧Below w.heap.size w w':=by
 obtain⟨b,hN,_,_,_⟩:=h
 have HN:Hid (PcB w p (pcS b T)):=Lib.hid hN.box
 obtain⟨A,c,hfv,hr,_⟩:=hN.free.rn
 have hnum:=hN.num
 have c3:(w.alloc (.cells #[] 33)).cell? ⟨p,3,none⟩=some b.fv:=(CbB.ab hN.box ((Below.refl _ _).alloc (Nat.le_refl _) _)).cell (k:=3) rfl
 rw[hfv] at c3
 have HR:=Lib.hid hr
 have HL:=Lib.hid hnum
 clear hN hr hnum hfv
 obtain⟨m,hm⟩:∃m,T.fr.length=m:=⟨_,rfl⟩
 rw[hm] at HL HR c3
 clear hm
 go_enter Tryz.func16,Tryz.ntmps16
 go_wp2_with (first
  | (refine wpList_appR rfl (.tmp 5) (.tmp 9) rfl (RuB.empty w) rfl rfl (HR.out.ab ((Below.refl _ _).alloc (Nat.le_refl _) _)) (by have:=HL.out;simp;omega) (by simp) ?_
     intro v7 w7 hv7 hg7
     rw[List.nil_append] at hv7))
 go_ret
 have b1:Below w.heap.size w (w.alloc (.cells #[] 33)):=(Below.refl _ _).alloc (Nat.le_refl _) _
 exact⟨_,rfl,hv7,below_grownR b1 hg7 (by intro g hg;simp only[Value.ownBlock,Option.some.injEq] at hg;omega) b1.size⟩
def tenV (v:Value):Nat:=match v with
 | .agg cs=>match cs[0]? with
   | some (Value.int _ z)=>z.toNat
   | _=>0
 | _=>0
def cntV (t:Nat) (vs:List (Nat×Value)):Nat:=(vs.filter fun q=>decide (tenV q.2=t)).length
def usedP (kn:KnL) (t:Nat):Nat:=(kn.filter fun q=>decide (q.2.1.ten=t)).length
theorem cntV_le (t:Nat) (vs:List (Nat×Value)):cntV t vs≤vs.length:=List.length_filter_le _ _
theorem cntV_snoc (t:Nat) (vs:List (Nat×Value)) (q:Nat×Value):cntV t (vs++[q])=cntV t vs+(if tenV q.2=t then 1 else 0):=by
 unfold cntV
 rw[List.filter_append,List.length_append,List.filter_cons]
 by_cases h:tenV q.2=t
 · rw[if_pos (decide_eq_true h),if_pos h];rfl
 · rw[if_neg (by simpa using h),if_neg h];rfl
theorem KnV.used (t:Nat):∀{vs:List (Nat×Value)} {l:KnL},KnV w O vs l→cntV t vs=usedP l t
 | [],[],_=>rfl
 | p::ps,q::qs,h=>by
   have ih:=KnV.used t h.2
   obtain⟨x,h1,_⟩:=h.1.2
   have h2:tenV p.2=q.2.1.ten:=by rw[h1];simp[tenV]
   unfold cntV usedP at ih⊢
   rw[List.filter_cons,List.filter_cons,h2]
   split
   · rw[List.length_cons,List.length_cons,ih]
   · exact ih
 | [],_::_,h=>h.elim
 | _::_,[],h=>h.elim
theorem nodup_keys {a:List (Nat×Value)} (ha:(a.map (·.1)).Nodup):a.Nodup:=by
 unfold List.Nodup at *
 exact (List.pairwise_map.1 ha).imp (fun h e=>h (by rw[e]))
theorem cntV_perm (t:Nat) {a b:List (Nat×Value)} (ha:(a.map (·.1)).Nodup) (hb:(b.map (·.1)).Nodup) (h:∀x,x∈a↔x∈b):cntV t a=cntV t b:=
 (((List.perm_ext_iff_of_nodup (nodup_keys ha) (nodup_keys hb)).2 h).filter _).length_eq
theorem KnV.shape:∀{vs:List (Nat×Value)} {l:KnL},KnV w O vs l→∀q∈vs,∃(l':Lb) (A:Option Addr) (n c:Nat),q.2 = .agg #[.int .u32 (l'.ten:Int),.int .u8 (l'.k:Int),.int .u8 (l'.lv:Int),.int .u32 (l'.pg:Int),.int .u64 (l'.cm:Int),.int .u16 (l'.gn:Int),.slice A n c]∧l'.Ok
 | [],[],_,_,hq=>by cases hq
 | p :: ps,q::qs,h,r,hr=>by
   rcases List.mem_cons.1 hr with rfl | hr
   · obtain⟨x,h1,⟨A,n,c,rfl,_⟩,h3⟩:=h.1.2
     exact⟨_,_,_,_,h1,h3⟩
   · exact KnV.shape h.2 r hr
 | [],_::_,h,_,_=>h.elim
 | _::_,[],h,_,_=>h.elim
set_option maxRecDepth 100000 in
theorem used_any (t:Nat) (ht:t<4294967296) (h:PgM w O p d rg lg T) (hl:T.kn.length≤100000):Calls Tryz.prog 14 #[.pointer (some ⟨p,0,none⟩),.int .u32 (t:Int)] w fun e w'=>e = .returned (.int .i64 (usedP T.kn t:Int))∧Below w.heap.size w w':=by
 obtain⟨b,hN,_,_,_⟩:=h
 obtain⟨vs,hm,hv⟩:=hN.kn
 have c4:w.cell? ⟨p,4,none⟩=some (.map (some b.kn)):=CbB.cell hN.box (k:=4) rfl
 have US:=Lib.hid (hv.used t)
 have SH:=Lib.hid hv.shape
 have ND:=Lib.hid (hm.nodup u32p_K)
 have VL:Hid (vs.length≤100000):=Lib.hid (by rw[hv.len];exact hl)
 have M0:=Lib.hid hm
 rw[←US.out]
 obtain⟨kn,hkn⟩:∃kn,b.kn=kn:=⟨_,rfl⟩
 rw[hkn] at c4 M0
 clear hN hm hv hl hkn US
 go_enter Tryz.func14,Tryz.ntmps14
 go_wp2_with (first
  | (refine wpList_mapRange rfl (.tmp 13) rfl Tryz.underlying98 rfl M0.out ?_
     intro w1 r1 b1 s1
     have R1:=Lib.hid r1
     have B1:=Lib.hid b1
     clear r1 b1 s1
     simp[Act.put]))
 go_loopg [5] (vs.length) (fun k v wr=>∃d,vs.length-d.length≤k∧RngB u32Vp u32Okp wr kn w.heap.size vs d∧v = .int .i64 (cntV t d:Int)∧Below w.heap.size w wr∧w.heap.size<wr.heap.size)
 case atStart=>exact⟨[],by simp,R1.out,rfl,B1.out,R1.out.lt⟩
 case round=>
  obtain⟨d,hk,hr,hn,hb,hs⟩:=hrel
  subst hn
  have HK:=Lib.hid hk
  have NB:=Lib.hid hb
  have NS:=Lib.hid hs
  have DL:Hid (cntV t d≤100000):=Lib.hid (by have h2:=hr.len_le;have h3:=VL.out;have h4:=cntV_le t d;omega)
  rcases hr.next u32p_K 0 with ⟨hall,hrun⟩ | ⟨q,w2,hp,hd,hrun,hr2,hg2,hs2,hent,hbel⟩
  · have GO:Hid (cntV t d=cntV t vs):=Lib.hid (by
     obtain⟨_,_,_,_,_,_,_,_,_,_,_,_,_,_,hsub,hnd⟩:=hr
     exact cntV_perm t hnd ND.out fun x=>⟨hsub x,hall x⟩)
    clear hk hr hb hs hall
    go_wp2_with fail
    go_ret
    exact⟨by rw[←GO.out];rfl,NB.out⟩
  · obtain⟨pg,pv⟩:=q
    obtain⟨l',xA,xn,xc,hpv,hlo⟩:=SH.out _ hp
    dsimp only at hpv
    subst hpv
    simp only[u32Vp] at hrun hent
    have HM:Hid (d.length<vs.length):=Lib.hid (by have:=hr2.len_le;simp at this;omega)
    have B2:=Lib.hid (hbel _ _ hb (Nat.le_refl _))
    have S2:Hid (w.heap.size<w2.heap.size):=Lib.hid (by rw[hs2];exact hs)
    have R2:=Lib.hid hr2
    have CN:=Lib.hid (cntV_snoc t d (pg,.agg #[.int .u32 (l'.ten:Int),.int .u8 (l'.k:Int),.int .u8 (l'.lv:Int),.int .u32 (l'.pg:Int),.int .u64 (l'.cm:Int),.int .u16 (l'.gn:Int),.slice xA xn xc]))
    have TV:Hid (tenV (.agg #[.int .u32 (l'.ten:Int),.int .u8 (l'.k:Int),.int .u8 (l'.lv:Int),.int .u32 (l'.pg:Int),.int .u64 (l'.cm:Int),.int .u16 (l'.gn:Int),.slice xA xn xc])=l'.ten):=Lib.hid (by simp[tenV])
    clear hk hr hb hs hp hd hr2 hg2 hs2 hbel hlo
    have WP:=wrap_i64P (z:=(cntV t d:Int)+1) (by omega) (by have:=DL.out;omega)
    by_cases ht1:l'.ten=t
    · have e1:((l'.ten:Int)==(t:Int))=true:=by simp;omega
      have HT:=Lib.hid ht1
      clear ht1
      go_wp2_with fail
      go_roundg (vs.length-(d.length+1))
      case measure=>have:=HM.out;have:=HK.out;omega
      case rel=>
       have ba:Below w2.heap.size w2 (w2.alloc (.cells #[.int .u32 (l'.ten:Int),.int .u8 (l'.k:Int),.int .u8 (l'.lv:Int),.int .u32 (l'.pg:Int),.int .u64 (l'.cm:Int),.int .u16 (l'.gn:Int),.slice xA xn xc] 107)):=(Below.refl _ _).alloc (Nat.le_refl _) _
       refine⟨_,by simp,R2.out.ab ba,?_,below_tr B2.out ba (Nat.le_of_lt S2.out),Nat.lt_of_lt_of_le S2.out ba.size⟩
       rw[CN.out]
       rw[TV.out,if_pos HT.out]
       rfl
    · have e1:((l'.ten:Int)==(t:Int))=false:=by simp;omega
      have HT:=Lib.hid ht1
      clear ht1
      go_wp2_with fail
      go_roundg (vs.length-(d.length+1))
      case measure=>have:=HM.out;have:=HK.out;omega
      case rel=>
       have ba:Below w2.heap.size w2 (w2.alloc (.cells #[.int .u32 (l'.ten:Int),.int .u8 (l'.k:Int),.int .u8 (l'.lv:Int),.int .u32 (l'.pg:Int),.int .u64 (l'.cm:Int),.int .u16 (l'.gn:Int),.slice xA xn xc] 107)):=(Below.refl _ _).alloc (Nat.le_refl _) _
       refine⟨_,by simp,R2.out.ab ba,?_,below_tr B2.out ba (Nat.le_of_lt S2.out),Nat.lt_of_lt_of_le S2.out ba.size⟩
       rw[CN.out]
       rw[TV.out,if_neg HT.out]
       rfl
set_option maxRecDepth 100000 in
theorem blank_none (c:Nat) (A:Option Addr) (w:World):Calls Tryz.prog 46 #[.pointer (some ⟨p,0,none⟩),.slice A 0 c] w fun e w'=>e = .returned (.int .i64 0)∧Below w.heap.size w w':=by
 go_enter Tryz.func46,Tryz.ntmps46
 go_wp2_with fail
 go_loopw [10] (fun z wx=>z = .int .i64 0∧wx=w) (fun z _=>0)
 case atStart=>exact⟨rfl,rfl⟩
 case round=>
  obtain⟨rfl,rfl⟩:=hrel
  go_wp2_with fail
  go_ret
  exact⟨rfl,Below.refl _ _⟩
set_option maxRecDepth 100000 in
theorem scrub_none (h:PgM w O p d rg lg T) (hf:T.fa=false) (ho:T.cm=0∨T.fl=true) (hw:T.wa=[]):Calls Tryz.prog 13 #[.pointer (some ⟨p,0,none⟩)] w fun e w'=>∃O',e = .returned (.int .i64 0)∧PgM w' O' p d rg lg { T with cm:=0 }∧Wr (fun τ=>τ=(p,1)) w O w' O':=by
 have HF:=Lib.hid hf
 have HM0:=Lib.hid h
 obtain⟨b,hN,rfl,rfl,rfl⟩:=h
 have HM:=Lib.hid (may_any hN.box)
 rw[show mayP (pcS b T)=0 from by unfold mayP pcS;rw[hf];rfl] at HM
 have HO:=Lib.hid (open_any hN.box)
 rw[show openB (pcS b T)=false from by unfold openB pcS;rcases ho with e | e <;> simp[e]] at HO
 have c5:w.cell? ⟨p,5,none⟩=some (.map (some b.mw)):=CbB.cell hN.box (k:=5) rfl
 have RI:=Lib.hid (rising_any b.mw T.wa w hN.wa (by rw[hw];decide))
 rw[hw] at RI
 simp only[List.map_nil,show U32.srt []=[] from by simp[U32.srt]] at RI
 clear hf ho hw hN
 go_enter Tryz.func13,Tryz.ntmps13
 go_wp2_with fail
 refine HM.out.mono ?_
 rintro e w1 ⟨rfl,rfl⟩
 go_wp2_with fail
 refine HO.out.mono ?_
 rintro e w1 ⟨rfl,rfl⟩
 go_wp2_with fail
 refine RI.out.mono ?_
 rintro e w2 ⟨v,rfl,hv,hb⟩
 obtain⟨A2,c2,rfl⟩:=row_shape hv
 have M2:=Lib.hid (HM0.out.wr (Wr.cut (O:=O) hb (fun _=>False)) (fun _=>id) id)
 have S2:=Lib.hid (Wr.cut (O:=O) hb (fun _=>False))
 clear hv hb HM HO RI c5
 go_wp2_with fail
 go_loopw [4,23] (fun z1 z2 wx=>z1 = .slice none 0 0∧z2 = .int .i64 0∧w2=wx) (fun _ _ _=>0)
 case atStart=>exact⟨rfl,rfl,rfl⟩
 case round=>
  obtain⟨rfl,rfl,rfl⟩:=hrel
  go_wp2_with fail
  refine (blank_none 0 none _).mono ?_
  rintro e w3 ⟨rfl,hb3⟩
  have M3:=Lib.hid (M2.out.wr (Wr.cut hb3 (fun _=>False)) (fun _=>id) id)
  have S3:=Lib.hid (S2.out.tr (Wr.cut hb3 (fun _=>False)))
  clear hb3
  go_wp2_with fail
  refine (failM M3.out HF.out 0 (by decide)).mono ?_
  rintro e w4 ⟨rfl,hp4,hw4⟩
  rw[show ({ T with fa:=!decide ((0:Nat)=0) }:PgP)=T from by rw[←show T.fa = !decide ((0:Nat)=0) from HF.out]] at hp4
  obtain⟨b4,hN4,e1,e2,e3⟩:=hp4
  have c9:w4.cell? ⟨p,9,none⟩=some (.int .u64 (T.cm:Int)):=CbB.cell hN4.box (k:=9) rfl
  have f9:w4.frozen? ⟨p,9,none⟩=false:=CbB.free hN4.box 9
  have N4:=Lib.hid hN4
  have E4:=Lib.hid (And.intro e1 (And.intro e2 e3))
  have S4:=Lib.hid hw4
  clear hN4 e1 e2 e3 hw4
  go_wp2_with fail
  go_loopw [49] (fun z wx=>z = .int .i64 0∧w4=wx) (fun _ _=>0)
  case atStart=>exact⟨rfl,rfl⟩
  case round=>
   obtain⟨rfl,rfl⟩:=hrel
   go_wp2_with fail
   go_ret
   have s5:Wr (fun τ=>τ=(p,1)) w4 (cutO (cutO O w.heap.size) w2.heap.size) (w4.setCell ⟨p,9,none⟩ (.int .u64 0)) (cutO (cutO O w.heap.size) w2.heap.size):=⟨(fr_setD w4 p 9 _).imp fun q hq=>by rw[hq];exact N4.out.tb,fun _ _=>rfl⟩
   refine⟨_,rfl,⟨_,N4.out.upd (T':={ T with cm:=0 }) (v:=b4.fv) s5 (CbB.set N4.out.box 9 (.int .u64 0)) (row_fr N4.out.free (fr_setD w4 p 9 _) (fun q hq e=>?_)) N4.out.tf rfl rfl rfl rfl rfl N4.out.rgt N4.out.okr N4.out.num ⟨show 0<18446744073709551616 by decide,N4.out.cmo.2⟩ (fun e=>absurd rfl e),E4.out.1,E4.out.2.1,E4.out.2.2⟩,((S3.out.imp fun _=>False.elim).tr S4.out).tr s5⟩
   have h1:=N4.out.tf q hq
   rw[e,N4.out.tb] at h1
   have:=N4.out.pos
   injection h1 with h1
   omega
end
def kR9:RgL:=[((1,3),zeros 16)]
def kL9:Lb:=⟨1,1,0,2,5,3⟩
def kP9:List Nat:=List.replicate 224 7
theorem kP9_len:kP9.length=224:=List.length_replicate
theorem kP9_byt:Byt kP9:=fun x hx=>by rw[(List.mem_replicate.1 hx).2];decide
def kT9:PgP:=putT (beginT (newT [(2,8)]) 5) (2,8) [] kL9 kP9
theorem kL9_ok:kL9.Ok:=⟨by decide,by decide,by decide,by decide,by decide,by decide⟩
theorem kSO9:SOk (zeros 16) kL9:=⟨.inl (by decide),by decide,by decide⟩
theorem kS9:sealP (zeros 16) kL9 kP9=(headL kL9++sealA (zeros 16) (nonceL kL9) (aadL kL9) kP9,0):=by
 unfold sealP
 rw[if_pos ⟨kSO9,kP9_len⟩]
theorem srt_one (n:Nat):U32.srt [n]=[n]:=by unfold U32.srt;exact List.mergeSort_singleton _
theorem kNew9:newP 1 kR9=(3,0):=by
 have h:U16.srt (gensK 1 (kR9.map (·.1)))=[3]:=(show U16.srt [3]=[3] from List.mergeSort_singleton _)
 unfold newP
 rw[h]
 rfl
theorem writeD_new (b:Nat) (i:Nat) (s:List Nat):writeD (newD b) i s=(0,⟨b,putD (zeros (b*256)) s i,zeros (b*256),[(i,s)],1,0,-1,false⟩):=rfl
theorem syncD_new (b:Nat) (l f:List Nat) (ws:List (Nat×List Nat)):syncD ⟨b,l,f,ws,1,0,-1,false⟩=(0,⟨b,l,l,[],2,0,-1,false⟩):=rfl
def kD9 (S:List Nat):DvS:=⟨8,putD (zeros (8*256)) S 2,putD (zeros (8*256)) S 2,[],2,0,-1,false⟩
theorem kFlush9:flushP kR9 kT9 (newD 8) []=(0,{ kT9 with fl:=true,fa:=false },kD9 (sealP (zeros 16) kL9 kP9).1,[⟨kL9,zeros 16,kP9,(sealP (zeros 16) kL9 kP9).1⟩]):=by
 have h1:U32.srt (kT9.pu.map (·.1))=[2]:=srt_one 2
 have h2:getK 2 kT9.kn=some (kL9,kP9):=rfl
 have h3:getR (kL9.ten,kL9.gn) kR9=some (zeros 16):=rfl
 have h4:flushF kR9 kT9.kn [2] (newD 8) []=(0,⟨8,putD (zeros (8*256)) (sealP (zeros 16) kL9 kP9).1 2,zeros (8*256),[(2,(sealP (zeros 16) kL9 kP9).1)],1,0,-1,false⟩,[⟨kL9,zeros 16,kP9,(sealP (zeros 16) kL9 kP9).1⟩]):=by
  unfold flushF flush1
  rw[h2]
  simp only
  rw[h3]
  simp only
  rw[writeD_new]
  rfl
 unfold flushP
 rw[h1,h4]
 simp only
 rw[syncD_new]
 rfl
theorem kGet9:getP kR9 (kD9 (sealP (zeros 16) kL9 kP9).1) (newT []) kL9=(0,kP9,{ newT [] with kn:=[(2,(kL9,kP9))] }):=by
 have hl:(sealP (zeros 16) kL9 kP9).1.length=256:=(seal_ok9 (.inl (by decide)) (by decide) (by decide) kP9_len).2
 have h1:blkL (kD9 (sealP (zeros 16) kL9 kP9).1).now 2=(sealP (zeros 16) kL9 kP9).1:=by
  show blkL (putD (zeros (8*256)) _ 2) 2=_
  rw[blkL_put (zeros_len _) (by decide) (by omega),List.drop_of_length_le (by
   unfold blkL
   rw[List.length_take]
   omega),List.append_nil]
 have h2:openP (zeros 16) kL9 (sealP (zeros 16) kL9 kP9).1=(kP9,0):=by
  rw[kS9]
  exact openP_seal kSO9 kP9_len
 unfold getP
 rw[if_neg (by decide),if_neg (by decide),if_neg (by show ¬¬(1<2∧2<8);decide)]
 rw[show getK kL9.pg (newT []).kn=none from rfl]
 dsimp only
 rw[if_neg (show ¬hasR (newT []).fr kL9.pg=true from by decide),if_neg (show ¬(kD9 (sealP (zeros 16) kL9 kP9).1).down=true from by show ¬(false=true);decide),show getR (kL9.ten,kL9.gn) kR9=some (zeros 16) from rfl]
 dsimp only
 rw[show kL9.pg=2 from rfl,h1,h2,if_pos rfl]
 rfl
theorem CbB.wr {P:Nat×Nat→Prop} {w w':World} {O O':Tgm} {k:Nat} {T:TypeId} {cs:Array Value} (h:CbB w k T cs) (ht:O k=(0,0)) (s:Wr P w O w' O') (hn:¬P (0,0)):CbB w' k T cs∧O' k=(0,0):=⟨CbB.fr h s.fr (fun e=>hn (by rw[←ht];exact e)),(s.tg _ h.lt).trans ht⟩
theorem sealP_byt {key text:List Nat} {l:Lb} (hb:Byt key) (ht:Byt text) (hl:l.Ok):Byt (sealP key l text).1:=by
 unfold sealP
 split
 · next h=>exact byt_app (headL_byt l hl) (byt_app (cryptA_byt h.1.1 hb (flatN_byt _) ht) (tagA_byt h.1.1 hb (flatN_byt _)))
 · exact fun x hx=>by cases hx
def FilR (N:Nat) (v:Value) (W:World):Prop:=∃g,v = .slice (some ⟨g,0,none⟩) 224 224∧IsB W (some ⟨g,0,none⟩) 224 224 kP9∧N≤g
theorem FilR.mono {N:Nat}:Mono (FilR N):=fun _ _ _ ⟨g,h1,h2,h3⟩ hb=>⟨g,h1,h2.ab hb,h3⟩
set_option maxRecDepth 100000 in
theorem known19_any (w:World):Calls Tryz.prog 6 #[] w fun e w'=>e = .returned (.bool true)∧Below w.heap.size w w':=by
 have hmk:∀W:World,(Instr.makeSlice 22 (.int .i64 16) (.int .i64 16)).run Tryz.prog W = .ok (.slice (some ⟨W.heap.size,0,none⟩) 16 16) (W.alloc (.cells (bts (zeros 16)) 5)):=fun W=>make_u8 16 16 (Nat.le_refl _) (by decide) W
 go_enter Tryz.func6,Tryz.ntmps6
 go_wp2_with fail
 refine (diskNew_any 8 w (by decide) (by decide)).mono ?_
 rintro e w1 ⟨d,g1,g2,rfl,hd,hb1⟩
 have D1:=Lib.hid hd.ds
 have B1:=Lib.hid hb1
 clear hd hb1
 go_wp2_with fail
 refine (newRing_any w1).mono ?_
 rintro e w2 ⟨rg,m,rfl,hge,hr,hb2⟩
 have D2:=Lib.hid (D1.out.ab hb2)
 have R2:=Lib.hid (hr.lowr B1.out.size)
 have GE2:=Lib.hid (Nat.le_trans B1.out.size hge)
 have B2:=Lib.hid (below_tr B1.out hb2 B1.out.size)
 clear hr hb2 hge D1 B1
 go_wp2_with fail
 refine (newLog_any w2).mono ?_
 rintro e w3 ⟨lg,rfl,hge,hl,hb3⟩
 have D3:=Lib.hid (D2.out.ab hb3)
 have R3:=Lib.hid (R2.out.ab hb3)
 have GE3:=Lib.hid (Nat.le_trans B2.out.size hge)
 have B3:=Lib.hid (below_tr B2.out hb3 B2.out.size)
 have L3:=Lib.hid (LgB.empty (B:=w.heap.size) hl B3.out.size)
 clear hl hb3 hge D2 B2 R2
 go_wp2_with fail
 have hI:IsB (w3.alloc (.cells (bts (zeros 16)) 5)) (some ⟨w3.heap.size,0,none⟩) 16 16 (zeros 16):=isB_whole (Bk.newAt _ (zeros 16) rfl) (byt_zeros 16) (zeros_len 16) (by decide)
 have hba:Below w3.heap.size w3 (w3.alloc (.cells (bts (zeros 16)) 5)):=(Below.refl _ _).alloc (Nat.le_refl _) _
 refine (ringAdd_any _ rg m 1 3 16 16 _ (zeros 16) [] _ (R3.out.ab hba) (by decide) (by decide) hI).mono ?_
 rintro e w4 ⟨rfl,hr,hg⟩
 have b4:Below w.heap.size w w4:=below_grown (below_tr B3.out hba B3.out.size) hg R3.out.low (below_tr B3.out hba B3.out.size).size
 obtain⟨vs3,hm3,hm4⟩:=(R3.out.ab hba).map
 obtain⟨es,ck,hme,hm5⟩:=hm3
 have dm:d≠m∧g1≠m∧g2≠m∧lg≠m:=⟨fun e=>(by have h:=(D3.out.ab hba).box;unfold CbB at h;rw[e,hme] at h;cases h),fun e=>(by have h:=(D3.out.ab hba).now;unfold Bk at h;rw[e,hme] at h;cases h),fun e=>(by have h:=(D3.out.ab hba).firm;unfold Bk at h;rw[e,hme] at h;cases h),fun e=>(by
  obtain⟨v,h,_⟩:=(L3.out.ab hba).box
  unfold CbB at h;rw[e,hme] at h;cases h)⟩
 have fg:Fr (w3.alloc (.cells (bts (zeros 16)) 5)) w4 (fun k=>k=m):=(Fr.grown hg).imp fun k hk=>by injection hk with hk;exact hk.symm
 have d4:DsB w4 w.heap.size d g1 g2 (.slice none 0 0) (newD 8):=(D3.out.ab hba).fr fg fun k hk=>by
  subst hk
  exact⟨dm.1.symm,dm.2.1.symm,dm.2.2.1.symm,by simp[Value.ownBlock]⟩
 have l4:LgB w4 w.heap.size lg []:=by
  obtain⟨h0,v,h1,h2⟩:=L3.out.ab hba
  refine LgB.mk b4.size ⟨v,h1.fr fg dm.2.2.2,row_fr h2 fg fun k hk e=>?_⟩
  obtain⟨cs,fr,h3⟩:=row_ty9 h2 k hk
  rw[e,hme] at h3
  cases h3
 rw[show addP (1,3) (zeros 16) []=(0,kR9) from rfl] at hr
 obtain⟨dv,ri,lo⟩:=stage d4 hr GE2.out l4 GE3.out
 have DV:=Lib.hid dv
 have RI:=Lib.hid ri
 have LO:=Lib.hid lo
 have B4:=Lib.hid b4
 clear hI hba hr hg hm4 hm5 hme es ck dm fg d4 l4 D3 L3 R3 B3 dv ri lo b4
 obtain⟨O4,hO4⟩:∃O4,stO w4 w.heap.size m=O4:=⟨_,rfl⟩
 have OL:Hid (∀k,k<w.heap.size→O4 k=(0,9)):=Lib.hid fun k hk=>by rw[←hO4];exact stO_low hk
 rw[hO4] at DV RI LO
 clear hO4
 rw[show (addP (1,3) (zeros 16) []).1=0 from rfl]
 go_wp2_with fail
 have b5:Below w4.heap.size w4 (w4.alloc (.cells #[.int .u32 2,.int .u32 8] 33)):=(Below.refl _ _).alloc (Nat.le_refl _) _
 have s5:Wr (fun _=>False) w4 O4 (w4.alloc (.cells #[.int .u32 2,.int .u32 8] 33)) O4:=Wr.of b5 _ (fun _ _=>rfl)
 have r5:RnB (w4.alloc (.cells #[.int .u32 2,.int .u32 8] 33)) (some ⟨w4.heap.size,0,none⟩) 1 1 [(2,8)]:=by
  obtain⟨A,c,h1,h2,_⟩:=(RuB.one w4 2 8).rn
  injection h1 with e1 e2 e3
  subst e1 e3
  exact h2
 refine (new_ok (DV.out.wr s5 id) r5 (by decide) (by decide) (by decide) (rg:=rg) (lg:=lg)).mono ?_
 rintro e w6 ⟨p,O6,rfl,hp6,s6,hge6⟩
 have P6:=Lib.hid hp6
 have S6:=Lib.hid (s5.tr s6)
 have PP:Hid (0<p):=Lib.hid (by obtain⟨b,h,_⟩:=hp6;exact h.pos)
 clear b5 s5 r5 hp6 s6 hge6
 go_wp2_with fail
 refine (beginM (n:=5) P6.out (by decide) rfl rfl (by decide)).mono ?_
 rintro e w7 ⟨O7,rfl,hp7,s7⟩
 have P7:=Lib.hid hp7
 have S7:=Lib.hid ((S6.out.imp fun _=>False.elim).tr (s7.imp (Q:=fun τ=>τ.1=p) fun τ h=>by rw[h]))
 clear hp7 s7 S6 P6
 go_wp2_with fail
 refine (fill_any 7 (by decide) w7).mono ?_
 rintro e w8 ⟨g,rfl,hg8,bk8,hb8⟩
 have s8:Wr (fun _=>False) w7 O7 w8 (cutO O7 w7.heap.size):=Wr.cut hb8 _
 have P8:=Lib.hid (P7.out.wr s8 (fun _=>id) id)
 have S8:=Lib.hid (S7.out.tr (s8.imp fun _=>False.elim))
 have I8:Hid (IsB w8 (some ⟨g,0,none⟩) 224 224 kP9):=Lib.hid (isB_whole bk8 kP9_byt kP9_len (by decide))
 have T8:Hid ((cutO O7 w7.heap.size (⟨g,0,none⟩:Addr).block).1≠p):=Lib.hid (by
  rw[cutO_at hg8]
  have:=PP.out
  show 0≠p
  omega)
 clear hg8 bk8 hb8 s8 S7 P7
 have np:∀i,¬((0:Nat),i)=(p,1):=fun i e=>by injection e with e _;have:=PP.out;omega
 have RI8:=Lib.hid (RI.out.wr S8.out (fun e=>by have:=PP.out;simp at e;omega) (fun e=>by have:=PP.out;simp at e;omega))
 go_wp2_with fail
 refine (put_ok (t:=1) (k:=1) (lv:=0) (gen:=3) (r:=(2,8)) (rest:=[]) P8.out RI8.out rfl ⟨by decide,rfl⟩ (by decide) (by decide) (by decide) (by decide) kNew9 (by decide) rfl I8.out T8.out).mono ?_
 rintro e w9 ⟨O9,rfl,hp9,s9⟩
 have P9:Hid (PgM w9 O9 p d rg lg kT9):=Lib.hid hp9
 have S9:=Lib.hid (S8.out.tr s9)
 clear hp9 s9 S8 P8 I8 T8 RI8
 have bx:=CbB.new w9 37 #[.int .u32 2,.int .u64 5,.int .u16 3]
 have ba:Below w9.heap.size w9 (w9.alloc (.cells #[.int .u32 2,.int .u64 5,.int .u16 3] 37)):=(Below.refl _ _).alloc (Nat.le_refl _) _
 have cr0:(w9.alloc (.cells #[.int .u32 2,.int .u64 5,.int .u16 3] 37)).cell? ⟨w9.heap.size,0,none⟩=some (.int .u32 2):=bx.cell (k:=0) rfl
 have cr1:(w9.alloc (.cells #[.int .u32 2,.int .u64 5,.int .u16 3] 37)).cell? ⟨w9.heap.size,1,none⟩=some (.int .u64 5):=bx.cell (k:=1) rfl
 have cr2:(w9.alloc (.cells #[.int .u32 2,.int .u64 5,.int .u16 3] 37)).cell? ⟨w9.heap.size,2,none⟩=some (.int .u16 3):=bx.cell (k:=2) rfl
 have sa:Wr (fun _=>False) w9 O9 (w9.alloc (.cells #[.int .u32 2,.int .u64 5,.int .u16 3] 37)) (cutO O9 w9.heap.size):=Wr.cut ba _
 have BX:=Lib.hid (And.intro bx (cutO_at (O:=O9) (Nat.le_refl w9.heap.size)))
 have PA:=Lib.hid (P9.out.wr sa (fun _=>id) id)
 have SA:=Lib.hid (S9.out.tr (sa.imp fun _=>False.elim))
 have DA:=Lib.hid (DV.out.wr SA.out (fun e=>by have:=PP.out;simp at e;omega))
 have LA:=Lib.hid (LO.out.wr SA.out (fun e=>by have:=PP.out;simp at e;omega))
 have RA:=Lib.hid (RI.out.wr SA.out (fun e=>by have:=PP.out;simp at e;omega) (fun e=>by have:=PP.out;simp at e;omega))
 clear bx ba sa P9 S9
 go_wp2_with fail
 obtain⟨wa,hwa⟩:∃wa,w9.alloc (.cells #[.int .u32 2,.int .u64 5,.int .u16 3] 37)=wa:=⟨_,rfl⟩
 obtain⟨Oa,hOa⟩:∃Oa,cutO O9 w9.heap.size=Oa:=⟨_,rfl⟩
 rw[hwa] at BX PA SA DA LA RA⊢
 rw[hOa] at BX PA SA DA LA RA
 obtain⟨bx,hbx⟩:∃bx,w9.heap.size=bx:=⟨_,rfl⟩
 rw[hbx] at BX⊢
 clear hwa hOa hbx cr0 cr1 cr2
 refine (flush_any PA.out DA.out LA.out RA.out (newD_ok (by decide) (by decide)) (by decide) (by decide) (by decide) rfl ⟨by decide,rfl⟩ (fun x hx=>?_) (by decide)).mono ?_
 · have hx2:x=(2,.bool true):=by
    have:x∈[((2:Nat),Value.bool true)]:=hx
    simpa using this
   subst hx2
   exact⟨by decide,_,rfl,kP9_len,by decide,by decide⟩
 rw[kFlush9]
 rintro e wb ⟨Ob,rfl,hpb,hdb,hlb,sb⟩
 have nb:¬(((0:Nat),(0:Nat))=(0,1)∨((0:Nat),(0:Nat))=(0,2)∨((0:Nat),(0:Nat))=(p,1)):=fun e=>by
  rcases e with e | e | e
  · cases e
  · cases e
  · cases e
 have nc:¬(((0:Nat),(3:Nat))=(0,1)∨((0:Nat),(3:Nat))=(0,2)∨((0:Nat),(3:Nat))=(p,1)):=fun e=>by
  rcases e with e | e | e
  · cases e
  · cases e
  · injection e with _ e;cases e
 have PB:=Lib.hid hpb
 have DB:=Lib.hid hdb
 have LB:=Lib.hid hlb
 have RB:=Lib.hid (RA.out.wr sb nc nb)
 have BXb:=Lib.hid (BX.out.1.wr BX.out.2 sb nb)
 have SB:=Lib.hid ((SA.out.imp (Q:=fun τ=>τ=(0,1)∨τ=(0,2)∨τ.1=p) fun τ h=>.inr (.inr h)).tr (sb.imp fun τ h=>h.imp id (.imp id fun e=>by rw[e])))
 clear hpb hdb hlb sb nb nc PA DA LA RA BX SA
 go_wp2_with fail
 refine (scrub_none PB.out rfl (.inr rfl) rfl).mono ?_
 rintro e wc ⟨Oc,rfl,hpc,sc⟩
 have n1:∀i,¬((0:Nat),i)=(p,1):=fun i e=>by have:=PP.out;injection e with e _;omega
 have DC:=Lib.hid (DB.out.wr sc (n1 1))
 have RC:=Lib.hid (RB.out.wr sc (n1 3) (n1 0))
 have BXc:=Lib.hid (BXb.out.1.wr BXb.out.2 sc (n1 0))
 have SC:=Lib.hid (SB.out.tr (sc.imp fun τ h=>.inr (.inr (by rw[h]))))
 clear hpc sc n1 PB DB LB RB BXb SB
 go_wp2_with fail
 refine (new_ok DC.out (RnB.nilB wc) (by decide) rfl rfl (rg:=rg) (lg:=lg)).mono ?_
 rintro e wd ⟨q,Od,rfl,hpd,sd,hqd⟩
 have PD:=Lib.hid hpd
 have QQ:Hid (0<q):=Lib.hid (by obtain⟨b,h,_⟩:=hpd;exact h.pos)
 have DD:=Lib.hid (DC.out.wr sd id)
 have RD:=Lib.hid (RC.out.wr sd id id)
 have BXd:=Lib.hid (BXc.out.1.wr BXc.out.2 sd id)
 have SD:=Lib.hid (SC.out.tr (sd.imp fun _=>False.elim))
 clear hpd sd hqd DC RC BXc SC
 have cr0:wd.cell? ⟨bx,0,none⟩=some (.int .u32 2):=BXd.out.1.cell (k:=0) rfl
 have cr1:wd.cell? ⟨bx,1,none⟩=some (.int .u64 5):=BXd.out.1.cell (k:=1) rfl
 have cr2:wd.cell? ⟨bx,2,none⟩=some (.int .u16 3):=BXd.out.1.cell (k:=2) rfl
 go_wp2_with fail
 have hsl:(sealP (zeros 16) kL9 kP9).1.length=256:=(seal_ok9 (.inl (by decide)) (by decide) (by decide) kP9_len).2
 have hby:Byt (sealP (zeros 16) kL9 kP9).1:=sealP_byt (byt_zeros 16) kP9_byt kL9_ok
 have okD:(kD9 (sealP (zeros 16) kL9 kP9).1).Ok:=syncD_ok (D:=⟨8,putD (zeros (8*256)) (sealP (zeros 16) kL9 kP9).1 2,zeros (8*256),[(2,(sealP (zeros 16) kL9 kP9).1)],1,0,-1,false⟩) (writeD_ok (D:=newD 8) (i:=2) (newD_ok (by decide) (by decide)) (by decide) hsl hby)
 refine (pget_any (l:=kL9) PD.out DD.out RD.out okD kL9_ok (fun q hq=>by cases hq)).mono ?_
 rw[kGet9]
 rintro e we ⟨v8,Oe,rfl,ho,hpe,se⟩
 obtain⟨A8,c8,rfl,_,_⟩:=ho.shape
 have i8:=ho.isB rfl
 rw[kP9_len] at i8⊢
 have I8:=Lib.hid i8
 have PQ:=Lib.hid hpe
 have SE:=Lib.hid ((SD.out.imp (Q:=fun τ=>τ=(0,1)∨τ=(0,2)∨τ.1=p∨τ.1=q) fun τ h=>h.imp id (.imp id .inl)).tr (se.imp fun τ h=>.inr (.inr (.inr (by rw[h])))))
 clear hsl hby okD ho i8 hpe se cr0 cr1 cr2 PD DD RD BXd SD
 go_wp2_with fail
 refine wp_wide3 [⟨84,IsR (.int .i64 0),[],false⟩,⟨85,IsR (.bool true),[0],false⟩,⟨86,IsR (.bool true),[1],false⟩,⟨87,IsR (.int .i64 0),[2],false⟩,⟨88,IsR (.bool true),[2,3],false⟩,⟨89,IsR (.bool true),[2,4],false⟩,⟨90,IsR (.bool true),[5],false⟩,⟨91,IsR (.slice A8 224 c8),[6],false⟩,⟨92,IsR (.string (strOf kP9)),[6,7],false⟩,⟨93,FilR we.heap.size,[6],false⟩,⟨94,IsR (.string (strOf kP9)),[6,9],false⟩,⟨95,IsR (.bool true),[6,8,10],false⟩,⟨96,IsR (.bool true),[6,11],false⟩,⟨97,IsR (.bool true),[12],false⟩,⟨98,IsR (.pointer (some ⟨q,0,none⟩)),[13],false⟩,⟨99,IsR (.int .i64 1),[13,14],false⟩,⟨100,IsR (.bool true),[13,15],false⟩,⟨101,IsR (.bool true),[13,16],false⟩] (by kernel_rfl) (by kernel_rfl) rfl rfl rfl ⟨?_,?_,?_,?_,?_,?_,?_,?_,?_,?_,?_,?_,?_,?_,?_,?_,?_,?_,trivial⟩ ?_
 · refine⟨rfl,IsR.mono _,fun a W hA hb hd=>takes_plain rfl (yields_value _ ?_ rfl)⟩
   have h2:a.tmps[2]?.getD undef = .int .i64 0:=(eval_get a 2).trans ((hA.eval (by simp)).trans rfl)
   go_simp
 · refine⟨rfl,IsR.mono _,fun a W hA hb hd=>takes_plain rfl (yields_value _ ?_ rfl)⟩
   have h84:a.tmps[84]?.getD undef = .int .i64 0:=(eval_get a 84).trans (hd 0 (by simp) _ rfl)
   go_simp
 · refine⟨rfl,IsR.mono _,fun a W hA hb hd=>takes_plain rfl (yields_value _ ?_ rfl)⟩
   have h85:a.tmps[85]?.getD undef = .bool true:=(eval_get a 85).trans (hd 1 (by simp) _ rfl)
   go_simp
 · refine⟨rfl,IsR.mono _,fun a W hA hb hd=>takes_on (i:=2) (d:=86) (b:=true) rfl rfl rfl (hd 2 (by simp) _ rfl) (yields_value _ ?_ rfl)⟩
   have h9:a.tmps[9]?.getD undef = .int .i64 0:=(eval_get a 9).trans ((hA.eval (by simp)).trans rfl)
   go_simp
 · refine⟨rfl,IsR.mono _,fun a W hA hb hd=>takes_on (i:=2) (d:=86) (b:=true) rfl rfl rfl (hd 2 (by simp) _ rfl) (yields_value _ ?_ rfl)⟩
   have h87:a.tmps[87]?.getD undef = .int .i64 0:=(eval_get a 87).trans (hd 3 (by simp) _ rfl)
   go_simp
 · refine⟨rfl,IsR.mono _,fun a W hA hb hd=>takes_plain rfl (yields_value _ ?_ rfl)⟩
   have h86:a.tmps[86]?.getD undef = .bool true:=(eval_get a 86).trans (hd 2 (by simp) _ rfl)
   have h88:a.tmps[88]?.getD undef = .bool true:=(eval_get a 88).trans (hd 4 (by simp) _ rfl)
   go_simp
 · refine⟨rfl,IsR.mono _,fun a W hA hb hd=>takes_plain rfl (yields_value _ ?_ rfl)⟩
   have h89:a.tmps[89]?.getD undef = .bool true:=(eval_get a 89).trans (hd 5 (by simp) _ rfl)
   go_simp
 · refine⟨rfl,IsR.mono _,fun a W hA hb hd=>takes_on (i:=6) (d:=90) (b:=true) rfl rfl rfl (hd 6 (by simp) _ rfl) (yields_value _ ?_ rfl)⟩
   have h8:a.tmps[8]?.getD undef = .slice A8 224 c8:=(eval_get a 8).trans ((hA.eval (by simp)).trans rfl)
   go_simp
 · refine⟨rfl,IsR.mono _,fun a W hA hb hd=>takes_on (i:=6) (d:=90) (b:=true) rfl rfl rfl (hd 6 (by simp) _ rfl) (yields_value _ ?_ rfl)⟩
   have h91:a.tmps[91]?.getD undef = .slice A8 224 c8:=(eval_get a 91).trans (hd 7 (by simp) _ rfl)
   have hc:=run_str (I8.out.ab hb) 22 5 9 Tryz.underlying22 Tryz.underlying5 Tryz.underlying9
   go_simp
 · refine⟨rfl,FilR.mono,fun a W hA hb hd=>takes_on (i:=6) (d:=90) (b:=true) rfl rfl rfl (hd 6 (by simp) _ rfl) ?_⟩
   refine yields_call 9 #[.int .u8 7] (by go_simp) ((fill_any 7 (by decide) W).mono ?_)
   rintro e W1 ⟨g,rfl,h1,h2,h3⟩
   exact⟨_,rfl,⟨g,rfl,isB_whole h2 kP9_byt kP9_len (by decide),Nat.le_trans hb.size h1⟩,h3⟩
 · refine⟨rfl,IsR.mono _,fun a W hA hb hd=>takes_on (i:=6) (d:=90) (b:=true) rfl rfl rfl (hd 6 (by simp) _ rfl) ?_⟩
   obtain⟨g,e0,h1,h2⟩:=hd 9 (by simp) _ rfl
   have h0:a.tmps[93]?.getD undef = .slice (some ⟨g,0,none⟩) 224 224:=(eval_get a 93).trans e0
   have hc:=run_str h1 22 5 9 Tryz.underlying22 Tryz.underlying5 Tryz.underlying9
   refine yields_value (.string (strOf kP9)) ?_ rfl
   go_simp
 · refine⟨rfl,IsR.mono _,fun a W hA hb hd=>takes_on (i:=6) (d:=90) (b:=true) rfl rfl rfl (hd 6 (by simp) _ rfl) (yields_value _ ?_ rfl)⟩
   have h92:a.tmps[92]?.getD undef = .string (strOf kP9):=(eval_get a 92).trans (hd 8 (by simp) _ rfl)
   have h94:a.tmps[94]?.getD undef = .string (strOf kP9):=(eval_get a 94).trans (hd 10 (by simp) _ rfl)
   go_simp
 · refine⟨rfl,IsR.mono _,fun a W hA hb hd=>takes_plain rfl (yields_value _ ?_ rfl)⟩
   have h90:a.tmps[90]?.getD undef = .bool true:=(eval_get a 90).trans (hd 6 (by simp) _ rfl)
   have h95:a.tmps[95]?.getD undef = .bool true:=(eval_get a 95).trans (hd 11 (by simp) _ rfl)
   go_simp
 · refine⟨rfl,IsR.mono _,fun a W hA hb hd=>takes_plain rfl (yields_value _ ?_ rfl)⟩
   have h96:a.tmps[96]?.getD undef = .bool true:=(eval_get a 96).trans (hd 12 (by simp) _ rfl)
   go_simp
 · refine⟨rfl,IsR.mono _,fun a W hA hb hd=>takes_on (i:=13) (d:=97) (b:=true) rfl rfl rfl (hd 13 (by simp) _ rfl) (yields_value _ ?_ rfl)⟩
   have h7:a.tmps[7]?.getD undef = .pointer (some ⟨q,0,none⟩):=(eval_get a 7).trans ((hA.eval (by simp)).trans rfl)
   go_simp
 · refine⟨rfl,IsR.mono _,fun a W hA hb hd=>takes_on (i:=13) (d:=97) (b:=true) rfl rfl rfl (hd 13 (by simp) _ rfl) ?_⟩
   have h98:a.tmps[98]?.getD undef = .pointer (some ⟨q,0,none⟩):=(eval_get a 98).trans (hd 14 (by simp) _ rfl)
   refine yields_call 14 #[.pointer (some ⟨q,0,none⟩),.int .u32 1] (by go_simp) ((used_any 1 (by decide) (PQ.out.wr (Wr.of hb (fun _=>False) (fun _ _=>rfl)) (fun _=>id) id) (by decide)).mono ?_)
   rintro e W1 ⟨rfl,h3⟩
   exact⟨_,rfl,rfl,h3⟩
 · refine⟨rfl,IsR.mono _,fun a W hA hb hd=>takes_on (i:=13) (d:=97) (b:=true) rfl rfl rfl (hd 13 (by simp) _ rfl) (yields_value _ ?_ rfl)⟩
   have h99:a.tmps[99]?.getD undef = .int .i64 1:=(eval_get a 99).trans (hd 15 (by simp) _ rfl)
   go_simp
 · refine⟨rfl,IsR.mono _,fun a W hA hb hd=>takes_plain rfl (yields_value _ ?_ rfl)⟩
   have h97:a.tmps[97]?.getD undef = .bool true:=(eval_get a 97).trans (hd 13 (by simp) _ rfl)
   have h100:a.tmps[100]?.getD undef = .bool true:=(eval_get a 100).trans (hd 16 (by simp) _ rfl)
   go_simp
 intro vs wr hR hF hb
 have e84:vs 84 = .int .i64 0:=hR 0 _ rfl
 have e85:vs 85 = .bool true:=hR 1 _ rfl
 have e86:vs 86 = .bool true:=hR 2 _ rfl
 have e87:vs 87 = .int .i64 0:=hR 3 _ rfl
 have e88:vs 88 = .bool true:=hR 4 _ rfl
 have e89:vs 89 = .bool true:=hR 5 _ rfl
 have e90:vs 90 = .bool true:=hR 6 _ rfl
 have e91:vs 91 = .slice A8 224 c8:=hR 7 _ rfl
 have e92:vs 92 = .string (strOf kP9):=hR 8 _ rfl
 have e94:vs 94 = .string (strOf kP9):=hR 10 _ rfl
 have e95:vs 95 = .bool true:=hR 11 _ rfl
 have e96:vs 96 = .bool true:=hR 12 _ rfl
 have e97:vs 97 = .bool true:=hR 13 _ rfl
 have e98:vs 98 = .pointer (some ⟨q,0,none⟩):=hR 14 _ rfl
 have e99:vs 99 = .int .i64 1:=hR 15 _ rfl
 have e100:vs 100 = .bool true:=hR 16 _ rfl
 have e101:vs 101 = .bool true:=hR 17 _ rfl
 simp only[List.map_cons,List.map_nil,List.foldl_cons,List.foldl_nil,List.length_cons,List.length_nil,List.drop_succ_cons,List.drop_zero,Act.put,List.setIfInBounds_toArray,List.set_cons_zero,List.set_cons_succ,e84,e85,e86,e87,e88,e89,e90,e91,e92,e94,e95,e96,e97,e98,e99,e100,e101]
 generalize vs 93=q93 at *
 have BR:=Lib.hid hb
 clear hR hF hb e84 e85 e86 e87 e88 e89 e90 e91 e92 e94 e95 e96 e97 e98 e99 e100 e101
 go_wp2_with fail
 go_ret
 refine⟨rfl,Wr.below (SE.out.tr (Wr.of BR.out _ (fun _ _=>rfl))) B4.out B4.out.size (fun k hk h=>?_)⟩
 rw[OL.out k hk] at h
 have:=PP.out
 have:=QQ.out
 simp at h
 omega
theorem three (w:World) (x y z:Array Value) (X Y Z:TypeId):CbB (((w.alloc (.cells x X)).alloc (.cells y Y)).alloc (.cells z Z)) w.heap.size X x∧CbB (((w.alloc (.cells x X)).alloc (.cells y Y)).alloc (.cells z Z)) (w.heap.size+1) Y y∧CbB (((w.alloc (.cells x X)).alloc (.cells y Y)).alloc (.cells z Z)) (w.heap.size+1+1) Z z∧Below w.heap.size w (((w.alloc (.cells x X)).alloc (.cells y Y)).alloc (.cells z Z)):=by
 refine⟨((CbB.new w X x).ab ((Below.refl _ _).alloc (Nat.le_refl _) _)).ab ((Below.refl _ _).alloc (Nat.le_refl _) _),?_,?_,(((Below.refl _ _).alloc (Nat.le_refl _) _).alloc (by simp) _).alloc (by simp;omega) _⟩
 · have:=(CbB.new (w.alloc (.cells x X)) Y y).ab ((Below.refl _ _).alloc (Nat.le_refl _) (.cells z Z))
   simpa using this
 · have:=CbB.new ((w.alloc (.cells x X)).alloc (.cells y Y)) Z z
   simpa using this
open Go.RowKit Go.ChangeShapes Go.WideShapes
theorem own_ltX {w:World} {B n s:Nat} {e:TypeId} {v:Value} {xs:List Value} (h:w.ownsRow B e s v n xs):∀k,v.ownBlock=some k→k<w.heap.size:=fun k hk=>by
 rcases h.2 with ⟨rfl,_⟩ | ⟨g',cap,cur,rfl,_,hh,_⟩
 · cases hk
 · have:g'=k:=by injection hk
   subst this
   exact (Array.getElem?_eq_some_iff.1 hh).1
theorem cb_ne {w:World} {g b:Nat} {T T':TypeId} {cs cs':Array Value} (h:CbB w g T cs) (h':CbB w b T' cs') (hT:T≠T'):g≠b:=fun e=>by
 unfold CbB at h h'
 rw[e,h'] at h
 injection h with h
 injection h with _ h
 exact hT h.symm
section
variable {w w2:World} {B g:Nat} {v1 v2:Value} {b1 b2:List Nat} {st cut:Int} {down:Bool} {L:List Nat}
theorem RdB.lt1 (h:RdB w B g v1 v2 b1 b2 st cut down L) {b:Nat} (hb:b∈b1):b<w.heap.size:=by
 obtain⟨i,hi⟩:=List.getElem?_of_mem hb
 exact (h.at1 i b hi).2.lt
theorem RdB.lt2 (h:RdB w B g v1 v2 b1 b2 st cut down L) {b:Nat} (hb:b∈b2):b<w.heap.size:=by
 obtain⟨i,hi⟩:=List.getElem?_of_mem hb
 obtain⟨_,l,hl,_⟩:=h.at2 i b hi
 exact hl.lt
theorem RdB.push1 (h:RdB w B g v1 v2 b1 b2 st cut down L) (hB:B≤w.heap.size) (hf:Fr w w2 (fun k=>v1.ownBlock=some k)) {b:Nat} (hb:Bk w2 b 5 (blkL L b1.length)) (hlb:w.heap.size≤b) {v':Value}
 (ho:w2.ownsRow B 22 1 v' (b1.length+1) ((b1.map fun b=>.slice (some ⟨b,0,none⟩) 256 256)++[.slice (some ⟨b,0,none⟩) 256 256])) (hv:v'.ownBlock=v1.ownBlock∨∃k,v'.ownBlock=some k∧w.heap.size≤k):
 RdB (w2.setCell ⟨g,0,none⟩ v') B g v' v2 (b1++[b]) b2 st cut down L:=by
 have f2:=fr_cell w2 g 0 v'
 have n1:v1.ownBlock≠some g:=row_ne h.own1 h.box (by decide)
 have hbox:=h.box.fr hf n1
 have ng:∀{q:Nat} {l:List Nat},Bk w q 5 l→q≠g:=fun {q l} hq=>Ne.symm (cb_ne h.box (show CbB w q _ _ from hq) (by decide))
 have nv:∀{q:Nat} {l:List Nat},Bk w q 5 l→v1.ownBlock≠some q:=fun {q l} hq=>row_ne h.own1 (show CbB w q _ _ from hq) (by decide)
 have kp:∀{q:Nat} {l:List Nat},Bk w q 5 l→Bk (w2.setCell ⟨g,0,none⟩ v') q 5 l:=fun {q l} hq=>(hq.fr hf (nv hq)).fr f2 (ng hq)
 refine⟨hbox.set 0 _,?_,?_,?_,?_,?_,?_,h.low⟩
 · rw[List.map_append,List.length_append]
   exact row_fr ho f2 (fun k hk e=>row_ne ho hbox (by decide) (by rw[hk,e]))
 · have o2:=row_fr h.own2 hf (fun k hk e=>h.ne12 k e hk)
   exact row_fr o2 f2 (fun k hk e=>row_ne o2 hbox (by decide) (by rw[hk,e]))
 · intro k hk h2
   rcases hv with e | ⟨q,e,hq⟩
   · exact h.ne12 k (by rw[←e,hk]) h2
   · rw[hk] at e
     injection e with e
     subst e
     have:=own_ltX h.own2 k h2
     omega
 · intro i q hi
   rcases Nat.lt_or_ge i b1.length with hl | hl
   · rw[List.getElem?_append_left hl] at hi
     obtain⟨k1,k2⟩:=h.at1 i q hi
     exact⟨k1,kp k2⟩
   · rw[List.getElem?_append_right hl] at hi
     obtain⟨hj,hq⟩:=List.getElem?_eq_some_iff.1 hi
     simp at hj hq
     subst hq
     obtain rfl:i=b1.length:=by omega
     exact⟨by omega,hb.fr f2 (by have:=h.box.lt;omega)⟩
 · intro i q hi
   obtain⟨k1,l,k2,k3⟩:=h.at2 i q hi
   exact⟨k1,l,kp k2,k3⟩
 · have hn:=h.nd
   rw[List.nodup_append] at hn⊢
   obtain⟨p1,p2,p3⟩:=hn
   refine⟨?_,p2,?_⟩
   · rw[List.nodup_append]
     refine⟨p1,by simp,fun x hx y hy=>?_⟩
     simp at hy
     have:=h.lt1 hx
     omega
   · intro x hx y hy
     rcases List.mem_append.1 hx with hx | hx
     · exact p3 x hx y hy
     · simp at hx
       have:=h.lt2 hy
       omega
theorem RdB.push2 (h:RdB w B g v1 v2 b1 b2 st cut down L) (hB:B≤w.heap.size) (hf:Fr w w2 (fun k=>v2.ownBlock=some k)) {b:Nat} {lb:List Nat} (hb:Bk w2 b 5 lb) (hbl:lb.length=256) (hlb:w.heap.size≤b) {v':Value}
 (ho:w2.ownsRow B 22 1 v' (b2.length+1) ((b2.map fun b=>.slice (some ⟨b,0,none⟩) 256 256)++[.slice (some ⟨b,0,none⟩) 256 256])) (hv:v'.ownBlock=v2.ownBlock∨∃k,v'.ownBlock=some k∧w.heap.size≤k):
 RdB (w2.setCell ⟨g,1,none⟩ v') B g v1 v' b1 (b2++[b]) st cut down L:=by
 have f2:=fr_cell w2 g 1 v'
 have n1:v2.ownBlock≠some g:=row_ne h.own2 h.box (by decide)
 have hbox:=h.box.fr hf n1
 have ng:∀{q:Nat} {l:List Nat},Bk w q 5 l→q≠g:=fun {q l} hq=>Ne.symm (cb_ne h.box (show CbB w q _ _ from hq) (by decide))
 have nv:∀{q:Nat} {l:List Nat},Bk w q 5 l→v2.ownBlock≠some q:=fun {q l} hq=>row_ne h.own2 (show CbB w q _ _ from hq) (by decide)
 have kp:∀{q:Nat} {l:List Nat},Bk w q 5 l→Bk (w2.setCell ⟨g,1,none⟩ v') q 5 l:=fun {q l} hq=>(hq.fr hf (nv hq)).fr f2 (ng hq)
 refine⟨hbox.set 1 _,?_,?_,?_,?_,?_,?_,h.low⟩
 · have o1:=row_fr h.own1 hf (fun k hk e=>h.ne12 k hk e)
   exact row_fr o1 f2 (fun k hk e=>row_ne o1 hbox (by decide) (by rw[hk,e]))
 · rw[List.map_append,List.length_append]
   exact row_fr ho f2 (fun k hk e=>row_ne ho hbox (by decide) (by rw[hk,e]))
 · intro k hk h2
   rcases hv with e | ⟨q,e,hq⟩
   · exact h.ne12 k hk (by rw[←e,h2])
   · rw[h2] at e
     injection e with e
     subst e
     have:=own_ltX h.own1 k hk
     omega
 · intro i q hi
   obtain⟨k1,k2⟩:=h.at1 i q hi
   exact⟨k1,kp k2⟩
 · intro i q hi
   rcases Nat.lt_or_ge i b2.length with hl | hl
   · rw[List.getElem?_append_left hl] at hi
     obtain⟨k1,l,k2,k3⟩:=h.at2 i q hi
     exact⟨k1,l,kp k2,k3⟩
   · rw[List.getElem?_append_right hl] at hi
     obtain⟨hj,hq⟩:=List.getElem?_eq_some_iff.1 hi
     simp at hj hq
     subst hq
     exact⟨by omega,lb,hb.fr f2 (by have:=h.box.lt;omega),hbl⟩
 · have hn:=h.nd
   rw[List.nodup_append] at hn⊢
   obtain⟨p1,p2,p3⟩:=hn
   refine⟨p1,?_,?_⟩
   · rw[List.nodup_append]
     refine⟨p2,by simp,fun x hx y hy=>?_⟩
     simp at hy
     have:=h.lt2 hx
     omega
   · intro x hx y hy
     rcases List.mem_append.1 hy with hy | hy
     · exact p3 x hx y hy
     · simp at hy
       have:=h.lt1 hx
       omega
end
def BnewR (S:Nat) (v:Value) (W:World):Prop:=∃b,v = .slice (some ⟨b,0,none⟩) 256 256∧S≤b∧Bk W b 5 (zeros 256)
theorem BnewR.fr {S:Nat} {v:Value} {W W1:World} {F:Nat→Prop} (h:BnewR S v W) (hf:Fr W W1 F) (hF:∀k,F k→k<S):BnewR S v W1:=by
 obtain⟨b,h1,h2,h3⟩:=h
 exact⟨b,h1,h2,h3.fr hf (fun e=>by have:=hF b e;omega)⟩
def OneSl (S:Nat) (v:Value) (W:World):Prop:=∃G u,v = .slice (some ⟨G,0,none⟩) 1 1∧CbB W G 22 #[u]∧S≤G∧BnewR S u W
theorem infoSlB:(Tryz.prog.info? 22).map (fun i=>(i.zero,i.size,i.bytes))=some (some (.slice none 0 0),1,24):=by kernel_rfl
def AppR (B S:Nat) (v1:Value) (bs:List Nat) (v:Value) (W:World):Prop:=
 ∃b,S≤b∧Bk W b 5 (zeros 256)∧W.ownsRow B 22 1 v (bs.length+1) ((bs.map fun b=>.slice (some ⟨b,0,none⟩) 256 256)++[.slice (some ⟨b,0,none⟩) 256 256])∧(v.ownBlock=v1.ownBlock∨∃k,v.ownBlock=some k∧S≤k)
def stX (w:World) (N m x:Nat) (τ:Nat×Nat):Tgm:=fun k=>if k=x then τ else stO w N m k
theorem stX_x {w:World} {N m x:Nat} {τ:Nat×Nat}:stX w N m x τ x=τ:=if_pos rfl
theorem stX_c {w:World} {N m x k:Nat} {τ fr:Nat×Nat} {T T':TypeId} {cs cs':Array Value} (hx:CbB w x T cs) (hN:N≤k) (h:w.heap[k]? = some (.cells cs' T' fr)) (hT:T≠T'):stX w N m x τ k=(if T'=125∨T'=121∨T'=170 then (0,1) else if T'=136∨T'=134 then (0,2) else if T'=145 then (0,3) else (0,0)):=by
 unfold stX
 rw[if_neg,stO_c hN h]
 intro e
 subst e
 unfold CbB at hx
 rw[h] at hx
 injection hx with hx
 injection hx with _ hx
 exact hT hx.symm
theorem stX_low {w:World} {N m x k:Nat} {τ:Nat×Nat} (hx:N≤x) (h:k<N):stX w N m x τ k=(0,9):=by unfold stX;rw[if_neg (by omega),stO_low h]
theorem stageX {w:World} {d g1 g2 rg m lg N x:Nat} {wv:Value} {D:DvS} {R:RgL} {all:List Sl} {T:TypeId} {cs:Array Value} {τ:Nat×Nat} (hd:DsB w N d g1 g2 wv D) (hr:RgB w N rg m R) (hrg:N≤rg) (hl:LgB w N lg all) (hlg:N≤lg) (hx:CbB w x T cs) (hT:T≠125∧T≠121∧T≠170∧T≠136∧T≠134∧T≠145∧T≠5):DvM w (stX w N m x τ) d D∧RgM w (stX w N m x τ) rg R∧LgM w (stX w N m x τ) lg all:=by
 obtain⟨q1,q2,q3,q4,q5,q6,q7⟩:=hT
 obtain⟨l1,l2,l3⟩:=hd.low
 refine⟨⟨g1,g2,wv,⟨hd.box,hd.now,hd.firm,row_low hd.row (Nat.zero_le _),hd.ne,⟨Nat.zero_le _,Nat.zero_le _,Nat.zero_le _⟩⟩,(stX_c hx l1 hd.box q1).trans (by decide),(stX_c hx l2 hd.now q2).trans (by decide),(stX_c hx l3 hd.firm q2).trans (by decide),fun k hk=>?_⟩,?_,?_⟩
 · obtain⟨cs,fr,h1⟩:=row_ty9 hd.row k hk
   exact (stX_c hx (own_ge9 hd.row k hk) h1 q3).trans (by decide)
 · obtain⟨vs,h1,h2⟩:=hr.map
   refine⟨m,vs,hr.box,h1,h2.low0,hr.ne,(stX_c hx hrg hr.box q6).trans (by decide),?_,fun p hp k hk=>?_⟩
   · have hm:=hr.low
     obtain⟨es,clock,h3,_⟩:=h1
     unfold stX
     rw[if_neg (fun e=>by
      subst e
      unfold CbB at hx
      rw[h3] at hx
      cases hx)]
     unfold stO
     rw[if_neg (by omega),h3]
     exact if_pos rfl
   · obtain⟨k',hk'⟩:=h2.mem p hp
     obtain⟨cs,fr,h3⟩:=row_ty9 hk'.own k hk
     exact (stX_c hx (own_ge9 hk'.own k hk) h3 q7).trans (by decide)
 · obtain⟨h0,v,h1,h2⟩:=hl
   refine⟨v,h1,row_low h2 (Nat.zero_le _),(stX_c hx hlg h1 q4).trans (by decide),fun k hk=>?_⟩
   obtain⟨cs,fr,h3⟩:=row_ty9 h2 k hk
   exact (stX_c hx (own_ge9 h2 k hk) h3 q5).trans (by decide)
theorem zero_blkN {i n:Nat} (hi:i<n):blkL (zeros (n*256)) i=zeros 256:=by
 unfold blkL zeros
 rw[List.drop_replicate,List.take_replicate,Nat.min_eq_left (by omega)]
set_option maxRecDepth 100000 in
theorem rd8_any (n:Nat) (hn:n≤100000) (w:World):Calls Tryz.prog 30 #[.int .i64 (n:Int)] w fun e w'=>∃g v1 v2 b1 b2,e = .returned (.pointer (some ⟨g,0,none⟩))∧RdB w' w.heap.size g v1 v2 b1 b2 0 (-1) false (zeros (n*256))∧b1.length=n∧b2.length=n∧Below w.heap.size w w':=by
 have HN:=Lib.hid hn
 clear hn
 go_enter Tryz.func30,Tryz.ntmps30
 go_wp2_with fail
 go_loopw [4] (fun z wr=>∃i:Nat,i≤n∧z = .int .i64 (i:Int)∧∃v1 v2 b1 b2,RdB wr w.heap.size w.heap.size v1 v2 b1 b2 0 (-1) false (zeros (n*256))∧b1.length=i∧b2.length=i∧Below w.heap.size w wr) (fun z _=>n-(intOf z).toNat)
 case atStart=>
  refine⟨0,Nat.zero_le _,rfl,.slice none 0 0,.slice none 0 0,[],[],⟨CbB.new _ _ _,World.ownsRow_nil _ _ _ _,World.ownsRow_nil _ _ _ _,fun k hk=>(by cases hk),fun i b hi=>(by simp at hi),fun i b hi=>(by simp at hi),by simp,Nat.le_refl _⟩,rfl,rfl,(Below.refl _ _).alloc (Nat.le_refl _) _⟩
 case round=>
  obtain⟨i,hi,rfl,v1,v2,b1,b2,hr,hl1,hl2,hb⟩:=hrel
  by_cases hlt:i<n
  · have hlti:(i:Int)<(n:Int):=by omega
    have hib:(i:Int)≤100000:=by have:=HN.out;omega
    have HR:=Lib.hid hr
    have HB:=Lib.hid hb
    have L1:=Lib.hid hl1
    have L2:=Lib.hid hl2
    have HL:=Lib.hid hlt
    clear hr hb hlt hi hl1 hl2
    go_wp2_with fail
    · skip
      refine wp_wide5 (fun i k=>i=4∧v1.ownBlock=some k) [⟨11,IsR (.pointer (some ⟨w.heap.size,0,none⟩)),[],false⟩,⟨12,IsR (v1),[0],false⟩,⟨13,BnewR wr.heap.size,[],false⟩,⟨14,OneSl wr.heap.size,[2],false⟩,⟨15,AppR w.heap.size wr.heap.size v1 b1,[1,3],false⟩,⟨16,IsR (.pointer (some ⟨w.heap.size,0,none⟩)),[],false⟩] (by kernel_rfl) (by kernel_rfl) rfl rfl rfl ⟨?_,?_,?_,?_,?_,?_,trivial⟩ ?_
      · refine⟨rfl,IsR.monoF _ _,fun a W hA hb hd=>Takes.to5 (takes_plain rfl (yields_value _ ?_ rfl)) _⟩
        have h3:a.tmps[3]?.getD undef = .pointer (some ⟨w.heap.size,0,none⟩):=(eval_get a 3).trans ((hA.eval (by simp)).trans rfl)
        go_simp
      · refine⟨rfl,IsR.monoF _ _,fun a W hA hb hd=>Takes.to5 (takes_plain rfl (yields_value _ ?_ rfl)) _⟩
        have h11:a.tmps[11]?.getD undef = .pointer (some ⟨w.heap.size,0,none⟩):=(eval_get a 11).trans (hd 0 (by simp) _ rfl)
        have hc:W.cell? ⟨w.heap.size,0,none⟩=some v1:=(HR.out.box.fr hb (fun ⟨j,_,_,hj⟩=>row_ne HR.out.own1 HR.out.box (by decide) hj)).cell (k:=0) rfl
        obtain⟨A,cp,hv⟩:=row_shape HR.out.own1
        subst hv
        go_simp
      · refine⟨rfl,fun z W W1 h1 hf=>h1.fr hf (fun k ⟨j,_,_,hj⟩=>own_ltX HR.out.own1 k hj),fun a W hA hb hd=>takes5_plain rfl ?_⟩
        refine .inl ⟨.slice (some ⟨W.heap.size,0,none⟩) 256 256,W.alloc (.cells (bts (zeros 256)) 5),?_,⟨_,rfl,hb.size,Bk.new _ _ _⟩,Fr.of ((Below.refl _ _).alloc (Nat.le_refl _) _) _⟩
        have hmk:=make_u8 256 256 (Nat.le_refl _) (by decide) W
        have hx:a.eval (.const (.int .i64 256)) = .int .i64 ((256:Nat):Int):=rfl
        unfold execOp
        simp only[hx,hmk,Sem.run_bind,Result.andThen_ok,Sem.run_pure]
      · refine⟨rfl,fun z W W1 ⟨G1,u,h1,h2,h3,h4⟩ hf=>⟨G1,u,h1,h2.fr hf (fun ⟨j,_,_,hj⟩=>by have:=own_ltX HR.out.own1 _ hj;omega),h3,h4.fr hf (fun k ⟨j,_,_,hj⟩=>own_ltX HR.out.own1 k hj)⟩,fun a W hA hb hd=>takes5_plain rfl ?_⟩
        obtain⟨b,hu,hbs,hbk⟩:=hd 2 (by simp) _ rfl
        have h13:a.tmps[13]?.getD undef = .slice (some ⟨b,0,none⟩) 256 256:=(eval_get a 13).trans hu
        refine .inl ⟨.slice (some ⟨W.heap.size,0,none⟩) 1 1,W.alloc (.cells #[.slice (some ⟨b,0,none⟩) 256 256] 22),?_,⟨_,_,rfl,CbB.new _ _ _,hb.size,b,rfl,hbs,hbk.alloc _⟩,Fr.of ((Below.refl _ _).alloc (Nat.le_refl _) _) _⟩
        go_simp
      · refine⟨rfl,fun z W W1 ⟨b,h1,h2,h3,h4⟩ hf=>⟨b,h1,h2.fr hf (fun ⟨j,_,_,hj⟩=>by have:=own_ltX HR.out.own1 _ hj;omega),row_fr h3 hf (fun k hk ⟨j,hj,hj2,_⟩=>hj hj2),h4⟩,fun a W hA hb hd=>takes5_plain rfl ?_⟩
        have hs:a.eval (.tmp 12)=v1:=hd 1 (by simp) _ rfl
        obtain⟨Gs,u,he,hcb,hGs,b,rfl,hbs,hbk⟩:=hd 3 (by simp) _ rfl
        have hx:a.eval (.tmp 14) = .slice (some ⟨Gs,0,none⟩) 1 1:=he
        have hown:=row_fr HR.out.own1 hb (fun k hk ⟨j,hj,hj2,_⟩=>hj hj2)
        obtain⟨i0,hi0,hz0,hz1,hz2⟩:=info_parts infoSlB
        obtain⟨vq,W1,hrun,r1,r2,_,r4⟩:=run_append_own_at (P:=Tryz.prog) W w.heap.size 153 153 22 i0 _ 1 24 Tryz.underlying153 hi0 hz0 hz1 hz2 rfl (by decide) v1 b1.length _ hown ⟨Gs,0,none⟩ 1 1 [.slice (some ⟨b,0,none⟩) 256 256] rfl (row_at hcb) (by simp[Value.oneCell']) (by have:=HN.out;have:=HL.out;have:=L1.out;have:=L2.out;simp only[maxLen];have:=L1.out;have:=HL.out;omega) (by have:=HN.out;have:=HL.out;have:=L1.out;have:=L2.out;have:=L1.out;have:=HL.out;omega) (Nat.le_trans HB.out.size hb.size)
        refine .inl ⟨vq,W1,?_,⟨b,hbs,hbk.fr (Fr.grown r2) (fun e=>by have:=own_ltX HR.out.own1 _ e;omega),r1,?_⟩,(Fr.grown r2).imp fun k hk=>⟨rfl,hk⟩⟩
        · unfold execOp
          simp only[resolve,invoke,builtin,Sem.run_bind,Sem.run_pure,Result.andThen_ok,List.map_toArray,List.map_cons,List.map_nil,hs,hx,hrun]
        · rcases r4 with r4 | r4
          · exact .inl r4
          · exact .inr ⟨_,r4,hb.size⟩
      · refine⟨rfl,IsR.monoF _ _,fun a W hA hb hd=>Takes.to5 (takes_plain rfl (yields_value _ ?_ rfl)) _⟩
        have h3:a.tmps[3]?.getD undef = .pointer (some ⟨w.heap.size,0,none⟩):=(eval_get a 3).trans ((hA.eval (by simp)).trans rfl)
        go_simp
      intro vs0 wrn hR hb
      obtain⟨b,hbs,hbk,hrow,hvv⟩:AppR w.heap.size wr.heap.size v1 b1 (vs0 15) wrn:=hR 4 _ rfl
      have e11:vs0 11 = .pointer (some ⟨w.heap.size,0,none⟩):=hR 0 _ rfl
      have e12:vs0 12=v1:=hR 1 _ rfl
      have e16:vs0 16 = .pointer (some ⟨w.heap.size,0,none⟩):=hR 5 _ rfl
      simp only[List.map_cons,List.map_nil,List.foldl_cons,List.foldl_nil,List.length_cons,List.length_nil,List.drop_succ_cons,List.drop_zero,Act.put,List.setIfInBounds_toArray,List.set_cons_zero,List.set_cons_succ,e11,e12,e16]
      have FR:Hid (Fr wr wrn (fun k=>v1.ownBlock=some k)):=Lib.hid (hb.imp fun k ⟨j,_,hj⟩=>hj)
      have NW:=Lib.hid (HR.out.push1 HB.out.size FR.out (by rw[L1.out,zero_blkN (by have:=HL.out;omega)];exact hbk) hbs hrow hvv)
      have G2:=Lib.hid (HR.out.box.fr FR.out (row_ne HR.out.own1 HR.out.box (by decide)))
      have BB:=Lib.hid (Fr.below FR.out (fun k hk=>own_ge9 HR.out.own1 k hk) HB.out HB.out.size)
      obtain⟨A1,c1,hv1⟩:=row_shape hrow
      generalize vs0 15=q15 at *
      subst hv1
      have hf:=G2.out.free 0
      have hcl:=G2.out.cell (k:=0) rfl
      clear hR hb hrow hvv e11 e12 e16
      generalize vs0 13=q13 at *
      generalize vs0 14=q14 at *
      go_upto_region 6 with (fail)
      obtain⟨wm,hwm⟩:∃wm,wrn.setCell ⟨w.heap.size,0,none⟩ (.slice A1 (b1.length+1) c1)=wm:=⟨_,rfl⟩
      have BM:Hid (Below w.heap.size w wm):=Lib.hid (by rw[←hwm];exact Fr.below (fr_cell _ _ _ _) (fun k hk=>by omega) BB.out BB.out.size)
      rw[hwm] at NW⊢
      clear hwm hf hcl G2 FR hbk hbs BB HR HB
      have HB:=BM
      clear BM
      refine wp_wide5 (fun i k=>i=4∧v2.ownBlock=some k) [⟨17,IsR (.pointer (some ⟨w.heap.size,1,none⟩)),[],false⟩,⟨18,IsR (v2),[0],false⟩,⟨19,BnewR wm.heap.size,[],false⟩,⟨20,OneSl wm.heap.size,[2],false⟩,⟨21,AppR w.heap.size wm.heap.size v2 b2,[1,3],false⟩,⟨22,IsR (.pointer (some ⟨w.heap.size,1,none⟩)),[],false⟩] (by kernel_rfl) (by kernel_rfl) rfl rfl rfl ⟨?_,?_,?_,?_,?_,?_,trivial⟩ ?_
      · refine⟨rfl,IsR.monoF _ _,fun a W hA hb hd=>Takes.to5 (takes_plain rfl (yields_value _ ?_ rfl)) _⟩
        have h3:a.tmps[3]?.getD undef = .pointer (some ⟨w.heap.size,0,none⟩):=(eval_get a 3).trans ((hA.eval (by simp)).trans rfl)
        go_simp
      · refine⟨rfl,IsR.monoF _ _,fun a W hA hb hd=>Takes.to5 (takes_plain rfl (yields_value _ ?_ rfl)) _⟩
        have h17:a.tmps[17]?.getD undef = .pointer (some ⟨w.heap.size,1,none⟩):=(eval_get a 17).trans (hd 0 (by simp) _ rfl)
        have hc:W.cell? ⟨w.heap.size,1,none⟩=some v2:=(NW.out.box.fr hb (fun ⟨j,_,_,hj⟩=>row_ne NW.out.own2 NW.out.box (by decide) hj)).cell (k:=1) rfl
        obtain⟨A,cp,hv⟩:=row_shape NW.out.own2
        subst hv
        go_simp
      · refine⟨rfl,fun z W W1 h1 hf=>h1.fr hf (fun k ⟨j,_,_,hj⟩=>own_ltX NW.out.own2 k hj),fun a W hA hb hd=>takes5_plain rfl ?_⟩
        refine .inl ⟨.slice (some ⟨W.heap.size,0,none⟩) 256 256,W.alloc (.cells (bts (zeros 256)) 5),?_,⟨_,rfl,hb.size,Bk.new _ _ _⟩,Fr.of ((Below.refl _ _).alloc (Nat.le_refl _) _) _⟩
        have hmk:=make_u8 256 256 (Nat.le_refl _) (by decide) W
        have hx:a.eval (.const (.int .i64 256)) = .int .i64 ((256:Nat):Int):=rfl
        unfold execOp
        simp only[hx,hmk,Sem.run_bind,Result.andThen_ok,Sem.run_pure]
      · refine⟨rfl,fun z W W1 ⟨G1,u,h1,h2,h3,h4⟩ hf=>⟨G1,u,h1,h2.fr hf (fun ⟨j,_,_,hj⟩=>by have:=own_ltX NW.out.own2 _ hj;omega),h3,h4.fr hf (fun k ⟨j,_,_,hj⟩=>own_ltX NW.out.own2 k hj)⟩,fun a W hA hb hd=>takes5_plain rfl ?_⟩
        obtain⟨b,hu,hbs,hbk⟩:=hd 2 (by simp) _ rfl
        have h19:a.tmps[19]?.getD undef = .slice (some ⟨b,0,none⟩) 256 256:=(eval_get a 19).trans hu
        refine .inl ⟨.slice (some ⟨W.heap.size,0,none⟩) 1 1,W.alloc (.cells #[.slice (some ⟨b,0,none⟩) 256 256] 22),?_,⟨_,_,rfl,CbB.new _ _ _,hb.size,b,rfl,hbs,hbk.alloc _⟩,Fr.of ((Below.refl _ _).alloc (Nat.le_refl _) _) _⟩
        go_simp
      · refine⟨rfl,fun z W W1 ⟨b,h1,h2,h3,h4⟩ hf=>⟨b,h1,h2.fr hf (fun ⟨j,_,_,hj⟩=>by have:=own_ltX NW.out.own2 _ hj;omega),row_fr h3 hf (fun k hk ⟨j,hj,hj2,_⟩=>hj hj2),h4⟩,fun a W hA hb hd=>takes5_plain rfl ?_⟩
        have hs:a.eval (.tmp 18)=v2:=hd 1 (by simp) _ rfl
        obtain⟨Gs,u,he,hcb,hGs,b,rfl,hbs,hbk⟩:=hd 3 (by simp) _ rfl
        have hx:a.eval (.tmp 20) = .slice (some ⟨Gs,0,none⟩) 1 1:=he
        have hown:=row_fr NW.out.own2 hb (fun k hk ⟨j,hj,hj2,_⟩=>hj hj2)
        obtain⟨i0,hi0,hz0,hz1,hz2⟩:=info_parts infoSlB
        obtain⟨vq,W1,hrun,r1,r2,_,r4⟩:=run_append_own_at (P:=Tryz.prog) W w.heap.size 153 153 22 i0 _ 1 24 Tryz.underlying153 hi0 hz0 hz1 hz2 rfl (by decide) v2 b2.length _ hown ⟨Gs,0,none⟩ 1 1 [.slice (some ⟨b,0,none⟩) 256 256] rfl (row_at hcb) (by simp[Value.oneCell']) (by have:=HN.out;have:=HL.out;have:=L1.out;have:=L2.out;simp only[maxLen];have:=L2.out;have:=HL.out;omega) (by have:=HN.out;have:=HL.out;have:=L1.out;have:=L2.out;have:=L2.out;have:=HL.out;omega) (Nat.le_trans HB.out.size hb.size)
        refine .inl ⟨vq,W1,?_,⟨b,hbs,hbk.fr (Fr.grown r2) (fun e=>by have:=own_ltX NW.out.own2 _ e;omega),r1,?_⟩,(Fr.grown r2).imp fun k hk=>⟨rfl,hk⟩⟩
        · unfold execOp
          simp only[resolve,invoke,builtin,Sem.run_bind,Sem.run_pure,Result.andThen_ok,List.map_toArray,List.map_cons,List.map_nil,hs,hx,hrun]
        · rcases r4 with r4 | r4
          · exact .inl r4
          · exact .inr ⟨_,r4,hb.size⟩
      · refine⟨rfl,IsR.monoF _ _,fun a W hA hb hd=>Takes.to5 (takes_plain rfl (yields_value _ ?_ rfl)) _⟩
        have h3:a.tmps[3]?.getD undef = .pointer (some ⟨w.heap.size,0,none⟩):=(eval_get a 3).trans ((hA.eval (by simp)).trans rfl)
        go_simp
      intro vs1 wmn hR hb
      obtain⟨b,hbs,hbk,hrow,hvv⟩:AppR w.heap.size wm.heap.size v2 b2 (vs1 21) wmn:=hR 4 _ rfl
      have e17:vs1 17 = .pointer (some ⟨w.heap.size,1,none⟩):=hR 0 _ rfl
      have e18:vs1 18=v2:=hR 1 _ rfl
      have e22:vs1 22 = .pointer (some ⟨w.heap.size,1,none⟩):=hR 5 _ rfl
      simp only[List.map_cons,List.map_nil,List.foldl_cons,List.foldl_nil,List.length_cons,List.length_nil,List.drop_succ_cons,List.drop_zero,Act.put,List.setIfInBounds_toArray,List.set_cons_zero,List.set_cons_succ,e17,e18,e22]
      have FR:Hid (Fr wm wmn (fun k=>v2.ownBlock=some k)):=Lib.hid (hb.imp fun k ⟨j,_,hj⟩=>hj)
      have NW2:=Lib.hid (NW.out.push2 HB.out.size FR.out hbk (by rw[zeros_len]) hbs hrow hvv)
      have G2:=Lib.hid (NW.out.box.fr FR.out (row_ne NW.out.own2 NW.out.box (by decide)))
      have BB:=Lib.hid (Fr.below FR.out (fun k hk=>own_ge9 NW.out.own2 k hk) HB.out HB.out.size)
      obtain⟨A2,c2,hv2⟩:=row_shape hrow
      generalize vs1 21=q21 at *
      subst hv2
      have hf:=G2.out.free 1
      have hcl:=G2.out.cell (k:=1) rfl
      clear hR hb hrow hvv e17 e18 e22
      generalize vs1 19=q19 at *
      generalize vs1 20=q20 at *
      have B7:=Lib.hid (Fr.below (fr_cell wmn w.heap.size 1 (.slice A2 (b2.length+1) c2)) (fun k hk=>by omega) BB.out BB.out.size)
      clear G2 FR hbk hbs BB HB NW
      go_wp2_with fail
      go_roundw
      case rel=>exact⟨i+1,HL.out,by go_num,_,_,_,_,NW2.out,by rw[List.length_append,L1.out];rfl,by rw[List.length_append,L2.out];rfl,B7.out⟩
      case measure=>simp[intOf];have:=HL.out;omega
  · obtain rfl:i=n:=by omega
    have HR:=Lib.hid hr
    have HB:=Lib.hid hb
    have L1:=Lib.hid hl1
    have L2:=Lib.hid hl2
    clear hr hb hlt hi hl1 hl2
    go_wp2_with fail
    go_ret
    exact⟨w.heap.size,v1,v2,b1,b2,rfl,HR.out,L1.out,L2.out,HB.out⟩
end Go.Proofs.YtljmiiiidjeggaaGreat
