/-
  Parts of the proof, joined.
-/
import Derived.Test.YtlobgddnlnffbaaGreatBdo
import Derived.BigRegion
import Derived.Test.YtlobgddnlnffbaaGreatBdk
namespace Go.Proofs.YtlobgddnlnffbaaGreat
set_option maxHeartbeats 16000000
open Go.RowKit
set_option linter.unusedVariables false
set_option linter.unusedSimpArgs false
def SlW (N:Nat) (O:Tgm) (g:Nat) (all:List Sl) (R:List Nat) (v:Value) (W:World):Prop:=
 (∃x,v = .tuple #[x,.int .i64 0]∧OwB W N x R)∧∃r,LgM W (markO O N r (0,2)) g all∧∀k,r=some k→N≤k∧∃cs fr,W.heap[k]? = some (.cells cs 159 fr)
theorem SlW.ab {N g:Nat} {O:Tgm} {all:List Sl} {R:List Nat} {v:Value} {W W':World} (h:SlW N O g all R v W) (hb:Below W.heap.size W W'):SlW N O g all R v W':=by
 obtain⟨⟨x,h1,h2⟩,r,h3,h4⟩:=h
 refine⟨⟨x,h1,h2.ab hb⟩,r,h3.wr (Wr.of hb (fun _=>False) (fun _ _=>rfl)) id,fun k hk=>?_⟩
 obtain⟨h5,cs,fr,h6⟩:=h4 k hk
 exact⟨h5,cs,fr,(hb.block k (lt_of_block h6)).trans h6⟩
theorem SlW.own {N g:Nat} {O:Tgm} {all:List Sl} {R R2:List Nat} {v x:Value} {W:World} (h:SlW N O g all R v W) (hx:OwB W N x R2):∃O',LgM W O' g all∧(∀k,k<N→O' k=O k)∧∀k,x.ownBlock=some k→O' k=(0,0):=by
 obtain⟨_,r,h3,h4⟩:=h
 refine⟨_,h3,fun k hk=>markO_old hk,fun k hk=>?_⟩
 have hge:=own_ge9 hx.own k hk
 unfold markO
 rw[if_neg (by omega),if_neg]
 intro e
 obtain⟨_,cs,fr,h5⟩:=h4 k e
 rcases hx.own.2 with ⟨rfl,_⟩ | ⟨g',cap,cur,rfl,_,hh,_⟩
 · cases hk
 · have:g'=k:=by injection hk
   subst this
   rw[hh] at h5
   injection h5 with h5
   injection h5 with _ h5
   exact absurd h5 (by decide)
theorem tup_of {N g:Nat} {O:Tgm} {all:List Sl} {R:List Nat} {v:Value} {W:World} (h:SlW N O g all R v W):∃v0,v = .tuple #[v0,.int .i64 ((0:Nat):Int)]∧OwB W N v0 R:=h.1
theorem logSealW {w W:World} {O:Tgm} {g kn kc tn tc:Nat} {kA tA:Option Addr} {all:List Sl} {l:Lb} {key text R:List Nat} (h:LgM w O g all) (hb:Below w.heap.size w W) (h1000:all.length≤100000)
 (hl:l.Ok) (ik:IsB w kA kn kc key) (it:IsB w tA tn tc text) (hkA:∀x,kA=some x→O x.block≠(0,2)) (htA:∀x,tA=some x→O x.block≠(0,2)) (hs:sealP key l text=(R,0)):
 Calls Tryz.prog 111 #[.pointer (some ⟨g,0,none⟩),.slice kA kn kc,.agg (lab l),.slice tA tn tc] W fun e w'=>∃v,e = .returned v∧SlW w.heap.size O g (all++[⟨l,key,text,R⟩]) R v w'∧Fr W w' (fun k=>k<w.heap.size∧O k=(0,2)):=by
 obtain⟨u,h1,h2,t1,t2⟩:=h
 have hf0:=Fr.of hb (fun _=>False)
 have r2:=row_fr h2 hf0 (fun _ _ e=>e)
 refine (logSeal_pushT 0 g u all kA tA kn kc tn tc l key text R W (CbB.ab h1 hb) r2 (Nat.zero_le _) h1000 hl (ik.ab hb) (it.ab hb) (fun x hx e=>hkA x hx (t2 _ e)) (fun x hx e=>htA x hx (t2 _ e)) hs).mono ?_
 rintro e w' ⟨v,v',rfl,k1,⟨k2,k3⟩,k4,k5⟩
 have hsz:=hb.size
 refine⟨_,rfl,⟨⟨v,rfl,k1.lower hsz⟩,?_⟩,k5.imp fun k hk=>?_⟩
 · rcases k4 with k4 | ⟨k',e1,e2⟩
   · refine⟨none,⟨v',k2,k3,(markO_old h1.lt).trans t1,fun k hk=>?_⟩,fun k hk=>by cases hk⟩
     rw[k4] at hk
     exact (markO_old (row_ltD h2 k hk)).trans (t2 k hk)
   · refine⟨some k',⟨v',k2,k3,(markO_old h1.lt).trans t1,fun k hk=>?_⟩,fun k hk=>?_⟩
     · rw[hk] at e1
       injection e1 with e1
       subst e1
       exact markO_new (by omega)
     · injection hk with hk
       subst hk
       refine⟨by omega,?_⟩
       rcases k3.2 with ⟨rfl,_⟩ | ⟨g',cap,cur,rfl,_,hh,_⟩
       · cases e1
       · have:g'=k':=by injection e1
         subst this
         exact⟨_,_,hh⟩
 · rcases hk with rfl | hk
   · exact⟨h1.lt,t1⟩
   · exact⟨row_ltD h2 k hk,t2 k hk⟩
def flush1 (R:RgL) (kn:KnL) (n:Nat) (D:DvS) (all:List Sl):Nat×DvS×List Sl:=match getK n kn with
 | none=>(7,D,all)
 | some k=>match getR (k.1.ten,k.1.gn) R with
   | none=>(7,D,all)
   | some key=>((writeD D n (sealP key k.1 k.2).1).1,(writeD D n (sealP key k.1 k.2).1).2,all++[⟨k.1,key,k.2,(sealP key k.1 k.2).1⟩])
def flushF (R:RgL) (kn:KnL):List Nat→DvS→List Sl→Nat×DvS×List Sl
 | [],D,all=>(0,D,all)
 | n::ns,D,all=>match flush1 R kn n D all with
   | (0,D1,al)=>flushF R kn ns D1 al
   | (e+1,D1,al)=>(e+1,D1,al)
def flushP (R:RgL) (T:PgP) (D:DvS) (all:List Sl):Nat×PgP×DvS×List Sl:=match flushF R T.kn (U32.srt (T.pu.map (·.1))) D all with
 | (0,D1,al)=>((syncD D1).1,{ T with fl:=true,fa:=!decide ((syncD D1).1=0) },(syncD D1).2,al)
 | (e+1,D1,al)=>(e+1,{ T with fa:=true },D1,al)
def PuOk (n:Nat) (T:PgP):Prop:=∀x∈T.pu,x.1<n∧∃k,getK x.1 T.kn=some k∧k.2.length=224∧1≤k.1.k∧k.1.k≤3
structure FlI (w:World) (O:Tgm) (p d rg lg:Nat) (T:PgP) (D:DvS) (all:List Sl) (R:RgL) (v:Value) (L:List Nat) (i:Nat) (wx:World) (O1:Tgm) (D1:DvS) (al:List Sl):Prop where
 pg:PgM wx O1 p d rg lg T
 dv:DvM wx O1 d D1
 lo:LgM wx O1 lg al
 ri:RgM wx O1 rg R
 wr:Wr (fun τ=>τ=(0,1)∨τ=(0,2)) w O wx O1
 ns:U32.NsB wx w.heap.size v L
 nt:∀k,v.ownBlock=some k→O1 k=(0,0)
 ok:D1.Ok
 n:D1.n=D.n
 st:D1.st≤D.st+i
 ws:D1.ws.length≤D.ws.length+i
 la:al.length≤all.length+i
 eq:flushF R T.kn L D all=flushF R T.kn (L.drop i) D1 al
section
variable {w wx wy:World} {O O1 O2:Tgm} {p d rg lg i:Nat} {T:PgP} {D D1:DvS} {all al:List Sl} {R:RgL} {v:Value} {L:List Nat}
theorem FlI.ab (h:FlI w O p d rg lg T D all R v L i wx O1 D1 al) (hb:Below wx.heap.size wx wy):FlI w O p d rg lg T D all R v L i wy (cutO O1 wx.heap.size) D1 al:=by
 have s:Wr (fun _=>False) wx O1 wy (cutO O1 wx.heap.size):=Wr.cut hb _
 exact { pg:=h.pg.wr s (fun _=>id) id,dv:=h.dv.wr s id,lo:=h.lo.wr s id,ri:=h.ri.wr s id id,wr:=h.wr.tr (s.imp fun _=>False.elim),ns:=h.ns.ab hb,nt:=fun k hk=>(s.tg k (h.ns.lt hk)).trans (h.nt k hk),ok:=h.ok,n:=h.n,st:=h.st,ws:=h.ws,la:=h.la,eq:=h.eq }
end
theorem drop_cons9 {L:List Nat} {i n:Nat} (h:L[i]? = some n):L.drop i=n::L.drop (i+1):=by
 obtain⟨h1,h2⟩:=List.getElem?_eq_some_iff.1 h
 rw[List.drop_eq_getElem_cons h1,h2]
theorem seal_ok9 {key text:List Nat} {l:Lb} (h:KeyOk key) (h1:1≤l.k) (h2:l.k≤4) (ht:text.length=224):sealP key l text=((sealP key l text).1,0)∧(sealP key l text).1.length=256:=by
 unfold sealP
 rw[if_pos ⟨⟨h,h1,h2⟩,ht⟩]
 exact⟨rfl,by simp only[List.length_append,headL_len,sealA_len,ht]⟩
theorem isB_lt {w:World} {A:Option Addr} {n c:Nat} {l:List Nat} {x:Addr} (h:IsB w A n c l) (hn:0<n) (hx:A=some x):x.block<w.heap.size:=by
 obtain⟨y,e,hy,_⟩:=h.cell hn
 rw[hx] at e
 injection e with e
 rw[e]
 exact hy
theorem failM {w:World} {O:Tgm} {p d rg lg:Nat} {T:PgP} (h:PgM w O p d rg lg T) (hf:T.fa=false) (e:Nat) (he:e≤1000):
 Calls Tryz.prog 110 #[.pointer (some ⟨p,0,none⟩),.int .i64 (e:Int)] w fun r w'=>r = .returned (.int .i64 (e:Int))∧PgM w' O p d rg lg { T with fa:=!decide (e=0) }∧Wr (fun τ=>τ=(p,1)) w O w' O:=by
 obtain⟨b,hN,rfl,rfl,rfl⟩:=h
 refine (failed_same hN.box hf e he).mono ?_
 rintro r w' ⟨rfl,k1,k2⟩
 have s:Wr (fun τ=>τ=(p,1)) w O w' O:=⟨k2.imp fun q hq=>by rw[hq];exact hN.tb,fun _ _=>rfl⟩
 have hp:=hN.pos
 refine⟨rfl,⟨_,hN.upd (T':={ T with fa:=!decide (e=0) }) (v:=b.fv) s k1 (row_fr hN.free k2 (fun q hq e=>?_)) hN.tf rfl rfl rfl rfl rfl hN.rgt hN.okr hN.num hN.cmo id,rfl,rfl,rfl⟩,s⟩
 have h1:=hN.tf q hq
 rw[e,hN.tb] at h1
 injection h1 with h1
 omega
section
variable {w w2 w3 w4:World} {O O2 O3 O4:Tgm} {p d rg lg i:Nat} {T:PgP} {D D1 D2:DvS} {all al al2:List Sl} {R:RgL} {v:Value} {L:List Nat}
theorem FlI.pos (h:FlI w O p d rg lg T D all R v L i w2 O2 D1 al):0<p:=by
 obtain⟨b,h1,_⟩:=h.pg
 exact h1.pos
theorem FlI.step {x:Sl} (h:FlI w O p d rg lg T D all R v L i w2 O2 D1 al) (s3:Wr (fun τ=>τ=(0,1)∨τ=(0,2)) w2 O2 w3 O3) (s4:Wr (fun τ=>τ=(0,1)∨τ=(0,2)) w3 O3 w4 O4) (dv:DvM w4 O4 d D2) (lo:LgM w4 O4 lg (al++[x])) (ok:D2.Ok) (hn:D2.st≤D1.st+1∧D2.n=D1.n∧D2.ws.length≤D1.ws.length+1):
 (flushF R T.kn (L.drop i) D1 al=flushF R T.kn (L.drop (i+1)) D2 (al++[x])→FlI w O p d rg lg T D all R v L (i+1) w4 O4 D2 (al++[x]))∧PgM w4 O4 p d rg lg T∧DvM w4 O4 d D2∧LgM w4 O4 lg (al++[x])∧Wr (fun τ=>τ=(0,1)∨τ=(0,2)) w O w4 O4:=by
 have s:=s3.tr s4
 have hp:=h.pos
 have pg:=h.pg.wr s (fun i e=>by rcases e with e | e <;> (injection e with e;omega)) (fun e=>by rcases e with e | e <;> cases e)
 refine⟨fun heq=>?_,pg,dv,lo,h.wr.tr s⟩
 exact { pg:=pg,dv:=dv,lo:=lo,ri:=h.ri.wr s (fun e=>by rcases e with e | e <;> cases e) (fun e=>by rcases e with e | e <;> cases e),wr:=h.wr.tr s,ns:=row_fr h.ns s.fr (fun k hk e=>by rw[h.nt k hk] at e;rcases e with e | e <;> cases e),nt:=fun k hk=>(s.tg k (h.ns.lt hk)).trans (h.nt k hk),ok:=ok,n:=hn.2.1.trans h.n,st:=by have:=h.st;omega,ws:=by have:=h.ws;omega,la:=by rw[List.length_append,List.length_singleton];have:=h.la;omega,eq:=h.eq.trans heq }
end
set_option maxRecDepth 100000 in
theorem flush_any {w:World} {O:Tgm} {p d rg lg:Nat} {T:PgP} {D:DvS} {all:List Sl} {R:RgL} (h:PgM w O p d rg lg T) (hD:DvM w O d D) (hL:LgM w O lg all) (hR:RgM w O rg R) (okD:D.Ok) (hst:D.st≤900000000) (hws:D.ws.length≤90000) (hall:all.length≤90000) (hf:T.fa=false) (ho:T.cm≠0∧T.fl=false) (hpu:PuOk D.n T) (hnu:T.pu.length≤12):
 Calls Tryz.prog 56 #[.pointer (some ⟨p,0,none⟩)] w fun e w'=>∃O',e = .returned (.int .i64 ((flushP R T D all).1:Int))∧PgM w' O' p d rg lg (flushP R T D all).2.1∧DvM w' O' d (flushP R T D all).2.2.1∧LgM w' O' lg (flushP R T D all).2.2.2∧Wr (fun τ=>τ=(0,1)∨τ=(0,2)∨τ=(p,1)) w O w' O':=by
 obtain⟨b,hN,rfl,rfl,rfl⟩:=h
 have HM:=Lib.hid (may_any hN.box)
 rw[show mayP (pcS b T)=0 from by unfold mayP pcS;rw[hf];rfl] at HM
 have HO:=Lib.hid (open_any hN.box)
 rw[show openB (pcS b T)=true from by unfold openB pcS;rw[ho.2,decide_eq_false ho.1];rfl] at HO
 obtain⟨av,hav⟩:=(hN.opn ho.1).1
 have p6:w.cell? ⟨p,6,none⟩=some (.map (some av)):=by rw[←hav];exact CbB.cell hN.box (k:=6) rfl
 have HRI:=Lib.hid (rising_any av T.pu w (hN.puB hav).1 (by omega))
 have LE:Hid ((U32.srt (T.pu.map (·.1))).length≤12):=Lib.hid (by rw[U32.srt_len,List.length_map];exact hnu)
 have LM:Hid (∀n∈U32.srt (T.pu.map (·.1)),n<D.n∧∃k,getK n T.kn=some k∧k.2.length=224∧1≤k.1.k∧k.1.k≤3):=Lib.hid fun n hn=>by
  rw[U32.srt_mem,List.mem_map] at hn
  obtain⟨x,h1,rfl⟩:=hn
  exact hpu x h1
 have FE:Hid (∀q,flushF R T.kn (U32.srt (T.pu.map (·.1))) D all=q→flushP R T D all=(match q with | (0,D1,al)=>((syncD D1).1,{ T with fl:=true,fa:=!decide ((syncD D1).1=0) },(syncD D1).2,al) | (e+1,D1,al)=>(e+1,{ T with fa:=true },D1,al))):=Lib.hid fun q hq=>by unfold flushP;rw[hq]
 have IN:Hid (∀v wx,U32.NsB wx w.heap.size v (U32.srt (T.pu.map (·.1)))→Below w.heap.size w wx→FlI w O p b.d b.rg b.lg T D all R v (U32.srt (T.pu.map (·.1))) 0 wx (cutO O w.heap.size) D all):=Lib.hid fun v wx hv hb=>by
  have s:Wr (fun _=>False) w O wx (cutO O w.heap.size):=Wr.cut hb _
  exact { pg:=(show PgM w O p b.d b.rg b.lg T from⟨b,hN,rfl,rfl,rfl⟩).wr s (fun _=>id) id,dv:=hD.wr s id,lo:=hL.wr s id,ri:=hR.wr s id id,wr:=s.imp fun _=>False.elim,ns:=hv,nt:=fun k hk=>cutO_at (own_ge9 hv k hk),ok:=okD,n:=rfl,st:=Nat.le_refl _,ws:=Nat.le_refl _,la:=Nat.le_refl _,eq:=rfl }
 have BD:=Lib.hid (And.intro hst (And.intro hws hall))
 have HF:=Lib.hid hf
 have HZ:=Lib.hid (And.intro ho hN.cmo)
 generalize U32.srt (T.pu.map (·.1))=L at *
 generalize b.d=d at *
 generalize b.rg=rg at *
 generalize b.lg=lg at *
 clear hN hD hL hR okD hst hws hall hf ho hpu hnu hav
 go_enter Tryz.func56,Tryz.ntmps56
 go_wp2_with fail
 refine HM.out.mono ?_
 rintro e w1 ⟨rfl,rfl⟩
 go_wp2_with fail
 refine HO.out.mono ?_
 rintro e w1 ⟨rfl,rfl⟩
 clear HM HO
 go_wp2_with fail
 refine HRI.out.mono ?_
 rintro e w1 ⟨v,rfl,hv,hb⟩
 have I0:=Lib.hid (IN.out v w1 hv hb)
 obtain⟨A,c,rfl,_⟩:=hv.form
 obtain⟨nl,hnl⟩:∃nl,L.length=nl:=⟨_,rfl⟩
 rw[hnl] at I0⊢
 have NL:=Lib.hid hnl
 have NB:Hid (nl≤12):=Lib.hid (by rw[←hnl];exact LE.out)
 clear hv hb IN HRI hnl p6
 have nlb:(nl:Int)≤12:=by have:=NB.out;omega
 go_wp2_with fail
 go_loopw [25] (fun z wx=>∃(i:Nat) (O1:Tgm) (D1:DvS) (al:List Sl),i≤nl∧z = .int .i64 (i:Int)∧FlI w O p d rg lg T D all R (.slice A nl c) L i wx O1 D1 al) (fun z _=>nl-(intOf z).toNat)
 case atStart=>exact⟨0,_,_,_,Nat.zero_le _,rfl,I0.out⟩
 case round=>
  obtain⟨i,O1,D1,al,hi,rfl,hI⟩:=hrel
  have I1:=Lib.hid hI
  clear hI
  by_cases hlt:i<nl
  · have hlti:(i:Int)<(nl:Int):=by omega
    have hi0:(0:Int)≤(i:Int):=by omega
    obtain⟨n,hn⟩:∃n,L[i]? = some n:=⟨_,List.getElem?_eq_getElem (by rw[NL.out];exact hlt)⟩
    obtain⟨hnd,k,hk,hk1,hk2,hk3⟩:=LM.out n (List.mem_of_getElem? hn)
    obtain⟨A',c',he,hcc⟩:=I1.out.ns.form
    injection he with he1 he2 he3
    subst he1 he3
    clear he2
    obtain⟨ga,rfl,hcell⟩:=hcc i (by rw[NL.out];exact hlt)
    rw[show L[i]'(by rw[NL.out];exact hlt)=n from by have:=(List.getElem?_eq_some_iff.1 hn).2;exact this] at hcell
    obtain⟨b',hN',_,_,_⟩:=I1.out.pg
    obtain⟨vs0,hkm,hkv⟩:=hN'.kn
    have hnok:u32Okp n:=by unfold u32Okp;have:=I1.out.ok.n4;have:=I1.out.n;omega
    have c4:wr.cell? ⟨p,4,none⟩=some (.map (some b'.kn)):=CbB.cell hN'.box (k:=4) rfl
    rcases hkv.look n with ⟨_,e2⟩ | ⟨pv,k',e1,e2,hpv⟩
    · rw[hk] at e2;cases e2
    rw[hk] at e2
    injection e2 with e2
    subst e2
    obtain⟨x,rfl,hx,hlok⟩:=hpv
    obtain⟨pA,pn,pc,rfl,hxi,hxt⟩:=hx
    have hlk:(Instr.lookup 133 (.map (some b'.kn)) (.int .u32 (n:Int)) false).run Tryz.prog wr = .ok (.agg #[.int .u32 (k.1.ten:Int),.int .u8 (k.1.k:Int),.int .u8 (k.1.lv:Int),.int .u32 (k.1.pg:Int),.int .u64 (k.1.cm:Int),.int .u16 (k.1.gn:Int),.slice pA pn pc]) wr:=hkm.look_some u32p_K Tryz.underlying133 hnok e1 false
    have ba:Below wr.heap.size wr (wr.alloc (.cells #[.int .u32 (k.1.ten:Int),.int .u8 (k.1.k:Int),.int .u8 (k.1.lv:Int),.int .u32 (k.1.pg:Int),.int .u64 (k.1.cm:Int),.int .u16 (k.1.gn:Int),.slice pA pn pc] 170)):=(Below.refl _ _).alloc (Nat.le_refl _) _
    have j1:=I1.out.ab ba
    have cb:CbB (wr.alloc (.cells #[.int .u32 (k.1.ten:Int),.int .u8 (k.1.k:Int),.int .u8 (k.1.lv:Int),.int .u32 (k.1.pg:Int),.int .u64 (k.1.cm:Int),.int .u16 (k.1.gn:Int),.slice pA pn pc] 170)) wr.heap.size 170 #[.int .u32 (k.1.ten:Int),.int .u8 (k.1.k:Int),.int .u8 (k.1.lv:Int),.int .u32 (k.1.pg:Int),.int .u64 (k.1.cm:Int),.int .u16 (k.1.gn:Int),.slice pA pn pc]:=CbB.new _ _ _
    have cbt:cutO O1 wr.heap.size wr.heap.size=(0,0):=cutO_at (Nat.le_refl _)
    have ix:IsB (wr.alloc (.cells #[.int .u32 (k.1.ten:Int),.int .u8 (k.1.k:Int),.int .u8 (k.1.lv:Int),.int .u32 (k.1.pg:Int),.int .u64 (k.1.cm:Int),.int .u16 (k.1.gn:Int),.slice pA pn pc] 170)) pA pn pc k.2:=hxi.ab ba
    have ixt:∀q,pA=some q→cutO O1 wr.heap.size q.block=(0,0):=fun q hq=>by
     have hp0:0<pn:=by have:=hxi.len;omega
     obtain⟨h1,h2⟩:=hxt hp0 q hq
     exact (cutO_old h1).trans h2
    have ND:Hid (n<D.n∧k.2.length=224∧1≤k.1.k∧k.1.k≤3):=Lib.hid ⟨hnd,hk1,hk2,hk3⟩
    have KN:=Lib.hid hk
    have LI:=Lib.hid hn
    have LK:=Lib.hid hlok
    have HLT:=Lib.hid hlt
    have hnw:IntKind.i64.wrap (n:Int)=(n:Int):=wrap_i64P (by omega) (by unfold u32Okp at hnok;omega)
    clear hlt hi hn hnd hk hk1 hk2 hk3 hcc hkm hkv e1 hxi hxt hN' hnok hlok ba
    go_upto_region 10 with (fail)
    obtain⟨w1,hw1⟩:∃w1,wr.alloc (.cells #[.int .u32 (k.1.ten:Int),.int .u8 (k.1.k:Int),.int .u8 (k.1.lv:Int),.int .u32 (k.1.pg:Int),.int .u64 (k.1.cm:Int),.int .u16 (k.1.gn:Int),.slice pA pn pc] 170)=w1:=⟨_,rfl⟩
    obtain⟨Oa,hO2⟩:∃Oa,cutO O1 wr.heap.size=Oa:=⟨_,rfl⟩
    rw[hw1,hO2] at j1
    rw[hw1] at cb ix⊢
    rw[hO2] at cbt ixt
    have J1:=Lib.hid j1
    have CB:=Lib.hid (And.intro cb cbt)
    have IX:=Lib.hid (And.intro ix ixt)
    clear hw1 hO2 j1 cb cbt ix ixt c4 hlk hcell I1
    have CP:Hid (∀W,Below w1.heap.size w1 W→W.cell? ⟨p,1,none⟩=some (.pointer (some ⟨rg,0,none⟩))∧W.cell? ⟨p,0,none⟩=some (.pointer (some ⟨d,0,none⟩))):=Lib.hid fun W hW=>by
     obtain⟨b2,h2,rfl,rfl,rfl⟩:=J1.out.pg
     exact⟨(CbB.ab h2.box hW).cell (k:=1) rfl,(CbB.ab h2.box hW).cell (k:=0) rfl⟩
    have CK:Hid (∀W,Below w1.heap.size w1 W→W.cell? ⟨wr.heap.size,0,none⟩=some (.int .u32 (k.1.ten:Int))∧W.cell? ⟨wr.heap.size,5,none⟩=some (.int .u16 (k.1.gn:Int))):=Lib.hid fun W hW=>⟨(CB.out.1.ab hW).cell (k:=0) rfl,(CB.out.1.ab hW).cell (k:=5) rfl⟩
    have HK:Hid (∀W,Below w1.heap.size w1 W→Calls Tryz.prog 80 #[.pointer (some ⟨rg,0,none⟩),.int .u32 (k.1.ten:Int),.int .u16 (k.1.gn:Int)] W (OutB W (keyP (k.1.ten,k.1.gn) R).1 (keyP (k.1.ten,k.1.gn) R).2)):=Lib.hid fun W hW=>by
     obtain⟨m,hm⟩:=J1.out.ri.rg
     exact ringKey_any 0 rg m k.1.ten k.1.gn R W (hm.ab hW) LK.out.ten LK.out.gn
    cases hg:getR (k.1.ten,k.1.gn) R with
    | none=>
      have hkp:keyP (k.1.ten,k.1.gn) R=([],7):=by unfold keyP;rw[hg]
      rw[hkp] at HK
      have HG:=Lib.hid hg
      clear hkp hg
      refine wp_wide3 [⟨36,IsR (.pointer (some ⟨p,0,none⟩)),[],false⟩,⟨37,IsR (.pointer (some ⟨p,0,none⟩)),[0],false⟩,⟨38,IsR (.pointer (some ⟨p,1,none⟩)),[1],false⟩,⟨39,IsR (.pointer (some ⟨rg,0,none⟩)),[2],false⟩,⟨40,IsR (.pointer (some ⟨wr.heap.size,0,none⟩)),[],false⟩,⟨41,IsR (.pointer (some ⟨wr.heap.size,0,none⟩)),[4],false⟩,⟨42,IsR (.int .u32 (k.1.ten:Int)),[5],false⟩,⟨43,IsR (.pointer (some ⟨wr.heap.size,0,none⟩)),[],false⟩,⟨44,IsR (.pointer (some ⟨wr.heap.size,3,none⟩)),[7],false⟩,⟨45,IsR (.pointer (some ⟨wr.heap.size,5,none⟩)),[8],false⟩,⟨46,IsR (.int .u16 (k.1.gn:Int)),[9],false⟩,⟨47,TupB w1.heap.size 7 ([]),[3,6,10],false⟩,⟨35,TupB w1.heap.size 7 ([]),[11],false⟩,⟨48,OwR w1.heap.size ([]),[12],false⟩,⟨49,IsR (.int .i64 (7:Int)),[12],false⟩,⟨7,OwR w1.heap.size ([]),[13],false⟩] (by kernel_rfl) (by kernel_rfl) rfl rfl rfl ⟨?_,?_,?_,?_,?_,?_,?_,?_,?_,?_,?_,?_,?_,?_,?_,?_,trivial⟩ ?_
      · refine⟨rfl,IsR.mono _,fun a W hA hb hd=>takes_plain rfl (yields_value _ ?_ rfl)⟩
        have h0:a.tmps[0]?.getD undef = .pointer (some ⟨p,0,none⟩):=(eval_get a 0).trans ((hA.eval (by simp)).trans rfl)
        go_simp
      · refine⟨rfl,IsR.mono _,fun a W hA hb hd=>takes_plain rfl (yields_value _ ?_ rfl)⟩
        have h36:a.tmps[36]?.getD undef = .pointer (some ⟨p,0,none⟩):=(eval_get a 36).trans (hd 0 (by simp) _ rfl)
        go_simp
      · refine⟨rfl,IsR.mono _,fun a W hA hb hd=>takes_plain rfl (yields_value _ ?_ rfl)⟩
        have h37:a.tmps[37]?.getD undef = .pointer (some ⟨p,0,none⟩):=(eval_get a 37).trans (hd 1 (by simp) _ rfl)
        go_simp
      · refine⟨rfl,IsR.mono _,fun a W hA hb hd=>takes_plain rfl (yields_value _ ?_ rfl)⟩
        have h38:a.tmps[38]?.getD undef = .pointer (some ⟨p,1,none⟩):=(eval_get a 38).trans (hd 2 (by simp) _ rfl)
        have hc:=(CP.out W hb).1
        go_simp
      · refine⟨rfl,IsR.mono _,fun a W hA hb hd=>takes_plain rfl (yields_value _ ?_ rfl)⟩
        have h6:a.tmps[6]?.getD undef = .pointer (some ⟨wr.heap.size,0,none⟩):=(eval_get a 6).trans ((hA.eval (by simp)).trans rfl)
        go_simp
      · refine⟨rfl,IsR.mono _,fun a W hA hb hd=>takes_plain rfl (yields_value _ ?_ rfl)⟩
        have h40:a.tmps[40]?.getD undef = .pointer (some ⟨wr.heap.size,0,none⟩):=(eval_get a 40).trans (hd 4 (by simp) _ rfl)
        go_simp
      · refine⟨rfl,IsR.mono _,fun a W hA hb hd=>takes_plain rfl (yields_value _ ?_ rfl)⟩
        have h41:a.tmps[41]?.getD undef = .pointer (some ⟨wr.heap.size,0,none⟩):=(eval_get a 41).trans (hd 5 (by simp) _ rfl)
        have hc:=(CK.out W hb).1
        go_simp
      · refine⟨rfl,IsR.mono _,fun a W hA hb hd=>takes_plain rfl (yields_value _ ?_ rfl)⟩
        have h6:a.tmps[6]?.getD undef = .pointer (some ⟨wr.heap.size,0,none⟩):=(eval_get a 6).trans ((hA.eval (by simp)).trans rfl)
        go_simp
      · refine⟨rfl,IsR.mono _,fun a W hA hb hd=>takes_plain rfl (yields_value _ ?_ rfl)⟩
        have h43:a.tmps[43]?.getD undef = .pointer (some ⟨wr.heap.size,0,none⟩):=(eval_get a 43).trans (hd 7 (by simp) _ rfl)
        go_simp
      · refine⟨rfl,IsR.mono _,fun a W hA hb hd=>takes_plain rfl (yields_value _ ?_ rfl)⟩
        have h44:a.tmps[44]?.getD undef = .pointer (some ⟨wr.heap.size,3,none⟩):=(eval_get a 44).trans (hd 8 (by simp) _ rfl)
        go_simp
      · refine⟨rfl,IsR.mono _,fun a W hA hb hd=>takes_plain rfl (yields_value _ ?_ rfl)⟩
        have h45:a.tmps[45]?.getD undef = .pointer (some ⟨wr.heap.size,5,none⟩):=(eval_get a 45).trans (hd 9 (by simp) _ rfl)
        have hc:=(CK.out W hb).2
        go_simp
      · refine⟨rfl,TupB.mono _ _ _,fun a W hA hb hd=>takes_plain rfl ?_⟩
        have h39:a.tmps[39]?.getD undef = .pointer (some ⟨rg,0,none⟩):=(eval_get a 39).trans (hd 3 (by simp) _ rfl)
        have h42:a.tmps[42]?.getD undef = .int .u32 (k.1.ten:Int):=(eval_get a 42).trans (hd 6 (by simp) _ rfl)
        have h46:a.tmps[46]?.getD undef = .int .u16 (k.1.gn:Int):=(eval_get a 46).trans (hd 10 (by simp) _ rfl)
        refine yields_call 80 #[.pointer (some ⟨rg,0,none⟩),.int .u32 (k.1.ten:Int),.int .u16 (k.1.gn:Int)] (by go_simp) ((HK.out W hb).mono ?_)
        rintro e W1 ⟨v,rfl,ho,hb1⟩
        exact⟨_,rfl,⟨v,rfl,ho.lower hb.size⟩,hb1⟩
      · refine⟨rfl,TupB.mono _ _ _,fun a W hA hb hd=>takes_plain rfl ?_⟩
        obtain⟨v0,e0,ho⟩:=hd 11 (by simp) _ rfl
        have h0:a.tmps[47]?.getD undef = .tuple #[v0,.int .i64 ((7:Nat):Int)]:=(eval_get a 47).trans e0
        refine yields_value (.tuple #[v0,.int .i64 ((7:Nat):Int)]) ?_ ⟨v0,rfl,ho⟩
        go_simp
      · refine⟨rfl,OwR.mono _ _,fun a W hA hb hd=>takes_plain rfl ?_⟩
        obtain⟨v0,e0,ho⟩:=hd 12 (by simp) _ rfl
        have h0:a.tmps[35]?.getD undef = .tuple #[v0,.int .i64 ((7:Nat):Int)]:=(eval_get a 35).trans e0
        refine yields_value v0 ?_ ho
        go_simp
      · refine⟨rfl,IsR.mono _,fun a W hA hb hd=>takes_plain rfl ?_⟩
        obtain⟨v0,e0,ho⟩:=hd 12 (by simp) _ rfl
        have h0:a.tmps[35]?.getD undef = .tuple #[v0,.int .i64 ((7:Nat):Int)]:=(eval_get a 35).trans e0
        refine yields_value (.int .i64 (7:Int)) ?_ rfl
        go_simp
      · refine⟨rfl,OwR.mono _ _,fun a W hA hb hd=>takes_plain rfl ?_⟩
        have ho:OwB W w1.heap.size (a.eval (.tmp 48)) ([]):=hd 13 (by simp) _ rfl
        exact yields_value (a.eval (.tmp 48)) (exec_assign (.tmp 48) rfl W) ho
      intro vs w2 hR hF hb
      have B2:=Lib.hid hb
      have e36:vs 36 = .pointer (some ⟨p,0,none⟩):=hR 0 _ rfl
      have e37:vs 37 = .pointer (some ⟨p,0,none⟩):=hR 1 _ rfl
      have e38:vs 38 = .pointer (some ⟨p,1,none⟩):=hR 2 _ rfl
      have e39:vs 39 = .pointer (some ⟨rg,0,none⟩):=hR 3 _ rfl
      have e40:vs 40 = .pointer (some ⟨wr.heap.size,0,none⟩):=hR 4 _ rfl
      have e41:vs 41 = .pointer (some ⟨wr.heap.size,0,none⟩):=hR 5 _ rfl
      have e42:vs 42 = .int .u32 (k.1.ten:Int):=hR 6 _ rfl
      have e43:vs 43 = .pointer (some ⟨wr.heap.size,0,none⟩):=hR 7 _ rfl
      have e44:vs 44 = .pointer (some ⟨wr.heap.size,3,none⟩):=hR 8 _ rfl
      have e45:vs 45 = .pointer (some ⟨wr.heap.size,5,none⟩):=hR 9 _ rfl
      have e46:vs 46 = .int .u16 (k.1.gn:Int):=hR 10 _ rfl
      have e49:vs 49 = .int .i64 (7:Int):=hR 14 _ rfl
      simp only[List.map_cons,List.map_nil,List.foldl_cons,List.foldl_nil,List.length_cons,List.length_nil,List.drop_succ_cons,List.drop_zero,Act.put,List.setIfInBounds_toArray,List.set_cons_zero,List.set_cons_succ,e36,e37,e38,e39,e40,e41,e42,e43,e44,e45,e46,e49]
      generalize vs 47=q47 at *
      generalize vs 35=q35 at *
      generalize vs 48=q48 at *
      generalize vs 7=q7 at *
      clear hR hF hb e36 e37 e38 e39 e40 e41 e42 e43 e44 e45 e46 e49
      have J2:=Lib.hid (J1.out.ab B2.out)
      go_wp2_with fail
      refine (failM J2.out.pg HF.out 7 (by decide)).mono ?_
      rintro e w' ⟨rfl,hp,hw⟩
      have PG:=Lib.hid hp
      have PW:=Lib.hid hw
      clear hp hw
      go_wp2_with fail
      go_ret
      have hpos:=J2.out.pos
      have hq:flushF R T.kn L D all=(7,D1,al):=J1.out.eq.trans (by
       rw[drop_cons9 LI.out]
       unfold flushF flush1
       rw[KN.out]
       simp only
       rw[HG.out])
      rw[FE.out _ hq]
      exact⟨_,rfl,PG.out,J2.out.dv.wr PW.out (fun e=>by injection e with e;omega),J2.out.lo.wr PW.out (fun e=>by injection e with e;omega),(J2.out.wr.imp fun τ hτ=>hτ.imp id .inl).tr (PW.out.imp fun τ hτ=>.inr (.inr hτ))⟩
    | some key=>
      have hkp:keyP (k.1.ten,k.1.gn) R=(key,0):=by unfold keyP;rw[hg]
      rw[hkp] at HK
      have HG:=Lib.hid hg
      clear hkp hg
      refine wp_wide3 [⟨36,IsR (.pointer (some ⟨p,0,none⟩)),[],false⟩,⟨37,IsR (.pointer (some ⟨p,0,none⟩)),[0],false⟩,⟨38,IsR (.pointer (some ⟨p,1,none⟩)),[1],false⟩,⟨39,IsR (.pointer (some ⟨rg,0,none⟩)),[2],false⟩,⟨40,IsR (.pointer (some ⟨wr.heap.size,0,none⟩)),[],false⟩,⟨41,IsR (.pointer (some ⟨wr.heap.size,0,none⟩)),[4],false⟩,⟨42,IsR (.int .u32 (k.1.ten:Int)),[5],false⟩,⟨43,IsR (.pointer (some ⟨wr.heap.size,0,none⟩)),[],false⟩,⟨44,IsR (.pointer (some ⟨wr.heap.size,3,none⟩)),[7],false⟩,⟨45,IsR (.pointer (some ⟨wr.heap.size,5,none⟩)),[8],false⟩,⟨46,IsR (.int .u16 (k.1.gn:Int)),[9],false⟩,⟨47,TupB w1.heap.size 0 (key),[3,6,10],false⟩,⟨35,TupB w1.heap.size 0 (key),[11],false⟩,⟨48,OwR w1.heap.size (key),[12],false⟩,⟨49,IsR (.int .i64 (0:Int)),[12],false⟩,⟨7,OwR w1.heap.size (key),[13],false⟩] (by kernel_rfl) (by kernel_rfl) rfl rfl rfl ⟨?_,?_,?_,?_,?_,?_,?_,?_,?_,?_,?_,?_,?_,?_,?_,?_,trivial⟩ ?_
      · refine⟨rfl,IsR.mono _,fun a W hA hb hd=>takes_plain rfl (yields_value _ ?_ rfl)⟩
        have h0:a.tmps[0]?.getD undef = .pointer (some ⟨p,0,none⟩):=(eval_get a 0).trans ((hA.eval (by simp)).trans rfl)
        go_simp
      · refine⟨rfl,IsR.mono _,fun a W hA hb hd=>takes_plain rfl (yields_value _ ?_ rfl)⟩
        have h36:a.tmps[36]?.getD undef = .pointer (some ⟨p,0,none⟩):=(eval_get a 36).trans (hd 0 (by simp) _ rfl)
        go_simp
      · refine⟨rfl,IsR.mono _,fun a W hA hb hd=>takes_plain rfl (yields_value _ ?_ rfl)⟩
        have h37:a.tmps[37]?.getD undef = .pointer (some ⟨p,0,none⟩):=(eval_get a 37).trans (hd 1 (by simp) _ rfl)
        go_simp
      · refine⟨rfl,IsR.mono _,fun a W hA hb hd=>takes_plain rfl (yields_value _ ?_ rfl)⟩
        have h38:a.tmps[38]?.getD undef = .pointer (some ⟨p,1,none⟩):=(eval_get a 38).trans (hd 2 (by simp) _ rfl)
        have hc:=(CP.out W hb).1
        go_simp
      · refine⟨rfl,IsR.mono _,fun a W hA hb hd=>takes_plain rfl (yields_value _ ?_ rfl)⟩
        have h6:a.tmps[6]?.getD undef = .pointer (some ⟨wr.heap.size,0,none⟩):=(eval_get a 6).trans ((hA.eval (by simp)).trans rfl)
        go_simp
      · refine⟨rfl,IsR.mono _,fun a W hA hb hd=>takes_plain rfl (yields_value _ ?_ rfl)⟩
        have h40:a.tmps[40]?.getD undef = .pointer (some ⟨wr.heap.size,0,none⟩):=(eval_get a 40).trans (hd 4 (by simp) _ rfl)
        go_simp
      · refine⟨rfl,IsR.mono _,fun a W hA hb hd=>takes_plain rfl (yields_value _ ?_ rfl)⟩
        have h41:a.tmps[41]?.getD undef = .pointer (some ⟨wr.heap.size,0,none⟩):=(eval_get a 41).trans (hd 5 (by simp) _ rfl)
        have hc:=(CK.out W hb).1
        go_simp
      · refine⟨rfl,IsR.mono _,fun a W hA hb hd=>takes_plain rfl (yields_value _ ?_ rfl)⟩
        have h6:a.tmps[6]?.getD undef = .pointer (some ⟨wr.heap.size,0,none⟩):=(eval_get a 6).trans ((hA.eval (by simp)).trans rfl)
        go_simp
      · refine⟨rfl,IsR.mono _,fun a W hA hb hd=>takes_plain rfl (yields_value _ ?_ rfl)⟩
        have h43:a.tmps[43]?.getD undef = .pointer (some ⟨wr.heap.size,0,none⟩):=(eval_get a 43).trans (hd 7 (by simp) _ rfl)
        go_simp
      · refine⟨rfl,IsR.mono _,fun a W hA hb hd=>takes_plain rfl (yields_value _ ?_ rfl)⟩
        have h44:a.tmps[44]?.getD undef = .pointer (some ⟨wr.heap.size,3,none⟩):=(eval_get a 44).trans (hd 8 (by simp) _ rfl)
        go_simp
      · refine⟨rfl,IsR.mono _,fun a W hA hb hd=>takes_plain rfl (yields_value _ ?_ rfl)⟩
        have h45:a.tmps[45]?.getD undef = .pointer (some ⟨wr.heap.size,5,none⟩):=(eval_get a 45).trans (hd 9 (by simp) _ rfl)
        have hc:=(CK.out W hb).2
        go_simp
      · refine⟨rfl,TupB.mono _ _ _,fun a W hA hb hd=>takes_plain rfl ?_⟩
        have h39:a.tmps[39]?.getD undef = .pointer (some ⟨rg,0,none⟩):=(eval_get a 39).trans (hd 3 (by simp) _ rfl)
        have h42:a.tmps[42]?.getD undef = .int .u32 (k.1.ten:Int):=(eval_get a 42).trans (hd 6 (by simp) _ rfl)
        have h46:a.tmps[46]?.getD undef = .int .u16 (k.1.gn:Int):=(eval_get a 46).trans (hd 10 (by simp) _ rfl)
        refine yields_call 80 #[.pointer (some ⟨rg,0,none⟩),.int .u32 (k.1.ten:Int),.int .u16 (k.1.gn:Int)] (by go_simp) ((HK.out W hb).mono ?_)
        rintro e W1 ⟨v,rfl,ho,hb1⟩
        exact⟨_,rfl,⟨v,rfl,ho.lower hb.size⟩,hb1⟩
      · refine⟨rfl,TupB.mono _ _ _,fun a W hA hb hd=>takes_plain rfl ?_⟩
        obtain⟨v0,e0,ho⟩:=hd 11 (by simp) _ rfl
        have h0:a.tmps[47]?.getD undef = .tuple #[v0,.int .i64 ((0:Nat):Int)]:=(eval_get a 47).trans e0
        refine yields_value (.tuple #[v0,.int .i64 ((0:Nat):Int)]) ?_ ⟨v0,rfl,ho⟩
        go_simp
      · refine⟨rfl,OwR.mono _ _,fun a W hA hb hd=>takes_plain rfl ?_⟩
        obtain⟨v0,e0,ho⟩:=hd 12 (by simp) _ rfl
        have h0:a.tmps[35]?.getD undef = .tuple #[v0,.int .i64 ((0:Nat):Int)]:=(eval_get a 35).trans e0
        refine yields_value v0 ?_ ho
        go_simp
      · refine⟨rfl,IsR.mono _,fun a W hA hb hd=>takes_plain rfl ?_⟩
        obtain⟨v0,e0,ho⟩:=hd 12 (by simp) _ rfl
        have h0:a.tmps[35]?.getD undef = .tuple #[v0,.int .i64 ((0:Nat):Int)]:=(eval_get a 35).trans e0
        refine yields_value (.int .i64 (0:Int)) ?_ rfl
        go_simp
      · refine⟨rfl,OwR.mono _ _,fun a W hA hb hd=>takes_plain rfl ?_⟩
        have ho:OwB W w1.heap.size (a.eval (.tmp 48)) (key):=hd 13 (by simp) _ rfl
        exact yields_value (a.eval (.tmp 48)) (exec_assign (.tmp 48) rfl W) ho
      intro vs w2 hR hF hb
      have KV:Hid (OwB w2 w1.heap.size (vs 7) key):=Lib.hid (hR 15 _ rfl)
      have B2:=Lib.hid hb
      have e36:vs 36 = .pointer (some ⟨p,0,none⟩):=hR 0 _ rfl
      have e37:vs 37 = .pointer (some ⟨p,0,none⟩):=hR 1 _ rfl
      have e38:vs 38 = .pointer (some ⟨p,1,none⟩):=hR 2 _ rfl
      have e39:vs 39 = .pointer (some ⟨rg,0,none⟩):=hR 3 _ rfl
      have e40:vs 40 = .pointer (some ⟨wr.heap.size,0,none⟩):=hR 4 _ rfl
      have e41:vs 41 = .pointer (some ⟨wr.heap.size,0,none⟩):=hR 5 _ rfl
      have e42:vs 42 = .int .u32 (k.1.ten:Int):=hR 6 _ rfl
      have e43:vs 43 = .pointer (some ⟨wr.heap.size,0,none⟩):=hR 7 _ rfl
      have e44:vs 44 = .pointer (some ⟨wr.heap.size,3,none⟩):=hR 8 _ rfl
      have e45:vs 45 = .pointer (some ⟨wr.heap.size,5,none⟩):=hR 9 _ rfl
      have e46:vs 46 = .int .u16 (k.1.gn:Int):=hR 10 _ rfl
      have e49:vs 49 = .int .i64 (0:Int):=hR 14 _ rfl
      simp only[List.map_cons,List.map_nil,List.foldl_cons,List.foldl_nil,List.length_cons,List.length_nil,List.drop_succ_cons,List.drop_zero,Act.put,List.setIfInBounds_toArray,List.set_cons_zero,List.set_cons_succ,e36,e37,e38,e39,e40,e41,e42,e43,e44,e45,e46,e49]
      generalize vs 47=q47 at *
      generalize vs 35=q35 at *
      generalize vs 48=q48 at *
      clear hR hF hb e36 e37 e38 e39 e40 e41 e42 e43 e44 e45 e46 e49
      generalize vs 7=q7 at *
      have hko:KeyOk key:=by
       obtain⟨m,hm⟩:=J1.out.ri.rg
       exact hm.ne _ (getR_mem HG.out)
      have SP:Hid (sealP key k.1 k.2=((sealP key k.1 k.2).1,0)∧(sealP key k.1 k.2).1.length=256):=Lib.hid (seal_ok9 hko ND.out.2.2.1 (by have:=ND.out;omega) ND.out.2.1)
      obtain⟨kA,kc,rfl,_,_⟩:=KV.out.shape
      have j2:=J1.out.ab B2.out
      have kt:∀x,kA=some x→cutO Oa w1.heap.size x.block≠(0,2):=fun x hx e=>by
       subst hx
       rcases KV.out.own.2 with ⟨e1,_⟩ | ⟨g,cap,cur,e1,hge,_⟩
       · cases e1
       · injection e1 with e1 _ _
         injection e1 with e1
         subst e1
         rw[cutO_at hge] at e
         cases e
      have ki:=KV.out.isB rfl
      have xi:=IX.out.1.ab B2.out
      have xt:∀x,pA=some x→cutO Oa w1.heap.size x.block≠(0,2):=fun x hx e=>by
       have h1:=IX.out.2 x hx
       have h2:x.block<w1.heap.size:=isB_lt IX.out.1 (by have:=IX.out.1.len;have:=ND.out;omega) hx
       rw[cutO_old h2,h1] at e
       cases e
      have cbt:cutO Oa w1.heap.size wr.heap.size=(0,0):=(cutO_old CB.out.1.lt).trans CB.out.2
      have cb2:=CB.out.1.ab B2.out
      obtain⟨O2,hO2⟩:∃O2,cutO Oa w1.heap.size=O2:=⟨_,rfl⟩
      rw[hO2] at j2 kt xt cbt
      have J2:=Lib.hid j2
      have HS:Hid (∀W,Below w2.heap.size w2 W→Calls Tryz.prog 111 #[.pointer (some ⟨lg,0,none⟩),.slice kA key.length kc,.agg #[.int .u32 (k.1.ten:Int),.int .u8 (k.1.k:Int),.int .u8 (k.1.lv:Int),.int .u32 (k.1.pg:Int),.int .u64 (k.1.cm:Int),.int .u16 (k.1.gn:Int)],.slice pA pn pc] W fun e w'=>∃v,e = .returned v∧SlW w2.heap.size O2 lg (al++[⟨k.1,key,k.2,(sealP key k.1 k.2).1⟩]) (sealP key k.1 k.2).1 v w'∧Fr W w' (fun q=>q<w2.heap.size∧O2 q=(0,2))):=Lib.hid fun W hW=>logSealW J2.out.lo hW (by have:=J2.out.la;have:=BD.out;have:=NB.out;have:=HLT.out;omega) LK.out ki xi kt xt SP.out.1
      have CF:Hid (∀W,Fr w2 W (fun q=>O2 q=(0,2))→W.cell? ⟨p,2,none⟩=some (.pointer (some ⟨lg,0,none⟩))∧W.cell? ⟨wr.heap.size,0,none⟩=some (.int .u32 (k.1.ten:Int))∧W.cell? ⟨wr.heap.size,1,none⟩=some (.int .u8 (k.1.k:Int))∧W.cell? ⟨wr.heap.size,2,none⟩=some (.int .u8 (k.1.lv:Int))∧W.cell? ⟨wr.heap.size,3,none⟩=some (.int .u32 (k.1.pg:Int))∧W.cell? ⟨wr.heap.size,4,none⟩=some (.int .u64 (k.1.cm:Int))∧W.cell? ⟨wr.heap.size,5,none⟩=some (.int .u16 (k.1.gn:Int))∧W.cell? ⟨wr.heap.size,6,none⟩=some (.slice pA pn pc)):=Lib.hid fun W hW=>by
       obtain⟨b2,h2,rfl,rfl,rfl⟩:=J2.out.pg
       have hpos:=h2.pos
       have q1:=CbB.fr h2.box hW (fun e=>by rw[h2.tb] at e;injection e with e;omega)
       have q2:=cb2.fr hW (fun e=>by rw[cbt] at e;cases e)
       exact⟨q1.cell (k:=2) rfl,q2.cell (k:=0) rfl,q2.cell (k:=1) rfl,q2.cell (k:=2) rfl,q2.cell (k:=3) rfl,q2.cell (k:=4) rfl,q2.cell (k:=5) rfl,q2.cell (k:=6) rfl⟩
      have C0:Hid (∀W,Fr w2 W (fun q=>O2 q=(0,2))→W.cell? ⟨p,0,none⟩=some (.pointer (some ⟨d,0,none⟩))):=Lib.hid fun W hW=>by
       obtain⟨b2,h2,rfl,rfl,rfl⟩:=J2.out.pg
       have hpos:=h2.pos
       exact (CbB.fr h2.box hW (fun e=>by rw[h2.tb] at e;injection e with e;omega)).cell (k:=0) rfl
      clear j2 kt ki xi xt cbt cb2 hO2 hko CP CK HK
      go_wp2_with fail
      refine wp_wide5 (fun i q=>i=9∧q<w2.heap.size∧O2 q=(0,2)) [⟨56,IsR (.pointer (some ⟨p,0,none⟩)),[],false⟩,⟨57,IsR (.pointer (some ⟨p,0,none⟩)),[0],false⟩,⟨58,IsR (.pointer (some ⟨p,2,none⟩)),[1],false⟩,⟨59,IsR (.pointer (some ⟨lg,0,none⟩)),[2],false⟩,⟨60,IsR (.slice kA key.length kc),[],false⟩,⟨61,IsR (.pointer (some ⟨wr.heap.size,0,none⟩)),[],false⟩,⟨62,IsR (.agg #[.int .u32 (k.1.ten:Int),.int .u8 (k.1.k:Int),.int .u8 (k.1.lv:Int),.int .u32 (k.1.pg:Int),.int .u64 (k.1.cm:Int),.int .u16 (k.1.gn:Int)]),[5],false⟩,⟨63,IsR (.pointer (some ⟨wr.heap.size,6,none⟩)),[],false⟩,⟨64,IsR (.slice pA pn pc),[7],false⟩,⟨65,SlW w2.heap.size O2 lg (al++[⟨k.1,key,k.2,(sealP key k.1 k.2).1⟩]) (sealP key k.1 k.2).1,[3,4,6,8],false⟩,⟨55,TupB w2.heap.size 0 ((sealP key k.1 k.2).1),[9],false⟩,⟨66,OwR w2.heap.size ((sealP key k.1 k.2).1),[10],false⟩,⟨67,IsR (.int .i64 (0:Int)),[10],false⟩,⟨9,OwR w2.heap.size ((sealP key k.1 k.2).1),[11],false⟩] (by kernel_rfl) (by kernel_rfl) rfl rfl rfl ⟨?_,?_,?_,?_,?_,?_,?_,?_,?_,?_,?_,?_,?_,?_,trivial⟩ ?_
      · refine⟨rfl,IsR.monoF _ _,fun a W hA hb hd=>Takes.to5 (takes_plain rfl (yields_value _ ?_ rfl)) _⟩
        have h0:a.tmps[0]?.getD undef = .pointer (some ⟨p,0,none⟩):=(eval_get a 0).trans ((hA.eval (by simp)).trans rfl)
        go_simp
      · refine⟨rfl,IsR.monoF _ _,fun a W hA hb hd=>Takes.to5 (takes_plain rfl (yields_value _ ?_ rfl)) _⟩
        have h56:a.tmps[56]?.getD undef = .pointer (some ⟨p,0,none⟩):=(eval_get a 56).trans (hd 0 (by simp) _ rfl)
        go_simp
      · refine⟨rfl,IsR.monoF _ _,fun a W hA hb hd=>Takes.to5 (takes_plain rfl (yields_value _ ?_ rfl)) _⟩
        have h57:a.tmps[57]?.getD undef = .pointer (some ⟨p,0,none⟩):=(eval_get a 57).trans (hd 1 (by simp) _ rfl)
        go_simp
      · refine⟨rfl,IsR.monoF _ _,fun a W hA hb hd=>Takes.to5 (takes_plain rfl (yields_value _ ?_ rfl)) _⟩
        have h58:a.tmps[58]?.getD undef = .pointer (some ⟨p,2,none⟩):=(eval_get a 58).trans (hd 2 (by simp) _ rfl)
        have hc:=(CF.out W (hb.imp fun q ⟨j,_,_,_,hj⟩=>hj)).1
        go_simp
      · refine⟨rfl,IsR.monoF _ _,fun a W hA hb hd=>Takes.to5 (takes_plain rfl (yields_value _ ?_ rfl)) _⟩
        have h7:a.tmps[7]?.getD undef = .slice kA key.length kc:=(eval_get a 7).trans ((hA.eval (by simp)).trans rfl)
        go_simp
      · refine⟨rfl,IsR.monoF _ _,fun a W hA hb hd=>Takes.to5 (takes_plain rfl (yields_value _ ?_ rfl)) _⟩
        have h6:a.tmps[6]?.getD undef = .pointer (some ⟨wr.heap.size,0,none⟩):=(eval_get a 6).trans ((hA.eval (by simp)).trans rfl)
        go_simp
      · refine⟨rfl,IsR.monoF _ _,fun a W hA hb hd=>Takes.to5 (takes_plain rfl (yields_value _ ?_ rfl)) _⟩
        have h61:a.tmps[61]?.getD undef = .pointer (some ⟨wr.heap.size,0,none⟩):=(eval_get a 61).trans (hd 5 (by simp) _ rfl)
        obtain⟨_,hc0,hc1,hc2,hc3,hc4,hc5,_⟩:=CF.out W (hb.imp fun q ⟨j,_,_,_,hj⟩=>hj)
        go_simp
      · refine⟨rfl,IsR.monoF _ _,fun a W hA hb hd=>Takes.to5 (takes_plain rfl (yields_value _ ?_ rfl)) _⟩
        have h6:a.tmps[6]?.getD undef = .pointer (some ⟨wr.heap.size,0,none⟩):=(eval_get a 6).trans ((hA.eval (by simp)).trans rfl)
        go_simp
      · refine⟨rfl,IsR.monoF _ _,fun a W hA hb hd=>Takes.to5 (takes_plain rfl (yields_value _ ?_ rfl)) _⟩
        have h63:a.tmps[63]?.getD undef = .pointer (some ⟨wr.heap.size,6,none⟩):=(eval_get a 63).trans (hd 7 (by simp) _ rfl)
        have hc:=(CF.out W (hb.imp fun q ⟨j,_,_,_,hj⟩=>hj)).2.2.2.2.2.2.2
        go_simp
      · refine⟨rfl,fun v W W1 h hf=>SlW.ab h ⟨hf.os,hf.tape,hf.output,hf.size,fun q hq=>hf.block q hq (fun ⟨j,hj,hj2,_⟩=>hj hj2)⟩,fun a W hA hb hd=>takes5_plain rfl ?_⟩
        have h59:a.tmps[59]?.getD undef = .pointer (some ⟨lg,0,none⟩):=(eval_get a 59).trans (hd 3 (by simp) _ rfl)
        have h60:a.tmps[60]?.getD undef = .slice kA key.length kc:=(eval_get a 60).trans (hd 4 (by simp) _ rfl)
        have h62:a.tmps[62]?.getD undef = .agg #[.int .u32 (k.1.ten:Int),.int .u8 (k.1.k:Int),.int .u8 (k.1.lv:Int),.int .u32 (k.1.pg:Int),.int .u64 (k.1.cm:Int),.int .u16 (k.1.gn:Int)]:=(eval_get a 62).trans (hd 6 (by simp) _ rfl)
        have h64:a.tmps[64]?.getD undef = .slice pA pn pc:=(eval_get a 64).trans (hd 8 (by simp) _ rfl)
        refine .inr ⟨111,#[.pointer (some ⟨lg,0,none⟩),.slice kA key.length kc,.agg #[.int .u32 (k.1.ten:Int),.int .u8 (k.1.k:Int),.int .u8 (k.1.lv:Int),.int .u32 (k.1.pg:Int),.int .u64 (k.1.cm:Int),.int .u16 (k.1.gn:Int)],.slice pA pn pc],by go_simp,(HS.out W ⟨hb.os,hb.tape,hb.output,hb.size,fun q hq=>hb.block q hq (fun ⟨j,hj,hj2,_⟩=>hj hj2)⟩).mono ?_⟩
        rintro e W1 ⟨v,rfl,hs,hf⟩
        exact⟨v,rfl,hs,hf.imp fun q hq=>⟨rfl,hq⟩⟩
      · refine⟨rfl,fun v W W1 h hf=>by obtain⟨v0,h1,h2⟩:=h;exact⟨v0,h1,h2.fr hf (fun q hq ⟨j,_,_,hj⟩=>by have:=own_ge9 h2.own q hq;omega)⟩,fun a W hA hb hd=>takes5_plain rfl ?_⟩
        obtain⟨v0,e0,ho⟩:=tup_of (hd 9 (by simp) _ rfl)
        have h0:a.tmps[65]?.getD undef = .tuple #[v0,.int .i64 ((0:Nat):Int)]:=(eval_get a 65).trans e0
        refine Yields.to5 (yields_value (.tuple #[v0,.int .i64 ((0:Nat):Int)]) ?_ ⟨v0,rfl,ho⟩) _
        go_simp
      · refine⟨rfl,fun v W W1 h hf=>OwB.fr h hf (fun q hq ⟨j,_,_,hj⟩=>by have:=own_ge9 (OwB.own h) q hq;omega),fun a W hA hb hd=>takes5_plain rfl ?_⟩
        obtain⟨v0,e0,ho⟩:=hd 10 (by simp) _ rfl
        have h0:a.tmps[55]?.getD undef = .tuple #[v0,.int .i64 ((0:Nat):Int)]:=(eval_get a 55).trans e0
        refine Yields.to5 (yields_value v0 ?_ ho) _
        go_simp
      · refine⟨rfl,IsR.monoF _ _,fun a W hA hb hd=>takes5_plain rfl ?_⟩
        obtain⟨v0,e0,ho⟩:=hd 10 (by simp) _ rfl
        have h0:a.tmps[55]?.getD undef = .tuple #[v0,.int .i64 ((0:Nat):Int)]:=(eval_get a 55).trans e0
        refine Yields.to5 (yields_value (.int .i64 (0:Int)) ?_ rfl) _
        go_simp
      · refine⟨rfl,fun v W W1 h hf=>OwB.fr h hf (fun q hq ⟨j,_,_,hj⟩=>by have:=own_ge9 (OwB.own h) q hq;omega),fun a W hA hb hd=>takes5_plain rfl ?_⟩
        have ho:OwB W w2.heap.size (a.eval (.tmp 66)) ((sealP key k.1 k.2).1):=hd 11 (by simp) _ rfl
        exact Yields.to5 (yields_value (a.eval (.tmp 66)) (exec_assign (.tmp 66) rfl W) ho) _
      intro vt w3 hR hb
      have SW:Hid (SlW w2.heap.size O2 lg (al++[⟨k.1,key,k.2,(sealP key k.1 k.2).1⟩]) (sealP key k.1 k.2).1 (vt 65) w3):=Lib.hid (hR 9 _ rfl)
      have BV:Hid (OwB w3 w2.heap.size (vt 9) (sealP key k.1 k.2).1):=Lib.hid (hR 13 _ rfl)
      have FW:Hid (Fr w2 w3 (fun q=>O2 q=(0,2))):=Lib.hid (hb.imp fun q ⟨j,_,_,hj⟩=>hj)
      have e56:vt 56 = .pointer (some ⟨p,0,none⟩):=hR 0 _ rfl
      have e57:vt 57 = .pointer (some ⟨p,0,none⟩):=hR 1 _ rfl
      have e58:vt 58 = .pointer (some ⟨p,2,none⟩):=hR 2 _ rfl
      have e59:vt 59 = .pointer (some ⟨lg,0,none⟩):=hR 3 _ rfl
      have e60:vt 60 = .slice kA key.length kc:=hR 4 _ rfl
      have e61:vt 61 = .pointer (some ⟨wr.heap.size,0,none⟩):=hR 5 _ rfl
      have e62:vt 62 = .agg #[.int .u32 (k.1.ten:Int),.int .u8 (k.1.k:Int),.int .u8 (k.1.lv:Int),.int .u32 (k.1.pg:Int),.int .u64 (k.1.cm:Int),.int .u16 (k.1.gn:Int)]:=hR 6 _ rfl
      have e63:vt 63 = .pointer (some ⟨wr.heap.size,6,none⟩):=hR 7 _ rfl
      have e64:vt 64 = .slice pA pn pc:=hR 8 _ rfl
      have e67:vt 67 = .int .i64 (0:Int):=hR 12 _ rfl
      simp only[List.map_cons,List.map_nil,List.foldl_cons,List.foldl_nil,List.length_cons,List.length_nil,List.drop_succ_cons,List.drop_zero,Act.put,List.setIfInBounds_toArray,List.set_cons_zero,List.set_cons_succ,e56,e57,e58,e59,e60,e61,e62,e63,e64,e67]
      generalize vt 65=q65 at *
      generalize vt 55=q55 at *
      generalize vt 66=q66 at *
      clear hR hb e56 e57 e58 e59 e60 e61 e62 e63 e64 e67
      generalize vt 9=q9 at *
      obtain⟨O3,lo3,hO3,bt3⟩:=SW.out.own BV.out
      have s3:Wr (fun τ=>τ=(0,2)) w2 O2 w3 O3:=⟨FW.out,hO3⟩
      have dv3:=J2.out.dv.wr s3 (fun e=>by cases e)
      obtain⟨bA,bc,hq9,_,_⟩:=BV.out.shape
      subst hq9
      rw[SP.out.2]
      have bi:IsB w3 bA 256 bc (sealP key k.1 k.2).1:=by
       have:=BV.out.isB rfl
       rwa [SP.out.2] at this
      have bx:∀x,bA=some x→O3 x.block≠(0,1):=fun x hx e=>by
       subst hx
       rcases BV.out.own.2 with ⟨e1,_⟩ | ⟨g,cap,cur,e1,hge,_⟩
       · cases e1
       · injection e1 with e1 _ _
         injection e1 with e1
         subst e1
         rw[bt3 _ rfl] at e
         cases e
      have hok1:=J2.out.ok
      have p0:=C0.out w3 FW.out
      have WR:=Lib.hid (writeM dv3 hok1 (by have:=J2.out.st;have:=BD.out;have:=HLT.out;have:=NB.out;omega) (by have:=J2.out.ws;have:=BD.out;have:=HLT.out;have:=NB.out;omega) (i:=n) (by rw[J2.out.n];exact ND.out.1) bi bx)
      have S3:=Lib.hid s3
      have LO3:=Lib.hid lo3
      have BB:Hid (Byt (sealP key k.1 k.2).1):=Lib.hid BV.out.byt
      clear s3 lo3 hO3 bt3 dv3 bi bx hok1 CF C0 HS
      go_wp2_with fail
      refine WR.out.mono ?_
      rintro e w4 ⟨O4,rfl,dv4,s4⟩
      obtain⟨ew,hew⟩:∃ew,(writeD D1 n (sealP key k.1 k.2).1).1=ew:=⟨_,rfl⟩
      have we:=writeD_err D1 n (sealP key k.1 k.2).1
      rw[hew] at we⊢
      have J4:=Lib.hid (FlI.step J2.out (S3.out.imp fun τ h=>.inr h) (s4.imp fun τ h=>.inl h) dv4 (LO3.out.wr s4 (fun e=>by cases e)) (writeD_ok J2.out.ok (by rw[J2.out.n];exact ND.out.1) SP.out.2 BB.out) (writeD_st D1 n (sealP key k.1 k.2).1))
      have EW:=Lib.hid hew
      have WE:=Lib.hid we
      clear dv4 s4 hew we WR p0
      by_cases hw0:ew=0
      · have hwz:(ew:Int)=0:=by omega
        rw[hwz]
        have HW0:=Lib.hid hw0
        clear hw0 hwz
        go_wp2_with fail
        go_roundw
        case rel=>
         refine⟨i+1,O4,_,_,HLT.out,by go_num,J4.out.1 ?_⟩
         rw[drop_cons9 LI.out]
         conv=>lhs;unfold flushF flush1
         rw[KN.out]
         simp only
         rw[HG.out]
         simp only
         rw[EW.out,HW0.out]
        case measure=>simp[intOf];have:=HLT.out;omega
      · have e0:¬(ew:Int)=0:=by omega
        have e1:((ew:Int) != 0)=true:=by simp;omega
        have HW0:=Lib.hid hw0
        clear hw0
        go_wp2_with fail
        refine (failM J4.out.2.1 HF.out ew WE.out).mono ?_
        rintro e w' ⟨rfl,hp,hw⟩
        have PG:=Lib.hid hp
        have PW:=Lib.hid hw
        clear hp hw
        go_wp2_with fail
        go_ret
        have hpos:=J2.out.pos
        obtain⟨em,hem⟩:∃em,ew=em+1:=⟨ew-1,by have:=HW0.out;omega⟩
        have hq:flushF R T.kn L D all=(ew,(writeD D1 n (sealP key k.1 k.2).1).2,al++[⟨k.1,key,k.2,(sealP key k.1 k.2).1⟩]):=J2.out.eq.trans (by
         rw[drop_cons9 LI.out]
         unfold flushF flush1
         rw[KN.out]
         simp only
         rw[HG.out]
         simp only
         rw[EW.out,hem])
        rw[FE.out _ hq]
        have hpg:=PG.out
        rw[decide_eq_false HW0.out] at hpg
        subst hem
        exact⟨_,rfl,hpg,J4.out.2.2.1.wr PW.out (fun e=>by injection e with e;omega),J4.out.2.2.2.1.wr PW.out (fun e=>by injection e with e;omega),(J4.out.2.2.2.2.imp fun τ hτ=>hτ.imp id .inl).tr (PW.out.imp fun τ hτ=>.inr (.inr hτ))⟩
  · obtain rfl:i=nl:=by omega
    clear hlt hi
    have hpos:=I1.out.pos
    obtain⟨b2,hN2,hbd,hbr,hbl⟩:=I1.out.pg
    have c11:wr.cell? ⟨p,11,none⟩=some (.bool T.fl):=CbB.cell hN2.box (k:=11) rfl
    have f11:wr.frozen? ⟨p,11,none⟩=false:=CbB.free hN2.box 11
    have s1:Wr (fun τ=>τ=(p,1)) wr O1 (wr.setCell ⟨p,11,none⟩ (.bool true)) O1:=⟨(fr_setD wr p 11 _).imp fun q hq=>by rw[hq];exact hN2.tb,fun _ _=>rfl⟩
    have n2:PgM (wr.setCell ⟨p,11,none⟩ (.bool true)) O1 p d rg lg { T with fl:=true }:=⟨_,hN2.upd (T':={ T with fl:=true }) (v:=b2.fv) s1 (CbB.set hN2.box 11 (.bool true)) (row_fr hN2.free (fr_setD wr p 11 _) (fun q hq e=>by
     have h1:=hN2.tf q hq
     rw[e,hN2.tb] at h1
     injection h1 with h1
     omega)) hN2.tf rfl rfl rfl rfl rfl hN2.rgt hN2.okr hN2.num hN2.cmo id,hbd,hbr,hbl⟩
    have c0:(wr.setCell ⟨p,11,none⟩ (.bool true)).cell? ⟨p,0,none⟩=some (.pointer (some ⟨d,0,none⟩)):=by rw[←hbd];exact (CbB.set hN2.box 11 (.bool true)).cell (k:=0) rfl
    have d2:=I1.out.dv.wr s1 (fun e=>by injection e with e;omega)
    have l2:=I1.out.lo.wr s1 (fun e=>by injection e with e;omega)
    have SY:=Lib.hid (syncM d2 I1.out.ok (by have:=I1.out.st;have:=BD.out;have:=NB.out;omega))
    have N2:=Lib.hid n2
    have L2:=Lib.hid l2
    have S1:=Lib.hid s1
    have FQ:Hid (flushF R T.kn L D all=(0,D1,al)):=Lib.hid (I1.out.eq.trans (by rw[List.drop_eq_nil_of_le (by rw[NL.out];exact Nat.le_refl _)];rfl))
    have W1:=Lib.hid I1.out.wr
    have SE:=Lib.hid (syncD_err D1)
    have HP:=Lib.hid hpos
    clear hpos hN2 hbd hbr hbl s1 n2 d2 l2 I1
    go_wp2_with fail
    refine SY.out.mono ?_
    rintro e w4 ⟨O4,rfl,dv4,s4⟩
    have n4:=N2.out.wr s4 (fun i e=>by have:=HP.out;injection e with e;omega) (fun e=>by cases e)
    have DV4:=Lib.hid dv4
    have S4:=Lib.hid s4
    have L4:=Lib.hid (L2.out.wr s4 (fun e=>by cases e))
    have FM:=Lib.hid (failM n4 HF.out (syncD D1).1 SE.out)
    clear dv4 s4 n4 SY
    go_wp2_with fail
    refine FM.out.mono ?_
    rintro e w5 ⟨rfl,hp,hw⟩
    have PG:=Lib.hid hp
    have PW:=Lib.hid hw
    clear hp hw FM
    go_wp2_with fail
    go_ret
    have hpos:=HP.out
    rw[FE.out _ FQ.out]
    exact⟨_,rfl,PG.out,DV4.out.wr PW.out (fun e=>by injection e with e;omega),L4.out.wr PW.out (fun e=>by injection e with e;omega),(((W1.out.imp fun τ hτ=>hτ.imp id .inl).tr (S1.out.imp fun τ hτ=>.inr (.inr hτ))).tr (S4.out.imp fun τ hτ=>.inl hτ)).tr (PW.out.imp fun τ hτ=>.inr (.inr hτ))⟩
theorem fr_row9 (w:World) (g:Nat) (cs:Array Value):w.grownBy (w.setRow g cs) (some g):=⟨rfl,rfl,rfl,by simp,fun i _ hn=>setRow_other w g i cs (fun e=>hn (by rw[e]))⟩
def stO (w:World) (N m:Nat):Tgm:=fun k=>if k<N then (0,9) else match w.heap[k]? with
 | some (.cells _ T _)=>if T=141∨T=148∨T=174 then (0,1) else if T=157∨T=159 then (0,2) else if T=191 then (0,3) else (0,0)
 | some (.map _ _)=>if k=m then (0,3) else (0,0)
 | _=>(0,0)
theorem stO_c {w:World} {N m k:Nat} {cs:Array Value} {T:TypeId} {fr:Nat×Nat} (hN:N≤k) (h:w.heap[k]? = some (.cells cs T fr)):stO w N m k=(if T=141∨T=148∨T=174 then (0,1) else if T=157∨T=159 then (0,2) else if T=191 then (0,3) else (0,0)):=by unfold stO;rw[if_neg (by omega),h]
theorem stO_low {w:World} {N m k:Nat} (h:k<N):stO w N m k=(0,9):=by unfold stO;rw[if_pos h]
theorem row_ty9 {w:World} {B n s:Nat} {e:TypeId} {v:Value} {xs:List Value} (h:w.ownsRow B e s v n xs):∀k,v.ownBlock=some k→∃cs fr,w.heap[k]? = some (.cells cs e fr):=fun k hk=>by
 rcases h.2 with ⟨rfl,_⟩ | ⟨g,cap,cur,rfl,_,hb,_⟩
 · cases hk
 · simp only[Value.ownBlock,Option.some.injEq] at hk
   subst hk
   exact⟨_,_,hb⟩
theorem RgV.low0 {w:World} {B:Nat}:∀{vs:List ((Nat×Nat)×Value)} {l:RgL},RgV w B vs l→RgV w 0 vs l
 | [],[],_=>trivial
 | p::ps,q::qs,h=>⟨⟨h.1.1,h.1.2.lower (Nat.zero_le _)⟩,RgV.low0 h.2⟩
 | [],_::_,h=>h.elim
 | _::_,[],h=>h.elim
def newD (b:Nat):DvS:=⟨b,zeros (b*256),zeros (b*256),[],0,0,-1,false⟩
theorem newD_ok {b:Nat} (h8:8≤b) (h4:b≤4096):(newD b).Ok where
 n8:=h8
 n4:=h4
 now:=by simp[newD,zeros]
 firm:=by simp[newD,zeros]
 bnow:=fun x hx=>by simp[newD,zeros] at hx;omega
 bfirm:=fun x hx=>by simp[newD,zeros] at hx;omega
 ws:=fun x hx=>by cases hx
 cut:=⟨by show (-1:Int)≤-1;decide,by show (-1:Int)≤9223372036854775807;decide⟩
 fail:=by show 0≤9223372036854775807;decide
theorem DkN.ds {w:World} {B d b g1 g2:Nat} (h:DkN w B d b g1 g2):DsB w B d g1 g2 (.slice none 0 0) (newD b):=
 ⟨h.box,h.now,h.firm,World.ownsRow_nil _ _ _ _,h.ne,h.low⟩
theorem RgV.lowr {w:World} {B C:Nat} (hC:C≤B):∀{vs:List ((Nat×Nat)×Value)} {l:RgL},RgV w B vs l→RgV w C vs l
 | [],[],_=>trivial
 | p::ps,q::qs,h=>⟨⟨h.1.1,h.1.2.lower hC⟩,RgV.lowr hC h.2⟩
 | [],_::_,h=>h.elim
 | _::_,[],h=>h.elim
theorem RgB.lowr {w:World} {B C g m:Nat} {l:RgL} (h:RgB w B g m l) (hC:C≤B):RgB w C g m l:=by
 obtain⟨vs,h1,h2⟩:=h.map
 exact⟨h.box,Nat.le_trans hC h.low,⟨vs,h1,h2.lowr hC⟩,h.ne⟩
def beginT (T:PgP) (n:Nat):PgP:={ T with cm:=n,la:=n,fl:=false,pu:=[],dr:=[] }
section
variable {w:World} {O:Tgm} {p d rg lg:Nat} {T:PgP}
theorem beginM {n:Nat} (h:PgM w O p d rg lg T) (hn:n<18446744073709551616) (hf:T.fa=false) (h0:T.cm=0) (hl:T.la<n):
 Calls Tryz.prog 54 #[.pointer (some ⟨p,0,none⟩),.int .u64 (n:Int)] w fun e w'=>∃O',e = .returned (.int .i64 0)∧PgM w' O' p d rg lg (beginT T n)∧Wr (fun τ=>τ=(p,1)) w O w' O':=by
 obtain⟨b,hN,rfl,rfl,rfl⟩:=h
 refine (begin_ok n hn hN.box hf h0 hl).mono ?_
 rintro e w' ⟨a,c,rfl,hbx,ha,hc,ga,gc,hac,hfr⟩
 have hO:∀k,k<w.heap.size→(fun k=>if k<w.heap.size then O k else if k=a then (p,4) else if k=c then (p,5) else (0,0)) k=O k:=fun k hk=>if_pos hk
 have s:Wr (fun τ=>τ=(p,1)) w O w' (fun k=>if k<w.heap.size then O k else if k=a then (p,4) else if k=c then (p,5) else (0,0)):=⟨hfr.imp fun q hq=>by rw[hq];exact hN.tb,hO⟩
 have hp:=hN.pos
 have fz:=fun (k:Nat) (i:Nat) (hi:i≠1) (e:O k=(p,i)) (q:O k=(p,1))=>hi (by rw[e] at q;injection q)
 have f0:¬((0:Nat),(0:Nat))=(p,1):=fun e=>by injection e with e;omega
 obtain⟨vs,k1,k2⟩:=hN.kn
 have ta:(fun k=>if k<w.heap.size then O k else if k=a then (p,4) else if k=c then (p,5) else (0,0)) a=(p,4):=by dsimp only;rw[if_neg (by omega),if_pos rfl]
 have tc:(fun k=>if k<w.heap.size then O k else if k=a then (p,4) else if k=c then (p,5) else (0,0)) c=(p,5):=by dsimp only;rw[if_neg (by omega),if_neg (by omega),if_pos rfl]
 refine⟨_,rfl,⟨{ b with pv:=.map (some a),dv:=.map (some c) },?_,rfl,rfl,rfl⟩,s⟩
 exact {
  box:=hbx
  pos:=hN.pos
  tb:=(s.tg _ (CbB.lt hN.box)).trans hN.tb
  free:=row_fr hN.free s.fr (fun k hk e=>f0 (by rw[←hN.tf k hk];exact e))
  tf:=fun k hk=>(s.tg _ (row_ltD hN.free k hk)).trans (hN.tf k hk)
  kn:=⟨vs,k1.same (s.fr.block _ k1.lt (fz _ 2 (by decide) hN.tk)),k2.imp fun v a t hv=>hv.wr s f0⟩
  tk:=(s.tg _ k1.lt).trans hN.tk
  wa:=hN.wa.same (s.fr.block _ hN.wa.lt (fz _ 3 (by decide) hN.tw))
  tw:=(s.tg _ hN.wa.lt).trans hN.tw
  pu:=.inr ⟨a,rfl,ha,ta⟩
  dr:=.inr ⟨c,rfl,hc,tc⟩
  pi:=hN.pi.same (s.fr.block _ hN.pi.lt (fz _ 6 (by decide) hN.ti))
  ti:=(s.tg _ hN.pi.lt).trans hN.ti
  rgt:=hN.rgt
  okr:=hN.okr
  num:=hN.num
  cmo:=⟨hn,hn⟩
  opn:=fun _=>⟨⟨a,rfl⟩,⟨c,rfl⟩⟩ }
set_option maxRecDepth 100000 in
theorem blank_none (c:Nat) (A:Option Addr) (w:World):Calls Tryz.prog 134 #[.pointer (some ⟨p,0,none⟩),.slice A 0 c] w fun e w'=>e = .returned (.int .i64 0)∧Below w.heap.size w w':=by
 go_enter Tryz.func134,Tryz.ntmps134
 go_wp2_with fail
 go_loopw [10] (fun z wx=>z = .int .i64 0∧wx=w) (fun z _=>0)
 case atStart=>exact⟨rfl,rfl⟩
 case round=>
  obtain⟨rfl,rfl⟩:=hrel
  go_wp2_with fail
  go_ret
  exact⟨rfl,Below.refl _ _⟩
set_option maxRecDepth 100000 in
theorem scrub_none (h:PgM w O p d rg lg T) (hf:T.fa=false) (ho:T.cm=0∨T.fl=true) (hw:T.wa=[]):Calls Tryz.prog 78 #[.pointer (some ⟨p,0,none⟩)] w fun e w'=>∃O',e = .returned (.int .i64 0)∧PgM w' O' p d rg lg { T with cm:=0 }∧Wr (fun τ=>τ=(p,1)) w O w' O':=by
 have HF:=Lib.hid hf
 have HM0:=Lib.hid h
 obtain⟨b,hN,rfl,rfl,rfl⟩:=h
 have HM:=Lib.hid (may_any hN.box)
 rw[show mayP (pcS b T)=0 from by unfold mayP pcS;rw[hf];rfl] at HM
 have HO:=Lib.hid (open_any hN.box)
 rw[show openB (pcS b T)=false from by unfold openB pcS;rcases ho with e | e <;> simp[e]] at HO
 have c5:w.cell? ⟨p,5,none⟩=some (.map (some b.mw)):=CbB.cell hN.box (k:=5) rfl
 have RI:=Lib.hid (rising_any b.mw T.wa w hN.wa (by rw[hw];decide))
 rw[hw] at RI
 simp only[List.map_nil,show U32.srt []=[] from by simp[U32.srt]] at RI
 clear hf ho hw hN
 go_enter Tryz.func78,Tryz.ntmps78
 go_wp2_with fail
 refine HM.out.mono ?_
 rintro e w1 ⟨rfl,rfl⟩
 go_wp2_with fail
 refine HO.out.mono ?_
 rintro e w1 ⟨rfl,rfl⟩
 go_wp2_with fail
 refine RI.out.mono ?_
 rintro e w2 ⟨v,rfl,hv,hb⟩
 obtain⟨A2,c2,rfl⟩:=row_shape hv
 have M2:=Lib.hid (HM0.out.wr (Wr.cut (O:=O) hb (fun _=>False)) (fun _=>id) id)
 have S2:=Lib.hid (Wr.cut (O:=O) hb (fun _=>False))
 clear hv hb HM HO RI c5
 go_wp2_with fail
 go_loopw [4,23] (fun z1 z2 wx=>z1 = .slice none 0 0∧z2 = .int .i64 0∧w2=wx) (fun _ _ _=>0)
 case atStart=>exact⟨rfl,rfl,rfl⟩
 case round=>
  obtain⟨rfl,rfl,rfl⟩:=hrel
  go_wp2_with fail
  refine (blank_none 0 none _).mono ?_
  rintro e w3 ⟨rfl,hb3⟩
  have M3:=Lib.hid (M2.out.wr (Wr.cut hb3 (fun _=>False)) (fun _=>id) id)
  have S3:=Lib.hid (S2.out.tr (Wr.cut hb3 (fun _=>False)))
  clear hb3
  go_wp2_with fail
  refine (failM M3.out HF.out 0 (by decide)).mono ?_
  rintro e w4 ⟨rfl,hp4,hw4⟩
  rw[show ({ T with fa:=!decide ((0:Nat)=0) }:PgP)=T from by rw[←show T.fa = !decide ((0:Nat)=0) from HF.out]] at hp4
  obtain⟨b4,hN4,e1,e2,e3⟩:=hp4
  have c9:w4.cell? ⟨p,9,none⟩=some (.int .u64 (T.cm:Int)):=CbB.cell hN4.box (k:=9) rfl
  have f9:w4.frozen? ⟨p,9,none⟩=false:=CbB.free hN4.box 9
  have N4:=Lib.hid hN4
  have E4:=Lib.hid (And.intro e1 (And.intro e2 e3))
  have S4:=Lib.hid hw4
  clear hN4 e1 e2 e3 hw4
  go_wp2_with fail
  go_loopw [49] (fun z wx=>z = .int .i64 0∧w4=wx) (fun _ _=>0)
  case atStart=>exact⟨rfl,rfl⟩
  case round=>
   obtain⟨rfl,rfl⟩:=hrel
   go_wp2_with fail
   go_ret
   have s5:Wr (fun τ=>τ=(p,1)) w4 (cutO (cutO O w.heap.size) w2.heap.size) (w4.setCell ⟨p,9,none⟩ (.int .u64 0)) (cutO (cutO O w.heap.size) w2.heap.size):=⟨(fr_setD w4 p 9 _).imp fun q hq=>by rw[hq];exact N4.out.tb,fun _ _=>rfl⟩
   refine⟨_,rfl,⟨_,N4.out.upd (T':={ T with cm:=0 }) (v:=b4.fv) s5 (CbB.set N4.out.box 9 (.int .u64 0)) (row_fr N4.out.free (fr_setD w4 p 9 _) (fun q hq e=>?_)) N4.out.tf rfl rfl rfl rfl rfl N4.out.rgt N4.out.okr N4.out.num ⟨show 0<18446744073709551616 by decide,N4.out.cmo.2⟩ (fun e=>absurd rfl e),E4.out.1,E4.out.2.1,E4.out.2.2⟩,((S3.out.imp fun _=>False.elim).tr S4.out).tr s5⟩
   have h1:=N4.out.tf q hq
   rw[e,N4.out.tb] at h1
   have:=N4.out.pos
   injection h1 with h1
   omega
end
theorem CbB.wr {P:Nat×Nat→Prop} {w w':World} {O O':Tgm} {k:Nat} {T:TypeId} {cs:Array Value} (h:CbB w k T cs) (ht:O k=(0,0)) (s:Wr P w O w' O') (hn:¬P (0,0)):CbB w' k T cs∧O' k=(0,0):=⟨CbB.fr h s.fr (fun e=>hn (by rw[←ht];exact e)),(s.tg _ h.lt).trans ht⟩
theorem sealP_byt {key text:List Nat} {l:Lb} (hb:Byt key) (ht:Byt text) (hl:l.Ok):Byt (sealP key l text).1:=by
 unfold sealP
 split
 · next h=>exact byt_app (headL_byt l hl) (byt_app (cryptA_byt h.1.1 hb (flatN_byt _) ht) (tagA_byt h.1.1 hb (flatN_byt _)))
 · exact fun x hx=>by cases hx
end Go.Proofs.YtlobgddnlnffbaaGreat
