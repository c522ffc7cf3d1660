/-
  Parts of the proof, joined.
-/
import Derived.Test.YtljmiiiidjeggaaGreatBdk
import Derived.Test.YtljmiiiidjeggaaGreatBdj
import Derived.Deep.QuietTactic
import Derived.BigQuiet
namespace Go.Proofs.YtljmiiiidjeggaaGreat
set_option maxHeartbeats 4000000
open Go.RowKit
set_option linter.unusedVariables false
set_option linter.unusedSimpArgs false
def u32Vp (n:Nat):Value:=.int .u32 (n:Int)
def u32Okp (n:Nat):Prop:=n<4294967296
theorem u32p_wf {n:Nat} (h:u32Okp n):(Lit.int .u32 (n:Int)).wf=true:=by
 unfold u32Okp at h
 have e3:IntKind.u32.min=0:=rfl
 have e4:IntKind.u32.max=4294967295:=rfl
 simp only[Lit.wf,Bool.and_eq_true,decide_eq_true_eq]
 omega
theorem u32p_K:KeyK Tryz.prog 27 u32Vp u32Okp where
 keyed:=Maps.int_keyed Tryz.underlying27
 of:=fun h=>⟨_,Maps.keyOf_int_mk Tryz.underlying27 (u32p_wf h)⟩
 inj:=fun {x y} h=>by
  unfold u32Vp at h
  injection h with _ h
  omega
structure PcS where
 d:Nat
 rg:Nat
 lg:Nat
 fv:Value
 kn:Nat
 mw:Nat
 pv:Value
 dv:Value
 mi:Nat
 cm:Nat
 la:Nat
 fl:Bool
 fa:Bool
def PcS.cells (S:PcS):Array Value:=#[.pointer (some ⟨S.d,0,none⟩),.pointer (some ⟨S.rg,0,none⟩),.pointer (some ⟨S.lg,0,none⟩),S.fv,.map (some S.kn),.map (some S.mw),S.pv,S.dv,.map (some S.mi),.int .u64 (S.cm:Int),.int .u64 (S.la:Int),.bool S.fl,.bool S.fa]
def PcB (w:World) (p:Nat) (S:PcS):Prop:=CbB w p 102 S.cells
def mayP (S:PcS):Nat:=bif S.fa then 190 else 0
def openB (S:PcS):Bool:=!decide (S.cm=0) && !S.fl
section
variable {w:World} {p:Nat} {S:PcS}
set_option maxRecDepth 100000 in
theorem may_any (h:PcB w p S):Calls Tryz.prog 33 #[.pointer (some ⟨p,0,none⟩)] w fun e w'=>e = .returned (.int .i64 (mayP S:Int))∧w=w':=by
 have c12:w.cell? ⟨p,12,none⟩=some (.bool S.fa):=CbB.cell h (k:=12) rfl
 clear h
 obtain⟨d,rg,lg,fv,kn,mw,pv,dv,mi,cm,la,fl,fa⟩:=S
 cases fa
 · go_enter Tryz.func33,Tryz.ntmps33
   go_wp2_with fail
   go_ret
   exact⟨rfl,rfl⟩
 · go_enter Tryz.func33,Tryz.ntmps33
   go_wp2_with fail
   go_ret
   exact⟨rfl,rfl⟩
set_option maxRecDepth 100000 in
theorem open_any (h:PcB w p S):Calls Tryz.prog 34 #[.pointer (some ⟨p,0,none⟩)] w fun e w'=>e = .returned (.bool (openB S))∧w=w':=by
 have c9:w.cell? ⟨p,9,none⟩=some (.int .u64 (S.cm:Int)):=CbB.cell h (k:=9) rfl
 have c11:w.cell? ⟨p,11,none⟩=some (.bool S.fl):=CbB.cell h (k:=11) rfl
 clear h
 obtain⟨d,rg,lg,fv,kn,mw,pv,dv,mi,cm,la,fl,fa⟩:=S
 simp only at c9 c11
 by_cases h0:cm=0
 · subst h0
   go_enter Tryz.func34,Tryz.ntmps34
   go_wp2_with fail
   go_ret
   exact⟨rfl,rfl⟩
 · have e0:decide (cm=0)=false:=by simp;omega
   have e1:((cm:Int) != 0)=true:=by simp;omega
   have e2:¬(cm:Int)=0:=by omega
   go_enter Tryz.func34,Tryz.ntmps34
   go_wp2_with fail
   go_ret
   refine⟨?_,rfl⟩
   unfold openB
   simp only[e0]
   cases fl <;> rfl
set_option maxRecDepth 100000 in
theorem phas_any {B g1 g2:Nat} {wv:Value} {D:DvS} (n:Nat) (hn:n<4294967296) (h:PcB w p S) (hd:DsB w B S.d g1 g2 wv D):
 Calls Tryz.prog 37 #[.pointer (some ⟨p,0,none⟩),.int .u32 (n:Int)] w fun e w'=>e = .returned (.bool (decide (1<n)&&decide (n<D.n)))∧w=w':=by
 have HB:=Lib.hid (blocks_any hd)
 have c0:w.cell? ⟨p,0,none⟩=some (.pointer (some ⟨S.d,0,none⟩)):=CbB.cell h (k:=0) rfl
 clear h hd
 by_cases h1:1<n
 · have e1:(1:Int)<(n:Int):=by omega
   have n0:(0:Int)≤(n:Int):=by omega
   have n1:(n:Int)<4294967296:=by omega
   have E:=decide_eq_true h1
   clear h1
   go_enter Tryz.func37,Tryz.ntmps37
   go_wp2_with fail
   refine HB.out.mono ?_
   rintro e w1 ⟨rfl,rfl⟩
   go_wp2_with fail
   go_ret
   refine⟨?_,rfl⟩
   rw[E]
   simp
 · have e1:¬(1:Int)<(n:Int):=by omega
   have E:=decide_eq_false h1
   clear h1
   go_enter Tryz.func37,Tryz.ntmps37
   go_wp2_with fail
   go_ret
   exact⟨rfl,rfl⟩
theorem bel_drewN9 {B:Nat} {a b:World} (h:Below B a b) (n:Nat):Below B a (b.drewN n):=⟨h.os,h.tape,h.output,h.size,h.block⟩
def beginS (S:PcS) (n a b:Nat):PcS:={ S with cm:=n,la:=n,fl:=false,pv:=.map (some a),dv:=.map (some b) }
set_option maxRecDepth 100000 in
theorem begin_ok (n:Nat) (hn:n<18446744073709551616) (h:PcB w p S) (hf:S.fa=false) (h0:S.cm=0) (hl:S.la<n):
 Calls Tryz.prog 10 #[.pointer (some ⟨p,0,none⟩),.int .u64 (n:Int)] w fun e w'=>∃a b,e = .returned (.int .i64 0)∧PcB w' p (beginS S n a b)∧MapB u32Vp u32Okp w' a []∧MapB u32Vp u32Okp w' b []∧w.heap.size≤a∧w.heap.size≤b∧a≠b∧Fr w w' (fun q=>q=p):=by
 have HM:=Lib.hid (may_any h)
 rw[show mayP S=0 from by unfold mayP;rw[hf];rfl] at HM
 have H0:=Lib.hid h
 have c9:w.cell? ⟨p,9,none⟩=some (.int .u64 (S.cm:Int)):=CbB.cell h (k:=9) rfl
 rw[h0] at c9
 have c10:w.cell? ⟨p,10,none⟩=some (.int .u64 (S.la:Int)):=CbB.cell h (k:=10) rfl
 have f9:=CbB.free h 9
 have l1:¬(n:Int)≤(S.la:Int):=by omega
 have X1:=CbB.set h 9 (.int .u64 (n:Int))
 have k10:(w.setCell ⟨p,9,none⟩ (.int .u64 (n:Int))).cell? ⟨p,10,none⟩=some (.int .u64 (S.la:Int)):=X1.cell (k:=10) rfl
 have f10:=X1.free 10
 have X2:=X1.set 10 (.int .u64 (n:Int))
 have k11:((w.setCell ⟨p,9,none⟩ (.int .u64 (n:Int))).setCell ⟨p,10,none⟩ (.int .u64 (n:Int))).cell? ⟨p,11,none⟩=some (.bool S.fl):=X2.cell (k:=11) rfl
 have f11:=X2.free 11
 have X3:=Lib.hid (X2.set 11 (.bool false))
 have F3:Hid (Fr w (((w.setCell ⟨p,9,none⟩ (.int .u64 (n:Int))).setCell ⟨p,10,none⟩ (.int .u64 (n:Int))).setCell ⟨p,11,none⟩ (.bool false)) (fun q=>q=p)):=Lib.hid (((fr_setD w p 9 _).trW (fr_setD _ p 10 _)).trW (fr_setD _ p 11 _))
 have hmm:∀W:World,(Instr.makeMap 99 none).run Tryz.prog W = .ok (.map (some W.heap.size)) (W.alloc (.map #[] 0)):=fun _=>rfl
 clear h hf h0 hl X1 X2
 go_enter Tryz.func10,Tryz.ntmps10
 go_wp2_with fail
 refine HM.out.mono ?_
 rintro e w1 ⟨rfl,rfl⟩
 clear HM
 go_upto_region 7 with (fail)
 obtain⟨w3,hw3⟩:∃w3,((w.setCell ⟨p,9,none⟩ (.int .u64 (n:Int))).setCell ⟨p,10,none⟩ (.int .u64 (n:Int))).setCell ⟨p,11,none⟩ (.bool false)=w3:=⟨_,rfl⟩
 rw[hw3] at X3 F3⊢
 clear hw3 c9 c10 f9 k10 f10 k11 f11 l1
 have ba:Below w3.heap.size w3 ((w3.alloc (.map #[] 0)).alloc (.map #[] 0)):=((Below.refl _ _).alloc (Nat.le_refl _) _).alloc (by simp) _
 have X5:=X3.out.ab ba
 have M1:MapB u32Vp u32Okp ((w3.alloc (.map #[] 0)).alloc (.map #[] 0)) w3.heap.size []:=(MapB.new u32Vp u32Okp w3).same (((Below.refl _ _).alloc (by simp) _:Below (w3.alloc (.map #[] 0)).heap.size (w3.alloc (.map #[] 0)) ((w3.alloc (.map #[] 0)).alloc (.map #[] 0))).block _ (by simp))
 have M2:MapB u32Vp u32Okp ((w3.alloc (.map #[] 0)).alloc (.map #[] 0)) (w3.alloc (.map #[] 0)).heap.size []:=MapB.new u32Vp u32Okp (w3.alloc (.map #[] 0))
 have hsz:(w3.alloc (.map #[] 0)).heap.size=w3.heap.size+1:=by simp
 rw[hsz] at M2
 have k6:((w3.alloc (.map #[] 0)).alloc (.map #[] 0)).cell? ⟨p,6,none⟩=some S.pv:=X5.cell (k:=6) rfl
 have f6:=X5.free 6
 have X6:=X5.set 6 (.map (some w3.heap.size))
 have k7:(((w3.alloc (.map #[] 0)).alloc (.map #[] 0)).setCell ⟨p,6,none⟩ (.map (some w3.heap.size))).cell? ⟨p,7,none⟩=some S.dv:=X6.cell (k:=7) rfl
 have f7:=X6.free 7
 have X7:=Lib.hid (X6.set 7 (.map (some (w3.heap.size+1))))
 have BA:=Lib.hid ba
 have MM1:=Lib.hid M1
 have MM2:=Lib.hid M2
 clear X5 X6 ba M1 M2 hsz
 go_wp2_with fail
 go_ret
 have fz:=(fr_setD ((w3.alloc (.map #[] 0)).alloc (.map #[] 0)) p 6 (.map (some w3.heap.size))).trW (fr_setD _ p 7 (.map (some (w3.heap.size+1))))
 have hp:=X3.out.lt
 refine⟨w3.heap.size,w3.heap.size+1,rfl,X7.out,MM1.out.same (fz.block _ MM1.out.lt (by omega)),MM2.out.same (fz.block _ MM2.out.lt (by omega)),F3.out.size,Nat.le_succ_of_le F3.out.size,by omega,(F3.out.trW (Fr.of BA.out _)).trW fz⟩
end
abbrev Tgm:=Nat→Nat×Nat
structure Wr (P:Nat×Nat→Prop) (w:World) (O:Tgm) (w':World) (O':Tgm):Prop where
 fr:Fr w w' (fun k=>P (O k))
 tg:∀k,k<w.heap.size→O' k=O k
section
variable {P Q:Nat×Nat→Prop} {w w1 w':World} {O O1 O':Tgm}
theorem Wr.size (h:Wr P w O w' O'):w.heap.size≤w'.heap.size:=h.fr.size
theorem Wr.refl (P:Nat×Nat→Prop) (w:World) (O:Tgm):Wr P w O w O:=⟨Fr.of (Below.refl _ _) _,fun _ _=>rfl⟩
theorem Wr.tr (h:Wr P w O w1 O1) (k:Wr P w1 O1 w' O'):Wr P w O w' O':=
 ⟨⟨k.fr.os.trans h.fr.os,k.fr.tape.trans h.fr.tape,k.fr.output.trans h.fr.output,Nat.le_trans h.size k.size,fun i hi hn=>
   (k.fr.block i (Nat.lt_of_lt_of_le hi h.size) (fun e=>hn (by rw[←h.tg i hi];exact e))).trans (h.fr.block i hi hn)⟩,
  fun i hi=>(k.tg i (Nat.lt_of_lt_of_le hi h.size)).trans (h.tg i hi)⟩
theorem Wr.imp (h:Wr P w O w' O') (hi:∀t,P t→Q t):Wr Q w O w' O':=⟨h.fr.imp fun k=>hi _,h.tg⟩
theorem Wr.of (hb:Below w.heap.size w w') (P:Nat×Nat→Prop) (hO:∀k,k<w.heap.size→O' k=O k):Wr P w O w' O':=⟨Fr.of hb _,hO⟩
theorem Wr.below {B:Nat} {a:World} (h:Wr P w O w' O') (hb:Below B a w) (hs:B≤w.heap.size) (hO:∀k,k<B→¬P (O k)):Below B a w':=
 Fr.below h.fr (fun k e=>Nat.le_of_not_lt fun hk=>hO k hk e) hb hs
def cutO (O:Tgm) (N:Nat):Tgm:=fun k=>if k<N then O k else (0,0)
def markO (O:Tgm) (N:Nat) (r:Option Nat) (t:Nat×Nat):Tgm:=fun k=>if k<N then O k else if r=some k then t else (0,0)
theorem cutO_at {N k:Nat} (h:N≤k):cutO O N k=(0,0):=by unfold cutO;rw[if_neg (by omega)]
theorem cutO_old {N k:Nat} (h:k<N):cutO O N k=O k:=by unfold cutO;rw[if_pos h]
theorem markO_old {N k:Nat} {r:Option Nat} {t:Nat×Nat} (h:k<N):markO O N r t k=O k:=by unfold markO;rw[if_pos h]
theorem markO_new {N k:Nat} {t:Nat×Nat} (h:N≤k):markO O N (some k) t k=t:=by unfold markO;rw[if_neg (by omega),if_pos rfl]
theorem Wr.cut (hb:Below w.heap.size w w') (P:Nat×Nat→Prop):Wr P w O w' (cutO O w.heap.size):=Wr.of hb P fun k hk=>cutO_old hk
theorem Wr.mk' {F:Nat→Prop} (hf:Fr w w' F) (hF:∀k,F k→P (O k)) (hO:∀k,k<w.heap.size→O' k=O k):Wr P w O w' O':=⟨hf.imp hF,hO⟩
end
def StB (w:World) (O:Tgm) (v:Value) (l:List Nat):Prop:=∃A n c,v = .slice A n c∧IsB w A n c l∧(0<n→∀x,A=some x→x.block<w.heap.size∧O x.block=(0,0))
section
variable {P:Nat×Nat→Prop} {w w':World} {O O':Tgm}
theorem StB.wr {v:Value} {l:List Nat} (h:StB w O v l) (s:Wr P w O w' O') (hn:¬P (0,0)):StB w' O' v l:=by
 obtain⟨A,n,c,rfl,h1,h2⟩:=h
 refine⟨A,n,c,rfl,isB_frD h1 s.fr (fun h0 x hx e=>?_),fun h0 x hx=>?_⟩
 · rw[(h2 h0 x hx).2] at e;exact hn e
 · obtain⟨k1,k2⟩:=h2 h0 x hx
   exact⟨Nat.lt_of_lt_of_le k1 s.size,(s.tg _ k1).trans k2⟩
theorem StB.own {B:Nat} {v:Value} {l:List Nat} (h:OwB w B v l) (ht:∀k,v.ownBlock=some k→O k=(0,0)):StB w O v l:=by
 obtain⟨A,c,rfl,_,_⟩:=h.shape
 refine⟨A,_,c,rfl,h.isB rfl,fun h0 x hx=>?_⟩
 subst hx
 have hlt:=row_ltD h.own
 rcases h.own.2 with ⟨e,_⟩ | ⟨g,cap,cur,e,_⟩
 · cases e
 · injection e with e _ _
   injection e with e
   subst e
   exact⟨hlt _ rfl,ht _ rfl⟩
def DvM (w:World) (O:Tgm) (d:Nat) (D:DvS):Prop:=∃g1 g2 wv,DsB w 0 d g1 g2 wv D∧O d=(0,1)∧O g1=(0,1)∧O g2=(0,1)∧∀k,wv.ownBlock=some k→O k=(0,1)
theorem DvM.wr {d:Nat} {D:DvS} (h:DvM w O d D) (s:Wr P w O w' O') (hn:¬P (0,1)):DvM w' O' d D:=by
 obtain⟨g1,g2,wv,h1,t1,t2,t3,t4⟩:=h
 obtain⟨l1,l2,l3⟩:=h1.lt
 refine⟨g1,g2,wv,h1.fr s.fr (fun k hk=>⟨?_,?_,?_,?_⟩),(s.tg _ l1).trans t1,(s.tg _ l2).trans t2,(s.tg _ l3).trans t3,fun k hk=>(s.tg _ (row_ltD h1.row k hk)).trans (t4 k hk)⟩
 · rintro rfl;rw[t1] at hk;exact hn hk
 · rintro rfl;rw[t2] at hk;exact hn hk
 · rintro rfl;rw[t3] at hk;exact hn hk
 · intro e;rw[t4 k e] at hk;exact hn hk
def LgM (w:World) (O:Tgm) (g:Nat) (all:List Sl):Prop:=∃v,CbB w g 136 #[v]∧w.ownsRow 0 134 9 v all.length (slvs all)∧O g=(0,2)∧∀k,v.ownBlock=some k→O k=(0,2)
theorem LgM.wr {g:Nat} {all:List Sl} (h:LgM w O g all) (s:Wr P w O w' O') (hn:¬P (0,2)):LgM w' O' g all:=by
 obtain⟨v,h1,h2,t1,t2⟩:=h
 refine⟨v,h1.fr s.fr (fun e=>hn (by rw[←t1];exact e)),row_fr h2 s.fr (fun k hk e=>hn (by rw[←t2 k hk];exact e)),(s.tg _ h1.lt).trans t1,fun k hk=>(s.tg _ (row_ltD h2 k hk)).trans (t2 k hk)⟩
def RgM (w:World) (O:Tgm) (g:Nat) (l:RgL):Prop:=∃m vs,w.heap[g]? = some (.cells #[.map (some m)] 145 (0,0))∧MapB whV whOk w m vs∧RgV w 0 vs l∧(∀p∈l,KeyOk p.2)∧O g=(0,3)∧O m=(0,3)∧∀p∈vs,∀k,p.2.ownBlock=some k→O k=(0,0)
theorem RgV.impM {w w':World} {B:Nat}:∀{vs:List ((Nat×Nat)×Value)} {l:RgL},RgV w B vs l→(∀p∈vs,∀k,OwB w B p.2 k→OwB w' B p.2 k)→RgV w' B vs l
 | [],[],_,_=>trivial
 | p::ps,q::qs,h,hi=>⟨⟨h.1.1,hi _ (List.mem_cons_self ..) _ h.1.2⟩,RgV.impM h.2 fun r hr=>hi r (List.mem_cons_of_mem _ hr)⟩
 | [],_::_,h,_=>h.elim
 | _::_,[],h,_=>h.elim
theorem RgV.mem {w:World} {B:Nat}:∀{vs:List ((Nat×Nat)×Value)} {l:RgL},RgV w B vs l→∀p∈vs,∃k,OwB w B p.2 k
 | [],[],_,_,hp=>by cases hp
 | p::ps,q::qs,h,r,hr=>by
   rcases List.mem_cons.1 hr with rfl | hr
   · exact⟨_,h.1.2⟩
   · exact RgV.mem h.2 r hr
 | [],_::_,h,_,_=>h.elim
 | _::_,[],h,_,_=>h.elim
theorem RgM.wr {g:Nat} {l:RgL} (h:RgM w O g l) (s:Wr P w O w' O') (hn:¬P (0,3)) (h0:¬P (0,0)):RgM w' O' g l:=by
 obtain⟨m,vs,h1,h2,h3,h4,t1,t2,t3⟩:=h
 have lg:g<w.heap.size:=lt_of_block h1
 refine⟨m,vs,(s.fr.block g lg (fun e=>hn (by rw[←t1];exact e))).trans h1,h2.same (s.fr.block m h2.lt (fun e=>hn (by rw[←t2];exact e))),h3.impM (fun p hp k hk=>hk.fr s.fr fun q hq e=>h0 (by rw[←t3 p hp q hq];exact e)),h4,(s.tg _ lg).trans t1,(s.tg _ h2.lt).trans t2,fun p hp k hk=>?_⟩
 obtain⟨k',hk'⟩:=h3.mem p hp
 exact (s.tg _ (row_ltD hk'.own k hk)).trans (t3 p hp k hk)
theorem RgM.rg {g:Nat} {l:RgL} (h:RgM w O g l):∃m,RgB w 0 g m l:=by
 obtain⟨m,vs,h1,h2,h3,h4,_⟩:=h
 exact⟨m,h1,Nat.zero_le _,⟨vs,h2,h3⟩,h4⟩
structure PgP where
 fr:RnL
 kn:List (Nat×(Lb×List Nat))
 wa:List (Nat×Value)
 pu:List (Nat×Value)
 dr:List (Nat×Value)
 pi:List (Nat×Value)
 cm:Nat
 la:Nat
 fl:Bool
 fa:Bool
structure PgK where
 d:Nat
 rg:Nat
 lg:Nat
 fv:Value
 kn:Nat
 mw:Nat
 pv:Value
 dv:Value
 mi:Nat
def pcS (b:PgK) (T:PgP):PcS:=⟨b.d,b.rg,b.lg,b.fv,b.kn,b.mw,b.pv,b.dv,b.mi,T.cm,T.la,T.fl,T.fa⟩
def PgV (w:World) (O:Tgm) (v:Value) (l:Lb) (t:List Nat):Prop:=∃x,v = .agg #[.int .u32 (l.ten:Int),.int .u8 (l.k:Int),.int .u8 (l.lv:Int),.int .u32 (l.pg:Int),.int .u64 (l.cm:Int),.int .u16 (l.gn:Int),x]∧StB w O x t∧l.Ok
def KnV (w:World) (O:Tgm):List (Nat×Value)→List (Nat×(Lb×List Nat))→Prop
 | [],[]=>True
 | p::ps,q::qs=>(p.1=q.1∧PgV w O p.2 q.2.1 q.2.2)∧KnV w O ps qs
 | [],_::_=>False
 | _::_,[]=>False
theorem KnV.imp:∀{vs:List (Nat×Value)} {l:List (Nat×(Lb×List Nat))},KnV w O vs l→(∀v a t,PgV w O v a t→PgV w' O' v a t)→KnV w' O' vs l
 | [],[],_,_=>trivial
 | p::ps,q::qs,h,hi=>⟨⟨h.1.1,hi _ _ _ h.1.2⟩,KnV.imp h.2 hi⟩
 | [],_::_,h,_=>h.elim
 | _::_,[],h,_=>h.elim
theorem PgV.wr {v:Value} {a:Lb} {t:List Nat} (h:PgV w O v a t) (s:Wr P w O w' O') (hn:¬P (0,0)):PgV w' O' v a t:=by
 obtain⟨x,h1,h2,h3⟩:=h
 exact⟨x,h1,h2.wr s hn,h3⟩
def MpT (w:World) (O:Tgm) (v:Value) (t:Nat×Nat) (l:List (Nat×Value)):Prop:=(v = .map none∧l=[])∨∃a,v = .map (some a)∧MapB u32Vp u32Okp w a l∧O a=t
theorem MpT.wr {v:Value} {t:Nat×Nat} {l:List (Nat×Value)} (h:MpT w O v t l) (s:Wr P w O w' O') (hn:¬P t):MpT w' O' v t l:=by
 rcases h with h | ⟨a,h1,h2,h3⟩
 · exact .inl h
 · exact .inr ⟨a,h1,h2.same (s.fr.block a h2.lt (fun e=>hn (by rw[←h3];exact e))),(s.tg _ h2.lt).trans h3⟩
structure PgN (w:World) (O:Tgm) (p:Nat) (b:PgK) (T:PgP):Prop where
 box:PcB w p (pcS b T)
 pos:0<p
 tb:O p=(p,1)
 free:RuB w 0 b.fv T.fr
 tf:∀k,b.fv.ownBlock=some k→O k=(0,0)
 kn:∃vs,MapB u32Vp u32Okp w b.kn vs∧KnV w O vs T.kn
 tk:O b.kn=(p,2)
 wa:MapB u32Vp u32Okp w b.mw T.wa
 tw:O b.mw=(p,3)
 pu:MpT w O b.pv (p,4) T.pu
 dr:MpT w O b.dv (p,5) T.dr
 pi:MapB u32Vp u32Okp w b.mi T.pi
 ti:O b.mi=(p,6)
 rgt:rightR T.fr=true
 okr:∀r∈T.fr,1<r.1∧r.2≤4096
 num:T.fr.length≤4096
 cmo:T.cm<18446744073709551616∧T.la<18446744073709551616
 opn:T.cm≠0→(∃a,b.pv = .map (some a))∧∃a,b.dv = .map (some a)
theorem PgN.wr {p:Nat} {b:PgK} {T:PgP} (h:PgN w O p b T) (s:Wr P w O w' O') (hn:∀i,¬P (p,i)) (h0:¬P (0,0)):PgN w' O' p b T:=by
 obtain⟨vs,k1,k2⟩:=h.kn
 have fz:=fun (k:Nat) (i:Nat) (e:O k=(p,i)) (q:P (O k))=>hn i (by rw[←e];exact q)
 exact {
  box:=CbB.fr h.box s.fr (fz p 1 h.tb)
  pos:=h.pos
  tb:=(s.tg _ (CbB.lt h.box)).trans h.tb
  free:=row_fr h.free s.fr (fun k hk e=>h0 (by rw[←h.tf k hk];exact e))
  tf:=fun k hk=>(s.tg _ (row_ltD h.free k hk)).trans (h.tf k hk)
  kn:=⟨vs,k1.same (s.fr.block _ k1.lt (fz _ 2 h.tk)),k2.imp fun v a t hv=>hv.wr s h0⟩
  tk:=(s.tg _ k1.lt).trans h.tk
  wa:=h.wa.same (s.fr.block _ h.wa.lt (fz _ 3 h.tw))
  tw:=(s.tg _ h.wa.lt).trans h.tw
  pu:=h.pu.wr s (hn 4)
  dr:=h.dr.wr s (hn 5)
  pi:=h.pi.same (s.fr.block _ h.pi.lt (fz _ 6 h.ti))
  ti:=(s.tg _ h.pi.lt).trans h.ti
  rgt:=h.rgt
  okr:=h.okr
  num:=h.num
  cmo:=h.cmo
  opn:=h.opn }
def PgM (w:World) (O:Tgm) (p d rg lg:Nat) (T:PgP):Prop:=∃b,PgN w O p b T∧b.d=d∧b.rg=rg∧b.lg=lg
theorem PgM.wr {p d rg lg:Nat} {T:PgP} (h:PgM w O p d rg lg T) (s:Wr P w O w' O') (hn:∀i,¬P (p,i)) (h0:¬P (0,0)):PgM w' O' p d rg lg T:=by
 obtain⟨b,h1,h2⟩:=h
 exact⟨b,h1.wr s hn h0,h2⟩
theorem PgM.lt {p d rg lg:Nat} {T:PgP} (h:PgM w O p d rg lg T):p<w.heap.size:=by
 obtain⟨b,h1,_⟩:=h
 exact CbB.lt h1.box
end
set_option maxRecDepth 100000 in
theorem run_appR (ty:TypeId) {w:World} {B:Nat} {v:Value} {l m:RnL} (hown:RuB w B v l) {A:Option Addr} {n c:Nat} (hr:RnB w A n c m) (hl:l.length+n≤1000000) (hB:B≤w.heap.size):
 ∃v' w',(Builtin.append_ #[34,34] ty #[v,.slice A n c]).run Tryz.prog w = .ok v' w'∧RuB w' B v' (l++m)∧w.grownBy w' v.ownBlock:=by
 obtain⟨i0,hi0,hz0,hz1,hz2⟩:=info_parts infoRun
 have hlen:=hr.len
 cases A with
 | none=>
   have hc:=hr.nil rfl
   have hcap:=hr.cap
   have hn0:n=0:=by omega
   have hm0:m=[]:=List.eq_nil_of_length_eq_zero (by omega)
   subst hc hn0 hm0
   exact⟨v,w,run_append_owned_none (P:=Tryz.prog) w B 34 ty 33 i0 2 Tryz.underlying34 hi0 v _ _ hown,by simpa using hown,World.grownBy.refl w _⟩
 | some y=>
   have hcells:∀j u,(runVs m)[j]? = some u→w.cell? (y.add j)=some u:=fun j u hu=>by
    have hj:=(List.getElem?_eq_some_iff.1 hu).1
    rw[runVs_len] at hj
    obtain⟨x,h1,_,h3⟩:=hr.cel (by omega)
    injection h1 with h1
    subst h1
    exact h3 j u hu
   obtain⟨v1,W1,hrun,r1,r2,_⟩:=run_append_own_at (P:=Tryz.prog) w B 34 ty 33 i0 _ 2 8 Tryz.underlying34 hi0 hz0 hz1 hz2 rfl (by decide) v l.length (runVs l) hown y n c (runVs m) (by rw[runVs_len,hlen]) hcells (runVs_one m) (by simp only[maxLen];omega) (by omega) hB
   refine⟨v1,W1,hrun,?_,r2⟩
   unfold RuB
   rw[runVs_app,List.length_append,hlen]
   exact r1
set_option maxRecDepth 100000 in
theorem take_ok (A:Option Addr) (n c:Nat) (r:Nat×Nat) (l:RnL) (w:World) (h:RnB w A n c (r::l)) (hr:rightR (r::l)=true) (hok:r.2<4294967296∧r.1<r.2) (hn:n≤100000):
 Calls Tryz.prog 36 #[.slice A n c] w fun e w'=>∃v,e = .returned (.tuple #[.int .u32 (r.1:Int),v,.int .i64 0])∧RuB w' w.heap.size v (mkR (r.1+1) r.2++l)∧Below w.heap.size w w':=by
 have HL:=Lib.hid h.len
 have H0:=Lib.hid h
 have H1:=Lib.hid (right_any' A n c (r::l) w h)
 rw[hr] at H1
 obtain⟨x,rfl,hxl,hcel⟩:=h.at (i:=0) (r:=r) rfl
 rw[show x.add (0*2)=x from by rw[Nat.zero_mul];exact addr_zero x] at hcel
 have KC:=Lib.hid hcel
 have h0n:0<n:=by have:=h.len;simp at this;omega
 have HN:Hid (n≤100000∧1≤n∧(r::l).length=n):=Lib.hid ⟨hn,h0n,h.len⟩
 have hnb:(0:Int)<(n:Int):=by omega
 have hne:((n:Int)==0)=false:=by simp;omega
 have hne2:¬(n:Int)=0:=by omega
 obtain⟨hok1,hok2⟩:=hok
 have hwp:IntKind.u32.wrap ((r.1:Int)+1)=((r.1+1:Nat):Int):=wrap_u32 _ (by omega) (by omega)
 have hcap:=h.cap
 have hsf:=fun W=>sl_fromR W (some x) n c 1 (by omega)
 rw[show ((1:Nat):Int)=1 from rfl] at hsf
 clear h hr hok1 hok2 hn hcel hxl hcap h0n
 go_enter Tryz.func36,Tryz.ntmps36
 go_wp2_with fail
 refine H1.out.mono ?_
 rintro e w1 ⟨rfl,hb1⟩
 have B1:=Lib.hid hb1
 have r0:=(KC.out _ hb1).1
 have r1:=(KC.out _ hb1).2
 clear hb1
 have A1:=Lib.hid (B1.out.alloc B1.out.size (.cells #[.int .u32 (r.1:Int),.int .u32 (r.2:Int)] 33))
 clear B1
 go_wp2_with fail
 refine (make_any (r.1+1) r.2 _).mono ?_
 rintro e w4 ⟨v4,rfl,hv4,hb4⟩
 obtain⟨A4,c4,rfl,hr4,_⟩:=hv4.rn
 have s4:=A1.out.size
 have HC:Hid (w1.heap.size<w4.heap.size):=Lib.hid (by have:=hb4.size;simp at this;omega)
 have B4:=Lib.hid (below_tr A1.out hb4 A1.out.size)
 have R4:=Lib.hid hr4
 have hcb:∀k,k<2→w4.cell? ⟨w1.heap.size,k,none⟩=(w1.alloc (.cells #[.int .u32 (r.1:Int),.int .u32 (r.2:Int)] 33)).cell? ⟨w1.heap.size,k,none⟩:=fun k _=>World.cell?_of_block (hb4.block _ (by simp))
 have k0:=hcb 0 (by decide)
 have k1:=hcb 1 (by decide)
 clear hv4 hb4 hr4 A1 s4 hcb
 have k0':w4.cell? ⟨w1.heap.size,0,none⟩=some (.int .u32 (r.1:Int)):=by rw[k0];simp
 go_wp2_with (first
  | (refine wpList_appR rfl (.tmp 15) (.tmp 21) rfl (RuB.nil _ w4.heap.size) rfl rfl R4.out (by have:=mkR_le (r.1+1) r.2;simp;omega) (Nat.le_refl _) ?_
     intro v7 w7 hv7 hg7
     have V7:=Lib.hid hv7
     have B7:=Lib.hid (below_grownR B4.out hg7 (by intro g hg;cases hg) B4.out.size)
     have k7:w7.cell? ⟨w1.heap.size,0,none⟩=some (.int .u32 (r.1:Int)):=by
      rw[←k0'];exact World.cell?_of_block (hg7.block _ HC.out (by intro e;cases e))
     have S47:Hid (w4.heap.size≤w7.heap.size):=Lib.hid hg7.size
     have HC7:Hid (w1.heap.size<w7.heap.size):=Lib.hid (Nat.lt_of_lt_of_le HC.out hg7.size)
     clear hv7 hg7))
 obtain⟨A7,c7,rfl,hr7,_⟩:=V7.out.rn
 rw[List.nil_append] at V7 hr7
 obtain⟨m7,hm7⟩:∃m7,List.length (mkR (r.1+1) r.2)=m7:=⟨_,rfl⟩
 rw[hm7] at V7 hr7
 have M7:Hid (m7≤1):=Lib.hid (by rw[←hm7];exact mkR_le _ _)
 rw[List.nil_append,hm7]
 clear hr7
 have KK:=Lib.hid k7
 clear k7 k0 k1 k0' r0 r1
 refine wp_wide5 (fun i k=>i=5∧(Value.slice A7 m7 c7).ownBlock=some k) [⟨23,IsR (.pointer (some ⟨w1.heap.size,0,none⟩)),[],false⟩,⟨24,IsR (.int .u32 (r.1:Int)),[0],false⟩,⟨25,IsR (.slice A7 m7 c7),[],false⟩,⟨26,IsR (.slice (some x) n c),[],false⟩,⟨27,IsR (.slice (dropR2 (some x) c 1) (n-1) (c-1)),[3],false⟩,⟨28,(fun z W=>RuB W w.heap.size z (mkR (r.1+1) r.2++l)),[2,4],false⟩] (by kernel_rfl) (by kernel_rfl) rfl rfl rfl ⟨?_,?_,?_,?_,?_,?_,trivial⟩ ?_
 · refine⟨rfl,IsR.monoF _ _,fun a W hA hb hd=>Takes.to5 (takes_plain rfl (yields_value _ ?_ rfl)) _⟩
   have h5:a.tmps[5]?.getD undef = .pointer (some ⟨w1.heap.size,0,none⟩):=(eval_get a 5).trans ((hA.eval (by simp)).trans rfl)
   go_simp
 · refine⟨rfl,IsR.monoF _ _,fun a W hA hb hd=>Takes.to5 (takes_plain rfl (yields_value _ ?_ rfl)) _⟩
   have h23:a.tmps[23]?.getD undef = .pointer (some ⟨w1.heap.size,0,none⟩):=(eval_get a 23).trans (hd 0 (by simp) _ rfl)
   have hc:W.cell? ⟨w1.heap.size,0,none⟩=some (.int .u32 (r.1:Int)):=by
    rw[←KK.out];exact World.cell?_of_block (hb.block _ HC7.out (fun ⟨j,_,_,hj⟩=>by have h9:w4.heap.size≤w1.heap.size:=own_ge9 V7.out _ hj;have:=HC.out;omega))
   go_simp
 · refine⟨rfl,IsR.monoF _ _,fun a W hA hb hd=>Takes.to5 (takes_plain rfl (yields_value _ ?_ rfl)) _⟩
   have h3:a.tmps[3]?.getD undef = .slice A7 m7 c7:=(eval_get a 3).trans ((hA.eval (by simp)).trans rfl)
   go_simp
 · refine⟨rfl,IsR.monoF _ _,fun a W hA hb hd=>Takes.to5 (takes_plain rfl (yields_value _ ?_ rfl)) _⟩
   have h0:a.tmps[0]?.getD undef = .slice (some x) n c:=(eval_get a 0).trans ((hA.eval (by simp)).trans rfl)
   go_simp
 · refine⟨rfl,IsR.monoF _ _,fun a W hA hb hd=>Takes.to5 (takes_plain rfl (yields_value _ ?_ rfl)) _⟩
   have h26:a.tmps[26]?.getD undef = .slice (some x) n c:=(eval_get a 26).trans (hd 3 (by simp) _ rfl)
   have hs:=hsf W
   go_simp
 · refine⟨rfl,fun z W W1 h1 hf=>row_fr h1 hf (fun k hk ⟨j,hj,hj2,_⟩=>hj hj2),fun a W hA hb hd=>takes5_plain rfl ?_⟩
   have hs:a.eval (.tmp 25) = .slice A7 m7 c7:=hd 2 (by simp) _ rfl
   have hx:a.eval (.tmp 27) = .slice (dropR2 (some x) c 1) (n-1) (c-1):=hd 4 (by simp) _ rfl
   have hown:RuB W w4.heap.size (.slice A7 m7 c7) (mkR (r.1+1) r.2):=row_fr V7.out hb (fun k hk ⟨j,hj,hj2,_⟩=>hj hj2)
   have bw:Below w.heap.size w W:=Fr.below hb (fun k ⟨j,_,_,hj⟩=>by have h9:=own_ge9 V7.out k hj;have:=B4.out.size;omega) B7.out B7.out.size
   have hdr:RnB W (dropR2 (some x) c 1) (n-1) (c-1) l:=(H0.out.ab bw).drop HN.out.2.1
   obtain⟨v1,W1,hrun,r1,r2⟩:=run_appR 34 hown hdr (by have:=mkR_le (r.1+1) r.2;have:=HN.out;omega) (by have:=HC7.out;have:=hb.size;have:=S47.out;omega)
   refine .inl ⟨v1,W1,?_,?_,(Fr.grown r2).imp fun k hk=>⟨rfl,hk⟩⟩
   · unfold execOp
     simp only[resolve,invoke,builtin,Sem.run_bind,Sem.run_pure,Result.andThen_ok,List.map_toArray,List.map_cons,List.map_nil,hs,hx,hrun]
   · exact r1.lower (by have:=B4.out.size;omega)
 intro vs2 w9 hR hb
 have h28:RuB w9 w.heap.size (vs2 28) (mkR (r.1+1) r.2++l):=hR 5 _ rfl
 have e24:vs2 24 = .int .u32 (r.1:Int):=hR 1 _ rfl
 have bw:Below w.heap.size w w9:=Fr.below hb (fun k ⟨j,_,hj⟩=>by have h9:=own_ge9 V7.out k hj;have:=B4.out.size;omega) B7.out B7.out.size
 simp only[List.map_cons,List.map_nil,List.foldl_cons,List.foldl_nil,List.length_cons,List.length_nil,List.drop_succ_cons,List.drop_zero,Act.put,List.setIfInBounds_toArray,List.set_cons_zero,List.set_cons_succ,e24]
 generalize vs2 28=v28 at *
 generalize vs2 23=v23 at *
 generalize vs2 25=v25 at *
 generalize vs2 26=v26 at *
 generalize vs2 27=v27 at *
 have R28:=Lib.hid h28
 have BW:=Lib.hid bw
 clear hR hb h28 bw e24
 go_wp2_with fail
 go_ret3
 exact⟨_,rfl,R28.out,BW.out⟩
def frNew (n:Nat) (l:RnL):Bool:=match l.head?,l.getLast? with
 | some a,some b=>decide (1<a.1)&&decide (a.1<n)&&(decide (1<b.2-1)&&decide (b.2-1<n))
 | _,_=>true
theorem right_all {l:RnL} (h:rightR l=true):∀i r,l[i]? = some r→r.1<r.2∧(∀q,0<i→l[i-1]? = some q→q.2<r.1):=fun i r hr=>by
 have hi:=(List.getElem?_eq_some_iff.1 hr).1
 unfold rightR at h
 have:=List.all_eq_true.1 h i (List.mem_range.2 hi)
 unfold rightI at this
 have e1:l.getD i (0,0)=r:=by rw[List.getD_eq_getElem?_getD,hr];rfl
 rw[e1,Bool.and_eq_true,Bool.or_eq_true,decide_eq_true_eq,decide_eq_true_eq,decide_eq_true_eq] at this
 refine⟨this.1,fun q h0 hq=>?_⟩
 have e2:l.getD (i-1) (0,0)=q:=by rw[List.getD_eq_getElem?_getD,hq];rfl
 rw[e2] at this
 omega
theorem right_up {l:RnL} (h:rightR l=true):∀i r,l[i]? = some r→(∀a,l.head? = some a→a.1+i≤r.1):=by
 intro i
 induction i with
 | zero=>intro r hr a ha;rw[List.head?_eq_getElem?,hr] at ha;injection ha with ha;subst ha;omega
 | succ i ih=>
   intro r hr a ha
   have hi:=(List.getElem?_eq_some_iff.1 hr).1
   obtain⟨q,hq⟩:∃q,l[i]? = some q:=⟨_,List.getElem?_eq_getElem (by omega)⟩
   have h1:=ih q hq a ha
   have h2:=(right_all h (i+1) r hr).2 q (by omega) (by simpa using hq)
   have h3:=(right_all h i q hq).1
   omega
theorem right_down {l:RnL} (h:rightR l=true):∀k i r,l[i]? = some r→i+1+k=l.length→(∀b,l.getLast? = some b→r.2≤b.2):=by
 intro k
 induction k with
 | zero=>
   intro i r hr hi b hb
   rw[List.getLast?_eq_getElem?,show l.length-1=i by omega,hr] at hb
   injection hb with hb
   subst hb
   exact Nat.le_refl _
 | succ k ih=>
   intro i r hr hi b hb
   obtain⟨q,hq⟩:∃q,l[i+1]? = some q:=⟨_,List.getElem?_eq_getElem (by omega)⟩
   have h1:=ih (i+1) q hq (by omega) b hb
   have h2:=(right_all h (i+1) q hq).2 r (by omega) (by simpa using hr)
   have h3:=(right_all h (i+1) q hq).1
   omega
theorem frNew_in {n:Nat} {l:RnL} (h:rightR l=true) (hf:frNew n l=true):∀r∈l,1<r.1∧r.2≤n:=fun r hr=>by
 obtain⟨i,hi⟩:=List.getElem?_of_mem hr
 have hil:=(List.getElem?_eq_some_iff.1 hi).1
 obtain⟨a,ha⟩:∃a,l.head? = some a:=⟨_,by rw[List.head?_eq_getElem?];exact List.getElem?_eq_getElem (by omega)⟩
 obtain⟨b,hb⟩:∃b,l.getLast? = some b:=⟨_,by rw[List.getLast?_eq_getElem?];exact List.getElem?_eq_getElem (by omega)⟩
 have h1:=right_up h i r hi a ha
 have h2:=right_down h (l.length-i-1) i r hi (by omega) b hb
 unfold frNew at hf
 rw[ha,hb] at hf
 simp only[Bool.and_eq_true,decide_eq_true_eq] at hf
 omega
theorem rnl_num {l:RnL} (h:rightR l=true) (hb:∀r∈l,r.2≤4096):l.length≤4096:=by
 rcases Nat.eq_zero_or_pos l.length with h0 | h0
 · omega
 · obtain⟨r,hr⟩:∃r,l[l.length-1]? = some r:=⟨_,List.getElem?_eq_getElem (by omega)⟩
   obtain⟨a,ha⟩:∃a,l.head? = some a:=⟨_,by rw[List.head?_eq_getElem?];exact List.getElem?_eq_getElem (by omega)⟩
   have h1:=right_up h _ r hr a ha
   have h2:=hb r (List.mem_of_getElem? hr)
   have h3:=(right_all h _ r hr).1
   omega
def newT (l:RnL):PgP:=⟨l,[],[],[],[],[],0,0,false,false⟩
theorem wrap_i64Pn (k:Nat) (h:k<9223372036854775808):IntKind.i64.wrap (k:Int)=(k:Int):=by
 simp only[IntKind.wrap]
 have:IntKind.i64.bits=64:=rfl
 simp[IntKind.signed,IntKind.bits]
 omega
theorem wrap_i64P {z:Int} (h0:0≤z) (h1:z<9223372036854775808):IntKind.i64.wrap z=z:=by
 obtain⟨k,rfl⟩:∃k:Nat,z=(k:Int):=⟨z.toNat,by omega⟩
 exact wrap_i64Pn k (by omega)
theorem PgN.upd {w w':World} {O O':Tgm} {p:Nat} {b:PgK} {T T':PgP} {v:Value} (h:PgN w O p b T) (s:Wr (fun t=>t=(p,1)) w O w' O') (hbox:PcB w' p (pcS { b with fv:=v } T')) (hfree:RuB w' 0 v T'.fr) (htf:∀k,v.ownBlock=some k→O' k=(0,0))
 (ekn:T'.kn=T.kn) (ewa:T'.wa=T.wa) (epu:T'.pu=T.pu) (edr:T'.dr=T.dr) (epi:T'.pi=T.pi) (hrgt:rightR T'.fr=true) (hokr:∀r∈T'.fr,1<r.1∧r.2≤4096) (hnum:T'.fr.length≤4096) (hcmo:T'.cm<18446744073709551616∧T'.la<18446744073709551616) (hopn:T'.cm≠0→T.cm≠0):PgN w' O' p { b with fv:=v } T':=by
 obtain⟨vs,k1,k2⟩:=h.kn
 have hp:=h.pos
 have fz:=fun (k:Nat) (i:Nat) (hi:i≠1) (e:O k=(p,i)) (q:O k=(p,1))=>hi (by rw[e] at q;injection q)
 have f0:¬((0:Nat),(0:Nat))=(p,1):=fun e=>by injection e with e;omega
 exact {
  box:=hbox
  pos:=h.pos
  tb:=(s.tg _ (CbB.lt h.box)).trans h.tb
  free:=hfree
  tf:=htf
  kn:=⟨vs,k1.same (s.fr.block _ k1.lt (fz _ 2 (by decide) h.tk)),by rw[ekn];exact k2.imp fun v a t hv=>hv.wr s f0⟩
  tk:=(s.tg _ k1.lt).trans h.tk
  wa:=by rw[ewa];exact h.wa.same (s.fr.block _ h.wa.lt (fz _ 3 (by decide) h.tw))
  tw:=(s.tg _ h.wa.lt).trans h.tw
  pu:=by rw[epu];exact h.pu.wr s (fun e=>by injection e with _ e;cases e)
  dr:=by rw[edr];exact h.dr.wr s (fun e=>by injection e with _ e;cases e)
  pi:=by rw[epi];exact h.pi.same (s.fr.block _ h.pi.lt (fz _ 6 (by decide) h.ti))
  ti:=(s.tg _ h.pi.lt).trans h.ti
  rgt:=hrgt
  okr:=hokr
  num:=hnum
  cmo:=hcmo
  opn:=fun e=>h.opn (hopn e) }
def mkO (O:Tgm) (N:Nat):Tgm:=fun k=>if k<N then O k else if k=N then (N+1+1+1,2) else if k=N+1 then (N+1+1+1,3) else if k=N+1+1 then (N+1+1+1,6) else if k=N+1+1+1 then (N+1+1+1,1) else (0,0)
theorem mkO_0 {O:Tgm} {N:Nat}:mkO O N N=(N+1+1+1,2):=by unfold mkO;rw[if_neg (by omega),if_pos rfl]
theorem mkO_1 {O:Tgm} {N:Nat}:mkO O N (N+1)=(N+1+1+1,3):=by unfold mkO;rw[if_neg (by omega),if_neg (by omega),if_pos rfl]
theorem mkO_2 {O:Tgm} {N:Nat}:mkO O N (N+1+1)=(N+1+1+1,6):=by unfold mkO;rw[if_neg (by omega),if_neg (by omega),if_neg (by omega),if_pos rfl]
theorem mkO_3 {O:Tgm} {N:Nat}:mkO O N (N+1+1+1)=(N+1+1+1,1):=by unfold mkO;rw[if_neg (by omega),if_neg (by omega),if_neg (by omega),if_neg (by omega),if_pos rfl]
theorem mkO_new {O:Tgm} {N k:Nat} (h:N+1+1+1<k):mkO O N k=(0,0):=by
 unfold mkO
 rw[if_neg (by omega),if_neg (by omega),if_neg (by omega),if_neg (by omega),if_neg (by omega)]
theorem mkO_old {O:Tgm} {N k:Nat} (h:k<N):mkO O N k=O k:=by unfold mkO;rw[if_pos h]
def newW (w:World) (d rg lg:Nat):World:=(((w.alloc (.map #[] 0)).alloc (.map #[] 0)).alloc (.map #[] 0)).alloc (.cells #[.pointer (some ⟨d,0,none⟩),.pointer (some ⟨rg,0,none⟩),.pointer (some ⟨lg,0,none⟩),.slice none 0 0,.map (some w.heap.size),.map (some (w.heap.size+1)),.map none,.map none,.map (some (w.heap.size+1+1)),.int .u64 0,.int .u64 0,.bool false,.bool false] 102)
theorem new_begin (w:World) (O:Tgm) (d rg lg:Nat):PgN (newW w d rg lg) (mkO O w.heap.size) (w.heap.size+1+1+1) ⟨d,rg,lg,.slice none 0 0,w.heap.size,w.heap.size+1,.map none,.map none,w.heap.size+1+1⟩ (newT [])∧Below w.heap.size w (newW w d rg lg)∧(newW w d rg lg).heap.size=w.heap.size+1+1+1+1:=by
 have s1:(w.alloc (.map #[] 0)).heap.size=w.heap.size+1:=by simp
 have s2:((w.alloc (.map #[] 0)).alloc (.map #[] 0)).heap.size=w.heap.size+1+1:=by simp
 have s3:(((w.alloc (.map #[] 0)).alloc (.map #[] 0)).alloc (.map #[] 0)).heap.size=w.heap.size+1+1+1:=by simp
 have m1:MapB u32Vp u32Okp (newW w d rg lg) w.heap.size []:=(((MapB.new u32Vp u32Okp w).alloc _).alloc _).alloc _
 have m2:MapB u32Vp u32Okp (newW w d rg lg) (w.heap.size+1) []:=by
  have h:=((MapB.new u32Vp u32Okp (w.alloc (.map #[] 0))).alloc (.map #[] 0)).alloc (.cells #[.pointer (some ⟨d,0,none⟩),.pointer (some ⟨rg,0,none⟩),.pointer (some ⟨lg,0,none⟩),.slice none 0 0,.map (some w.heap.size),.map (some (w.heap.size+1)),.map none,.map none,.map (some (w.heap.size+1+1)),.int .u64 0,.int .u64 0,.bool false,.bool false] 102)
  rw[s1] at h
  exact h
 have m3:MapB u32Vp u32Okp (newW w d rg lg) (w.heap.size+1+1) []:=by
  have h:=(MapB.new u32Vp u32Okp ((w.alloc (.map #[] 0)).alloc (.map #[] 0))).alloc (.cells #[.pointer (some ⟨d,0,none⟩),.pointer (some ⟨rg,0,none⟩),.pointer (some ⟨lg,0,none⟩),.slice none 0 0,.map (some w.heap.size),.map (some (w.heap.size+1)),.map none,.map none,.map (some (w.heap.size+1+1)),.int .u64 0,.int .u64 0,.bool false,.bool false] 102)
  rw[s2] at h
  exact h
 refine⟨?_,?_,?_⟩
 · exact {
    box:=by
     have h:=CbB.new (((w.alloc (.map #[] 0)).alloc (.map #[] 0)).alloc (.map #[] 0)) 102 #[.pointer (some ⟨d,0,none⟩),.pointer (some ⟨rg,0,none⟩),.pointer (some ⟨lg,0,none⟩),.slice none 0 0,.map (some w.heap.size),.map (some (w.heap.size+1)),.map none,.map none,.map (some (w.heap.size+1+1)),.int .u64 0,.int .u64 0,.bool false,.bool false]
     rw[s3] at h
     exact h
    pos:=Nat.succ_pos _
    tb:=mkO_3
    free:=RuB.nil _ _
    tf:=fun k hk=>by cases hk
    kn:=⟨[],m1,trivial⟩
    tk:=mkO_0
    wa:=m2
    tw:=mkO_1
    pu:=.inl ⟨rfl,rfl⟩
    dr:=.inl ⟨rfl,rfl⟩
    pi:=m3
    ti:=mkO_2
    rgt:=rfl
    okr:=fun r hr=>by cases hr
    num:=Nat.zero_le _
    cmo:=⟨by decide,by decide⟩
    opn:=fun e=>absurd rfl e }
 · exact ((((Below.refl _ _).alloc (Nat.le_refl _) _).alloc (by simp) _).alloc (by simp;omega) _).alloc (by simp;omega) _
 · unfold newW;simp
theorem new_end {w W0 w7:World} {O:Tgm} {d rg lg m c7:Nat} {A7:Option Addr} {l:RnL} (N1:PgN W0 (mkO O w.heap.size) (w.heap.size+1+1+1) ⟨d,rg,lg,.slice none 0 0,w.heap.size,w.heap.size+1,.map none,.map none,w.heap.size+1+1⟩ (newT [])) (N2:Below w.heap.size w W0) (N3:W0.heap.size=w.heap.size+1+1+1+1) (B7:Below W0.heap.size W0 w7)
 (V7:RuB w7 (w.heap.size+1+1+1+1) (.slice A7 m c7) l) (hr:rightR l=true) (hk:∀r∈l,1<r.1∧r.2≤4096) (hl:l.length≤4096):
 ∃p O',Ending.returned (.tuple #[.pointer (some ⟨w.heap.size+1+1+1,0,none⟩),.int .i64 0])=Ending.returned (.tuple #[.pointer (some ⟨p,0,none⟩),.int .i64 0])∧PgM (w7.setCell ⟨w.heap.size+1+1+1,3,none⟩ (.slice A7 m c7)) O' p d rg lg (newT l)∧Wr (fun _=>False) w O (w7.setCell ⟨w.heap.size+1+1+1,3,none⟩ (.slice A7 m c7)) O'∧w.heap.size≤p:=by
 have b0:Below w.heap.size w (w7.setCell ⟨w.heap.size+1+1+1,3,none⟩ (.slice A7 m c7)):=(N2.trans (B7.mono N2.size)).setCell (by show w.heap.size≤w.heap.size+1+1+1;omega) _
 refine⟨w.heap.size+1+1+1,mkO O w.heap.size,rfl,⟨_,N1.upd (T':=newT l) (v:=.slice A7 m c7) ?_ ?_ ?_ ?_ rfl rfl rfl rfl rfl hr hk hl ⟨show 0<18446744073709551616 by decide,show 0<18446744073709551616 by decide⟩ id,rfl,rfl,rfl⟩,Wr.of b0 _ (fun k hk=>mkO_old hk),by omega⟩
 · exact⟨(Fr.of B7 _).trW (fr_setD w7 (w.heap.size+1+1+1) 3 (.slice A7 m c7)) |>.imp fun k hk=>by
    rw[hk];exact mkO_3,fun _ _=>rfl⟩
 · exact CbB.set ((show CbB _ _ _ _ from N1.box).ab B7) 3 _
 · exact row_fr (row_low V7 (Nat.zero_le _)) (fr_setD w7 (w.heap.size+1+1+1) 3 (.slice A7 m c7)) (fun k hk e=>by have:=own_ge9 V7 k hk;omega)
 · intro k hk
   have:=own_ge9 V7 k hk
   exact mkO_new (by omega)
set_option maxRecDepth 100000 in
theorem new_ok {w:World} {O:Tgm} {d rg lg n c:Nat} {A:Option Addr} {l:RnL} {D:DvS} (hd:DvM w O d D) (hr:RnB w A n c l) (hn4:D.n≤4096) (h1:rightR l=true) (h2:frNew D.n l=true):
 Calls Tryz.prog 15 #[.pointer (some ⟨d,0,none⟩),.pointer (some ⟨rg,0,none⟩),.pointer (some ⟨lg,0,none⟩),.slice A n c] w fun e w'=>∃p O',e = .returned (.tuple #[.pointer (some ⟨p,0,none⟩),.int .i64 0])∧PgM w' O' p d rg lg (newT l)∧Wr (fun _=>False) w O w' O'∧w.heap.size≤p:=by
 have hmm:∀W:World,(Instr.makeMap 98 none).run Tryz.prog W = .ok (.map (some W.heap.size)) (W.alloc (.map #[] 0)):=fun _=>rfl
 have hmb:∀W:World,(Instr.makeMap 99 none).run Tryz.prog W = .ok (.map (some W.heap.size)) (W.alloc (.map #[] 0)):=fun _=>rfl
 have hmi:∀W:World,(Instr.makeMap 100 none).run Tryz.prog W = .ok (.map (some W.heap.size)) (W.alloc (.map #[] 0)):=fun _=>rfl
 have HD:=Lib.hid hd
 have HR:=Lib.hid hr
 have HP:=Lib.hid (And.intro hn4 (And.intro h1 h2))
 clear hd hr hn4 h1 h2
 go_enter Tryz.func15,Tryz.ntmps15
 go_wp2_with fail
 obtain⟨W0,hW0⟩:∃W0,newW w d rg lg=W0:=⟨_,rfl⟩
 have hN:=new_begin w O d rg lg
 rw[hW0] at hN
 unfold newW at hW0
 rw[hW0]
 clear hW0
 obtain⟨n1,n2,n3⟩:=hN
 have N1:=Lib.hid n1
 have N2:=Lib.hid n2
 have N3:=Lib.hid n3
 have HR0:=Lib.hid (HR.out.ab n2)
 clear n1 n2 n3 hmm hmb hmi
 refine (right_any' A n c l W0 HR0.out).mono ?_
 rw[HP.out.2.1]
 rintro e w1 ⟨rfl,hb1⟩
 have B1:=Lib.hid (N2.out.trans (show Below w.heap.size W0 w1 from hb1.mono N2.out.size))
 have B01:=Lib.hid hb1
 clear hb1
 have S0:Hid (w.heap.size+1+1+1+1≤w1.heap.size):=Lib.hid (by have:=B01.out.size;have:=N3.out;omega)
 have HLn:Hid (l.length≤4096):=Lib.hid (rnl_num HP.out.2.1 (fun r hr=>(Nat.le_trans (frNew_in HP.out.2.1 HP.out.2.2 r hr).2 HP.out.1)))
 have HK:Hid (∀r∈l,1<r.1∧r.2≤4096):=Lib.hid fun r hr=>⟨(frNew_in HP.out.2.1 HP.out.2.2 r hr).1,Nat.le_trans (frNew_in HP.out.2.1 HP.out.2.2 r hr).2 HP.out.1⟩
 by_cases hl0:l=[]
 · subst hl0
   obtain rfl:n=0:=HR.out.len.symm
   have k3:w1.cell? ⟨w.heap.size+1+1+1,3,none⟩=some (.slice none 0 0):=((show CbB _ _ _ _ from N1.out.box).ab B01.out).cell (k:=3) rfl
   go_wp2_with (first
    | (refine wpList_appR rfl (.tmp 63) (.tmp 64) rfl (RuB.nil _ (w.heap.size+1+1+1+1)) rfl rfl (HR0.out.ab B01.out) (by have:=HLn.out;have:=HR.out.len;simp only[List.length_nil] at *;omega) S0.out ?_
       intro v7 w7 hv7 hg7
       obtain⟨A7,c7,rfl,_,_⟩:=hv7.rn
       rw[List.nil_append] at hv7
       have hb7:Below W0.heap.size W0 w7:=below_grownR B01.out hg7 (by intro g hg;cases hg) B01.out.size
       have k7:w7.cell? ⟨w.heap.size+1+1+1,3,none⟩=some (.slice none 0 0):=((show CbB _ _ _ _ from N1.out.box).ab hb7).cell (k:=3) rfl
       have f7:w7.frozen? ⟨w.heap.size+1+1+1,3,none⟩=false:=((show CbB _ _ _ _ from N1.out.box).ab hb7).free 3
       have V7:=Lib.hid hv7
       have B7:=Lib.hid hb7
       clear hv7 hg7 hb7))
   go_ret2
   exact new_end N1.out N2.out N3.out B7.out V7.out HP.out.2.1 HK.out HLn.out
 · have h0n:0<n:=by have:=HR.out.len;have:=List.length_pos_iff.2 hl0;omega
   obtain⟨m,hm⟩:∃m,n=m+1:=⟨n-1,by omega⟩
   obtain⟨ra,hra⟩:∃ra,l[0]? = some ra:=⟨_,List.getElem?_eq_getElem (by have:=HR.out.len;omega)⟩
   obtain⟨rb,hrb⟩:∃rb,l[m]? = some rb:=⟨_,List.getElem?_eq_getElem (by have:=HR.out.len;omega)⟩
   have hfa:=HP.out.2.2
   unfold frNew at hfa
   rw[List.head?_eq_getElem?,hra,List.getLast?_eq_getElem?,show l.length-1=m by have:=HR.out.len;omega,hrb] at hfa
   simp only[Bool.and_eq_true,decide_eq_true_eq] at hfa
   have hna:=(HK.out ra (List.mem_of_getElem? hra)).2
   have hnb:=(HK.out rb (List.mem_of_getElem? hrb)).2
   obtain⟨x,rfl,hxl,hca⟩:=HR.out.at hra
   rw[show x.add (0*2)=x from by rw[Nat.zero_mul];exact addr_zero x] at hca
   obtain⟨x',he,_,hcb⟩:=HR.out.at hrb
   injection he with he
   subst he
   have KA:=Lib.hid hca
   have KB:=Lib.hid hcb
   have r0:=(KA.out _ B1.out).1
   have r1:=(KB.out _ B1.out).2
   have g0:(0:Int)<(n:Int):=by omega
   have g1:IntKind.i64.wrap ((n:Int)-1)=(m:Int):=by
    have h1:=HR.out.cap
    have h2:=HR.out.max
    unfold maxLen at h2
    rw[show (n:Int)-1=(m:Int) by omega]
    exact wrap_i64P (by omega) (by omega)
   have g2:(m:Int)<(n:Int):=by omega
   have g3:(0:Int)≤(m:Int):=by omega
   have g4:IntKind.u32.wrap ((rb.2:Int)-1)=((rb.2-1:Nat):Int):=by
    rw[show (rb.2:Int)-1=((rb.2-1:Nat):Int) by omega]
    exact wrap_u32 _ (by omega) (by omega)
   have HF:=Lib.hid hfa
   have HNA:Hid (ra.1<4294967296∧rb.2-1<4294967296):=Lib.hid (by have:=HP.out.1;omega)
   have DH:Hid (∀W,Below W0.heap.size W0 W→∀q:Nat,q<4294967296→Calls Tryz.prog 37 #[.pointer (some ⟨w.heap.size+1+1+1,0,none⟩),.int .u32 (q:Int)] W fun e w'=>e = .returned (.bool (decide (1<q)&&decide (q<D.n)))∧W=w'):=Lib.hid fun W hW q hq=>by
    obtain⟨g1,g2,wv,k1,_⟩:=HD.out
    exact phas_any q hq ((show CbB _ _ _ _ from N1.out.box).ab hW) (k1.ab (N2.out.trans (hW.mono N2.out.size)))
   clear hl0 hra hrb hfa hna hnb hxl hca hcb h0n hm
   go_wp2_with fail
   refine (DH.out w1 B01.out ra.1 HNA.out.1).mono ?_
   rintro e w' ⟨rfl,rfl⟩
   rw[show (decide (1<ra.1)&&decide (ra.1<D.n))=true from by rw[decide_eq_true HF.out.1.1,decide_eq_true HF.out.1.2];rfl]
   go_wp2_with fail
   refine (DH.out w1 B01.out (rb.2-1) HNA.out.2).mono ?_
   rintro e w' ⟨rfl,rfl⟩
   rw[show (decide (1<rb.2-1)&&decide (rb.2-1<D.n))=true from by rw[decide_eq_true HF.out.2.1,decide_eq_true HF.out.2.2];rfl]
   clear r0 r1 g0 g1 g2 g3 g4 DH
   have k3:w1.cell? ⟨w.heap.size+1+1+1,3,none⟩=some (.slice none 0 0):=((show CbB _ _ _ _ from N1.out.box).ab B01.out).cell (k:=3) rfl
   go_wp2_with (first
    | (refine wpList_appR rfl (.tmp 63) (.tmp 64) rfl (RuB.nil _ (w.heap.size+1+1+1+1)) rfl rfl (HR0.out.ab B01.out) (by have:=HLn.out;have:=HR.out.len;simp only[List.length_nil] at *;omega) S0.out ?_
       intro v7 w7 hv7 hg7
       obtain⟨A7,c7,rfl,_,_⟩:=hv7.rn
       rw[List.nil_append] at hv7
       have hb7:Below W0.heap.size W0 w7:=below_grownR B01.out hg7 (by intro g hg;cases hg) B01.out.size
       have k7:w7.cell? ⟨w.heap.size+1+1+1,3,none⟩=some (.slice none 0 0):=((show CbB _ _ _ _ from N1.out.box).ab hb7).cell (k:=3) rfl
       have f7:w7.frozen? ⟨w.heap.size+1+1+1,3,none⟩=false:=((show CbB _ _ _ _ from N1.out.box).ab hb7).free 3
       have V7:=Lib.hid hv7
       have B7:=Lib.hid hb7
       clear hv7 hg7 hb7))
   go_ret2
   exact new_end N1.out N2.out N3.out B7.out V7.out HP.out.2.1 HK.out HLn.out
theorem PgN.setKn {w w':World} {O O':Tgm} {p:Nat} {b:PgK} {T:PgP} (h:PgN w O p b T) (s:Wr (fun t=>t=(p,2)) w O w' O') {l:List (Nat×(Lb×List Nat))} (hk:∃vs,MapB u32Vp u32Okp w' b.kn vs∧KnV w' O' vs l):PgN w' O' p b { T with kn:=l }:=by
 obtain⟨vs,k1,k2⟩:=h.kn
 have hp:=h.pos
 have fz:=fun (k:Nat) (i:Nat) (hi:i≠2) (e:O k=(p,i)) (q:O k=(p,2))=>hi (by rw[e] at q;injection q)
 have f0:¬((0:Nat),(0:Nat))=(p,2):=fun e=>by injection e with e;omega
 exact {
  box:=CbB.fr h.box s.fr (fz p 1 (by decide) h.tb)
  pos:=h.pos
  tb:=(s.tg _ (CbB.lt h.box)).trans h.tb
  free:=row_fr h.free s.fr (fun k hk e=>f0 (by rw[←h.tf k hk];exact e))
  tf:=fun k hk=>(s.tg _ (row_ltD h.free k hk)).trans (h.tf k hk)
  kn:=hk
  tk:=(s.tg _ k1.lt).trans h.tk
  wa:=h.wa.same (s.fr.block _ h.wa.lt (fz _ 3 (by decide) h.tw))
  tw:=(s.tg _ h.wa.lt).trans h.tw
  pu:=h.pu.wr s (fun e=>by injection e with _ e;cases e)
  dr:=h.dr.wr s (fun e=>by injection e with _ e;cases e)
  pi:=h.pi.same (s.fr.block _ h.pi.lt (fz _ 6 (by decide) h.ti))
  ti:=(s.tg _ h.pi.lt).trans h.ti
  rgt:=h.rgt
  okr:=h.okr
  num:=h.num
  cmo:=h.cmo
  opn:=h.opn }
theorem PgN.setWa {w w':World} {O O':Tgm} {p:Nat} {b:PgK} {T:PgP} (h:PgN w O p b T) (s:Wr (fun t=>t=(p,3)) w O w' O') {l:List (Nat×Value)} (hk:MapB u32Vp u32Okp w' b.mw l):PgN w' O' p b { T with wa:=l }:=by
 obtain⟨vs,k1,k2⟩:=h.kn
 have hp:=h.pos
 have fz:=fun (k:Nat) (i:Nat) (hi:i≠3) (e:O k=(p,i)) (q:O k=(p,3))=>hi (by rw[e] at q;injection q)
 have f0:¬((0:Nat),(0:Nat))=(p,3):=fun e=>by injection e with e;omega
 exact {
  box:=CbB.fr h.box s.fr (fz p 1 (by decide) h.tb)
  pos:=h.pos
  tb:=(s.tg _ (CbB.lt h.box)).trans h.tb
  free:=row_fr h.free s.fr (fun k hk e=>f0 (by rw[←h.tf k hk];exact e))
  tf:=fun k hk=>(s.tg _ (row_ltD h.free k hk)).trans (h.tf k hk)
  kn:=⟨vs,k1.same (s.fr.block _ k1.lt (fz _ 2 (by decide) h.tk)),k2.imp fun v a t hv=>hv.wr s f0⟩
  tk:=(s.tg _ k1.lt).trans h.tk
  wa:=hk
  tw:=(s.tg _ h.wa.lt).trans h.tw
  pu:=h.pu.wr s (fun e=>by injection e with _ e;cases e)
  dr:=h.dr.wr s (fun e=>by injection e with _ e;cases e)
  pi:=h.pi.same (s.fr.block _ h.pi.lt (fz _ 6 (by decide) h.ti))
  ti:=(s.tg _ h.pi.lt).trans h.ti
  rgt:=h.rgt
  okr:=h.okr
  num:=h.num
  cmo:=h.cmo
  opn:=h.opn }
theorem PgN.setPu {w w':World} {O O':Tgm} {p:Nat} {b:PgK} {T:PgP} (h:PgN w O p b T) (s:Wr (fun t=>t=(p,4)) w O w' O') {l:List (Nat×Value)} {a:Nat} (ha:b.pv = .map (some a)) (hk:MapB u32Vp u32Okp w' a l) (hO:O' a=(p,4)):PgN w' O' p b { T with pu:=l }:=by
 obtain⟨vs,k1,k2⟩:=h.kn
 have hp:=h.pos
 have fz:=fun (k:Nat) (i:Nat) (hi:i≠4) (e:O k=(p,i)) (q:O k=(p,4))=>hi (by rw[e] at q;injection q)
 have f0:¬((0:Nat),(0:Nat))=(p,4):=fun e=>by injection e with e;omega
 exact {
  box:=CbB.fr h.box s.fr (fz p 1 (by decide) h.tb)
  pos:=h.pos
  tb:=(s.tg _ (CbB.lt h.box)).trans h.tb
  free:=row_fr h.free s.fr (fun k hk e=>f0 (by rw[←h.tf k hk];exact e))
  tf:=fun k hk=>(s.tg _ (row_ltD h.free k hk)).trans (h.tf k hk)
  kn:=⟨vs,k1.same (s.fr.block _ k1.lt (fz _ 2 (by decide) h.tk)),k2.imp fun v a t hv=>hv.wr s f0⟩
  tk:=(s.tg _ k1.lt).trans h.tk
  wa:=h.wa.same (s.fr.block _ h.wa.lt (fz _ 3 (by decide) h.tw))
  tw:=(s.tg _ h.wa.lt).trans h.tw
  pu:=.inr ⟨a,ha,hk,hO⟩
  dr:=h.dr.wr s (fun e=>by injection e with _ e;cases e)
  pi:=h.pi.same (s.fr.block _ h.pi.lt (fz _ 6 (by decide) h.ti))
  ti:=(s.tg _ h.pi.lt).trans h.ti
  rgt:=h.rgt
  okr:=h.okr
  num:=h.num
  cmo:=h.cmo
  opn:=h.opn }
theorem PgN.setDr {w w':World} {O O':Tgm} {p:Nat} {b:PgK} {T:PgP} (h:PgN w O p b T) (s:Wr (fun t=>t=(p,5)) w O w' O') {l:List (Nat×Value)} {a:Nat} (ha:b.dv = .map (some a)) (hk:MapB u32Vp u32Okp w' a l) (hO:O' a=(p,5)):PgN w' O' p b { T with dr:=l }:=by
 obtain⟨vs,k1,k2⟩:=h.kn
 have hp:=h.pos
 have fz:=fun (k:Nat) (i:Nat) (hi:i≠5) (e:O k=(p,i)) (q:O k=(p,5))=>hi (by rw[e] at q;injection q)
 have f0:¬((0:Nat),(0:Nat))=(p,5):=fun e=>by injection e with e;omega
 exact {
  box:=CbB.fr h.box s.fr (fz p 1 (by decide) h.tb)
  pos:=h.pos
  tb:=(s.tg _ (CbB.lt h.box)).trans h.tb
  free:=row_fr h.free s.fr (fun k hk e=>f0 (by rw[←h.tf k hk];exact e))
  tf:=fun k hk=>(s.tg _ (row_ltD h.free k hk)).trans (h.tf k hk)
  kn:=⟨vs,k1.same (s.fr.block _ k1.lt (fz _ 2 (by decide) h.tk)),k2.imp fun v a t hv=>hv.wr s f0⟩
  tk:=(s.tg _ k1.lt).trans h.tk
  wa:=h.wa.same (s.fr.block _ h.wa.lt (fz _ 3 (by decide) h.tw))
  tw:=(s.tg _ h.wa.lt).trans h.tw
  pu:=h.pu.wr s (fun e=>by injection e with _ e;cases e)
  dr:=.inr ⟨a,ha,hk,hO⟩
  pi:=h.pi.same (s.fr.block _ h.pi.lt (fz _ 6 (by decide) h.ti))
  ti:=(s.tg _ h.pi.lt).trans h.ti
  rgt:=h.rgt
  okr:=h.okr
  num:=h.num
  cmo:=h.cmo
  opn:=h.opn }
abbrev KnL:=List (Nat×(Lb×List Nat))
def getK (x:Nat) (l:KnL):Option (Lb×List Nat):=(l.find? fun p=>decide (p.1=x)).map (·.2)
def putK (x:Nat) (v:Lb×List Nat) (l:KnL):KnL:=if (getK x l).isSome then l.map fun p=>if p.1=x then (x,v) else p else l++[(x,v)]
section
variable {w w':World} {O O':Tgm}
theorem KnV.look (x:Nat):∀{vs:List (Nat×Value)} {l:KnL},KnV w O vs l→
 (lookL x vs=none∧getK x l=none)∨∃v k,lookL x vs=some v∧getK x l=some k∧PgV w O v k.1 k.2
 | [],[],_=>.inl ⟨rfl,rfl⟩
 | p :: ps,q::qs,h=>by
   have ih:=KnV.look x h.2
   obtain⟨⟨h1,h2⟩,h3⟩:=h
   unfold lookL getK at ih⊢
   by_cases hx:p.1=x
   · rw[List.find?_cons_of_pos (by simpa using hx),List.find?_cons_of_pos (by rw[←h1];simpa using hx)]
     exact .inr ⟨_,_,rfl,rfl,h2⟩
   · rw[List.find?_cons_of_neg (by simpa using hx),List.find?_cons_of_neg (by rw[←h1];simpa using hx)]
     exact ih
 | [],_::_,h=>h.elim
 | _::_,[],h=>h.elim
theorem KnV.snoc {x:Nat} {v:Value} {k:Lb×List Nat} (hv:PgV w O v k.1 k.2):∀{vs:List (Nat×Value)} {l:KnL},KnV w O vs l→KnV w O (vs++[(x,v)]) (l++[(x,k)])
 | [],[],_=>⟨⟨rfl,hv⟩,trivial⟩
 | p::ps,q::qs,h=>⟨h.1,KnV.snoc hv h.2⟩
 | [],_::_,h=>h.elim
 | _::_,[],h=>h.elim
theorem KnV.rep {x:Nat} {v:Value} {k:Lb×List Nat} (hv:PgV w O v k.1 k.2):∀{vs:List (Nat×Value)} {l:KnL},KnV w O vs l→KnV w O (vs.map fun p=>if p.1=x then (x,v) else p) (l.map fun p=>if p.1=x then (x,k) else p)
 | [],[],_=>trivial
 | p :: ps,q::qs,h=>by
   refine⟨?_,KnV.rep hv h.2⟩
   obtain⟨⟨h1,h2⟩,h3⟩:=h
   dsimp only
   by_cases hx:p.1=x
   · rw[if_pos hx,if_pos (by rw[←h1];exact hx)]
     exact⟨rfl,hv⟩
   · rw[if_neg hx,if_neg (by rw[←h1];exact hx)]
     exact⟨h1,h2⟩
 | [],_::_,h=>h.elim
 | _::_,[],h=>h.elim
theorem KnV.put {x:Nat} {v:Value} {k:Lb×List Nat} {vs:List (Nat×Value)} {l:KnL} (h:KnV w O vs l) (hv:PgV w O v k.1 k.2):KnV w O (putL x v vs) (putK x k l):=by
 unfold putL putK
 rcases h.look x with ⟨e1,e2⟩ | ⟨v',k',e1,e2,_⟩
 · rw[e1,e2]
   exact KnV.snoc hv h
 · rw[e1,e2]
   exact KnV.rep hv h
theorem KnV.drop (x:Nat):∀{vs:List (Nat×Value)} {l:KnL},KnV w O vs l→KnV w O (dropL x vs) (l.filter fun p=>!decide (p.1=x))
 | [],[],_=>trivial
 | p :: ps,q::qs,h=>by
   have ih:=KnV.drop x h.2
   obtain⟨⟨h1,h2⟩,h3⟩:=h
   unfold dropL at ih⊢
   by_cases hx:p.1=x
   · rw[List.filter_cons_of_neg (by simpa using hx),List.filter_cons_of_neg (by rw[←h1];simpa using hx)]
     exact ih
   · rw[List.filter_cons_of_pos (by simpa using hx),List.filter_cons_of_pos (by rw[←h1];simpa using hx)]
     exact⟨⟨h1,h2⟩,ih⟩
 | [],_::_,h=>h.elim
 | _::_,[],h=>h.elim
theorem KnV.wr {P:Nat×Nat→Prop} {vs:List (Nat×Value)} {l:KnL} (h:KnV w O vs l) (s:Wr P w O w' O') (h0:¬P (0,0)):KnV w' O' vs l:=h.imp fun _ _ _ hv=>hv.wr s h0
theorem KnV.len:∀{vs:List (Nat×Value)} {l:KnL},KnV w O vs l→vs.length=l.length
 | [],[],_=>rfl
 | p::ps,q::qs,h=>by rw[List.length_cons,List.length_cons,KnV.len h.2]
 | [],_::_,h=>h.elim
 | _::_,[],h=>h.elim
theorem Wr.grown {P:Nat×Nat→Prop} {m:Nat} (h:w.grownBy w' (some m)) (hP:P (O m)):Wr P w O w' O:=
 ⟨(Fr.grown h).imp fun k hk=>by injection hk with hk;subst hk;exact hP,fun _ _=>rfl⟩
end
section
variable {w:World} {O:Tgm} {p d rg lg:Nat} {b:PgK} {T:PgP}
set_option maxRecDepth 100000 in
theorem isFree_any (n:Nat) (h:PgN w O p b T):Calls Tryz.prog 38 #[.pointer (some ⟨p,0,none⟩),.int .u32 (n:Int)] w fun e w'=>e = .returned (.bool (hasR T.fr n))∧Below w.heap.size w w':=by
 have c3:w.cell? ⟨p,3,none⟩=some b.fv:=CbB.cell h.box (k:=3) rfl
 obtain⟨A,c,hfv,hr,_⟩:=h.free.rn
 rw[hfv] at c3
 have H:=Lib.hid (has_any' A T.fr.length c n T.fr w hr h.rgt)
 clear h hfv hr
 generalize T.fr.length=m at *
 go_enter Tryz.func38,Tryz.ntmps38
 go_wp2_with fail
 refine H.out.mono ?_
 rintro e w1 ⟨rfl,hb⟩
 have B1:=Lib.hid hb
 clear hb H
 go_wp2_with fail
 go_ret
 exact⟨rfl,B1.out⟩
set_option maxRecDepth 100000 in
theorem failed_same {S:PcS} (h:PcB w p S) (hf:S.fa=false) (e:Nat) (he:e≤1000):Calls Tryz.prog 42 #[.pointer (some ⟨p,0,none⟩),.int .i64 (e:Int)] w fun r w'=>r = .returned (.int .i64 (e:Int))∧PcB w' p { S with fa:=!decide (e=0) }∧Fr w w' (fun q=>q=p):=by
 have c12:w.cell? ⟨p,12,none⟩=some (.bool false):=by rw[←hf];exact CbB.cell h (k:=12) rfl
 have f12:=CbB.free h 12
 have H:=Lib.hid fun z=>CbB.set h 12 (.bool z)
 clear h hf
 by_cases h0:e=0
 · subst h0
   go_enter Tryz.func42,Tryz.ntmps42
   go_wp2_with fail
   go_ret
   exact⟨rfl,H.out false,fr_setD _ _ _ _⟩
 · have e0:decide (e=0)=false:=by simp;omega
   have e1:((e:Int) != 0)=true:=by simp;omega
   have e2:¬(e:Int)=0:=by omega
   clear h0 he
   go_enter Tryz.func42,Tryz.ntmps42
   go_wp2_with fail
   go_ret
   refine⟨rfl,?_,fr_setD _ _ _ _⟩
   rw[e0]
   exact H.out true
end
end Go.Proofs.YtljmiiiidjeggaaGreat
