/-
  Parts of the proof, joined.
-/
import Derived.Test.YtlobgddnlnffbaaGreatBdm
import Derived.Test.YtlobgddnlnffbaaGreatBdj
import Derived.Deep.LoopGhost
import Derived.Sort.WalkA
import Derived.Lib.Walk
import Derived.WalkKit
import Derived.BigQuiet
import Derived.Deep.Draws
import Derived.Deep.QuietTactic
import Derived.Test.YtlobgddnlnffbaaGreatBda
import Derived.Deep.RegionWith
import Derived.Ground.So_math_bits_Len64
import Derived.Deep.Light
import Derived.Sort.Walk13
import Derived.Sort.LotD6
import Derived.Sort.WalkA14
import Derived.Sort.LotD7
import Derived.Sort.AssemblyPlain
import Derived.Test.YtlobgddnlnffbaaGreatBdi
import Derived.Test.YtlobgddnlnffbaaGreatBdg
import Derived.Test.YtlobgddnlnffbaaGreatBdf
import Derived.Lib.SmallJoins
namespace Go.Proofs.YtlobgddnlnffbaaGreat
set_option maxHeartbeats 32000000
open Go.RowKit
set_option linter.unusedVariables false
def gensK (t:Nat) (ks:List (Nat×Nat)):List Nat:=(ks.filter fun p=>decide (p.1=t)).map (·.2)
theorem gensK_snoc (t:Nat) (ks:List (Nat×Nat)) (p:Nat×Nat):gensK t (ks++[p])=gensK t ks++(if p.1=t then [p.2] else []):=by
 unfold gensK
 rw[List.filter_append,List.map_append]
 by_cases h:p.1=t <;> simp[h]
theorem gensK_mem {t:Nat} {ks:List (Nat×Nat)} {x:Nat}:x∈gensK t ks↔(t,x)∈ks:=by
 unfold gensK
 simp only[List.mem_map,List.mem_filter,decide_eq_true_eq]
 constructor
 · rintro ⟨⟨a,b⟩,⟨h1,h2⟩,h3⟩
   simp only at h2 h3
   rw[←h2,←h3]
   exact h1
 · intro h
   exact⟨(t,x),⟨h,rfl⟩,rfl⟩
theorem gensK_nodup {t:Nat} {ks:List (Nat×Nat)} (h:ks.Nodup):(gensK t ks).Nodup:=by
 induction ks with
 | nil=>simp[gensK]
 | cons p r ih=>
   obtain⟨h1,h2⟩:=List.nodup_cons.1 h
   unfold gensK at ih⊢
   by_cases e:p.1=t
   · rw[List.filter_cons_of_pos (by simpa using e),List.map_cons]
     refine List.nodup_cons.2 ⟨fun hm=>h1 ?_,ih h2⟩
     have:=gensK_mem.1 hm
     rwa [←e] at this
   · rw[List.filter_cons_of_neg (by simpa using e)]
     exact ih h2
theorem gensK_len (t:Nat) (ks:List (Nat×Nat)):(gensK t ks).length≤ks.length:=by
 unfold gensK
 rw[List.length_map]
 exact List.length_filter_le _ _
theorem gens_one {t:Nat} {a b:List (Nat×Nat)} (ha:a.Nodup) (hb:b.Nodup) (h:∀x,x∈a↔x∈b):U16.srt (gensK t a)=U16.srt (gensK t b):=
 U16.asc_eq (U16.srt_asc _ (gensK_nodup ha)) (U16.srt_asc _ (gensK_nodup hb)) fun x=>by rw[U16.srt_mem,U16.srt_mem,gensK_mem,gensK_mem,h]
theorem RgV.keys {w:World} {B:Nat}:∀{vs:List ((Nat×Nat)×Value)} {l:RgL},RgV w B vs l→vs.map (·.1)=l.map (·.1)
 | [],[],_=>rfl
 | p::ps,q::qs,h=>by rw[List.map_cons,List.map_cons,h.1.1,RgV.keys h.2]
 | [],_::_,h=>h.elim
 | _::_,[],h=>h.elim
theorem nsb_ne {w:World} {B r b:Nat} {v:Value} {l:List Nat} {vs d:List ((Nat×Nat)×Value)} (h:U16.NsB w B v l) (hr:RngB whV whOk w b r vs d):v.ownBlock≠some r:=by
 obtain⟨es,clock,since,seen,c0,h1,h2,h3,h4,h5,_⟩:=hr
 rcases h.2 with ⟨rfl,_⟩ | ⟨g,cap,cur,rfl,_,hb,_⟩
 · simp[Value.ownBlock]
 · intro e
   simp only[Value.ownBlock,Option.some.injEq] at e
   subst e
   rw[hb] at h5
   cases h5
theorem nsb_notMap {w:World} {B m:Nat} {v:Value} {l:List Nat} {vs:List ((Nat×Nat)×Value)} (h:U16.NsB w B v l) (hm:MapB whV whOk w m vs):v.ownBlock≠some m:=by
 obtain⟨es,clock,h1,_⟩:=hm
 rcases h.2 with ⟨rfl,_⟩ | ⟨g,cap,cur,rfl,_,hb,_⟩
 · simp[Value.ownBlock]
 · intro e
   simp only[Value.ownBlock,Option.some.injEq] at e
   subst e
   rw[hb] at h1
   cases h1
set_option maxRecDepth 100000 in
theorem gens_any (B g m t:Nat) (l:RgL) (w:World) (h:RgB w B g m l) (ht:t<4294967296) (hl:l.length≤12):
 Calls Tryz.prog 131 #[.pointer (some ⟨g,0,none⟩),.int .u32 (t:Int)] w fun e w'=>∃v,e = .returned v∧U16.NsB w' w.heap.size v (U16.srt (gensK t (l.map (·.1))))∧Below w.heap.size w w':=by
 have hcell:=h.cell
 obtain⟨vs,hm,hv⟩:=h.map
 have KS:=Lib.hid hv.keys
 have VN:Hid (vs.length≤12):=Lib.hid (by have:=congrArg List.length hv.keys;simp at this;omega)
 have ND:=Lib.hid (hm.nodup wh_K)
 have M0:=Lib.hid hm
 have ML:=Lib.hid hm.lt
 clear h hm hv hl ht
 go_enter Tryz.func131,Tryz.ntmps131
 go_wp2_with (first
  | (refine wpList_mapRange rfl (.tmp 12) rfl Tryz.underlying189 rfl M0.out ?_
     intro w1 r1 b1 s1
     have R1:=Lib.hid r1
     have B1:=Lib.hid b1
     clear r1 b1 s1
     simp[Act.put]))
 go_loopg [5] (vs.length) (fun k v wr=>∃d,vs.length-d.length≤k∧RngB whV whOk wr m w.heap.size vs d∧U16.NsB wr w.heap.size v (gensK t (d.map (·.1)))∧Below w.heap.size w wr∧w.heap.size<wr.heap.size)
 case atStart=>exact⟨[],by simp,R1.out,U16.NsB.nil _ _,B1.out,R1.out.lt⟩
 case round =>
  obtain⟨d,hk,hr,hn,hb,hs⟩:=hrel
  have HK:=Lib.hid hk
  have N1:=Lib.hid hn
  have NB:=Lib.hid hb
  have NS:=Lib.hid hs
  have DL:Hid ((gensK t (d.map (·.1))).length≤12):=Lib.hid (by have h1:=gensK_len t (d.map (·.1));have h2:=hr.len_le;have h3:=VN.out;rw[List.length_map] at h1;omega)
  have RNE:=Lib.hid (nsb_ne hn hr)
  rcases hr.next wh_K 0 with ⟨hall,hrun⟩ | ⟨p,w2,hp,hd,hrun,hr2,hg2,hs2,hent,hbel⟩
  · have GO:Hid (U16.srt (gensK t (d.map (·.1)))=U16.srt (gensK t (l.map (·.1)))):=Lib.hid (by
     rw[←KS.out]
     obtain⟨_,_,_,_,_,_,_,_,_,_,_,_,_,_,hsub,hnd⟩:=hr
     refine gens_one hnd ND.out fun x=>?_
     simp only[List.mem_map]
     constructor
     · rintro ⟨q,h1,h2⟩;exact⟨q,hsub q h1,h2⟩
     · rintro ⟨q,h1,h2⟩;exact⟨q,hall q h1,h2⟩)
    clear hk hr hn hb hs hall
    go_wp2_with (first
     | (go_at_call 164
        refine (U16.sort_own w.heap.size _ _ _ N1.out (by have:=DL.out;omega)).mono ?_
        rintro e w3 ⟨rfl,h3,g3⟩
        have N3:=Lib.hid h3
        have B3:=Lib.hid (U16.below_grownO NB.out g3 (own_ge9 N1.out) (Nat.le_of_lt NS.out))
        clear h3 g3))
    go_ret
    exact⟨_,rfl,by rw[←GO.out];exact N3.out,B3.out⟩
  · obtain ⟨⟨pt,pg⟩,pv⟩:=p
    simp only[whV] at hrun hent
    have HN:=Lib.hid hr2
    have HM:Hid (d.length<vs.length):=Lib.hid (by have:=hr2.len_le;simp at this;omega)
    have N2:Hid (U16.NsB w2 w.heap.size u5 (gensK t (d.map (·.1)))):=Lib.hid (hn.kept hg2 (.inr RNE.out))
    have B2:=Lib.hid (hbel _ _ hb (Nat.le_refl _))
    have S2:Hid (w.heap.size<w2.heap.size):=Lib.hid (by rw[hs2];exact hs)
    clear hk hr hn hb hs hp hd hr2 hg2 hs2 hbel
    by_cases e1:pt=t
    · have d1:((pt:Int)==(t:Int))=true:=by simp[e1]
      have NX:Hid (gensK t ((d++[((pt,pg),pv)]).map (·.1))=gensK t (d.map (·.1))++[pg]):=Lib.hid (by rw[List.map_append,List.map_cons,List.map_nil,gensK_snoc];simp[e1])
      clear e1
      have GC:Hid (CbB ((w2.alloc (.cells #[.int .u32 (pt:Int),.int .u16 (pg:Int)] 196)).alloc (.cells #[.int .u16 (pg:Int)] 32)) (w2.heap.size+1) 32 #[.int .u16 (pg:Int)]):=Lib.hid (by
       have:=CbB.new (w2.alloc (.cells #[.int .u32 (pt:Int),.int .u16 (pg:Int)] 196)) 32 #[.int .u16 (pg:Int)]
       rwa [World.size_alloc] at this)
      go_wp2_with (first
       | (refine U16.wpList_appN rfl (.tmp 22) (.tmp 25) rfl (B:=w.heap.size) ((N2.out.ab ((Below.refl _ _).alloc (Nat.le_refl _) _)).ab ((Below.refl _ _).alloc (Nat.le_refl _) _)) rfl pg rfl GC.out (by have:=DL.out;omega) (by have:=S2.out;simp;omega) ?_
          intro v5 w5 h5 g5
          have b3:Below w2.heap.size w2 ((w2.alloc (.cells #[.int .u32 (pt:Int),.int .u16 (pg:Int)] 196)).alloc (.cells #[.int .u16 (pg:Int)] 32)):=((Below.refl _ _).alloc (Nat.le_refl _) _).alloc (by simp) _
          have N5:=Lib.hid h5
          have R5:=Lib.hid ((HN.out.ab b3).grown g5 (nsb_notMap ((N2.out.ab b3)) (HN.out.ab b3).mapB) (nsb_ne (N2.out.ab b3) (HN.out.ab b3)))
          have B5:=Lib.hid (U16.below_grownO (below_tr B2.out b3 (Nat.le_of_lt S2.out)) g5 (own_ge9 N2.out) (Nat.le_trans (Nat.le_of_lt S2.out) b3.size))
          have S5:Hid (w.heap.size<w5.heap.size):=Lib.hid (Nat.lt_of_lt_of_le S2.out (Nat.le_trans b3.size g5.size))
          clear h5 g5 b3))
      go_roundg (vs.length-(d.length+1))
      case measure=>have:=HM.out;have:=HK.out;omega
      case rel=>exact⟨_,by simp,R5.out,by rw[NX.out];exact N5.out,B5.out,S5.out⟩
    · have d1:((pt:Int)==(t:Int))=false:=by simp;omega
      have NX:Hid (gensK t ((d++[((pt,pg),pv)]).map (·.1))=gensK t (d.map (·.1))):=Lib.hid (by rw[List.map_append,List.map_cons,List.map_nil,gensK_snoc];simp[e1])
      clear e1
      go_wp2_with fail
      go_roundg (vs.length-(d.length+1))
      case measure=>have:=HM.out;have:=HK.out;omega
      case rel=>
       have b3:Below w2.heap.size w2 (w2.alloc (.cells #[.int .u32 (pt:Int),.int .u16 (pg:Int)] 196)):=(Below.refl _ _).alloc (Nat.le_refl _) _
       exact⟨_,by simp,HN.out.ab b3,by rw[NX.out];exact N2.out.ab b3,below_tr B2.out b3 (Nat.le_of_lt S2.out),Nat.lt_of_lt_of_le S2.out b3.size⟩
def newP (t:Nat) (l:RgL):Nat×Nat:=match (U16.srt (gensK t (l.map (·.1)))).getLast? with | some x=>(x,0) | none=>(0,7)
set_option maxRecDepth 100000 in
theorem newest_any (B g m t:Nat) (l:RgL) (w:World) (h:RgB w B g m l) (ht:t<4294967296) (hl:l.length≤12):
 Calls Tryz.prog 71 #[.pointer (some ⟨g,0,none⟩),.int .u32 (t:Int)] w fun e w'=>e = .returned (.tuple #[.int .u16 ((newP t l).1:Int),.int .i64 ((newP t l).2:Int)])∧Below w.heap.size w w':=by
 have C0:=Lib.hid (gens_any B g m t l w h ht hl)
 have hlen:(U16.srt (gensK t (l.map (·.1)))).length≤12:=by
  have h1:=gensK_len t (l.map (·.1))
  rw[U16.srt_len]
  rw[List.length_map] at h1
  omega
 unfold newP
 generalize U16.srt (gensK t (l.map (·.1)))=L at C0 hlen⊢
 rcases List.eq_nil_or_concat L with rfl | ⟨r,x,rfl⟩
 · clear h ht hl hlen
   go_enter Tryz.func71,Tryz.ntmps71
   go_wp2_with (first
    | (go_at_call 131
       refine C0.out.mono ?_
       rintro e w1 ⟨v,rfl,hv,hb⟩
       obtain⟨A,c,rfl,_⟩:=hv.form
       have B1:=Lib.hid hb
       clear hv hb))
   go_ret2
   exact⟨rfl,B1.out⟩
 · have hk:(r.concat x).length=r.length+1:=by simp
   obtain⟨k,hk2⟩:∃k,k=r.length:=⟨_,rfl⟩
   have hkb:(k:Int)≤12:=by omega
   rw[show (r.concat x).getLast? = some x by simp]
   have HL:Hid ((r.concat x).length=k+1):=Lib.hid (by omega)
   have HX:Hid (∀(hi:k<(r.concat x).length),(r.concat x)[k]=x):=Lib.hid fun hi=>by simp[hk2]
   clear h ht hl hlen hk hk2
   go_enter Tryz.func71,Tryz.ntmps71
   go_wp2_with (first
    | (go_at_call 131
       refine C0.out.mono ?_
       rintro e w1 ⟨v,rfl,hv,hb⟩
       obtain⟨A,c,rfl,hcc⟩:=hv.form
       obtain⟨g1,rfl,hcell⟩:=hcc k (by rw[HL.out];omega)
       rw[HX.out] at hcell
       rw[HL.out]
       have B1:=Lib.hid hb
       clear hv hb hcc))
   go_ret2
   exact⟨rfl,B1.out⟩
set_option linter.unusedSimpArgs false
def PutR (B t k lv pg cm gn:Nat) (pay:List Nat) (v:Value) (W:World):Prop:=∃x,v = .agg #[.int .u32 (t:Int),.int .u8 (k:Int),.int .u8 (lv:Int),.int .u32 (pg:Int),.int .u64 (cm:Int),.int .u16 (gn:Int),x]∧OwB W B x pay
theorem PutR.mono {B t k lv pg cm gn:Nat} {pay:List Nat}:Mono (PutR B t k lv pg cm gn pay):=fun _ _ _ ⟨x,h1,h2⟩ hb=>⟨x,h1,h2.ab hb⟩
def putT (T:PgP) (r:Nat×Nat) (rest:RnL) (l:Lb) (pay:List Nat):PgP:={ T with fr:=mkR (r.1+1) r.2++rest,kn:=putK r.1 (l,pay) T.kn,pu:=putL r.1 (.bool true) T.pu }
theorem Wr.fresh {P:Nat×Nat→Prop} {w w8 w9:World} {O O1:Tgm} (h:Wr P w O w8 O1) (hf:Fr w8 w9 (fun k=>w.heap.size≤k)):Wr P w O w9 O1:=
 ⟨⟨hf.os.trans h.fr.os,hf.tape.trans h.fr.tape,hf.output.trans h.fr.output,Nat.le_trans h.size hf.size,fun i hi hn=>(hf.block i (Nat.lt_of_lt_of_le hi h.size) (by omega)).trans (h.fr.block i hi hn)⟩,h.tg⟩
theorem right_of {l:RnL} (h:∀i r,l[i]? = some r→r.1<r.2∧∀q,0<i→l[i-1]? = some q→q.2<r.1):rightR l=true:=by
 unfold rightR
 rw[List.all_eq_true]
 intro i hi
 rw[List.mem_range] at hi
 obtain⟨r,hr⟩:∃r,l[i]? = some r:=⟨_,List.getElem?_eq_getElem hi⟩
 have h1:=h i r hr
 have e1:l.getD i (0,0)=r:=by rw[List.getD_eq_getElem?_getD,hr];rfl
 unfold rightI
 cases i with
 | zero=>simp only[e1,h1.1,decide_true,Bool.true_or,Bool.and_self]
 | succ i=>
   obtain⟨q,hq⟩:∃q,l[i]? = some q:=⟨_,List.getElem?_eq_getElem (by omega)⟩
   have e2:l.getD i (0,0)=q:=by rw[List.getD_eq_getElem?_getD,hq];rfl
   have h2:=h1.2 q (by omega) (by simpa using hq)
   simp only[e1,Nat.add_sub_cancel,e2,h1.1,h2,decide_true,Bool.or_true,Bool.and_self]
theorem rgt_tail {r:Nat×Nat} {l:RnL} (h:rightR (r::l)=true):rightR (mkR (r.1+1) r.2++l)=true:=by
 have h0:=right_all h
 refine right_of fun i q hq=>?_
 unfold mkR at hq
 by_cases hr:r.1+1<r.2
 · rw[if_pos hr] at hq
   cases i with
   | zero=>
     simp only[List.cons_append,List.getElem?_cons_zero,Option.some.injEq] at hq
     subst hq
     exact⟨hr,fun _ h=>absurd h (Nat.lt_irrefl 0)⟩
   | succ i=>
     simp only[List.cons_append,List.nil_append,List.getElem?_cons_succ] at hq
     have h1:=h0 (i+1) q (by simpa using hq)
     refine⟨h1.1,fun u _ hu=>?_⟩
     unfold mkR at hu
     rw[if_pos hr] at hu
     cases i with
     | zero=>
       simp only[Nat.add_sub_cancel,List.cons_append,List.getElem?_cons_zero,Option.some.injEq] at hu
       subst hu
       exact h1.2 r (by omega) rfl
     | succ j=>
       simp only[Nat.add_sub_cancel,List.cons_append,List.nil_append,List.getElem?_cons_succ] at hu
       exact h1.2 u (by omega) (by simpa using hu)
 · rw[if_neg hr,List.nil_append] at hq
   have h1:=h0 (i+1) q (by simpa using hq)
   refine⟨h1.1,fun u hi hu=>?_⟩
   unfold mkR at hu
   rw[if_neg hr,List.nil_append] at hu
   cases i with
   | zero=>omega
   | succ j=>exact h1.2 u (by omega) (by simpa using hu)
theorem PgN.puB {w:World} {O:Tgm} {p a:Nat} {b:PgK} {T:PgP} (h:PgN w O p b T) (ha:b.pv = .map (some a)):MapB u32Vp u32Okp w a T.pu∧O a=(p,4):=by
 rcases h.pu with ⟨e,_⟩ | ⟨a',e,h1,h2⟩
 · rw[ha] at e;cases e
 · rw[ha] at e
   injection e with e
   injection e with e
   subst e
   exact⟨h1,h2⟩
theorem PgN.drB {w:World} {O:Tgm} {p a:Nat} {b:PgK} {T:PgP} (h:PgN w O p b T) (ha:b.dv = .map (some a)):MapB u32Vp u32Okp w a T.dr∧O a=(p,5):=by
 rcases h.dr with ⟨e,_⟩ | ⟨a',e,h1,h2⟩
 · rw[ha] at e;cases e
 · rw[ha] at e
   injection e with e
   injection e with e
   subst e
   exact⟨h1,h2⟩
theorem put_kn {w6 w7:World} {O1:Tgm} {p n B:Nat} {b:PgK} {T:PgP} {vs:List (Nat×Value)} {q:Value} {t k lv gen:Nat} {pay:List Nat} (h:PgN w6 O1 p b T) (kv:KnV w6 O1 vs T.kn) (hv:PutR B t k lv n T.cm gen pay q w6) (hB:∀k,B≤k→O1 k=(0,0)) (ok:Lb.Ok ⟨t,k,lv,n,T.cm,gen⟩) (h7:MapB u32Vp u32Okp w7 b.kn (putL n q vs)) (hg:w6.grownBy w7 (some b.kn)):PgN w7 O1 p b { T with kn:=putK n (⟨t,k,lv,n,T.cm,gen⟩,pay) T.kn }:=by
 have hp:=h.pos
 have s:Wr (fun t=>t=(p,2)) w6 O1 w7 O1:=Wr.grown hg h.tk
 have f0:¬((0:Nat),(0:Nat))=(p,2):=fun e=>by injection e with e;omega
 refine h.setKn s ⟨_,h7,(kv.wr s f0).put ?_⟩
 obtain⟨x,rfl,hx⟩:=hv
 have hs:StB w6 O1 x pay:=StB.own hx (fun k hk=>hB k (own_ge9 hx.own k hk))
 exact⟨x,rfl,hs.wr s f0,ok⟩
set_option maxRecDepth 100000 in
theorem put_ok {w:World} {O:Tgm} {p d rg lg t k lv gen c:Nat} {X:Addr} {T:PgP} {R:RgL} {r:Nat×Nat} {rest:RnL} {pay:List Nat} (h:PgM w O p d rg lg T) (hr:RgM w O rg R) (hf:T.fa=false) (ho:T.cm≠0∧T.fl=false) (hk:1≤k∧k≤3) (ht:t<4294967296) (hlv:lv<256) (hR:R.length≤12) (hg:newP t R=(gen,0)) (hgn:gen<65536)
 (hfr:T.fr=r::rest) (ip:IsB w (some X) 224 c pay) (hX:(O X.block).1≠p):
 Calls Tryz.prog 27 #[.pointer (some ⟨p,0,none⟩),.int .u32 (t:Int),.int .u8 (k:Int),.int .u8 (lv:Int),.slice (some X) 224 c] w fun e w'=>∃O',e = .returned (.tuple #[.agg #[.int .u32 (r.1:Int),.int .u64 (T.cm:Int),.int .u16 (gen:Int)],.int .i64 0])∧PgM w' O' p d rg lg (putT T r rest ⟨t,k,lv,r.1,T.cm,gen⟩ pay)∧Wr (fun τ=>τ.1=p) w O w' O':=by
 obtain⟨b,hN,rfl,rfl,rfl⟩:=h
 obtain⟨m,hrg⟩:=hr.rg
 have cut0:∀W,Below w.heap.size w W→Wr (fun _=>False) w O W (markO O w.heap.size (some w.heap.size) (0,9)):=fun W hW=>Wr.of hW _ fun k hk=>markO_old hk
 have N0:=Lib.hid fun W hW=>hN.wr (cut0 W hW) (fun _=>id) id
 have HM:=Lib.hid fun W hW=>may_any (N0.out W hW).box
 rw[show mayP (pcS b T)=0 from by unfold mayP pcS;rw[hf];rfl] at HM
 have HO:=Lib.hid fun W hW=>open_any (N0.out W hW).box
 rw[show openB (pcS b T)=true from by unfold openB pcS;rw[ho.2,decide_eq_false ho.1];rfl] at HO
 have HG:=Lib.hid fun W (hW:Below w.heap.size w W)=>newest_any 0 b.rg m t R W (hrg.ab hW) ht hR
 rw[hg] at HG
 have hok:=hN.okr r (by rw[hfr];exact List.mem_cons_self ..)
 have hr12:=(right_all hN.rgt 0 r (by rw[hfr];rfl)).1
 have HFR:Hid (∀W,Below w.heap.size w W→∃A n c,b.fv = .slice A n c∧n≤4096∧RnB W A n c (r::rest)):=Lib.hid fun W hW=>by
  obtain⟨A,c,h1,h2,_⟩:=(N0.out W hW).free.rn
  rw[hfr] at h1 h2
  exact⟨A,_,c,h1,by rw[←hfr];exact hN.num,h2⟩
 obtain⟨Af,nf,cf,hfv,hnf,_⟩:=HFR.out w (Below.refl _ _)
 have TK:Hid (∀W,Below w.heap.size w W→Calls Tryz.prog 72 #[.slice Af nf cf] W fun e w'=>∃v,e = .returned (.tuple #[.int .u32 (r.1:Int),v,.int .i64 0])∧RuB w' W.heap.size v (mkR (r.1+1) r.2++rest)∧Below W.heap.size W w'):=Lib.hid fun W hW=>by
  obtain⟨A,n,c,h1,h2,h3⟩:=HFR.out W hW
  rw[hfv] at h1
  injection h1 with e1 e2 e3
  subst e1 e2 e3
  exact take_ok _ _ _ r rest W h3 (by rw[←hfr];exact hN.rgt) ⟨by omega,hr12⟩ (by omega)
 have k1:decide ((k:Int)<1)=false:=decide_eq_false (by omega)
 have k2:decide ((3:Int)<(k:Int))=false:=decide_eq_false (by omega)
 have IP:=Lib.hid ip
 have HK:=Lib.hid (And.intro hk (And.intro ht (And.intro hlv hgn)))
 have HF:=Lib.hid hfr
 have HZ:=Lib.hid ho
 have HV:=Lib.hid hfv
 have HN:=Lib.hid hN
 have HH:=Lib.hid (And.intro hok hr12)
 have C1:Hid (∀W,Below w.heap.size w W→W.cell? ⟨p,1,none⟩=some (.pointer (some ⟨b.rg,0,none⟩))∧W.cell? ⟨p,3,none⟩=some (.slice Af nf cf)):=Lib.hid fun W hW=>⟨CbB.cell (N0.out W hW).box (k:=1) rfl,by rw[←hfv];exact CbB.cell (N0.out W hW).box (k:=3) rfl⟩
 obtain⟨av,hav⟩:=(hN.opn ho.1).1
 have HAV:=Lib.hid hav
 have HX:Hid (X.block≠p):=Lib.hid fun e=>hX (by rw[e,hN.tb])
 clear hN hr hf ho hk hX hav ht hlv hR hg hgn hfr ip hrg hok hr12 hfv hnf cut0
 have B0:Hid (Below w.heap.size w (w.alloc (.cells #[.int .u32 0,.int .u64 0,.int .u16 0] 34))):=Lib.hid ((Below.refl _ _).alloc (Nat.le_refl _) _)
 have K0:Hid (CbB (w.alloc (.cells #[.int .u32 0,.int .u64 0,.int .u16 0] 34)) w.heap.size 34 #[.int .u32 0,.int .u64 0,.int .u16 0]):=Lib.hid (CbB.new _ _ _)
 go_enter Tryz.func27,Tryz.ntmps27
 go_wp2_with fail
 refine (HM.out _ B0.out).mono ?_
 rintro e w1 ⟨rfl,rfl⟩
 go_wp2_with fail
 refine (HO.out _ B0.out).mono ?_
 rintro e w1 ⟨rfl,rfl⟩
 have p1:=(C1.out _ B0.out).1
 go_wp2_with fail
 refine (HG.out _ B0.out).mono ?_
 rintro e w2 ⟨rfl,hb2⟩
 have B2:=Lib.hid (below_tr B0.out hb2 B0.out.size)
 have K2:=Lib.hid (K0.out.ab hb2)
 have p3:=(C1.out _ B2.out).2
 clear HG HM HO
 go_wp2_with fail
 refine (TK.out _ B2.out).mono ?_
 rintro e w3 ⟨v3,rfl,hv3,hb3⟩
 have B3:=Lib.hid (below_tr B2.out hb3 B2.out.size)
 have K3:=Lib.hid (K2.out.ab hb3)
 obtain⟨A3,c3,rfl,_,_⟩:=hv3.rn
 obtain⟨m3,hm3⟩:∃m3,List.length (mkR (r.1+1) r.2++rest)=m3:=⟨_,rfl⟩
 rw[hm3] at hv3⊢
 have V3:=Lib.hid (hv3.lower (Nat.succ_le_of_lt K2.out.lt))
 have M3:=Lib.hid hm3
 have q3:=(C1.out _ B3.out).2
 have X3:=N0.out _ B3.out
 have f3:=CbB.free X3.box 3
 have p9:(w3.setCell ⟨p,3,none⟩ (.slice A3 m3 c3)).cell? ⟨p,9,none⟩=some (.int .u64 (T.cm:Int)):=(CbB.set X3.box 3 (.slice A3 m3 c3)).cell (k:=9) rfl
 clear hv3 hb3 TK p3 hm3 X3
 go_upto_region 14 with (fail)
 have hO1:Hid (∃O1,markO O w.heap.size (some w.heap.size) (0,9)=O1):=Lib.hid ⟨_,rfl⟩
 obtain⟨O1,hO1⟩:=hO1.out
 rw[hO1] at N0
 have TG:Hid (∀k,w.heap.size<k→O1 k=(0,0)):=Lib.hid fun k hk=>by rw[←hO1];unfold markO;rw[if_neg (by omega),if_neg (fun e=>by injection e with e;omega)]
 have TC:Hid (O1 w.heap.size=(0,9)):=Lib.hid (by rw[←hO1];exact markO_new (Nat.le_refl _))
 have TO:Hid (∀k,k<w.heap.size→O1 k=O k):=Lib.hid fun k hk=>by rw[←hO1];exact markO_old hk
 clear hO1
 have n3:=N0.out _ B3.out
 have hp3:p<w.heap.size:=CbB.lt HN.out.box
 have w34:Wr (fun τ=>τ=(p,1)) w3 O1 (w3.setCell ⟨p,3,none⟩ (.slice A3 m3 c3)) O1:=⟨(fr_setD w3 p 3 (.slice A3 m3 c3)).imp fun q hq=>by rw[hq];exact n3.tb,fun _ _=>rfl⟩
 have v3s:=M3.out
 have hgtV:∀q,(Value.slice A3 m3 c3).ownBlock=some q→w.heap.size<q:=fun q hq=>own_ge9 V3.out q hq
 have n4:PgN (w3.setCell ⟨p,3,none⟩ (.slice A3 m3 c3)) O1 p { b with fv:=.slice A3 m3 c3 } { T with fr:=mkR (r.1+1) r.2++rest }:=n3.upd w34 (CbB.set n3.box 3 _) (by
  unfold RuB
  exact row_fr (row_low V3.out (Nat.zero_le _)) (fr_setD w3 p 3 (.slice A3 m3 c3)) (fun k hk e=>by have:=own_ge9 V3.out k hk;omega)) (fun k hk=>TG.out k (hgtV k hk)) rfl rfl rfl rfl rfl (rgt_tail (by rw[←HF.out];exact n3.rgt)) (fun q hq=>by
  rcases List.mem_append.1 hq with hq | hq
  · obtain⟨e,_⟩:=mkR_mem hq
    rw[e]
    have:=HH.out
    exact⟨by simp;omega,this.1.2⟩
  · exact n3.okr q (by rw[HF.out];exact List.mem_cons_of_mem _ hq)) (by
  have h1:=n3.num
  rw[HF.out,List.length_cons] at h1
  have h2:=mkR_le (r.1+1) r.2
  rw[List.length_append]
  omega) n3.cmo id
 have B5a:Below (w3.setCell ⟨p,3,none⟩ (.slice A3 m3 c3)).heap.size (w3.setCell ⟨p,3,none⟩ (.slice A3 m3 c3)) ((w3.setCell ⟨p,3,none⟩ (.slice A3 m3 c3)).alloc (.cells #[.int .u32 (r.1:Int),.int .u64 (T.cm:Int),.int .u16 (gen:Int)] 34)):=(Below.refl _ _).alloc (Nat.le_refl _) _
 have n5:=n4.wr (Wr.of B5a (fun _=>False) (fun _ _=>rfl)) (fun _=>id) id
 have k5:CbB ((w3.setCell ⟨p,3,none⟩ (.slice A3 m3 c3)).alloc (.cells #[.int .u32 (r.1:Int),.int .u64 (T.cm:Int),.int .u16 (gen:Int)] 34)) w.heap.size 34 #[.int .u32 0,.int .u64 0,.int .u16 0]:=(CbB.far K3.out (by omega) _).ab B5a
 have r5:CbB ((w3.setCell ⟨p,3,none⟩ (.slice A3 m3 c3)).alloc (.cells #[.int .u32 (r.1:Int),.int .u64 (T.cm:Int),.int .u16 (gen:Int)] 34)) w3.heap.size 34 #[.int .u32 (r.1:Int),.int .u64 (T.cm:Int),.int .u16 (gen:Int)]:=by
  have:=CbB.new (w3.setCell ⟨p,3,none⟩ (.slice A3 m3 c3)) 34 #[.int .u32 (r.1:Int),.int .u64 (T.cm:Int),.int .u16 (gen:Int)]
  simpa using this
 have i5:IsB ((w3.setCell ⟨p,3,none⟩ (.slice A3 m3 c3)).alloc (.cells #[.int .u32 (r.1:Int),.int .u64 (T.cm:Int),.int .u16 (gen:Int)] 34)) (some X) 224 c pay:=((IP.out.ab B3.out).fr (fr_setD w3 p 3 (.slice A3 m3 c3)) (fun x hx=>by injection hx with hx;subst hx;exact HX.out)).ab B5a
 have t5:Wr (fun τ=>τ.1=p) w O ((w3.setCell ⟨p,3,none⟩ (.slice A3 m3 c3)).alloc (.cells #[.int .u32 (r.1:Int),.int .u64 (T.cm:Int),.int .u16 (gen:Int)] 34)) O1:=((Wr.of (O':=O1) B3.out _ TO.out).tr (w34.imp fun τ hτ=>by rw[hτ])).tr (Wr.of B5a _ (fun _ _=>rfl))
 have s5:w3.heap.size<((w3.setCell ⟨p,3,none⟩ (.slice A3 m3 c3)).alloc (.cells #[.int .u32 (r.1:Int),.int .u64 (T.cm:Int),.int .u16 (gen:Int)] 34)).heap.size:=by simp
 have s3:w.heap.size<w3.heap.size:=K3.out.lt
 obtain⟨w5,hw5⟩:∃w5,(w3.setCell ⟨p,3,none⟩ (.slice A3 m3 c3)).alloc (.cells #[.int .u32 (r.1:Int),.int .u64 (T.cm:Int),.int .u16 (gen:Int)] 34)=w5:=⟨_,rfl⟩
 rw[hw5] at n5 k5 r5 i5 t5 s5⊢
 have N5:=Lib.hid n5
 have K5:=Lib.hid k5
 have R5:=Lib.hid r5
 have IK:=Lib.hid i5
 have T5:=Lib.hid t5
 have S5:=Lib.hid s5
 have S3:=Lib.hid s3
 have HP3:=Lib.hid hp3
 clear hw5 n5 k5 r5 i5 t5 s5 s3 n4 n3 w34 B5a hgtV v3s hp3 q3 f3 p9 C1
 have C4:Hid (∀W,Below w5.heap.size w5 W→W.cell? ⟨p,4,none⟩=some (.map (some b.kn))):=Lib.hid fun W hW=>(CbB.ab N5.out.box hW).cell (k:=4) rfl
 have CR:Hid (∀W,Below w5.heap.size w5 W→W.cell? ⟨w3.heap.size,0,none⟩=some (.int .u32 (r.1:Int))∧W.cell? ⟨w3.heap.size,1,none⟩=some (.int .u64 (T.cm:Int))∧W.cell? ⟨w3.heap.size,2,none⟩=some (.int .u16 (gen:Int))):=Lib.hid fun W hW=>⟨(R5.out.ab hW).cell (k:=0) rfl,(R5.out.ab hW).cell (k:=1) rfl,(R5.out.ab hW).cell (k:=2) rfl⟩
 refine wp_wide3 [⟨78,IsR (.pointer (some ⟨p,0,none⟩)),[],false⟩,⟨79,IsR (.pointer (some ⟨p,0,none⟩)),[0],false⟩,⟨80,IsR (.pointer (some ⟨p,4,none⟩)),[1],false⟩,⟨81,IsR (.map (some b.kn)),[2],false⟩,⟨82,IsR (.int .u32 (r.1:Int)),[],false⟩,⟨83,IsR (.int .u32 (t:Int)),[],false⟩,⟨84,IsR (.int .u8 (k:Int)),[],false⟩,⟨85,IsR (.int .u8 (lv:Int)),[],false⟩,⟨86,IsR (.agg #[.int .u32 (r.1:Int),.int .u64 (T.cm:Int),.int .u16 (gen:Int)]),[],false⟩,⟨87,IsR (.agg #[.int .u32 (t:Int),.int .u8 (k:Int),.int .u8 (lv:Int),.int .u32 (r.1:Int),.int .u64 (T.cm:Int),.int .u16 (gen:Int)]),[5,6,7,8],false⟩,⟨88,EmR,[],false⟩,⟨89,IsR (.slice (some X) 224 c),[],false⟩,⟨90,OwR w5.heap.size pay,[10,11],false⟩,⟨91,PutR w5.heap.size t k lv r.1 T.cm gen pay,[9,12],false⟩] (by kernel_rfl) (by kernel_rfl) rfl rfl rfl ⟨?_,?_,?_,?_,?_,?_,?_,?_,?_,?_,?_,?_,?_,?_,trivial⟩ ?_
 · refine⟨rfl,IsR.mono _,fun a W hA hb hd=>takes_plain rfl (yields_value _ ?_ rfl)⟩
   have h0:a.tmps[0]?.getD undef = .pointer (some ⟨p,0,none⟩):=(eval_get a 0).trans ((hA.eval (by simp)).trans rfl)
   go_simp
 · refine⟨rfl,IsR.mono _,fun a W hA hb hd=>takes_plain rfl (yields_value _ ?_ rfl)⟩
   have h78:a.tmps[78]?.getD undef = .pointer (some ⟨p,0,none⟩):=(eval_get a 78).trans (hd 0 (by simp) _ rfl)
   go_simp
 · refine⟨rfl,IsR.mono _,fun a W hA hb hd=>takes_plain rfl (yields_value _ ?_ rfl)⟩
   have h79:a.tmps[79]?.getD undef = .pointer (some ⟨p,0,none⟩):=(eval_get a 79).trans (hd 1 (by simp) _ rfl)
   go_simp
 · refine⟨rfl,IsR.mono _,fun a W hA hb hd=>takes_plain rfl (yields_value _ ?_ rfl)⟩
   have h80:a.tmps[80]?.getD undef = .pointer (some ⟨p,4,none⟩):=(eval_get a 80).trans (hd 2 (by simp) _ rfl)
   have hc:=C4.out W hb
   go_simp
 · refine⟨rfl,IsR.mono _,fun a W hA hb hd=>takes_plain rfl (yields_value _ ?_ rfl)⟩
   have h15:a.tmps[15]?.getD undef = .int .u32 (r.1:Int):=(eval_get a 15).trans ((hA.eval (by simp)).trans rfl)
   go_simp
 · refine⟨rfl,IsR.mono _,fun a W hA hb hd=>takes_plain rfl (yields_value _ ?_ rfl)⟩
   have h1:a.tmps[1]?.getD undef = .int .u32 (t:Int):=(eval_get a 1).trans ((hA.eval (by simp)).trans rfl)
   go_simp
 · refine⟨rfl,IsR.mono _,fun a W hA hb hd=>takes_plain rfl (yields_value _ ?_ rfl)⟩
   have h2:a.tmps[2]?.getD undef = .int .u8 (k:Int):=(eval_get a 2).trans ((hA.eval (by simp)).trans rfl)
   go_simp
 · refine⟨rfl,IsR.mono _,fun a W hA hb hd=>takes_plain rfl (yields_value _ ?_ rfl)⟩
   have h3:a.tmps[3]?.getD undef = .int .u8 (lv:Int):=(eval_get a 3).trans ((hA.eval (by simp)).trans rfl)
   go_simp
 · refine⟨rfl,IsR.mono _,fun a W hA hb hd=>takes_plain rfl (yields_value _ ?_ rfl)⟩
   have h17:a.tmps[17]?.getD undef = .pointer (some ⟨w3.heap.size,0,none⟩):=(eval_get a 17).trans ((hA.eval (by simp)).trans rfl)
   have hc0:=(CR.out W hb).1
   have hc1:=(CR.out W hb).2.1
   have hc2:=(CR.out W hb).2.2
   go_simp
 · refine⟨rfl,IsR.mono _,fun a W hA hb hd=>takes_plain rfl (yields_value _ ?_ rfl)⟩
   have h83:a.tmps[83]?.getD undef = .int .u32 (t:Int):=(eval_get a 83).trans (hd 5 (by simp) _ rfl)
   have h84:a.tmps[84]?.getD undef = .int .u8 (k:Int):=(eval_get a 84).trans (hd 6 (by simp) _ rfl)
   have h85:a.tmps[85]?.getD undef = .int .u8 (lv:Int):=(eval_get a 85).trans (hd 7 (by simp) _ rfl)
   have h86:a.tmps[86]?.getD undef = .agg #[.int .u32 (r.1:Int),.int .u64 (T.cm:Int),.int .u16 (gen:Int)]:=(eval_get a 86).trans (hd 8 (by simp) _ rfl)
   go_simp
 · refine⟨rfl,EmR.mono,fun a W hA hb hd=>takes_plain rfl ?_⟩
   exact yields_empty rfl
 · refine⟨rfl,IsR.mono _,fun a W hA hb hd=>takes_plain rfl (yields_value _ ?_ rfl)⟩
   have h4:a.tmps[4]?.getD undef = .slice (some X) 224 c:=(eval_get a 4).trans ((hA.eval (by simp)).trans rfl)
   go_simp
 · refine⟨rfl,OwR.mono _ _,fun a W hA hb hd=>takes_plain rfl ?_⟩
   obtain⟨Y,he⟩:=hd 10 (by simp) _ rfl
   have hs:a.eval (.tmp 88) = .slice (some Y) 0 0:=he
   have hx:a.eval (.tmp 89) = .slice (some X) 224 c:=hd 11 (by simp) _ rfl
   exact yields_appG (.tmp 88) (.tmp 89) rfl (isB_empty W Y) hs (IK.out.ab hb) hx (by omega) (by omega) fun v1 W1 h1 h2=>by
    rw[List.nil_append] at h1
    exact OwB.lower h1 hb.size
 · refine⟨rfl,PutR.mono,fun a W hA hb hd=>takes_plain rfl ?_⟩
   have ho:OwB W w5.heap.size (a.eval (.tmp 90)) pay:=hd 12 (by simp) _ rfl
   obtain⟨Av,cv,hv,_,_⟩:=ho.shape
   rw[hv] at ho
   have h87:a.tmps[87]?.getD undef = .agg #[.int .u32 (t:Int),.int .u8 (k:Int),.int .u8 (lv:Int),.int .u32 (r.1:Int),.int .u64 (T.cm:Int),.int .u16 (gen:Int)]:=(eval_get a 87).trans (hd 9 (by simp) _ rfl)
   have h90:a.tmps[90]?.getD undef = .slice Av pay.length cv:=(eval_get a 90).trans hv
   refine yields_value (.agg #[.int .u32 (t:Int),.int .u8 (k:Int),.int .u8 (lv:Int),.int .u32 (r.1:Int),.int .u64 (T.cm:Int),.int .u16 (gen:Int),.slice Av pay.length cv]) ?_ ⟨_,rfl,ho⟩
   go_simp
 intro vs w6 hR hF hb
 have V6:Hid (PutR w5.heap.size t k lv r.1 T.cm gen pay (vs 91) w6):=Lib.hid (hR 13 _ rfl)
 have B6:=Lib.hid hb
 have e78:vs 78 = .pointer (some ⟨p,0,none⟩):=hR 0 _ rfl
 have e79:vs 79 = .pointer (some ⟨p,0,none⟩):=hR 1 _ rfl
 have e80:vs 80 = .pointer (some ⟨p,4,none⟩):=hR 2 _ rfl
 have e81:vs 81 = .map (some b.kn):=hR 3 _ rfl
 have e82:vs 82 = .int .u32 (r.1:Int):=hR 4 _ rfl
 have e83:vs 83 = .int .u32 (t:Int):=hR 5 _ rfl
 have e84:vs 84 = .int .u8 (k:Int):=hR 6 _ rfl
 have e85:vs 85 = .int .u8 (lv:Int):=hR 7 _ rfl
 have e86:vs 86 = .agg #[.int .u32 (r.1:Int),.int .u64 (T.cm:Int),.int .u16 (gen:Int)]:=hR 8 _ rfl
 have e87:vs 87 = .agg #[.int .u32 (t:Int),.int .u8 (k:Int),.int .u8 (lv:Int),.int .u32 (r.1:Int),.int .u64 (T.cm:Int),.int .u16 (gen:Int)]:=hR 9 _ rfl
 have e89:vs 89 = .slice (some X) 224 c:=hR 11 _ rfl
 simp only[List.map_cons,List.map_nil,List.foldl_cons,List.foldl_nil,List.length_cons,List.length_nil,List.drop_succ_cons,List.drop_zero,Act.put,List.setIfInBounds_toArray,List.set_cons_zero,List.set_cons_succ,e78,e79,e80,e81,e82,e83,e84,e85,e86,e87,e89]
 generalize vs 88=q88 at *
 generalize vs 90=q90 at *
 clear hR hF hb e78 e79 e80 e81 e82 e83 e84 e85 e86 e87 e89
 generalize vs 91=q91 at *
 have n6:=N5.out.wr (Wr.of B6.out (fun _=>False) (fun _ _=>rfl)) (fun _=>id) id
 obtain⟨vs6,m6,kv6⟩:=n6.kn
 have U1:u32Okp r.1:=by have:=HH.out;unfold u32Okp;omega
 have OK6:=Lib.hid U1
 have M6:=Lib.hid m6
 have KV6:=Lib.hid kv6
 have N6:=Lib.hid n6
 clear n6 m6 kv6 U1
 have k6:=K5.out.ab B6.out
 have r6:=R5.out.ab B6.out
 have ne1:w.heap.size≠b.kn:=fun e=>by
  have h1:=TC.out
  rw[e,N6.out.tk] at h1
  have:=N6.out.pos
  injection h1 with h1
  omega
 have ne2:w3.heap.size≠b.kn:=fun e=>by
  have h1:=TG.out _ S3.out
  rw[e,N6.out.tk] at h1
  have:=N6.out.pos
  injection h1 with h1
  omega
 have q8:=fun (a:Nat) (ha:O1 a=(p,4))=>(show w.heap.size≠a∧w3.heap.size≠a from⟨fun e=>by
  have h1:=TC.out
  rw[e,ha] at h1
  have:=N6.out.pos
  injection h1 with h1
  omega,fun e=>by
  have h1:=TG.out _ S3.out
  rw[e,ha] at h1
  have:=N6.out.pos
  injection h1 with h1
  omega⟩)
 have K6:=Lib.hid (And.intro k6 r6)
 have NE:=Lib.hid (And.intro ne1 (And.intro ne2 q8))
 clear k6 r6 ne1 ne2 q8
 go_wp2_with (first
  | (refine wpList_mapPut rfl (.tmp 81) (.tmp 82) (.tmp 91) rfl u32p_K Tryz.underlying133 rfl M6.out r.1 OK6.out rfl q91 rfl ?_
     intro w7 h7 hg7 hz7 hb7
     have N7:=Lib.hid (put_kn N6.out (KV6.out) V6.out (by have:=S5.out;have:=S3.out;exact fun k hk=>TG.out k (by omega)) ⟨HK.out.2.1,by have:=HK.out;simp;omega,HK.out.2.2.1,OK6.out,N6.out.cmo.1,HK.out.2.2.2⟩ h7 hg7)
     have G7:=Lib.hid hg7
     have K7:=Lib.hid (And.intro (CbB.fr K6.out.1 (Fr.grown hg7) (fun e=>NE.out.1 (by injection e with e;exact e.symm))) (CbB.fr K6.out.2 (Fr.grown hg7) (fun e=>NE.out.2.1 (by injection e with e;exact e.symm))))
     have p6:w7.cell? ⟨p,6,none⟩=some (.map (some av)):=by rw[←HAV.out];exact CbB.cell N7.out.box (k:=6) rfl
     clear h7 hg7 hz7 hb7)
  | (refine wpList_mapPut rfl (.tmp 95) (.tmp 96) (.const (.bool true)) rfl u32p_K Tryz.underlying134 rfl (N7.out.puB HAV.out).1 r.1 OK6.out rfl (.bool true) rfl ?_
     intro w8 h8 hg8 hz8 hb8
     have N8:=Lib.hid (N7.out.setPu (Wr.grown hg8 (N7.out.puB HAV.out).2) HAV.out h8 (N7.out.puB HAV.out).2)
     have G8:=Lib.hid hg8
     have k8:=CbB.fr K7.out.1 (Fr.grown hg8) (fun e=>(NE.out.2.2 av (N7.out.puB HAV.out).2).1 (by injection e with e;exact e.symm))
     have r8:=CbB.fr K7.out.2 (Fr.grown hg8) (fun e=>(NE.out.2.2 av (N7.out.puB HAV.out).2).2 (by injection e with e;exact e.symm))
     have k80:w8.cell? ⟨w.heap.size,0,none⟩=some (.int .u32 0):=k8.cell (k:=0) rfl
     have k81:w8.cell? ⟨w.heap.size,1,none⟩=some (.int .u64 0):=k8.cell (k:=1) rfl
     have k82:w8.cell? ⟨w.heap.size,2,none⟩=some (.int .u16 0):=k8.cell (k:=2) rfl
     have f80:w8.frozen? ⟨w.heap.size,0,none⟩=false:=k8.free 0
     have f81:(w8.setCell ⟨w.heap.size,0,none⟩ (.int .u32 (r.1:Int))).frozen? ⟨w.heap.size,1,none⟩=false:=(k8.set 0 _).free 1
     have f82:((w8.setCell ⟨w.heap.size,0,none⟩ (.int .u32 (r.1:Int))).setCell ⟨w.heap.size,1,none⟩ (.int .u64 (T.cm:Int))).frozen? ⟨w.heap.size,2,none⟩=false:=((k8.set 0 _).set 1 _).free 2
     have r80:w8.cell? ⟨w3.heap.size,0,none⟩=some (.int .u32 (r.1:Int)):=r8.cell (k:=0) rfl
     have r81:w8.cell? ⟨w3.heap.size,1,none⟩=some (.int .u64 (T.cm:Int)):=r8.cell (k:=1) rfl
     have r82:w8.cell? ⟨w3.heap.size,2,none⟩=some (.int .u16 (gen:Int)):=r8.cell (k:=2) rfl
     have K8:=Lib.hid k8
     clear h8 hg8 hz8 hb8 k8 r8))
 (try simp only[Exit.inBlock,Exit.then])
 refine bodyPost_ret (v:=.tuple #[.agg #[.int .u32 (r.1:Int),.int .u64 (T.cm:Int),.int .u16 (gen:Int)],.int .i64 0]) ?_ rfl ?_
 · rw[results_cell_tmp rfl]
   go_simp
 have hpos:=N8.out.pos
 have hf:Fr w8 (((w8.setCell ⟨w.heap.size,0,none⟩ (.int .u32 (r.1:Int))).setCell ⟨w.heap.size,1,none⟩ (.int .u64 (T.cm:Int))).setCell ⟨w.heap.size,2,none⟩ (.int .u16 (gen:Int))) (fun q=>q=w.heap.size):=((fr_setD w8 w.heap.size 0 _).trW (fr_setD _ w.heap.size 1 _)).trW (fr_setD _ w.heap.size 2 _)
 have s8:Wr (fun τ=>τ.1=p) w O w8 O1:=((T5.out.tr (Wr.of B6.out _ (fun _ _=>rfl))).tr ((Wr.grown (P:=fun τ=>τ.1=p) G7.out (by rw[N6.out.tk])))).tr (Wr.grown (P:=fun τ=>τ.1=p) G8.out (by rw[(N7.out.puB HAV.out).2]))
 have s9:Wr (fun τ=>τ=(0,9)) w8 O1 (((w8.setCell ⟨w.heap.size,0,none⟩ (.int .u32 (r.1:Int))).setCell ⟨w.heap.size,1,none⟩ (.int .u64 (T.cm:Int))).setCell ⟨w.heap.size,2,none⟩ (.int .u16 (gen:Int))) O1:=⟨hf.imp fun q hq=>by rw[hq];exact TC.out,fun _ _=>rfl⟩
 have n9:=N8.out.wr s9 (fun i e=>by injection e with e;omega) (fun e=>by injection e with _ e;cases e)
 exact⟨rfl,O1,⟨_,n9,rfl,rfl,rfl⟩,s8.fresh (hf.imp fun q hq=>by omega)⟩
end Go.Proofs.YtlobgddnlnffbaaGreat
namespace Go.Proofs.YtlobgddnlnffbaaGreat.U32
open Go.RowKit Go.Sort
set_option linter.unusedVariables false
abbrev encE:Int→Value:=fun x=>Value.int .u32 x
theorem s_cmp_isNaN (x:Int) (w:World):Calls Tryz.prog 232 #[.int .u32 x] w fun e w'=>e = .returned (.bool false)∧w'=w:=by
 go_enter Tryz.func232,Tryz.ntmps232
 go_wp2
 go_ret
 exact⟨by simp,rfl⟩
theorem s_cmp_Less (x y:Int) (w:World):Calls Tryz.prog 196 #[.int .u32 x,.int .u32 y] w fun e w'=>e = .returned (.bool (Sort.ltInt x y))∧w'=w:=by
 go_enter Tryz.func196,Tryz.ntmps196
 go_wp2_with (go_at_call 232;refine (s_cmp_isNaN _ _).mono ?_;rintro e w' ⟨rfl,rfl⟩)
 go_ret
 exact⟨rfl,rfl⟩
set_option maxRecDepth 1000000 in
theorem s_insertionSort (blk off cap a b:Nat) (d:Array Int) (w:World) (hH:Holds (Value.int .u32) w blk off d) (hab:a≤b) (hb:b≤d.size) (hsz:d.size<4611686018427387904):
 Calls Tryz.prog 190 #[.slice (some ⟨blk,off,none⟩) d.size cap,.int .i64 a,.int .i64 b] w fun e w'=>
  e = .returned (.tuple #[])∧∃n,w'=putRow (Value.int .u32) (Sort.ahead w n) blk off (Sort.insertionSort ltInt d a b):=by
 go_enter Tryz.func190,Tryz.ntmps190
 go_wp2
 go_loopw [6] (fun vi wr=>∃(i n:Nat) (dk:Array Int),vi = .int .i64 i∧a<i∧i≤b+1∧dk.size=d.size∧wr=putRow (Value.int .u32) (Sort.ahead w n) blk off dk∧
  insOuter ltInt a b i dk=insOuter ltInt a b (a+1) d) (fun vi _=>b+1-(intOf vi).toNat)
 case atStart=>exact⟨a+1,0,d,by go_num,by omega,by omega,rfl,(putRow_self _ _ _ _ _ hH).symm,rfl⟩
 case round=>
  obtain⟨i,n,dk,rfl,hai,hib,hsk,hwr,hO⟩:=hrel
  have HO:Hid (insOuter ltInt a b i dk=insOuter ltInt a b (a+1) d):=hO
  clear hO
  go_wp2
  ·
   go_loopw [7] (fun vj wr2=>∃(j m:Nat) (dj:Array Int),vj = .int .i64 j∧a≤j∧j≤i∧dj.size=d.size∧wr2=putRow (Value.int .u32) (Sort.ahead w m) blk off dj∧
    insInner ltInt a j dj=insInner ltInt a i dk) (fun vj _=>(intOf vj).toNat)
   case atStart=>exact⟨i,n,dk,rfl,by omega,Nat.le_refl _,hsk,rfl,rfl⟩
   case round=>
    obtain⟨j,m,dj,rfl,haj,hji,hsj,hw2,hI⟩:=hrel
    have hlt:i<b:=by assumption
    obtain⟨G,hG⟩:∃G:Nat→Int,∀t,G t=dj[t]!:=⟨fun t=>dj[t]!,fun _=>rfl⟩
    have hcw:∀t,t<d.size→wr.cell? ⟨blk,off+t,none⟩=some (.int .u32 (G t)):=fun t ht=>by
     rw[hw2,hG];exact cell?_putRow _ _ _ _ d dj (holds_ahead _ _ _ _ _ _ hH) hsj t (by omega)
    have hfw:∀t,t<d.size→wr.frozen? ⟨blk,off+t,none⟩=false:=fun t ht=>by
     rw[hw2,frozen?_putRow];exact ((holds_ahead _ _ m _ _ _ hH) t ht).2
    have HW:Hid (wr=putRow (Value.int .u32) (Sort.ahead w m) blk off dj):=hw2
    have HG:Hid (∀t,G t=dj[t]!):=hG
    have HI:Hid (insInner ltInt a j dj=insInner ltInt a i dk):=hI
    clear hw2 hG hI hH
    have out:(j≤a∨ltInt dj[j]! dj[j-1]! = false)→∀q,∃i' n' dk',Value.int .i64 ((i:Int)+1) = .int .i64 (i':Nat)∧a<i'∧i'≤b+1∧dk'.size=d.size∧
     wr.drewN q=putRow (Value.int .u32) (Sort.ahead w n') blk off dk'∧insOuter ltInt a b i' dk'=insOuter ltInt a b (a+1) d:=fun hs q=>
     ⟨i+1,m+q,dj,by go_num,by omega,by omega,hsj,by rw[HW.out];exact putRow_drewN _ _ _ _ _ _ _,
      by rw[←HO.out,insOuter_go _ _ _ _ _ hlt,←HI.out,insInner_stop _ _ _ _ hs]⟩
    have OUT:Hid _:=out
    clear out
    go_wp2
    by_cases hja:a<j
    · go_quiet (first | (go_at_call 196;refine Calls.quiet_of_same (s_cmp_Less _ _ _)))
      go_wp2
      ·
       have hl:ltInt (G j) (G (j-1))=true:=by assumption
       go_region
       all_goals go_wp2
       go_roundw
       case rel=>
        refine⟨j-1,m+(nq+1),swp dj j (j-1),by congr 1;omega,by omega,by omega,by rw[size_swp];exact hsj,?_,?_⟩
        · rw[HW.out,HG.out,HG.out]
          exact swap_worldA _ w m (nq+1) blk off dj j (j-1) (by omega) (by omega)
        · rw[←HI.out,insInner_go ltInt a j dj hja (by rw[←HG.out,←HG.out];exact hl)]
       case measure=>simp[intOf];omega
      ·
       have hl:ltInt (G j) (G (j-1))=false:=by assumption
       go_roundw
       case rel=>exact OUT.out (Or.inr (by rw[←HG.out,←HG.out];exact hl)) nq
       case measure=>simp[intOf];omega
    · go_quiet (first | (go_at_call 196;refine Calls.quiet_of_same (s_cmp_Less _ _ _)))
      go_wp2
      go_roundw
      case rel=>exact OUT.out (Or.inl (by omega)) nq
      case measure=>simp[intOf];omega
  ·
   have hge:¬i<b:=by assumption
   go_end0
   exact⟨rfl,n,by unfold Sort.insertionSort;rw[←HO.out,insOuter_stop _ _ _ _ _ hge]⟩
set_option maxRecDepth 100000 in
theorem len8tab_size:(Lib.len8tab.size:Int)=256:=by
 have:Lib.len8tab.size=256:=by decide
 omega
theorem wrap_add (k a b:Nat) (hk:k≤56) (ha:a≤8) (hb:b=k+a):RowKit.wrap64 ((k:Int)+RowKit.wrap64 (a:Int))=(b:Int):=by
 unfold RowKit.wrap64
 omega
theorem wrap_wrap (a:Nat) (ha:a≤8):RowKit.wrap64 (RowKit.wrap64 (a:Int))=(a:Int):=by
 unfold RowKit.wrap64
 omega
theorem wrap_one (a:Nat) (ha:a≤8):RowKit.wrap64 (a:Int)=(a:Int):=by
 unfold RowKit.wrap64
 omega
theorem len8_get (y:Int) (h:y.toNat<Lib.len8tab.size):((Lib.len8tab[y.toNat]'h).toNat:Int)=Lib.len8 y:=by
 unfold Lib.len8
 rw[getElem?_pos Lib.len8tab y.toNat h]
 rfl
set_option maxRecDepth 1000000 in
theorem s_bits_Len64 (x:Int) (w:World) (h0:0≤x) (h1:x≤18446744073709551615):
 Calls Tryz.prog 200 #[.int .u64 x] w fun e w'=>e = .returned (.int .i64 (Lib.bitLen x.toNat))∧w'=w:=by
 go_enter Tryz.func200,Tryz.ntmps200
 go_wp2
 all_goals first
  | (go_ret;refine⟨congrArg Ending.returned (congrArg (Value.int IntKind.i64) ?_),rfl⟩;go_light)
  | (exfalso
     go_light
     have hs:=len8tab_size
     omega)
 all_goals first
  | (rw[len8_get (x/4294967296/65536/256) _,Lib.len8_of (x/4294967296/65536/256) (by omega) (by omega)]
     have e:(x/4294967296/65536/256).toNat=x.toNat/72057594037927936:=by omega
     have l:=Lib.bitLen_le8' (x/4294967296/65536/256) (by omega) (by omega)
     have s:=Lib.bitLen_shift56 x.toNat (by omega) (by omega)
     rw[e] at l⊢
     exact wrap_add 56 _ _ (by decide) l s)
  | (rw[len8_get (x/4294967296/65536) _,Lib.len8_of (x/4294967296/65536) (by omega) (by omega)]
     have e:(x/4294967296/65536).toNat=x.toNat/281474976710656:=by omega
     have l:=Lib.bitLen_le8' (x/4294967296/65536) (by omega) (by omega)
     have s:=Lib.bitLen_shift48 x.toNat (by omega) (by omega)
     rw[e] at l⊢
     exact wrap_add 48 _ _ (by decide) l s)
  | (rw[len8_get (x/4294967296/256) _,Lib.len8_of (x/4294967296/256) (by omega) (by omega)]
     have e:(x/4294967296/256).toNat=x.toNat/1099511627776:=by omega
     have l:=Lib.bitLen_le8' (x/4294967296/256) (by omega) (by omega)
     have s:=Lib.bitLen_shift40 x.toNat (by omega) (by omega)
     rw[e] at l⊢
     exact wrap_add 40 _ _ (by decide) l s)
  | (rw[len8_get (x/4294967296) _,Lib.len8_of (x/4294967296) (by omega) (by omega)]
     have e:(x/4294967296).toNat=x.toNat/4294967296:=by omega
     have l:=Lib.bitLen_le8' (x/4294967296) (by omega) (by omega)
     have s:=Lib.bitLen_shift32 x.toNat (by omega) (by omega)
     rw[e] at l⊢
     exact wrap_add 32 _ _ (by decide) l s)
  | (rw[len8_get (x/65536/256) _,Lib.len8_of (x/65536/256) (by omega) (by omega)]
     have e:(x/65536/256).toNat=x.toNat/16777216:=by omega
     have l:=Lib.bitLen_le8' (x/65536/256) (by omega) (by omega)
     have s:=Lib.bitLen_shift24 x.toNat (by omega) (by omega)
     rw[e] at l⊢
     exact wrap_add 24 _ _ (by decide) l s)
  | (rw[len8_get (x/65536) _,Lib.len8_of (x/65536) (by omega) (by omega)]
     have e:(x/65536).toNat=x.toNat/65536:=by omega
     have l:=Lib.bitLen_le8' (x/65536) (by omega) (by omega)
     have s:=Lib.bitLen_shift16 x.toNat (by omega) (by omega)
     rw[e] at l⊢
     exact wrap_add 16 _ _ (by decide) l s)
  | (rw[len8_get (x/256) _,Lib.len8_of (x/256) (by omega) (by omega)]
     have e:(x/256).toNat=x.toNat/256:=by omega
     have l:=Lib.bitLen_le8' (x/256) (by omega) (by omega)
     have s:=Lib.bitLen_shift8 x.toNat (by omega) (by omega)
     rw[e] at l⊢
     exact wrap_add 8 _ _ (by decide) l s)
  | (rw[len8_get (x) _,Lib.len8_of (x) (by omega) (by omega)]
     have e:(x).toNat=x.toNat:=by omega
     have l:=Lib.bitLen_le8' (x) (by omega) (by omega)
     rw[e] at l⊢
     first | exact wrap_wrap _ l | exact wrap_add 0 _ _ (by decide) l (by omega) | exact wrap_one _ l)
set_option maxRecDepth 1000000 in
theorem s_bits_Len (x:Int) (w:World) (h0:0≤x) (h1:x≤18446744073709551615):
 Calls Tryz.prog 174 #[.int .u64 x] w fun e w'=>e = .returned (.int .i64 (Lib.bitLen x.toNat))∧w'=w:=by
 go_enter Tryz.func174,Tryz.ntmps174
 go_wp2_with (go_at_call 200;refine (s_bits_Len64 x _ h0 h1).mono ?_;rintro e w' ⟨rfl,rfl⟩)
 go_ret
 exact⟨rfl,rfl⟩
def s_lenWalk:Prop:=∀(n:Nat) (w:World),n<4611686018427387904→Calls Tryz.prog 174 #[.int .u64 (n:Int)] w fun e w'=>e = .returned (.int .i64 (bitsLen n:Nat))∧w'=w
theorem s_insertionSort_nil (p:Option Addr) (cap:Nat) (w:World):
 Calls Tryz.prog 190 #[.slice p 0 cap,.int .i64 0,.int .i64 0] w fun e w'=>e = .returned (.tuple #[])∧w'=w:=by
 go_enter Tryz.func190,Tryz.ntmps190
 go_wp2
 refine wp_loop_rounds 1 ?_
 rw[rounds_succ]
 go_wp2
 go_end0
 exact⟨rfl,rfl⟩
set_option maxRecDepth 100000 in
theorem s_pdqsort_nil (p:Option Addr) (cap:Nat) (w:World):
 Calls Tryz.prog 173 #[.slice p 0 cap,.int .i64 0,.int .i64 0,.int .i64 0] w fun e w'=>e = .returned (.tuple #[])∧w'=w:=by
 go_enter Tryz.func173,Tryz.ntmps173
 go_wp2
 refine wp_loop_rounds 1 ?_
 rw[rounds_succ]
 go_wp2_with (first | (go_at_call 190;refine (s_insertionSort_nil p cap _).mono ?_;rintro e w' ⟨rfl,rfl⟩))
 refine bodyPost_ret (results_none rfl _ _ _) rfl ?_
 exact⟨rfl,rfl⟩
set_option maxRecDepth 100000 in
theorem s_Sort_nil (p:Option Addr) (cap:Nat) (w:World):
 Calls Tryz.prog 154 #[.slice p 0 cap] w fun e w'=>e = .returned (.tuple #[])∧w'=w:=by
 have hLen:∀w,Calls Tryz.prog 174 #[.int .u64 0] w fun e w'=>e = .returned (.int .i64 0)∧w'=w:=fun w=>s_bits_Len 0 w (by omega) (by omega)
 go_enter Tryz.func154,Tryz.ntmps154
 go_wp2_with (first
  | (go_at_call 174;refine (hLen _).mono ?_;rintro e w' ⟨rfl,rfl⟩)
  | (go_at_call 173;refine (s_pdqsort_nil p cap _).mono ?_;rintro e w' ⟨rfl,rfl⟩))
 go_end0
 exact⟨rfl,rfl⟩
theorem lenWalk:s_lenWalk:=fun n w hn=>by
 have h:=s_bits_Len (n:Int) w (by omega) (by omega)
 rwa [Int.toNat_natCast,bitLen_eq _ (by omega)] at h
theorem grow_nilS (w:World):grow w #[]=w:=by
 cases w
 simp[grow]
set_option maxRecDepth 100000 in
theorem s_pdqsort_small (blk off cap limit:Nat) (d:Array Int) (w:World) (hH:Holds (Value.int .u32) w blk off d) (h12:d.size≤12) (hlim:limit<4611686018427387904):
 Calls Tryz.prog 173 #[.slice (some ⟨blk,off,none⟩) d.size cap,.int .i64 0,.int .i64 d.size,.int .i64 limit] w fun e w'=>e = .returned (.tuple #[])∧∃n,w'=putRow (Value.int .u32) (Sort.ahead w n) blk off (Sort.insertionSort ltInt d 0 d.size):=by
 have HH:Hid (Holds (Value.int .u32) w blk off d):=hH
 have H12:Hid (d.size≤12):=h12
 have h12i:(d.size:Int)≤12:=by omega
 clear hH h12
 go_enter Tryz.func173,Tryz.ntmps173
 go_wp2
 refine wp_loop_rounds 1 ?_
 rw[rounds_succ]
 go_wp2_with (first | (go_at_call 190;refine (s_insertionSort blk off cap 0 d.size d _ (by exact HH.out) (Nat.zero_le _) (Nat.le_refl _) (by have:=H12.out;omega)).mono ?_;rintro e w' ⟨rfl,n,rfl⟩))
 refine bodyPost_ret (results_none rfl _ _ _) rfl ?_
 exact⟨rfl,n,rfl⟩
set_option maxRecDepth 100000 in
theorem s_SortS (blk off cap:Nat) (d:Array Int) (w:World) (hH:Holds (Value.int .u32) w blk off d) (h12:d.size≤12):
 Calls Tryz.prog 154 #[.slice (some ⟨blk,off,none⟩) d.size cap] w fun e w'=>e = .returned (.tuple #[])∧∃n os,w'=grow (putRow (Value.int .u32) (Sort.ahead w n) blk off (Sort.sort ltInt d)) os:=by
 have HH:Hid (Holds (Value.int .u32) w blk off d):=hH
 have H12:Hid (d.size≤12):=h12
 have h62:d.size<4611686018427387904:=by omega
 have hk:bitsLen d.size≤62:=(bitsLen_le_iff d.size 62).2 (by omega)
 have hkk:bitsLen d.size<4611686018427387904:=by omega
 clear hH h12
 go_enter Tryz.func154,Tryz.ntmps154
 go_wp2_with (first
  | (go_at_call 174;refine ((lenWalk d.size _ h62)).mono ?_;rintro e w' ⟨rfl,rfl⟩)
  | (go_at_call 173;refine (s_pdqsort_small blk off cap (bitsLen d.size) d _ (by exact HH.out) H12.out hkk).mono ?_;rintro e w' ⟨rfl,n,rfl⟩))
 go_end0
 refine⟨rfl,n,#[],?_⟩
 unfold Sort.sort
 rw[pdq_small (by have:=H12.out;omega)]
 exact (grow_nilS _).symm
theorem sort_any (blk off cap:Nat) (zs:List Int) (w:World) (hH:Holds (Value.int .u32) w blk off zs.toArray) (hblk:blk<w.heap.size) (hsz:zs.length≤12):
 Calls Tryz.prog 154 #[.slice (some ⟨blk,off,none⟩) zs.length cap] w fun e w'=>
  e = .returned (.tuple #[])∧∃n os,w'=grow (putRow (Value.int .u32) (Sort.ahead w n) blk off (zs.mergeSort fun x y=>decide (x≤y)).toArray) os:=by
 have h:=s_SortS blk off cap zs.toArray w hH (by simpa using hsz)
 rw[show Sort.sort ltInt zs.toArray=(zs.mergeSort fun x y=>decide (x≤y)).toArray by rw[←sortInt zs]] at h
 simpa using h
def nvs (l:List Nat):List Value:=l.map fun (n:Nat)=>Value.int .u32 (n:Int)
theorem nvs_len (l:List Nat):(nvs l).length=l.length:=List.length_map _
theorem infoN:(Tryz.prog.info? 31).map (fun i=>(i.zero,i.size,i.bytes))=some (some (.int .u32 0),1,4):=by kernel_rfl
def NsB (w:World) (B:Nat) (v:Value) (l:List Nat):Prop:=w.ownsRow B 31 1 v l.length (nvs l)
theorem NsB.nil (w:World) (B:Nat):NsB w B (.slice none 0 0) []:=World.ownsRow_nil _ _ _ _
theorem NsB.kept {w w':World} {B:Nat} {v:Value} {l:List Nat} {row:Option Nat} (h:NsB w B v l) (hg:w.grownBy w' row) (hne:v.ownBlock=none∨v.ownBlock≠row):NsB w' B v l:=World.ownsRow.kept h hg hne
theorem NsB.ab {w w':World} {B:Nat} {v:Value} {l:List Nat} (h:NsB w B v l) (hb:Below w.heap.size w w'):NsB w' B v l:=World.ownsRow.kept (row:=none) h (grown_of hb none) (by cases hv:v.ownBlock <;> simp)
theorem NsB.lt {w:World} {B g:Nat} {v:Value} {l:List Nat} (h:NsB w B v l) (hg:v.ownBlock=some g):g<w.heap.size:=by
 rcases h.2 with ⟨rfl,_⟩ | ⟨g',cap,cur,rfl,_,hb,_⟩
 · cases hg
 · cases hg
   exact (Array.getElem?_eq_some_iff.1 hb).1
theorem NsB.form {w:World} {B:Nat} {v:Value} {l:List Nat} (h:NsB w B v l):∃A c,v = .slice A l.length c∧∀i (hi:i<l.length),∃g,A=some ⟨g,0,none⟩∧w.cell? ⟨g,i,none⟩=some (.int .u32 ((l[i]:Nat):Int)):=by
 have h0:=h
 rcases h.2 with ⟨rfl,h1⟩ | ⟨g,cap,cur,rfl,_,hb,_⟩
 · exact⟨none,0,by rw[h1],fun i hi=>by omega⟩
 · refine⟨_,_,rfl,fun i hi=>⟨g,rfl,?_⟩⟩
   have h2:=World.ownsRow.cellAt h0 i (by omega)
   rw[h2]
   simp[nvs,hi]
theorem wpList_appN {rest:List Oper} {ops:Array Oper} {o:Oper} {a:Act} {w:World} {Q:Exit→Act→World→Prop} (hgd:o.guard=none) (s x:Operand)
 (ho:o.op = .call { callee:=.builtin .append,args:=#[s,x],argTypes:=#[142,142] })
 {B G:Nat} {v:Value} {ls:List Nat} (hown:NsB w B v ls) (hs:a.eval s=v) (n:Nat) (hx:a.eval x = .slice (some ⟨G,0,none⟩) 1 1) (hG:CbB w G 31 #[.int .u32 (n:Int)]) (hl:ls.length≤100000) (hB:B≤w.heap.size)
 (h:∀v' w',NsB w' B v' (ls++[n])→w.grownBy w' v.ownBlock→wpList Tryz.prog ops Q rest (a.put o.dst v') w'):wpList Tryz.prog ops Q (o::rest) a w:=by
 obtain⟨i0,hi0,hz0,hz1,hz2⟩:=info_parts infoN
 obtain⟨v1,W1,hrun,r1,r2,_⟩:=run_append_own (P:=Tryz.prog) w B 142 o.type 31 i0 _ 1 4 Tryz.underlying142 hi0 hz0 hz1 hz2 rfl (by decide) v ls.length (nvs ls) hown ⟨G,0,none⟩ 1 1 [.int .u32 (n:Int)] rfl (row_at hG) (by simp[Value.oneCell']) (by simp only[maxLen];omega) (by omega) hB
 refine wpList_plain hgd fun K hK=>?_
 unfold Oper.wp execOp
 simp only[ho,resolve,invoke,builtin,Sem.run_bind,Sem.run_pure,Result.andThen_ok,List.map_toArray,List.map_cons,List.map_nil,hs,hx,hrun]
 refine hK _ _ (h v1 W1 ?_ r2)
 unfold NsB nvs
 rw[List.map_append,List.length_append,List.length_singleton]
 exact r1
theorem holds_own {w:World} {g:Nat} {cur:Array Value} {e:TypeId} {l:List Nat} (hb:w.heap[g]? = some (.cells cur e (0,0))) (ht:cur.toList.take l.length=nvs l):Holds (Value.int .u32) w g 0 (l.map fun (n:Nat)=>(n:Int)).toArray:=by
 intro j hj
 have hj':j<l.length:=by simpa using hj
 refine⟨?_,by simp[World.frozen?,hb]⟩
 have h1:(cur.toList.take l.length)[j]? = (nvs l)[j]?:=by rw[ht]
 rw[List.getElem?_take_of_lt hj'] at h1
 simp only[World.cell?,hb,Nat.zero_add]
 simp only[Option.isSome_none,Bool.false_eq_true,if_false]
 rw[←Array.getElem?_toList,h1]
 simp[nvs,hj']
theorem heap_sorted {w:World} {g n:Nat} {os:Array Obj} {cur:Array Value} {e:TypeId} {fr:Nat×Nat} (d:Array Int) (hb:w.heap[g]? = some (.cells cur e fr)):
 (grow (putRow (Value.int .u32) (Sort.ahead w n) g 0 d) os).heap[g]? = some (.cells (putCells (Value.int .u32) 0 d cur) e fr):=by
 have hg:g<w.heap.size:=(Array.getElem?_eq_some_iff.1 hb).1
 rw[heap_grow_old _ _ (by simpa using hg)]
 simp[putRow,mapBlock,Sort.ahead,Array.getElem?_modify,hb,onCells]
theorem grownBy_sorted {w:World} {g n:Nat} {os:Array Obj} (d:Array Int):w.grownBy (grow (putRow (Value.int .u32) (Sort.ahead w n) g 0 d) os) (some g):=by
 refine⟨rfl,rfl,rfl,by simp,fun k hk hne=>?_⟩
 rw[heap_grow_old _ _ (by simpa using hk)]
 have:g≠k:=fun e=>hne (by rw[e])
 simp[putRow,mapBlock,Sort.ahead,Array.getElem?_modify,this]
theorem take_sorted (cur:Array Value) (ts:List Nat) (h:ts.length≤cur.size):(putCells (Value.int .u32) 0 (ts.map fun (n:Nat)=>(n:Int)).toArray cur).toList.take ts.length=nvs ts:=by
 apply List.ext_getElem?
 intro j
 by_cases hj:j<ts.length
 · rw[List.getElem?_take_of_lt hj,Array.getElem?_toList]
   simp[putCells,nvs,hj,show j<cur.size by omega]
 · rw[List.getElem?_take_eq_none (by omega),List.getElem?_eq_none (by simp[nvs];omega)]
theorem below_grownO {B:Nat} {a b c:World} {r:Option Nat} (h:Below B a b) (k:b.grownBy c r) (hr:∀g,r=some g→B≤g) (hs:B≤b.heap.size):Below B a c:=h.trans ⟨k.os,k.tape,k.output,k.size,fun i hi=>k.block i (by omega) (fun e=>by have:=hr i e.symm;omega)⟩
def srt (l:List Nat):List Nat:=l.mergeSort fun a b=>decide (a≤b)
theorem srt_len (l:List Nat):(srt l).length=l.length:=List.length_mergeSort _
theorem srt_mem {l:List Nat} {x:Nat}:x∈srt l↔x∈l:=List.mem_mergeSort
theorem srt_int (l:List Nat):(l.map fun (n:Nat)=>(n:Int)).mergeSort (fun x y=>decide (x≤y))=(srt l).map fun (n:Nat)=>(n:Int):=by
 unfold srt
 rw[List.map_mergeSort (s:=fun x y:Int=>decide (x≤y))]
 intro a _ b _
 simp
theorem srt_asc (l:List Nat) (hn:l.Nodup):(srt l).Pairwise (· < ·):=by
 have h1:(srt l).Pairwise fun a b=>(decide (a≤b))=true:=List.pairwise_mergeSort (fun a b c h1 h2=>by simp at h1 h2⊢;omega) (fun a b=>by simp;omega) l
 have h2:(srt l).Nodup:=(List.mergeSort_perm l _).nodup_iff.2 hn
 exact (h1.and h2).imp fun ⟨a,b⟩=>by simp at a;omega
theorem asc_eq:∀{a b:List Nat},a.Pairwise (· < ·)→b.Pairwise (· < ·)→(∀x,x∈a↔x∈b)→a=b
 | [],[],_,_,_=>rfl
 | [],y::_,_,_,h=>absurd ((h y).2 (by simp)) (by simp)
 | x::_,[],_,_,h=>absurd ((h x).1 (by simp)) (by simp)
 | x :: r,y::q,ha,hb,h=>by
   obtain⟨a1,a2⟩:=List.pairwise_cons.1 ha
   obtain⟨b1,b2⟩:=List.pairwise_cons.1 hb
   have hxy:x=y:=by
    rcases List.mem_cons.1 ((h x).1 (by simp)) with e | e
    · exact e
    · rcases List.mem_cons.1 ((h y).2 (by simp)) with e' | e'
      · exact e'.symm
      · have:=a1 _ e';have:=b1 _ e;omega
   subst hxy
   congr 1
   refine asc_eq a2 b2 fun z=>?_
   constructor
   · intro hz
     rcases List.mem_cons.1 ((h z).1 (by simp[hz])) with e | e
     · have:=a1 _ hz;omega
     · exact e
   · intro hz
     rcases List.mem_cons.1 ((h z).2 (by simp[hz])) with e | e
     · have:=b1 _ hz;omega
     · exact e
theorem sort_own (B:Nat) (v:Value) (l:List Nat) (w:World) (h:NsB w B v l) (hl:l.length≤12):
 Calls Tryz.prog 154 #[v] w fun e w'=>e = .returned (.tuple #[])∧NsB w' B v (srt l)∧w.grownBy w' v.ownBlock:=by
 rcases h.2 with ⟨rfl,h1⟩ | ⟨g,cap,cur,rfl,hg,hb,hn,hc,hs,ht⟩
 · obtain rfl:=List.eq_nil_of_length_eq_zero h1
   refine (s_Sort_nil none 0 w).mono ?_
   rintro e w' ⟨rfl,rfl⟩
   exact⟨rfl,by rw[show srt []=[] by simp[srt]];exact NsB.nil _ _,World.grownBy.refl _ _⟩
 · rw[Nat.mul_one] at ht hs
   have h2:=sort_any g 0 cap (l.map fun (n:Nat)=>(n:Int)) w (holds_own hb ht) (Array.getElem?_eq_some_iff.1 hb).1 (by simp;omega)
   rw[srt_int,List.length_map] at h2
   refine h2.mono ?_
   rintro e w' ⟨rfl,n,os,rfl⟩
   refine⟨rfl,⟨by rw[nvs_len,Nat.mul_one],.inr ⟨g,cap,_,by rw[srt_len],hg,heap_sorted _ hb,by rw[srt_len];exact hn,hc,by simp[putCells,hs],?_⟩⟩,grownBy_sorted _⟩
   rw[Nat.mul_one]
   exact take_sorted cur _ (by rw[srt_len];omega)
end Go.Proofs.YtlobgddnlnffbaaGreat.U32
namespace Go.Proofs.YtlobgddnlnffbaaGreat
open Go.RowKit
set_option linter.unusedVariables false
set_option linter.unusedSimpArgs false
theorem nsb32_ne {w:World} {B r b:Nat} {v:Value} {l:List Nat} {vs d:List (Nat×Value)} (h:U32.NsB w B v l) (hr:RngB u32Vp u32Okp w b r vs d):v.ownBlock≠some r:=by
 obtain⟨es,clock,since,seen,c0,h1,h2,h3,h4,h5,_⟩:=hr
 rcases h.2 with ⟨rfl,_⟩ | ⟨g,cap,cur,rfl,_,hb,_⟩
 · simp[Value.ownBlock]
 · intro e
   simp only[Value.ownBlock,Option.some.injEq] at e
   subst e
   rw[hb] at h5
   cases h5
theorem nsb32_notMap {w:World} {B m:Nat} {v:Value} {l:List Nat} {vs:List (Nat×Value)} (h:U32.NsB w B v l) (hm:MapB u32Vp u32Okp w m vs):v.ownBlock≠some m:=by
 obtain⟨es,clock,h1,_⟩:=hm
 rcases h.2 with ⟨rfl,_⟩ | ⟨g,cap,cur,rfl,_,hb,_⟩
 · simp[Value.ownBlock]
 · intro e
   simp only[Value.ownBlock,Option.some.injEq] at e
   subst e
   rw[hb] at h1
   cases h1
theorem pages_one {a b:List Nat} (ha:a.Nodup) (hb:b.Nodup) (h:∀x,x∈a↔x∈b):U32.srt a=U32.srt b:=
 U32.asc_eq (U32.srt_asc _ ha) (U32.srt_asc _ hb) fun x=>by rw[U32.srt_mem,U32.srt_mem,h]
set_option maxRecDepth 100000 in
theorem rising_any (m:Nat) (l:List (Nat×Value)) (w:World) (h:MapB u32Vp u32Okp w m l) (hl:l.length≤12):
 Calls Tryz.prog 109 #[.map (some m)] w fun e w'=>∃v,e = .returned v∧U32.NsB w' w.heap.size v (U32.srt (l.map (·.1)))∧Below w.heap.size w w':=by
 have VN:=Lib.hid hl
 have ND:=Lib.hid (h.nodup u32p_K)
 have M0:=Lib.hid h
 have ML:=Lib.hid h.lt
 clear h hl
 go_enter Tryz.func109,Tryz.ntmps109
 go_wp2_with (first
  | (refine wpList_mapRange rfl (.tmp 5) rfl Tryz.underlying134 rfl M0.out ?_
     intro w1 r1 b1 s1
     have R1:=Lib.hid r1
     have B1:=Lib.hid b1
     clear r1 b1 s1
     simp[Act.put]))
 go_loopg [3] (l.length) (fun k v wr=>∃d,l.length-d.length≤k∧RngB u32Vp u32Okp wr m w.heap.size l d∧U32.NsB wr w.heap.size v (d.map (·.1))∧Below w.heap.size w wr∧w.heap.size<wr.heap.size)
 case atStart=>exact⟨[],by simp,R1.out,U32.NsB.nil _ _,B1.out,R1.out.lt⟩
 case round=>
  obtain⟨d,hk,hr,hn,hb,hs⟩:=hrel
  have HK:=Lib.hid hk
  have N1:=Lib.hid hn
  have NB:=Lib.hid hb
  have NS:=Lib.hid hs
  have DL:Hid ((d.map (·.1)).length≤12):=Lib.hid (by have h2:=hr.len_le;have h3:=VN.out;rw[List.length_map];omega)
  have RNE:=Lib.hid (nsb32_ne hn hr)
  rcases hr.next u32p_K 0 with ⟨hall,hrun⟩ | ⟨p,w2,hp,hd,hrun,hr2,hg2,hs2,hent,hbel⟩
  · have GO:Hid (U32.srt (d.map (·.1))=U32.srt (l.map (·.1))):=Lib.hid (by
     obtain⟨_,_,_,_,_,_,_,_,_,_,_,_,_,_,hsub,hnd⟩:=hr
     refine pages_one hnd ND.out fun x=>?_
     simp only[List.mem_map]
     constructor
     · rintro ⟨q,h1,h2⟩;exact⟨q,hsub q h1,h2⟩
     · rintro ⟨q,h1,h2⟩;exact⟨q,hall q h1,h2⟩)
    clear hk hr hn hb hs hall
    go_wp2_with (first
     | (go_at_call 154
        refine (U32.sort_own w.heap.size _ _ _ N1.out (by have:=DL.out;omega)).mono ?_
        rintro e w3 ⟨rfl,h3,g3⟩
        have N3:=Lib.hid h3
        have B3:=Lib.hid (U32.below_grownO NB.out g3 (own_ge9 N1.out) (Nat.le_of_lt NS.out))
        clear h3 g3))
    go_ret
    exact⟨_,rfl,by rw[←GO.out];exact N3.out,B3.out⟩
  · obtain⟨pg,pv⟩:=p
    simp only[u32Vp] at hrun hent
    have HN:=Lib.hid hr2
    have HM:Hid (d.length<l.length):=Lib.hid (by have:=hr2.len_le;simp at this;omega)
    have N2:Hid (U32.NsB w2 w.heap.size u3 (d.map (·.1))):=Lib.hid (hn.kept hg2 (.inr RNE.out))
    have B2:=Lib.hid (hbel _ _ hb (Nat.le_refl _))
    have S2:Hid (w.heap.size<w2.heap.size):=Lib.hid (by rw[hs2];exact hs)
    clear hk hr hn hb hs hp hd hr2 hg2 hs2 hbel
    have NX:Hid ((d++[(pg,pv)]).map (·.1)=d.map (·.1)++[pg]):=Lib.hid (by rw[List.map_append,List.map_cons,List.map_nil])
    have GC:Hid (CbB (w2.alloc (.cells #[.int .u32 (pg:Int)] 31)) w2.heap.size 31 #[.int .u32 (pg:Int)]):=Lib.hid (CbB.new _ _ _)
    go_wp2_with (first
     | (refine U32.wpList_appN rfl (.tmp 11) (.tmp 13) rfl (B:=w.heap.size) (N2.out.ab ((Below.refl _ _).alloc (Nat.le_refl _) _)) rfl pg rfl GC.out (by have:=DL.out;omega) (by have:=S2.out;simp;omega) ?_
        intro v5 w5 h5 g5
        have b3:Below w2.heap.size w2 (w2.alloc (.cells #[.int .u32 (pg:Int)] 31)):=(Below.refl _ _).alloc (Nat.le_refl _) _
        have N5:=Lib.hid h5
        have R5:=Lib.hid ((HN.out.ab b3).grown g5 (nsb32_notMap ((N2.out.ab b3)) (HN.out.ab b3).mapB) (nsb32_ne (N2.out.ab b3) (HN.out.ab b3)))
        have B5:=Lib.hid (U32.below_grownO (below_tr B2.out b3 (Nat.le_of_lt S2.out)) g5 (own_ge9 N2.out) (Nat.le_trans (Nat.le_of_lt S2.out) b3.size))
        have S5:Hid (w.heap.size<w5.heap.size):=Lib.hid (Nat.lt_of_lt_of_le S2.out (Nat.le_trans b3.size g5.size))
        clear h5 g5 b3))
    go_roundg (l.length-(d.length+1))
    case measure=>have:=HM.out;have:=HK.out;omega
    case rel=>exact⟨_,by simp,R5.out,by rw[NX.out];exact N5.out,B5.out,S5.out⟩
end Go.Proofs.YtlobgddnlnffbaaGreat
