/-
  Parts of the proof, joined.
-/
import Derived.Test.YtljmiiiidjeggaaGreatBeb
namespace Go.Proofs.YtljmiiiidjeggaaGreat
set_option linter.unusedVariables false
set_option linter.unusedSimpArgs false
def lbJ (j:Nat):Lb:=⟨1,1,0,2+j,7,3⟩
def payB (b:Nat):List Nat:=List.replicate 224 b
def knS (fs:List Nat) (i:Nat):KnL:=(List.range i).map fun j=>(2+j,(lbJ j,payB (fs.getD j 0)))
def puS (i:Nat):List (Nat×Value):=(List.range i).map fun j=>(2+j,.bool true)
def bkT (fs:List Nat) (i:Nat):PgP:=⟨mkR (2+i) 40,knS fs i,[],puS i,[],[],7,7,false,false⟩
def sealJ (key fs:List Nat) (n:Nat):List Nat:=(sealP key (lbJ (n-2)) (payB (fs.getD (n-2) 0))).1
theorem payB_len (b:Nat):(payB b).length=224:=List.length_replicate
theorem payB_byt {b:Nat} (h:b<256):Byt (payB b):=fun x hx=>by rw[(List.mem_replicate.1 hx).2];exact h
theorem lbJ_ok {j:Nat} (h:j<4096):(lbJ j).Ok:=⟨by show 1<4294967296;decide,by show 1<256;decide,by show 0<256;decide,by show 2+j<4294967296;omega,by show 7<18446744073709551616;decide,by show 3<65536;decide⟩
theorem knS_succ (fs:List Nat) (i:Nat):knS fs (i+1)=knS fs i++[(2+i,(lbJ i,payB (fs.getD i 0)))]:=by unfold knS;rw[List.range_succ,List.map_append];rfl
theorem puS_succ (i:Nat):puS (i+1)=puS i++[(2+i,.bool true)]:=by unfold puS;rw[List.range_succ,List.map_append];rfl
theorem knS_len (fs:List Nat) (i:Nat):(knS fs i).length=i:=by simp[knS]
theorem puS_len (i:Nat):(puS i).length=i:=by simp[puS]
theorem puS_keys (i:Nat):(puS i).map (·.1)=pgs 2 i:=by
 unfold puS pgs
 rw[List.map_map,List.range_eq_range',List.range'_eq_map_range,List.map_map]
 simp[List.range'_eq_map_range]
theorem getK_knS {fs:List Nat} {i j:Nat} (h:j<i):getK (2+j) (knS fs i)=some (lbJ j,payB (fs.getD j 0)):=by
 induction i with
 | zero=>omega
 | succ i ih=>
   rw[knS_succ]
   unfold getK at ih⊢
   rw[List.find?_append]
   by_cases hj:j<i
   · have h1:=ih hj
     cases h2:(knS fs i).find? fun p=>decide (p.1=2+j) with
     | none=>rw[h2] at h1;cases h1
     | some q=>rw[h2] at h1;exact h1
   · obtain rfl:j=i:=by omega
     rw[List.find?_eq_none.2 (fun p hp=>by
      unfold knS at hp
      obtain⟨k,hk,rfl⟩:=List.mem_map.1 hp
      have:=List.mem_range.1 hk
      simp;omega)]
     simp
theorem getK_knS_none {fs:List Nat} {i j:Nat} (h:i≤j):getK (2+j) (knS fs i)=none:=by
 unfold getK
 rw[List.find?_eq_none.2 (fun p hp=>by
  unfold knS at hp
  obtain⟨k,hk,rfl⟩:=List.mem_map.1 hp
  have:=List.mem_range.1 hk
  simp;omega)]
 rfl
theorem lookL_puS {i j:Nat} (h:j<i):lookL (2+j) (puS i)=some (.bool true):=by
 refine lookL_of ?_ ?_
 · rw[puS_keys];exact List.nodup_range'
 · unfold puS;exact List.mem_map.2 ⟨j,List.mem_range.2 h,rfl⟩
theorem lookL_puS_none {i j:Nat} (h:i≤j):lookL (2+j) (puS i)=none:=by
 rw[lookL_none]
 intro p hp
 unfold puS at hp
 obtain⟨k,hk,rfl⟩:=List.mem_map.1 hp
 have:=List.mem_range.1 hk
 simp;omega
theorem putL_puS (i:Nat):putL (2+i) (.bool true) (puS i)=puS (i+1):=by
 unfold putL
 rw[lookL_puS_none (Nat.le_refl i)]
 exact (puS_succ i).symm
theorem put_step (fs:List Nat) (i:Nat):putT (bkT fs i) (2+i,40) [] (lbJ i) (payB (fs.getD i 0))=bkT fs (i+1):=by
 unfold putT bkT
 simp only[List.append_nil]
 rw[putL_puS,show putK (2+i) (lbJ i,payB (fs.getD i 0)) (knS fs i)=knS fs (i+1) from by unfold putK;rw[getK_knS_none (Nat.le_refl i)];exact (knS_succ fs i).symm]
 rw[show 2+i+1=2+(i+1) from by omega]
theorem get_hit9 {R:RgL} {D:DvS} {fs:List Nat} {i n:Nat} (hD:D.n=40) (hi:i<n) (h:n≤30):getP R D (bkT fs n) (lbJ i)=(0,payB (fs.getD i 0),bkT fs n):=by
 unfold getP
 rw[if_neg (by show ¬false=true;decide),if_neg (by show ¬¬(1≤1∧1≤3);decide),if_neg (by show ¬¬(1<2+i∧2+i<D.n);rw[hD];omega)]
 rw[show getK (lbJ i).pg (bkT fs n).kn=some (lbJ i,payB (fs.getD i 0)) from getK_knS hi]
 simp
structure Dv9 (key fs:List Nat) (n:Nat) (D:DvS):Prop where
 qt:Qt D
 ok:D.Ok
 n40:D.n=40
 st:D.st≤100
 ws:D.ws=[]
 fm:D.firm=D.now
 bl:∀j,j<40→blkL D.now j=if j∈pgs 2 n then sealJ key fs j else zeros 256
theorem newD_qt (n:Nat):Qt (newD n):=⟨rfl,rfl,rfl⟩
theorem mem_pgs {i n x:Nat}:x∈pgs i n↔i≤x∧x<i+n:=by unfold pgs;rw[List.mem_range'_1]
theorem seal_fact {key fs:List Nat} {n x:Nat} (hk:KeyOk key) (hb:Byt key) (hf:∀b∈fs,b<256) (hn:n≤fs.length) (h30:n≤30) (hx:x∈pgs 2 n):(sealJ key fs x).length=256∧Byt (sealJ key fs x):=by
 have h1:=mem_pgs.1 hx
 have hf9:fs.getD (x-2) 0<256:=by
  rw[List.getD_eq_getElem?_getD,List.getElem?_eq_getElem (by omega)]
  exact hf _ (List.getElem_mem (by omega))
 exact⟨(seal_ok9 hk (by show 1≤1;decide) (by show 1≤4;decide) (payB_len _)).2,sealP_byt hb (payB_byt hf9) (lbJ_ok (by omega))⟩
theorem flush_law {key fs:List Nat} {n:Nat} (hk:KeyOk key) (hb:Byt key) (hf:∀b∈fs,b<256) (hn:n≤fs.length) (h30:n≤30):
 ∃D al,flushP [((1,3),key)] (bkT fs n) (newD 40) []=(0,{ bkT fs n with fl:=true },D,al)∧Dv9 key fs n D∧al.length=n:=by
 obtain⟨D,al,e1,e2,e3⟩:=flushF_law (R:=[((1,3),key)]) (kn:=knS fs n) (S:=sealJ key fs) (pgs 2 n) (newD 40) [] (newD_qt 40) (newD_ok (by decide) (by decide)) (fun x hx=>by
  have h1:=mem_pgs.1 hx
  obtain⟨s1,s2⟩:=seal_fact hk hb hf hn h30 hx
  refine⟨by show x<40;omega,s1,s2,(lbJ (x-2),payB (fs.getD (x-2) 0)),key,?_,by rfl,rfl⟩
  have:=getK_knS (fs:=fs) (i:=n) (j:=x-2) (by omega)
  rwa [show 2+(x-2)=x from by omega] at this)
 obtain⟨s1,s2,s3,s4,s5,s6,s7,s8⟩:=e2.sync
 refine⟨(syncD D).2,al,?_,⟨s2,s3,s4,?_,s6,by rw[s7,s8],fun j hj=>?_⟩,by rw[e3];simp[pgs]⟩
 · unfold flushP
   rw[show (bkT fs n).pu=puS n from rfl,puS_keys,srt_pgs,show (bkT fs n).kn=knS fs n from rfl,e1]
   simp only
   rw[s1]
   rfl
 · rw[s5]
   have:(pgs 2 n).length=n:=by simp[pgs]
   rw[this]
   show 0+n+1≤100
   omega
 · rw[s7,e2.bl j]
   split
   · rfl
   · exact zero_blkN hj
def sdT (fs:List Nat) (n i:Nat):PgP:={ newT (mkR (2+n) 40) with kn:=knS fs i }
theorem get_miss9 {key fs:List Nat} {D:DvS} {i n:Nat} (hk:KeyOk key) (hD:Dv9 key fs n D) (hi:i<n) (h30:n≤30):getP [((1,3),key)] D (sdT fs n i) (lbJ i)=(0,payB (fs.getD i 0),sdT fs n (i+1)):=by
 unfold getP
 rw[if_neg (by show ¬false=true;decide),if_neg (by show ¬¬(1≤1∧1≤3);decide),if_neg (by show ¬¬(1<2+i∧2+i<D.n);rw[hD.n40];omega)]
 rw[show getK (lbJ i).pg (sdT fs n i).kn=none from getK_knS_none (Nat.le_refl i)]
 dsimp only
 have hh:hasR (sdT fs n i).fr (lbJ i).pg=false:=has_far (Rgt.mk (2+n) 40).right fun r hr=>by
  rw[(mkR_mem hr).1];left;show 2+i<2+n;omega
 rw[if_neg (by rw[hh];exact Bool.false_ne_true),if_neg (by rw[hD.qt.2.2];exact Bool.false_ne_true),show getR ((lbJ i).ten,(lbJ i).gn) [((1,3),key)]=some key from rfl]
 dsimp only
 have hs:SOk key (lbJ i):=⟨hk,by show 1≤1;decide,by show 1≤4;decide⟩
 have hb:blkL D.now (lbJ i).pg=headL (lbJ i)++sealA key (nonceL (lbJ i)) (aadL (lbJ i)) (payB (fs.getD i 0)):=by
  rw[show (lbJ i).pg=2+i from rfl,hD.bl (2+i) (by omega),if_pos (mem_pgs.2 ⟨by omega,by omega⟩)]
  unfold sealJ sealP
  rw[show 2+i-2=i from by omega,if_pos ⟨hs,payB_len _⟩]
 rw[hb,openP_seal hs (payB_len _),if_pos rfl]
 unfold sdT
 rw[knS_succ]
 rfl
def drT (fs:List Nat) (n i:Nat):PgP:=⟨mkR (2+n) 40,knS fs n,puS i,[],puS i,[],8,8,false,false⟩
theorem drop_step (fs:List Nat) (n i:Nat):({ drT fs n i with wa:=putL (2+i) (.bool true) (drT fs n i).wa,dr:=putL (2+i) (.bool true) (drT fs n i).dr }:PgP)=drT fs n (i+1):=by
 unfold drT
 simp only
 rw[putL_puS]
theorem flush_none {R:RgL} {key fs:List Nat} {n i:Nat} {D:DvS} {al:List Sl} (hD:Dv9 key fs n D):∃D',flushP R (drT fs n i) D al=(0,{ drT fs n i with fl:=true },D',al)∧Qt D'∧D'.Ok∧D'.n=40∧D'.st≤101∧D'.ws=[]∧D'.now=D.now∧D'.firm=D.now:=by
 have h1:=(Wn.nil (S:=fun _=>[]) hD.qt hD.ok).sync
 obtain⟨s1,s2,s3,s4,s5,s6,s7,s8⟩:=h1
 refine⟨(syncD D).2,?_,s2,s3,by rw[s4,hD.n40],by rw[s5];have:=hD.st;simp;omega,s6,s7,s8⟩
 unfold flushP
 rw[show (drT fs n i).pu=[] from rfl,List.map_nil,show U32.srt []=[] from by simp[U32.srt]]
 unfold flushF
 simp only
 rw[s1]
 rfl
theorem knS_drop {fs:List Nat} {n i:Nat} (h:i<n):((knS fs n).drop i).filter (fun q=>!decide (q.1=2+i))=(knS fs n).drop (i+1):=by
 have hl:i<(knS fs n).length:=by rw[knS_len];exact h
 have hat:∀j (hj:j<(knS fs n).length),((knS fs n)[j]).1=2+j:=fun j hj=>by unfold knS;simp
 rw[List.drop_eq_getElem_cons hl,List.filter_cons,hat i hl]
 simp only[decide_true,Bool.not_true,Bool.false_eq_true,if_false]
 rw[List.filter_eq_self]
 intro q hq
 obtain⟨j,hj,rfl⟩:=List.getElem_of_mem hq
 rw[List.getElem_drop,hat]
 simp;omega
theorem scrubF_law {fs:List Nat} {n:Nat} (h:n<38):∀(k i:Nat) (T:PgP),i+k=n→T.fr=(if i=n then [(2,40)] else mkR 2 (2+i)++[(2+n,40)])→T.kn=(knS fs n).drop i→
 (scrubF (pgs (2+i) k) T).fr=[(2,40)]∧(scrubF (pgs (2+i) k) T).kn=[]∧(scrubF (pgs (2+i) k) T).fa=T.fa
 | 0,i,T,e,hf,hk=>by
   obtain rfl:i=n:=by omega
   rw[if_pos rfl] at hf
   refine⟨hf,?_,rfl⟩
   show T.kn=[]
   rw[hk,List.drop_of_length_le (by rw[knS_len];exact Nat.le_refl _)]
 | k + 1,i,T,e,hf,hk=>by
   have hi:i<n:=by omega
   rw[if_neg (by omega)] at hf
   have e1:pgs (2+i) (k+1)=(2+i)::pgs (2+(i+1)) k:=by unfold pgs;rw[List.range'_succ];rfl
   rw[e1]
   show (scrubF (pgs (2+(i+1)) k) (relT { T with wa:=dropL (2+i) T.wa } (2+i))).fr=_∧(scrubF (pgs (2+(i+1)) k) (relT { T with wa:=dropL (2+i) T.wa } (2+i))).kn=[]∧(scrubF (pgs (2+(i+1)) k) (relT { T with wa:=dropL (2+i) T.wa } (2+i))).fa=T.fa
   refine scrubF_law (fs:=fs) h k (i+1) (relT { T with wa:=dropL (2+i) T.wa } (2+i)) (by omega) ?_ ?_
   · unfold relT
     simp only
     rw[hf,give_next hi h]
   · unfold relT
     simp only
     rw[hk,knS_drop hi]
theorem scrub_law {key fs:List Nat} {n:Nat} {D D':DvS} (h30:n≤30) (hD:Dv9 key fs n D) (q:Qt D') (ok:D'.Ok) (hn:D'.n=40) (hnow:D'.now=D.now) (hfm:D'.firm=D.now):
 ∃T' D2,scrubP { drT fs n n with fl:=true } D'=(0,T',D2)∧T'.fr=[(2,40)]∧T'.kn=[]∧D2.Ok∧D2.n=40∧∀j,j<40→blkL D2.firm j=zeros 256:=by
 have hg:goneP { drT fs n n with fl:=true }=pgs 2 n:=by
  unfold goneP
  rw[show ({ drT fs n n with fl:=true }:PgP).wa=puS n from rfl,puS_keys,srt_pgs,List.filter_eq_self]
  intro x _
  rfl
 obtain⟨D1,e1,e2⟩:=blankF_law (pgs 2 n) D' q ok (fun x hx=>by have:=mem_pgs.1 hx;omega)
 have hz:∀j,j<40→blkL D1.now j=zeros 256:=fun j hj=>by
  rw[e2.bl j]
  split
  · rfl
  · rename_i hno
    rw[hnow,hD.bl j hj,if_neg hno]
 obtain⟨f1,f2,_⟩:=scrubF_law (fs:=fs) (n:=n) (by omega) n 0 { drT fs n n with fl:=true } (by omega) (by
  by_cases h0:0=n
  · rw[if_pos h0];subst h0;rfl
  · rw[if_neg h0]
    show mkR (2+n) 40=mkR 2 (2+0)++[(2+n,40)]
    rw[show mkR 2 (2+0)=[] from rfl,List.nil_append]
    unfold mkR
    rw[if_pos (by omega)]) rfl
 rw[show 2+0=2 from rfl] at f1 f2
 have hb:∃D2,blankP (pgs 2 n) D'=(0,D2)∧D2.Ok∧D2.n=40∧∀j,j<40→blkL D2.firm j=zeros 256:=by
  unfold blankP
  rw[e1]
  simp only[if_pos]
  by_cases h0:(pgs 2 n).length=0
  · rw[if_pos h0]
    refine⟨D1,rfl,e2.ok,by rw[e2.n,hn],fun j hj=>?_⟩
    rw[e2.fm,hfm,hD.bl j hj,if_neg]
    intro hx
    rw[List.length_eq_zero_iff.1 h0] at hx
    cases hx
  · rw[if_neg h0]
    obtain⟨s1,s2,s3,s4,s5,s6,s7,s8⟩:=e2.sync
    exact⟨(syncD D1).2,Prod.ext s1 rfl,s3,by rw[s4,hn],fun j hj=>by rw[s8];exact hz j hj⟩
 obtain⟨D2,b1,b2,b3,b4⟩:=hb
 refine⟨{ scrubF (pgs 2 n) { drT fs n n with fl:=true } with cm:=0 },D2,?_,f1,f2,b2,b3,b4⟩
 unfold scrubP
 rw[hg,b1,if_pos rfl]
theorem used_knS (fs:List Nat) (n:Nat):usedP (knS fs n) 1=n:=by
 unfold usedP
 rw[List.filter_eq_self.2 (fun q hq=>by
  unfold knS at hq
  obtain⟨k,_,rfl⟩:=List.mem_map.1 hq
  rfl),knS_len]
end Go.Proofs.YtljmiiiidjeggaaGreat
