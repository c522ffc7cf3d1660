/-
  Parts of the proof, joined.
-/
import Derived.Test.YtlobgddnlnffbaaGreatBdj
import Derived.Test.YtlobgddnlnffbaaGreatBdl
import Derived.Sort.WalkA
import Derived.Lib.Walk
import Derived.WalkKit
import Derived.BigQuiet
import Derived.Deep.Draws
import Derived.Deep.QuietTactic
import Derived.Test.YtlobgddnlnffbaaGreatBda
import Derived.Deep.RegionWith
import Derived.Ground.So_math_bits_Len64
import Derived.Deep.Light
import Derived.Sort.Walk13
import Derived.Sort.LotD6
import Derived.Sort.WalkA14
import Derived.Sort.LotD7
import Derived.Sort.AssemblyPlain
import Derived.Test.YtlobgddnlnffbaaGreatBdi
namespace Go.Proofs.YtlobgddnlnffbaaGreat
set_option maxHeartbeats 32000000
open Go.RowKit
set_option linter.unusedVariables false
set_option linter.unusedSimpArgs false
set_option maxRecDepth 100000 in
theorem run_appR (ty:TypeId) {w:World} {B:Nat} {v:Value} {l m:RnL} (hown:RuB w B v l) {A:Option Addr} {n c:Nat} (hr:RnB w A n c m) (hl:l.length+n≤1000000) (hB:B≤w.heap.size):
 ∃v' w',(Builtin.append_ #[70,70] ty #[v,.slice A n c]).run Tryz.prog w = .ok v' w'∧RuB w' B v' (l++m)∧w.grownBy w' v.ownBlock:=by
 obtain⟨i0,hi0,hz0,hz1,hz2⟩:=info_parts infoRun
 have hlen:=hr.len
 cases A with
 | none=>
   have hc:=hr.nil rfl
   have hcap:=hr.cap
   have hn0:n=0:=by omega
   have hm0:m=[]:=List.eq_nil_of_length_eq_zero (by omega)
   subst hc hn0 hm0
   exact⟨v,w,run_append_owned_none (P:=Tryz.prog) w B 70 ty 118 i0 2 Tryz.underlying70 hi0 v _ _ hown,by simpa using hown,World.grownBy.refl w _⟩
 | some y=>
   have hcells:∀j u,(runVs m)[j]? = some u→w.cell? (y.add j)=some u:=fun j u hu=>by
    have hj:=(List.getElem?_eq_some_iff.1 hu).1
    rw[runVs_len] at hj
    obtain⟨x,h1,_,h3⟩:=hr.cel (by omega)
    injection h1 with h1
    subst h1
    exact h3 j u hu
   obtain⟨v1,W1,hrun,r1,r2,_⟩:=run_append_own_at (P:=Tryz.prog) w B 70 ty 118 i0 _ 2 8 Tryz.underlying70 hi0 hz0 hz1 hz2 rfl (by decide) v l.length (runVs l) hown y n c (runVs m) (by rw[runVs_len,hlen]) hcells (runVs_one m) (by simp only[maxLen];omega) (by omega) hB
   refine⟨v1,W1,hrun,?_,r2⟩
   unfold RuB
   rw[runVs_app,List.length_append,hlen]
   exact r1
set_option maxRecDepth 100000 in
theorem take_ok (A:Option Addr) (n c:Nat) (r:Nat×Nat) (l:RnL) (w:World) (h:RnB w A n c (r::l)) (hr:rightR (r::l)=true) (hok:r.2<4294967296∧r.1<r.2) (hn:n≤100000):
 Calls Tryz.prog 72 #[.slice A n c] w fun e w'=>∃v,e = .returned (.tuple #[.int .u32 (r.1:Int),v,.int .i64 0])∧RuB w' w.heap.size v (mkR (r.1+1) r.2++l)∧Below w.heap.size w w':=by
 have HL:=Lib.hid h.len
 have H0:=Lib.hid h
 have H1:=Lib.hid (right_any' A n c (r::l) w h)
 rw[hr] at H1
 obtain⟨x,rfl,hxl,hcel⟩:=h.at (i:=0) (r:=r) rfl
 rw[show x.add (0*2)=x from by rw[Nat.zero_mul];exact addr_zero x] at hcel
 have KC:=Lib.hid hcel
 have h0n:0<n:=by have:=h.len;simp at this;omega
 have HN:Hid (n≤100000∧1≤n∧(r::l).length=n):=Lib.hid ⟨hn,h0n,h.len⟩
 have hnb:(0:Int)<(n:Int):=by omega
 have hne:((n:Int)==0)=false:=by simp;omega
 have hne2:¬(n:Int)=0:=by omega
 obtain⟨hok1,hok2⟩:=hok
 have hwp:IntKind.u32.wrap ((r.1:Int)+1)=((r.1+1:Nat):Int):=wrap_u32 _ (by omega) (by omega)
 have hcap:=h.cap
 have hsf:=fun W=>sl_fromR W (some x) n c 1 (by omega)
 rw[show ((1:Nat):Int)=1 from rfl] at hsf
 clear h hr hok1 hok2 hn hcel hxl hcap h0n
 go_enter Tryz.func72,Tryz.ntmps72
 go_wp2_with fail
 refine H1.out.mono ?_
 rintro e w1 ⟨rfl,hb1⟩
 have B1:=Lib.hid hb1
 have r0:=(KC.out _ hb1).1
 have r1:=(KC.out _ hb1).2
 clear hb1
 have A1:=Lib.hid (B1.out.alloc B1.out.size (.cells #[.int .u32 (r.1:Int),.int .u32 (r.2:Int)] 118))
 clear B1
 go_wp2_with fail
 refine (make_any (r.1+1) r.2 _).mono ?_
 rintro e w4 ⟨v4,rfl,hv4,hb4⟩
 obtain⟨A4,c4,rfl,hr4,_⟩:=hv4.rn
 have s4:=A1.out.size
 have HC:Hid (w1.heap.size<w4.heap.size):=Lib.hid (by have:=hb4.size;simp at this;omega)
 have B4:=Lib.hid (below_tr A1.out hb4 A1.out.size)
 have R4:=Lib.hid hr4
 have hcb:∀k,k<2→w4.cell? ⟨w1.heap.size,k,none⟩=(w1.alloc (.cells #[.int .u32 (r.1:Int),.int .u32 (r.2:Int)] 118)).cell? ⟨w1.heap.size,k,none⟩:=fun k _=>World.cell?_of_block (hb4.block _ (by simp))
 have k0:=hcb 0 (by decide)
 have k1:=hcb 1 (by decide)
 clear hv4 hb4 hr4 A1 s4 hcb
 have k0':w4.cell? ⟨w1.heap.size,0,none⟩=some (.int .u32 (r.1:Int)):=by rw[k0];simp
 go_wp2_with (first
  | (refine wpList_appR rfl (.tmp 15) (.tmp 21) rfl (RuB.nil _ w4.heap.size) rfl rfl R4.out (by have:=mkR_le (r.1+1) r.2;simp;omega) (Nat.le_refl _) ?_
     intro v7 w7 hv7 hg7
     have V7:=Lib.hid hv7
     have B7:=Lib.hid (below_grownR B4.out hg7 (by intro g hg;cases hg) B4.out.size)
     have k7:w7.cell? ⟨w1.heap.size,0,none⟩=some (.int .u32 (r.1:Int)):=by
      rw[←k0'];exact World.cell?_of_block (hg7.block _ HC.out (by intro e;cases e))
     have S47:Hid (w4.heap.size≤w7.heap.size):=Lib.hid hg7.size
     have HC7:Hid (w1.heap.size<w7.heap.size):=Lib.hid (Nat.lt_of_lt_of_le HC.out hg7.size)
     clear hv7 hg7))
 obtain⟨A7,c7,rfl,hr7,_⟩:=V7.out.rn
 rw[List.nil_append] at V7 hr7
 obtain⟨m7,hm7⟩:∃m7,List.length (mkR (r.1+1) r.2)=m7:=⟨_,rfl⟩
 rw[hm7] at V7 hr7
 have M7:Hid (m7≤1):=Lib.hid (by rw[←hm7];exact mkR_le _ _)
 rw[List.nil_append,hm7]
 clear hr7
 have KK:=Lib.hid k7
 clear k7 k0 k1 k0' r0 r1
 refine wp_wide5 (fun i k=>i=5∧(Value.slice A7 m7 c7).ownBlock=some k) [⟨23,IsR (.pointer (some ⟨w1.heap.size,0,none⟩)),[],false⟩,⟨24,IsR (.int .u32 (r.1:Int)),[0],false⟩,⟨25,IsR (.slice A7 m7 c7),[],false⟩,⟨26,IsR (.slice (some x) n c),[],false⟩,⟨27,IsR (.slice (dropR2 (some x) c 1) (n-1) (c-1)),[3],false⟩,⟨28,(fun z W=>RuB W w.heap.size z (mkR (r.1+1) r.2++l)),[2,4],false⟩] (by kernel_rfl) (by kernel_rfl) rfl rfl rfl ⟨?_,?_,?_,?_,?_,?_,trivial⟩ ?_
 · refine⟨rfl,IsR.monoF _ _,fun a W hA hb hd=>Takes.to5 (takes_plain rfl (yields_value _ ?_ rfl)) _⟩
   have h5:a.tmps[5]?.getD undef = .pointer (some ⟨w1.heap.size,0,none⟩):=(eval_get a 5).trans ((hA.eval (by simp)).trans rfl)
   go_simp
 · refine⟨rfl,IsR.monoF _ _,fun a W hA hb hd=>Takes.to5 (takes_plain rfl (yields_value _ ?_ rfl)) _⟩
   have h23:a.tmps[23]?.getD undef = .pointer (some ⟨w1.heap.size,0,none⟩):=(eval_get a 23).trans (hd 0 (by simp) _ rfl)
   have hc:W.cell? ⟨w1.heap.size,0,none⟩=some (.int .u32 (r.1:Int)):=by
    rw[←KK.out];exact World.cell?_of_block (hb.block _ HC7.out (fun ⟨j,_,_,hj⟩=>by have h9:w4.heap.size≤w1.heap.size:=own_ge9 V7.out _ hj;have:=HC.out;omega))
   go_simp
 · refine⟨rfl,IsR.monoF _ _,fun a W hA hb hd=>Takes.to5 (takes_plain rfl (yields_value _ ?_ rfl)) _⟩
   have h3:a.tmps[3]?.getD undef = .slice A7 m7 c7:=(eval_get a 3).trans ((hA.eval (by simp)).trans rfl)
   go_simp
 · refine⟨rfl,IsR.monoF _ _,fun a W hA hb hd=>Takes.to5 (takes_plain rfl (yields_value _ ?_ rfl)) _⟩
   have h0:a.tmps[0]?.getD undef = .slice (some x) n c:=(eval_get a 0).trans ((hA.eval (by simp)).trans rfl)
   go_simp
 · refine⟨rfl,IsR.monoF _ _,fun a W hA hb hd=>Takes.to5 (takes_plain rfl (yields_value _ ?_ rfl)) _⟩
   have h26:a.tmps[26]?.getD undef = .slice (some x) n c:=(eval_get a 26).trans (hd 3 (by simp) _ rfl)
   have hs:=hsf W
   go_simp
 · refine⟨rfl,fun z W W1 h1 hf=>row_fr h1 hf (fun k hk ⟨j,hj,hj2,_⟩=>hj hj2),fun a W hA hb hd=>takes5_plain rfl ?_⟩
   have hs:a.eval (.tmp 25) = .slice A7 m7 c7:=hd 2 (by simp) _ rfl
   have hx:a.eval (.tmp 27) = .slice (dropR2 (some x) c 1) (n-1) (c-1):=hd 4 (by simp) _ rfl
   have hown:RuB W w4.heap.size (.slice A7 m7 c7) (mkR (r.1+1) r.2):=row_fr V7.out hb (fun k hk ⟨j,hj,hj2,_⟩=>hj hj2)
   have bw:Below w.heap.size w W:=Fr.below hb (fun k ⟨j,_,_,hj⟩=>by have h9:=own_ge9 V7.out k hj;have:=B4.out.size;omega) B7.out B7.out.size
   have hdr:RnB W (dropR2 (some x) c 1) (n-1) (c-1) l:=(H0.out.ab bw).drop HN.out.2.1
   obtain⟨v1,W1,hrun,r1,r2⟩:=run_appR 70 hown hdr (by have:=mkR_le (r.1+1) r.2;have:=HN.out;omega) (by have:=HC7.out;have:=hb.size;have:=S47.out;omega)
   refine .inl ⟨v1,W1,?_,?_,(Fr.grown r2).imp fun k hk=>⟨rfl,hk⟩⟩
   · unfold execOp
     simp only[resolve,invoke,builtin,Sem.run_bind,Sem.run_pure,Result.andThen_ok,List.map_toArray,List.map_cons,List.map_nil,hs,hx,hrun]
   · exact r1.lower (by have:=B4.out.size;omega)
 intro vs2 w9 hR hb
 have h28:RuB w9 w.heap.size (vs2 28) (mkR (r.1+1) r.2++l):=hR 5 _ rfl
 have e24:vs2 24 = .int .u32 (r.1:Int):=hR 1 _ rfl
 have bw:Below w.heap.size w w9:=Fr.below hb (fun k ⟨j,_,hj⟩=>by have h9:=own_ge9 V7.out k hj;have:=B4.out.size;omega) B7.out B7.out.size
 simp only[List.map_cons,List.map_nil,List.foldl_cons,List.foldl_nil,List.length_cons,List.length_nil,List.drop_succ_cons,List.drop_zero,Act.put,List.setIfInBounds_toArray,List.set_cons_zero,List.set_cons_succ,e24]
 generalize vs2 28=v28 at *
 generalize vs2 23=v23 at *
 generalize vs2 25=v25 at *
 generalize vs2 26=v26 at *
 generalize vs2 27=v27 at *
 have R28:=Lib.hid h28
 have BW:=Lib.hid bw
 clear hR hb h28 bw e24
 go_wp2_with fail
 go_ret3
 exact⟨_,rfl,R28.out,BW.out⟩
def frNew (n:Nat) (l:RnL):Bool:=match l.head?,l.getLast? with
 | some a,some b=>decide (1<a.1)&&decide (a.1<n)&&(decide (1<b.2-1)&&decide (b.2-1<n))
 | _,_=>true
theorem right_all {l:RnL} (h:rightR l=true):∀i r,l[i]? = some r→r.1<r.2∧(∀q,0<i→l[i-1]? = some q→q.2<r.1):=fun i r hr=>by
 have hi:=(List.getElem?_eq_some_iff.1 hr).1
 unfold rightR at h
 have:=List.all_eq_true.1 h i (List.mem_range.2 hi)
 unfold rightI at this
 have e1:l.getD i (0,0)=r:=by rw[List.getD_eq_getElem?_getD,hr];rfl
 rw[e1,Bool.and_eq_true,Bool.or_eq_true,decide_eq_true_eq,decide_eq_true_eq,decide_eq_true_eq] at this
 refine⟨this.1,fun q h0 hq=>?_⟩
 have e2:l.getD (i-1) (0,0)=q:=by rw[List.getD_eq_getElem?_getD,hq];rfl
 rw[e2] at this
 omega
theorem right_up {l:RnL} (h:rightR l=true):∀i r,l[i]? = some r→(∀a,l.head? = some a→a.1+i≤r.1):=by
 intro i
 induction i with
 | zero=>intro r hr a ha;rw[List.head?_eq_getElem?,hr] at ha;injection ha with ha;subst ha;omega
 | succ i ih=>
   intro r hr a ha
   have hi:=(List.getElem?_eq_some_iff.1 hr).1
   obtain⟨q,hq⟩:∃q,l[i]? = some q:=⟨_,List.getElem?_eq_getElem (by omega)⟩
   have h1:=ih q hq a ha
   have h2:=(right_all h (i+1) r hr).2 q (by omega) (by simpa using hq)
   have h3:=(right_all h i q hq).1
   omega
theorem right_down {l:RnL} (h:rightR l=true):∀k i r,l[i]? = some r→i+1+k=l.length→(∀b,l.getLast? = some b→r.2≤b.2):=by
 intro k
 induction k with
 | zero=>
   intro i r hr hi b hb
   rw[List.getLast?_eq_getElem?,show l.length-1=i by omega,hr] at hb
   injection hb with hb
   subst hb
   exact Nat.le_refl _
 | succ k ih=>
   intro i r hr hi b hb
   obtain⟨q,hq⟩:∃q,l[i+1]? = some q:=⟨_,List.getElem?_eq_getElem (by omega)⟩
   have h1:=ih (i+1) q hq (by omega) b hb
   have h2:=(right_all h (i+1) q hq).2 r (by omega) (by simpa using hr)
   have h3:=(right_all h (i+1) q hq).1
   omega
theorem frNew_in {n:Nat} {l:RnL} (h:rightR l=true) (hf:frNew n l=true):∀r∈l,1<r.1∧r.2≤n:=fun r hr=>by
 obtain⟨i,hi⟩:=List.getElem?_of_mem hr
 have hil:=(List.getElem?_eq_some_iff.1 hi).1
 obtain⟨a,ha⟩:∃a,l.head? = some a:=⟨_,by rw[List.head?_eq_getElem?];exact List.getElem?_eq_getElem (by omega)⟩
 obtain⟨b,hb⟩:∃b,l.getLast? = some b:=⟨_,by rw[List.getLast?_eq_getElem?];exact List.getElem?_eq_getElem (by omega)⟩
 have h1:=right_up h i r hi a ha
 have h2:=right_down h (l.length-i-1) i r hi (by omega) b hb
 unfold frNew at hf
 rw[ha,hb] at hf
 simp only[Bool.and_eq_true,decide_eq_true_eq] at hf
 omega
theorem rnl_num {l:RnL} (h:rightR l=true) (hb:∀r∈l,r.2≤4096):l.length≤4096:=by
 rcases Nat.eq_zero_or_pos l.length with h0 | h0
 · omega
 · obtain⟨r,hr⟩:∃r,l[l.length-1]? = some r:=⟨_,List.getElem?_eq_getElem (by omega)⟩
   obtain⟨a,ha⟩:∃a,l.head? = some a:=⟨_,by rw[List.head?_eq_getElem?];exact List.getElem?_eq_getElem (by omega)⟩
   have h1:=right_up h _ r hr a ha
   have h2:=hb r (List.mem_of_getElem? hr)
   have h3:=(right_all h _ r hr).1
   omega
def newT (l:RnL):PgP:=⟨l,[],[],[],[],[],0,0,false,false⟩
theorem wrap_i64Pn (k:Nat) (h:k<9223372036854775808):IntKind.i64.wrap (k:Int)=(k:Int):=by
 simp only[IntKind.wrap]
 have:IntKind.i64.bits=64:=rfl
 simp[IntKind.signed,IntKind.bits]
 omega
theorem wrap_i64P {z:Int} (h0:0≤z) (h1:z<9223372036854775808):IntKind.i64.wrap z=z:=by
 obtain⟨k,rfl⟩:∃k:Nat,z=(k:Int):=⟨z.toNat,by omega⟩
 exact wrap_i64Pn k (by omega)
theorem PgN.upd {w w':World} {O O':Tgm} {p:Nat} {b:PgK} {T T':PgP} {v:Value} (h:PgN w O p b T) (s:Wr (fun t=>t=(p,1)) w O w' O') (hbox:PcB w' p (pcS { b with fv:=v } T')) (hfree:RuB w' 0 v T'.fr) (htf:∀k,v.ownBlock=some k→O' k=(0,0))
 (ekn:T'.kn=T.kn) (ewa:T'.wa=T.wa) (epu:T'.pu=T.pu) (edr:T'.dr=T.dr) (epi:T'.pi=T.pi) (hrgt:rightR T'.fr=true) (hokr:∀r∈T'.fr,1<r.1∧r.2≤4096) (hnum:T'.fr.length≤4096) (hcmo:T'.cm<18446744073709551616∧T'.la<18446744073709551616) (hopn:T'.cm≠0→T.cm≠0):PgN w' O' p { b with fv:=v } T':=by
 obtain⟨vs,k1,k2⟩:=h.kn
 have hp:=h.pos
 have fz:=fun (k:Nat) (i:Nat) (hi:i≠1) (e:O k=(p,i)) (q:O k=(p,1))=>hi (by rw[e] at q;injection q)
 have f0:¬((0:Nat),(0:Nat))=(p,1):=fun e=>by injection e with e;omega
 exact {
  box:=hbox
  pos:=h.pos
  tb:=(s.tg _ (CbB.lt h.box)).trans h.tb
  free:=hfree
  tf:=htf
  kn:=⟨vs,k1.same (s.fr.block _ k1.lt (fz _ 2 (by decide) h.tk)),by rw[ekn];exact k2.imp fun v a t hv=>hv.wr s f0⟩
  tk:=(s.tg _ k1.lt).trans h.tk
  wa:=by rw[ewa];exact h.wa.same (s.fr.block _ h.wa.lt (fz _ 3 (by decide) h.tw))
  tw:=(s.tg _ h.wa.lt).trans h.tw
  pu:=by rw[epu];exact h.pu.wr s (fun e=>by injection e with _ e;cases e)
  dr:=by rw[edr];exact h.dr.wr s (fun e=>by injection e with _ e;cases e)
  pi:=by rw[epi];exact h.pi.same (s.fr.block _ h.pi.lt (fz _ 6 (by decide) h.ti))
  ti:=(s.tg _ h.pi.lt).trans h.ti
  rgt:=hrgt
  okr:=hokr
  num:=hnum
  cmo:=hcmo
  opn:=fun e=>h.opn (hopn e) }
def mkO (O:Tgm) (N:Nat):Tgm:=fun k=>if k<N then O k else if k=N then (N+1+1+1,2) else if k=N+1 then (N+1+1+1,3) else if k=N+1+1 then (N+1+1+1,6) else if k=N+1+1+1 then (N+1+1+1,1) else (0,0)
theorem mkO_0 {O:Tgm} {N:Nat}:mkO O N N=(N+1+1+1,2):=by unfold mkO;rw[if_neg (by omega),if_pos rfl]
theorem mkO_1 {O:Tgm} {N:Nat}:mkO O N (N+1)=(N+1+1+1,3):=by unfold mkO;rw[if_neg (by omega),if_neg (by omega),if_pos rfl]
theorem mkO_2 {O:Tgm} {N:Nat}:mkO O N (N+1+1)=(N+1+1+1,6):=by unfold mkO;rw[if_neg (by omega),if_neg (by omega),if_neg (by omega),if_pos rfl]
theorem mkO_3 {O:Tgm} {N:Nat}:mkO O N (N+1+1+1)=(N+1+1+1,1):=by unfold mkO;rw[if_neg (by omega),if_neg (by omega),if_neg (by omega),if_neg (by omega),if_pos rfl]
theorem mkO_new {O:Tgm} {N k:Nat} (h:N+1+1+1<k):mkO O N k=(0,0):=by
 unfold mkO
 rw[if_neg (by omega),if_neg (by omega),if_neg (by omega),if_neg (by omega),if_neg (by omega)]
theorem mkO_old {O:Tgm} {N k:Nat} (h:k<N):mkO O N k=O k:=by unfold mkO;rw[if_pos h]
def newW (w:World) (d rg lg:Nat):World:=(((w.alloc (.map #[] 0)).alloc (.map #[] 0)).alloc (.map #[] 0)).alloc (.cells #[.pointer (some ⟨d,0,none⟩),.pointer (some ⟨rg,0,none⟩),.pointer (some ⟨lg,0,none⟩),.slice none 0 0,.map (some w.heap.size),.map (some (w.heap.size+1)),.map none,.map none,.map (some (w.heap.size+1+1)),.int .u64 0,.int .u64 0,.bool false,.bool false] 137)
theorem new_begin (w:World) (O:Tgm) (d rg lg:Nat):PgN (newW w d rg lg) (mkO O w.heap.size) (w.heap.size+1+1+1) ⟨d,rg,lg,.slice none 0 0,w.heap.size,w.heap.size+1,.map none,.map none,w.heap.size+1+1⟩ (newT [])∧Below w.heap.size w (newW w d rg lg)∧(newW w d rg lg).heap.size=w.heap.size+1+1+1+1:=by
 have s1:(w.alloc (.map #[] 0)).heap.size=w.heap.size+1:=by simp
 have s2:((w.alloc (.map #[] 0)).alloc (.map #[] 0)).heap.size=w.heap.size+1+1:=by simp
 have s3:(((w.alloc (.map #[] 0)).alloc (.map #[] 0)).alloc (.map #[] 0)).heap.size=w.heap.size+1+1+1:=by simp
 have m1:MapB u32Vp u32Okp (newW w d rg lg) w.heap.size []:=(((MapB.new u32Vp u32Okp w).alloc _).alloc _).alloc _
 have m2:MapB u32Vp u32Okp (newW w d rg lg) (w.heap.size+1) []:=by
  have h:=((MapB.new u32Vp u32Okp (w.alloc (.map #[] 0))).alloc (.map #[] 0)).alloc (.cells #[.pointer (some ⟨d,0,none⟩),.pointer (some ⟨rg,0,none⟩),.pointer (some ⟨lg,0,none⟩),.slice none 0 0,.map (some w.heap.size),.map (some (w.heap.size+1)),.map none,.map none,.map (some (w.heap.size+1+1)),.int .u64 0,.int .u64 0,.bool false,.bool false] 137)
  rw[s1] at h
  exact h
 have m3:MapB u32Vp u32Okp (newW w d rg lg) (w.heap.size+1+1) []:=by
  have h:=(MapB.new u32Vp u32Okp ((w.alloc (.map #[] 0)).alloc (.map #[] 0))).alloc (.cells #[.pointer (some ⟨d,0,none⟩),.pointer (some ⟨rg,0,none⟩),.pointer (some ⟨lg,0,none⟩),.slice none 0 0,.map (some w.heap.size),.map (some (w.heap.size+1)),.map none,.map none,.map (some (w.heap.size+1+1)),.int .u64 0,.int .u64 0,.bool false,.bool false] 137)
  rw[s2] at h
  exact h
 refine⟨?_,?_,?_⟩
 · exact {
    box:=by
     have h:=CbB.new (((w.alloc (.map #[] 0)).alloc (.map #[] 0)).alloc (.map #[] 0)) 137 #[.pointer (some ⟨d,0,none⟩),.pointer (some ⟨rg,0,none⟩),.pointer (some ⟨lg,0,none⟩),.slice none 0 0,.map (some w.heap.size),.map (some (w.heap.size+1)),.map none,.map none,.map (some (w.heap.size+1+1)),.int .u64 0,.int .u64 0,.bool false,.bool false]
     rw[s3] at h
     exact h
    pos:=Nat.succ_pos _
    tb:=mkO_3
    free:=RuB.nil _ _
    tf:=fun k hk=>by cases hk
    kn:=⟨[],m1,trivial⟩
    tk:=mkO_0
    wa:=m2
    tw:=mkO_1
    pu:=.inl ⟨rfl,rfl⟩
    dr:=.inl ⟨rfl,rfl⟩
    pi:=m3
    ti:=mkO_2
    rgt:=rfl
    okr:=fun r hr=>by cases hr
    num:=Nat.zero_le _
    cmo:=⟨by decide,by decide⟩
    opn:=fun e=>absurd rfl e }
 · exact ((((Below.refl _ _).alloc (Nat.le_refl _) _).alloc (by simp) _).alloc (by simp;omega) _).alloc (by simp;omega) _
 · unfold newW;simp
theorem new_end {w W0 w7:World} {O:Tgm} {d rg lg m c7:Nat} {A7:Option Addr} {l:RnL} (N1:PgN W0 (mkO O w.heap.size) (w.heap.size+1+1+1) ⟨d,rg,lg,.slice none 0 0,w.heap.size,w.heap.size+1,.map none,.map none,w.heap.size+1+1⟩ (newT [])) (N2:Below w.heap.size w W0) (N3:W0.heap.size=w.heap.size+1+1+1+1) (B7:Below W0.heap.size W0 w7)
 (V7:RuB w7 (w.heap.size+1+1+1+1) (.slice A7 m c7) l) (hr:rightR l=true) (hk:∀r∈l,1<r.1∧r.2≤4096) (hl:l.length≤4096):
 ∃p O',Ending.returned (.tuple #[.pointer (some ⟨w.heap.size+1+1+1,0,none⟩),.int .i64 0])=Ending.returned (.tuple #[.pointer (some ⟨p,0,none⟩),.int .i64 0])∧PgM (w7.setCell ⟨w.heap.size+1+1+1,3,none⟩ (.slice A7 m c7)) O' p d rg lg (newT l)∧Wr (fun _=>False) w O (w7.setCell ⟨w.heap.size+1+1+1,3,none⟩ (.slice A7 m c7)) O'∧w.heap.size≤p:=by
 have b0:Below w.heap.size w (w7.setCell ⟨w.heap.size+1+1+1,3,none⟩ (.slice A7 m c7)):=(N2.trans (B7.mono N2.size)).setCell (by show w.heap.size≤w.heap.size+1+1+1;omega) _
 refine⟨w.heap.size+1+1+1,mkO O w.heap.size,rfl,⟨_,N1.upd (T':=newT l) (v:=.slice A7 m c7) ?_ ?_ ?_ ?_ rfl rfl rfl rfl rfl hr hk hl ⟨show 0<18446744073709551616 by decide,show 0<18446744073709551616 by decide⟩ id,rfl,rfl,rfl⟩,Wr.of b0 _ (fun k hk=>mkO_old hk),by omega⟩
 · exact⟨(Fr.of B7 _).trW (fr_setD w7 (w.heap.size+1+1+1) 3 (.slice A7 m c7)) |>.imp fun k hk=>by
    rw[hk];exact mkO_3,fun _ _=>rfl⟩
 · exact CbB.set ((show CbB _ _ _ _ from N1.box).ab B7) 3 _
 · exact row_fr (row_low V7 (Nat.zero_le _)) (fr_setD w7 (w.heap.size+1+1+1) 3 (.slice A7 m c7)) (fun k hk e=>by have:=own_ge9 V7 k hk;omega)
 · intro k hk
   have:=own_ge9 V7 k hk
   exact mkO_new (by omega)
set_option maxRecDepth 100000 in
theorem new_ok {w:World} {O:Tgm} {d rg lg n c:Nat} {A:Option Addr} {l:RnL} {D:DvS} (hd:DvM w O d D) (hr:RnB w A n c l) (hn4:D.n≤4096) (h1:rightR l=true) (h2:frNew D.n l=true):
 Calls Tryz.prog 42 #[.pointer (some ⟨d,0,none⟩),.pointer (some ⟨rg,0,none⟩),.pointer (some ⟨lg,0,none⟩),.slice A n c] w fun e w'=>∃p O',e = .returned (.tuple #[.pointer (some ⟨p,0,none⟩),.int .i64 0])∧PgM w' O' p d rg lg (newT l)∧Wr (fun _=>False) w O w' O'∧w.heap.size≤p:=by
 have hmm:∀W:World,(Instr.makeMap 133 none).run Tryz.prog W = .ok (.map (some W.heap.size)) (W.alloc (.map #[] 0)):=fun _=>rfl
 have hmb:∀W:World,(Instr.makeMap 134 none).run Tryz.prog W = .ok (.map (some W.heap.size)) (W.alloc (.map #[] 0)):=fun _=>rfl
 have hmi:∀W:World,(Instr.makeMap 135 none).run Tryz.prog W = .ok (.map (some W.heap.size)) (W.alloc (.map #[] 0)):=fun _=>rfl
 have HD:=Lib.hid hd
 have HR:=Lib.hid hr
 have HP:=Lib.hid (And.intro hn4 (And.intro h1 h2))
 clear hd hr hn4 h1 h2
 go_enter Tryz.func42,Tryz.ntmps42
 go_wp2_with fail
 obtain⟨W0,hW0⟩:∃W0,newW w d rg lg=W0:=⟨_,rfl⟩
 have hN:=new_begin w O d rg lg
 rw[hW0] at hN
 unfold newW at hW0
 rw[hW0]
 clear hW0
 obtain⟨n1,n2,n3⟩:=hN
 have N1:=Lib.hid n1
 have N2:=Lib.hid n2
 have N3:=Lib.hid n3
 have HR0:=Lib.hid (HR.out.ab n2)
 clear n1 n2 n3 hmm hmb hmi
 refine (right_any' A n c l W0 HR0.out).mono ?_
 rw[HP.out.2.1]
 rintro e w1 ⟨rfl,hb1⟩
 have B1:=Lib.hid (N2.out.trans (show Below w.heap.size W0 w1 from hb1.mono N2.out.size))
 have B01:=Lib.hid hb1
 clear hb1
 have S0:Hid (w.heap.size+1+1+1+1≤w1.heap.size):=Lib.hid (by have:=B01.out.size;have:=N3.out;omega)
 have HLn:Hid (l.length≤4096):=Lib.hid (rnl_num HP.out.2.1 (fun r hr=>(Nat.le_trans (frNew_in HP.out.2.1 HP.out.2.2 r hr).2 HP.out.1)))
 have HK:Hid (∀r∈l,1<r.1∧r.2≤4096):=Lib.hid fun r hr=>⟨(frNew_in HP.out.2.1 HP.out.2.2 r hr).1,Nat.le_trans (frNew_in HP.out.2.1 HP.out.2.2 r hr).2 HP.out.1⟩
 by_cases hl0:l=[]
 · subst hl0
   obtain rfl:n=0:=HR.out.len.symm
   have k3:w1.cell? ⟨w.heap.size+1+1+1,3,none⟩=some (.slice none 0 0):=((show CbB _ _ _ _ from N1.out.box).ab B01.out).cell (k:=3) rfl
   go_wp2_with (first
    | (refine wpList_appR rfl (.tmp 63) (.tmp 64) rfl (RuB.nil _ (w.heap.size+1+1+1+1)) rfl rfl (HR0.out.ab B01.out) (by have:=HLn.out;have:=HR.out.len;simp only[List.length_nil] at *;omega) S0.out ?_
       intro v7 w7 hv7 hg7
       obtain⟨A7,c7,rfl,_,_⟩:=hv7.rn
       rw[List.nil_append] at hv7
       have hb7:Below W0.heap.size W0 w7:=below_grownR B01.out hg7 (by intro g hg;cases hg) B01.out.size
       have k7:w7.cell? ⟨w.heap.size+1+1+1,3,none⟩=some (.slice none 0 0):=((show CbB _ _ _ _ from N1.out.box).ab hb7).cell (k:=3) rfl
       have f7:w7.frozen? ⟨w.heap.size+1+1+1,3,none⟩=false:=((show CbB _ _ _ _ from N1.out.box).ab hb7).free 3
       have V7:=Lib.hid hv7
       have B7:=Lib.hid hb7
       clear hv7 hg7 hb7))
   go_ret2
   exact new_end N1.out N2.out N3.out B7.out V7.out HP.out.2.1 HK.out HLn.out
 · have h0n:0<n:=by have:=HR.out.len;have:=List.length_pos_iff.2 hl0;omega
   obtain⟨m,hm⟩:∃m,n=m+1:=⟨n-1,by omega⟩
   obtain⟨ra,hra⟩:∃ra,l[0]? = some ra:=⟨_,List.getElem?_eq_getElem (by have:=HR.out.len;omega)⟩
   obtain⟨rb,hrb⟩:∃rb,l[m]? = some rb:=⟨_,List.getElem?_eq_getElem (by have:=HR.out.len;omega)⟩
   have hfa:=HP.out.2.2
   unfold frNew at hfa
   rw[List.head?_eq_getElem?,hra,List.getLast?_eq_getElem?,show l.length-1=m by have:=HR.out.len;omega,hrb] at hfa
   simp only[Bool.and_eq_true,decide_eq_true_eq] at hfa
   have hna:=(HK.out ra (List.mem_of_getElem? hra)).2
   have hnb:=(HK.out rb (List.mem_of_getElem? hrb)).2
   obtain⟨x,rfl,hxl,hca⟩:=HR.out.at hra
   rw[show x.add (0*2)=x from by rw[Nat.zero_mul];exact addr_zero x] at hca
   obtain⟨x',he,_,hcb⟩:=HR.out.at hrb
   injection he with he
   subst he
   have KA:=Lib.hid hca
   have KB:=Lib.hid hcb
   have r0:=(KA.out _ B1.out).1
   have r1:=(KB.out _ B1.out).2
   have g0:(0:Int)<(n:Int):=by omega
   have g1:IntKind.i64.wrap ((n:Int)-1)=(m:Int):=by
    have h1:=HR.out.cap
    have h2:=HR.out.max
    unfold maxLen at h2
    rw[show (n:Int)-1=(m:Int) by omega]
    exact wrap_i64P (by omega) (by omega)
   have g2:(m:Int)<(n:Int):=by omega
   have g3:(0:Int)≤(m:Int):=by omega
   have g4:IntKind.u32.wrap ((rb.2:Int)-1)=((rb.2-1:Nat):Int):=by
    rw[show (rb.2:Int)-1=((rb.2-1:Nat):Int) by omega]
    exact wrap_u32 _ (by omega) (by omega)
   have HF:=Lib.hid hfa
   have HNA:Hid (ra.1<4294967296∧rb.2-1<4294967296):=Lib.hid (by have:=HP.out.1;omega)
   have DH:Hid (∀W,Below W0.heap.size W0 W→∀q:Nat,q<4294967296→Calls Tryz.prog 68 #[.pointer (some ⟨w.heap.size+1+1+1,0,none⟩),.int .u32 (q:Int)] W fun e w'=>e = .returned (.bool (decide (1<q)&&decide (q<D.n)))∧W=w'):=Lib.hid fun W hW q hq=>by
    obtain⟨g1,g2,wv,k1,_⟩:=HD.out
    exact phas_any q hq ((show CbB _ _ _ _ from N1.out.box).ab hW) (k1.ab (N2.out.trans (hW.mono N2.out.size)))
   clear hl0 hra hrb hfa hna hnb hxl hca hcb h0n hm
   go_wp2_with fail
   refine (DH.out w1 B01.out ra.1 HNA.out.1).mono ?_
   rintro e w' ⟨rfl,rfl⟩
   rw[show (decide (1<ra.1)&&decide (ra.1<D.n))=true from by rw[decide_eq_true HF.out.1.1,decide_eq_true HF.out.1.2];rfl]
   go_wp2_with fail
   refine (DH.out w1 B01.out (rb.2-1) HNA.out.2).mono ?_
   rintro e w' ⟨rfl,rfl⟩
   rw[show (decide (1<rb.2-1)&&decide (rb.2-1<D.n))=true from by rw[decide_eq_true HF.out.2.1,decide_eq_true HF.out.2.2];rfl]
   clear r0 r1 g0 g1 g2 g3 g4 DH
   have k3:w1.cell? ⟨w.heap.size+1+1+1,3,none⟩=some (.slice none 0 0):=((show CbB _ _ _ _ from N1.out.box).ab B01.out).cell (k:=3) rfl
   go_wp2_with (first
    | (refine wpList_appR rfl (.tmp 63) (.tmp 64) rfl (RuB.nil _ (w.heap.size+1+1+1+1)) rfl rfl (HR0.out.ab B01.out) (by have:=HLn.out;have:=HR.out.len;simp only[List.length_nil] at *;omega) S0.out ?_
       intro v7 w7 hv7 hg7
       obtain⟨A7,c7,rfl,_,_⟩:=hv7.rn
       rw[List.nil_append] at hv7
       have hb7:Below W0.heap.size W0 w7:=below_grownR B01.out hg7 (by intro g hg;cases hg) B01.out.size
       have k7:w7.cell? ⟨w.heap.size+1+1+1,3,none⟩=some (.slice none 0 0):=((show CbB _ _ _ _ from N1.out.box).ab hb7).cell (k:=3) rfl
       have f7:w7.frozen? ⟨w.heap.size+1+1+1,3,none⟩=false:=((show CbB _ _ _ _ from N1.out.box).ab hb7).free 3
       have V7:=Lib.hid hv7
       have B7:=Lib.hid hb7
       clear hv7 hg7 hb7))
   go_ret2
   exact new_end N1.out N2.out N3.out B7.out V7.out HP.out.2.1 HK.out HLn.out
theorem PgN.setKn {w w':World} {O O':Tgm} {p:Nat} {b:PgK} {T:PgP} (h:PgN w O p b T) (s:Wr (fun t=>t=(p,2)) w O w' O') {l:List (Nat×(Lb×List Nat))} (hk:∃vs,MapB u32Vp u32Okp w' b.kn vs∧KnV w' O' vs l):PgN w' O' p b { T with kn:=l }:=by
 obtain⟨vs,k1,k2⟩:=h.kn
 have hp:=h.pos
 have fz:=fun (k:Nat) (i:Nat) (hi:i≠2) (e:O k=(p,i)) (q:O k=(p,2))=>hi (by rw[e] at q;injection q)
 have f0:¬((0:Nat),(0:Nat))=(p,2):=fun e=>by injection e with e;omega
 exact {
  box:=CbB.fr h.box s.fr (fz p 1 (by decide) h.tb)
  pos:=h.pos
  tb:=(s.tg _ (CbB.lt h.box)).trans h.tb
  free:=row_fr h.free s.fr (fun k hk e=>f0 (by rw[←h.tf k hk];exact e))
  tf:=fun k hk=>(s.tg _ (row_ltD h.free k hk)).trans (h.tf k hk)
  kn:=hk
  tk:=(s.tg _ k1.lt).trans h.tk
  wa:=h.wa.same (s.fr.block _ h.wa.lt (fz _ 3 (by decide) h.tw))
  tw:=(s.tg _ h.wa.lt).trans h.tw
  pu:=h.pu.wr s (fun e=>by injection e with _ e;cases e)
  dr:=h.dr.wr s (fun e=>by injection e with _ e;cases e)
  pi:=h.pi.same (s.fr.block _ h.pi.lt (fz _ 6 (by decide) h.ti))
  ti:=(s.tg _ h.pi.lt).trans h.ti
  rgt:=h.rgt
  okr:=h.okr
  num:=h.num
  cmo:=h.cmo
  opn:=h.opn }
theorem PgN.setWa {w w':World} {O O':Tgm} {p:Nat} {b:PgK} {T:PgP} (h:PgN w O p b T) (s:Wr (fun t=>t=(p,3)) w O w' O') {l:List (Nat×Value)} (hk:MapB u32Vp u32Okp w' b.mw l):PgN w' O' p b { T with wa:=l }:=by
 obtain⟨vs,k1,k2⟩:=h.kn
 have hp:=h.pos
 have fz:=fun (k:Nat) (i:Nat) (hi:i≠3) (e:O k=(p,i)) (q:O k=(p,3))=>hi (by rw[e] at q;injection q)
 have f0:¬((0:Nat),(0:Nat))=(p,3):=fun e=>by injection e with e;omega
 exact {
  box:=CbB.fr h.box s.fr (fz p 1 (by decide) h.tb)
  pos:=h.pos
  tb:=(s.tg _ (CbB.lt h.box)).trans h.tb
  free:=row_fr h.free s.fr (fun k hk e=>f0 (by rw[←h.tf k hk];exact e))
  tf:=fun k hk=>(s.tg _ (row_ltD h.free k hk)).trans (h.tf k hk)
  kn:=⟨vs,k1.same (s.fr.block _ k1.lt (fz _ 2 (by decide) h.tk)),k2.imp fun v a t hv=>hv.wr s f0⟩
  tk:=(s.tg _ k1.lt).trans h.tk
  wa:=hk
  tw:=(s.tg _ h.wa.lt).trans h.tw
  pu:=h.pu.wr s (fun e=>by injection e with _ e;cases e)
  dr:=h.dr.wr s (fun e=>by injection e with _ e;cases e)
  pi:=h.pi.same (s.fr.block _ h.pi.lt (fz _ 6 (by decide) h.ti))
  ti:=(s.tg _ h.pi.lt).trans h.ti
  rgt:=h.rgt
  okr:=h.okr
  num:=h.num
  cmo:=h.cmo
  opn:=h.opn }
theorem PgN.setPu {w w':World} {O O':Tgm} {p:Nat} {b:PgK} {T:PgP} (h:PgN w O p b T) (s:Wr (fun t=>t=(p,4)) w O w' O') {l:List (Nat×Value)} {a:Nat} (ha:b.pv = .map (some a)) (hk:MapB u32Vp u32Okp w' a l) (hO:O' a=(p,4)):PgN w' O' p b { T with pu:=l }:=by
 obtain⟨vs,k1,k2⟩:=h.kn
 have hp:=h.pos
 have fz:=fun (k:Nat) (i:Nat) (hi:i≠4) (e:O k=(p,i)) (q:O k=(p,4))=>hi (by rw[e] at q;injection q)
 have f0:¬((0:Nat),(0:Nat))=(p,4):=fun e=>by injection e with e;omega
 exact {
  box:=CbB.fr h.box s.fr (fz p 1 (by decide) h.tb)
  pos:=h.pos
  tb:=(s.tg _ (CbB.lt h.box)).trans h.tb
  free:=row_fr h.free s.fr (fun k hk e=>f0 (by rw[←h.tf k hk];exact e))
  tf:=fun k hk=>(s.tg _ (row_ltD h.free k hk)).trans (h.tf k hk)
  kn:=⟨vs,k1.same (s.fr.block _ k1.lt (fz _ 2 (by decide) h.tk)),k2.imp fun v a t hv=>hv.wr s f0⟩
  tk:=(s.tg _ k1.lt).trans h.tk
  wa:=h.wa.same (s.fr.block _ h.wa.lt (fz _ 3 (by decide) h.tw))
  tw:=(s.tg _ h.wa.lt).trans h.tw
  pu:=.inr ⟨a,ha,hk,hO⟩
  dr:=h.dr.wr s (fun e=>by injection e with _ e;cases e)
  pi:=h.pi.same (s.fr.block _ h.pi.lt (fz _ 6 (by decide) h.ti))
  ti:=(s.tg _ h.pi.lt).trans h.ti
  rgt:=h.rgt
  okr:=h.okr
  num:=h.num
  cmo:=h.cmo
  opn:=h.opn }
theorem PgN.setDr {w w':World} {O O':Tgm} {p:Nat} {b:PgK} {T:PgP} (h:PgN w O p b T) (s:Wr (fun t=>t=(p,5)) w O w' O') {l:List (Nat×Value)} {a:Nat} (ha:b.dv = .map (some a)) (hk:MapB u32Vp u32Okp w' a l) (hO:O' a=(p,5)):PgN w' O' p b { T with dr:=l }:=by
 obtain⟨vs,k1,k2⟩:=h.kn
 have hp:=h.pos
 have fz:=fun (k:Nat) (i:Nat) (hi:i≠5) (e:O k=(p,i)) (q:O k=(p,5))=>hi (by rw[e] at q;injection q)
 have f0:¬((0:Nat),(0:Nat))=(p,5):=fun e=>by injection e with e;omega
 exact {
  box:=CbB.fr h.box s.fr (fz p 1 (by decide) h.tb)
  pos:=h.pos
  tb:=(s.tg _ (CbB.lt h.box)).trans h.tb
  free:=row_fr h.free s.fr (fun k hk e=>f0 (by rw[←h.tf k hk];exact e))
  tf:=fun k hk=>(s.tg _ (row_ltD h.free k hk)).trans (h.tf k hk)
  kn:=⟨vs,k1.same (s.fr.block _ k1.lt (fz _ 2 (by decide) h.tk)),k2.imp fun v a t hv=>hv.wr s f0⟩
  tk:=(s.tg _ k1.lt).trans h.tk
  wa:=h.wa.same (s.fr.block _ h.wa.lt (fz _ 3 (by decide) h.tw))
  tw:=(s.tg _ h.wa.lt).trans h.tw
  pu:=h.pu.wr s (fun e=>by injection e with _ e;cases e)
  dr:=.inr ⟨a,ha,hk,hO⟩
  pi:=h.pi.same (s.fr.block _ h.pi.lt (fz _ 6 (by decide) h.ti))
  ti:=(s.tg _ h.pi.lt).trans h.ti
  rgt:=h.rgt
  okr:=h.okr
  num:=h.num
  cmo:=h.cmo
  opn:=h.opn }
abbrev KnL:=List (Nat×(Lb×List Nat))
def getK (x:Nat) (l:KnL):Option (Lb×List Nat):=(l.find? fun p=>decide (p.1=x)).map (·.2)
def putK (x:Nat) (v:Lb×List Nat) (l:KnL):KnL:=if (getK x l).isSome then l.map fun p=>if p.1=x then (x,v) else p else l++[(x,v)]
section
variable {w w':World} {O O':Tgm}
theorem KnV.look (x:Nat):∀{vs:List (Nat×Value)} {l:KnL},KnV w O vs l→
 (lookL x vs=none∧getK x l=none)∨∃v k,lookL x vs=some v∧getK x l=some k∧PgV w O v k.1 k.2
 | [],[],_=>.inl ⟨rfl,rfl⟩
 | p :: ps,q::qs,h=>by
   have ih:=KnV.look x h.2
   obtain⟨⟨h1,h2⟩,h3⟩:=h
   unfold lookL getK at ih⊢
   by_cases hx:p.1=x
   · rw[List.find?_cons_of_pos (by simpa using hx),List.find?_cons_of_pos (by rw[←h1];simpa using hx)]
     exact .inr ⟨_,_,rfl,rfl,h2⟩
   · rw[List.find?_cons_of_neg (by simpa using hx),List.find?_cons_of_neg (by rw[←h1];simpa using hx)]
     exact ih
 | [],_::_,h=>h.elim
 | _::_,[],h=>h.elim
theorem KnV.snoc {x:Nat} {v:Value} {k:Lb×List Nat} (hv:PgV w O v k.1 k.2):∀{vs:List (Nat×Value)} {l:KnL},KnV w O vs l→KnV w O (vs++[(x,v)]) (l++[(x,k)])
 | [],[],_=>⟨⟨rfl,hv⟩,trivial⟩
 | p::ps,q::qs,h=>⟨h.1,KnV.snoc hv h.2⟩
 | [],_::_,h=>h.elim
 | _::_,[],h=>h.elim
theorem KnV.rep {x:Nat} {v:Value} {k:Lb×List Nat} (hv:PgV w O v k.1 k.2):∀{vs:List (Nat×Value)} {l:KnL},KnV w O vs l→KnV w O (vs.map fun p=>if p.1=x then (x,v) else p) (l.map fun p=>if p.1=x then (x,k) else p)
 | [],[],_=>trivial
 | p :: ps,q::qs,h=>by
   refine⟨?_,KnV.rep hv h.2⟩
   obtain⟨⟨h1,h2⟩,h3⟩:=h
   dsimp only
   by_cases hx:p.1=x
   · rw[if_pos hx,if_pos (by rw[←h1];exact hx)]
     exact⟨rfl,hv⟩
   · rw[if_neg hx,if_neg (by rw[←h1];exact hx)]
     exact⟨h1,h2⟩
 | [],_::_,h=>h.elim
 | _::_,[],h=>h.elim
theorem KnV.put {x:Nat} {v:Value} {k:Lb×List Nat} {vs:List (Nat×Value)} {l:KnL} (h:KnV w O vs l) (hv:PgV w O v k.1 k.2):KnV w O (putL x v vs) (putK x k l):=by
 unfold putL putK
 rcases h.look x with ⟨e1,e2⟩ | ⟨v',k',e1,e2,_⟩
 · rw[e1,e2]
   exact KnV.snoc hv h
 · rw[e1,e2]
   exact KnV.rep hv h
theorem KnV.drop (x:Nat):∀{vs:List (Nat×Value)} {l:KnL},KnV w O vs l→KnV w O (dropL x vs) (l.filter fun p=>!decide (p.1=x))
 | [],[],_=>trivial
 | p :: ps,q::qs,h=>by
   have ih:=KnV.drop x h.2
   obtain⟨⟨h1,h2⟩,h3⟩:=h
   unfold dropL at ih⊢
   by_cases hx:p.1=x
   · rw[List.filter_cons_of_neg (by simpa using hx),List.filter_cons_of_neg (by rw[←h1];simpa using hx)]
     exact ih
   · rw[List.filter_cons_of_pos (by simpa using hx),List.filter_cons_of_pos (by rw[←h1];simpa using hx)]
     exact⟨⟨h1,h2⟩,ih⟩
 | [],_::_,h=>h.elim
 | _::_,[],h=>h.elim
theorem KnV.wr {P:Nat×Nat→Prop} {vs:List (Nat×Value)} {l:KnL} (h:KnV w O vs l) (s:Wr P w O w' O') (h0:¬P (0,0)):KnV w' O' vs l:=h.imp fun _ _ _ hv=>hv.wr s h0
theorem Wr.grown {P:Nat×Nat→Prop} {m:Nat} (h:w.grownBy w' (some m)) (hP:P (O m)):Wr P w O w' O:=
 ⟨(Fr.grown h).imp fun k hk=>by injection hk with hk;subst hk;exact hP,fun _ _=>rfl⟩
end
section
variable {w:World} {O:Tgm} {p d rg lg:Nat} {b:PgK} {T:PgP}
set_option maxRecDepth 100000 in
theorem isFree_any (n:Nat) (h:PgN w O p b T):Calls Tryz.prog 69 #[.pointer (some ⟨p,0,none⟩),.int .u32 (n:Int)] w fun e w'=>e = .returned (.bool (hasR T.fr n))∧Below w.heap.size w w':=by
 have c3:w.cell? ⟨p,3,none⟩=some b.fv:=CbB.cell h.box (k:=3) rfl
 obtain⟨A,c,hfv,hr,_⟩:=h.free.rn
 rw[hfv] at c3
 have H:=Lib.hid (has_any' A T.fr.length c n T.fr w hr h.rgt)
 clear h hfv hr
 generalize T.fr.length=m at *
 go_enter Tryz.func69,Tryz.ntmps69
 go_wp2_with fail
 refine H.out.mono ?_
 rintro e w1 ⟨rfl,hb⟩
 have B1:=Lib.hid hb
 clear hb H
 go_wp2_with fail
 go_ret
 exact⟨rfl,B1.out⟩
set_option maxRecDepth 100000 in
theorem failed_same {S:PcS} (h:PcB w p S) (hf:S.fa=false) (e:Nat) (he:e≤1000):Calls Tryz.prog 110 #[.pointer (some ⟨p,0,none⟩),.int .i64 (e:Int)] w fun r w'=>r = .returned (.int .i64 (e:Int))∧PcB w' p { S with fa:=!decide (e=0) }∧Fr w w' (fun q=>q=p):=by
 have c12:w.cell? ⟨p,12,none⟩=some (.bool false):=by rw[←hf];exact CbB.cell h (k:=12) rfl
 have f12:=CbB.free h 12
 have H:=Lib.hid fun z=>CbB.set h 12 (.bool z)
 clear h hf
 by_cases h0:e=0
 · subst h0
   go_enter Tryz.func110,Tryz.ntmps110
   go_wp2_with fail
   go_ret
   exact⟨rfl,H.out false,fr_setD _ _ _ _⟩
 · have e0:decide (e=0)=false:=by simp;omega
   have e1:((e:Int) != 0)=true:=by simp;omega
   have e2:¬(e:Int)=0:=by omega
   clear h0 he
   go_enter Tryz.func110,Tryz.ntmps110
   go_wp2_with fail
   go_ret
   refine⟨rfl,?_,fr_setD _ _ _ _⟩
   rw[e0]
   exact H.out true
end
end Go.Proofs.YtlobgddnlnffbaaGreat
namespace Go.Proofs.YtlobgddnlnffbaaGreat.U16
open Go.RowKit Go.Sort
set_option linter.unusedVariables false
abbrev encE:Int→Value:=fun x=>Value.int .u16 x
theorem s_cmp_isNaN (x:Int) (w:World):Calls Tryz.prog 245 #[.int .u16 x] w fun e w'=>e = .returned (.bool false)∧w'=w:=by
 go_enter Tryz.func245,Tryz.ntmps245
 go_wp2
 go_ret
 exact⟨by simp,rfl⟩
theorem s_cmp_Less (x y:Int) (w:World):Calls Tryz.prog 212 #[.int .u16 x,.int .u16 y] w fun e w'=>e = .returned (.bool (Sort.ltInt x y))∧w'=w:=by
 go_enter Tryz.func212,Tryz.ntmps212
 go_wp2_with (go_at_call 245;refine (s_cmp_isNaN _ _).mono ?_;rintro e w' ⟨rfl,rfl⟩)
 go_ret
 exact⟨rfl,rfl⟩
set_option maxRecDepth 1000000 in
theorem s_insertionSort (blk off cap a b:Nat) (d:Array Int) (w:World) (hH:Holds (Value.int .u16) w blk off d) (hab:a≤b) (hb:b≤d.size) (hsz:d.size<4611686018427387904):
 Calls Tryz.prog 206 #[.slice (some ⟨blk,off,none⟩) d.size cap,.int .i64 a,.int .i64 b] w fun e w'=>
  e = .returned (.tuple #[])∧∃n,w'=putRow (Value.int .u16) (Sort.ahead w n) blk off (Sort.insertionSort ltInt d a b):=by
 go_enter Tryz.func206,Tryz.ntmps206
 go_wp2
 go_loopw [6] (fun vi wr=>∃(i n:Nat) (dk:Array Int),vi = .int .i64 i∧a<i∧i≤b+1∧dk.size=d.size∧wr=putRow (Value.int .u16) (Sort.ahead w n) blk off dk∧
  insOuter ltInt a b i dk=insOuter ltInt a b (a+1) d) (fun vi _=>b+1-(intOf vi).toNat)
 case atStart=>exact⟨a+1,0,d,by go_num,by omega,by omega,rfl,(putRow_self _ _ _ _ _ hH).symm,rfl⟩
 case round=>
  obtain⟨i,n,dk,rfl,hai,hib,hsk,hwr,hO⟩:=hrel
  have HO:Hid (insOuter ltInt a b i dk=insOuter ltInt a b (a+1) d):=hO
  clear hO
  go_wp2
  ·
   go_loopw [7] (fun vj wr2=>∃(j m:Nat) (dj:Array Int),vj = .int .i64 j∧a≤j∧j≤i∧dj.size=d.size∧wr2=putRow (Value.int .u16) (Sort.ahead w m) blk off dj∧
    insInner ltInt a j dj=insInner ltInt a i dk) (fun vj _=>(intOf vj).toNat)
   case atStart=>exact⟨i,n,dk,rfl,by omega,Nat.le_refl _,hsk,rfl,rfl⟩
   case round=>
    obtain⟨j,m,dj,rfl,haj,hji,hsj,hw2,hI⟩:=hrel
    have hlt:i<b:=by assumption
    obtain⟨G,hG⟩:∃G:Nat→Int,∀t,G t=dj[t]!:=⟨fun t=>dj[t]!,fun _=>rfl⟩
    have hcw:∀t,t<d.size→wr.cell? ⟨blk,off+t,none⟩=some (.int .u16 (G t)):=fun t ht=>by
     rw[hw2,hG];exact cell?_putRow _ _ _ _ d dj (holds_ahead _ _ _ _ _ _ hH) hsj t (by omega)
    have hfw:∀t,t<d.size→wr.frozen? ⟨blk,off+t,none⟩=false:=fun t ht=>by
     rw[hw2,frozen?_putRow];exact ((holds_ahead _ _ m _ _ _ hH) t ht).2
    have HW:Hid (wr=putRow (Value.int .u16) (Sort.ahead w m) blk off dj):=hw2
    have HG:Hid (∀t,G t=dj[t]!):=hG
    have HI:Hid (insInner ltInt a j dj=insInner ltInt a i dk):=hI
    clear hw2 hG hI hH
    have out:(j≤a∨ltInt dj[j]! dj[j-1]! = false)→∀q,∃i' n' dk',Value.int .i64 ((i:Int)+1) = .int .i64 (i':Nat)∧a<i'∧i'≤b+1∧dk'.size=d.size∧
     wr.drewN q=putRow (Value.int .u16) (Sort.ahead w n') blk off dk'∧insOuter ltInt a b i' dk'=insOuter ltInt a b (a+1) d:=fun hs q=>
     ⟨i+1,m+q,dj,by go_num,by omega,by omega,hsj,by rw[HW.out];exact putRow_drewN _ _ _ _ _ _ _,
      by rw[←HO.out,insOuter_go _ _ _ _ _ hlt,←HI.out,insInner_stop _ _ _ _ hs]⟩
    have OUT:Hid _:=out
    clear out
    go_wp2
    by_cases hja:a<j
    · go_quiet (first | (go_at_call 212;refine Calls.quiet_of_same (s_cmp_Less _ _ _)))
      go_wp2
      ·
       have hl:ltInt (G j) (G (j-1))=true:=by assumption
       go_region
       all_goals go_wp2
       go_roundw
       case rel=>
        refine⟨j-1,m+(nq+1),swp dj j (j-1),by congr 1;omega,by omega,by omega,by rw[size_swp];exact hsj,?_,?_⟩
        · rw[HW.out,HG.out,HG.out]
          exact swap_worldA _ w m (nq+1) blk off dj j (j-1) (by omega) (by omega)
        · rw[←HI.out,insInner_go ltInt a j dj hja (by rw[←HG.out,←HG.out];exact hl)]
       case measure=>simp[intOf];omega
      ·
       have hl:ltInt (G j) (G (j-1))=false:=by assumption
       go_roundw
       case rel=>exact OUT.out (Or.inr (by rw[←HG.out,←HG.out];exact hl)) nq
       case measure=>simp[intOf];omega
    · go_quiet (first | (go_at_call 212;refine Calls.quiet_of_same (s_cmp_Less _ _ _)))
      go_wp2
      go_roundw
      case rel=>exact OUT.out (Or.inl (by omega)) nq
      case measure=>simp[intOf];omega
  ·
   have hge:¬i<b:=by assumption
   go_end0
   exact⟨rfl,n,by unfold Sort.insertionSort;rw[←HO.out,insOuter_stop _ _ _ _ _ hge]⟩
set_option maxRecDepth 100000 in
theorem len8tab_size:(Lib.len8tab.size:Int)=256:=by
 have:Lib.len8tab.size=256:=by decide
 omega
theorem wrap_add (k a b:Nat) (hk:k≤56) (ha:a≤8) (hb:b=k+a):RowKit.wrap64 ((k:Int)+RowKit.wrap64 (a:Int))=(b:Int):=by
 unfold RowKit.wrap64
 omega
theorem wrap_wrap (a:Nat) (ha:a≤8):RowKit.wrap64 (RowKit.wrap64 (a:Int))=(a:Int):=by
 unfold RowKit.wrap64
 omega
theorem wrap_one (a:Nat) (ha:a≤8):RowKit.wrap64 (a:Int)=(a:Int):=by
 unfold RowKit.wrap64
 omega
theorem len8_get (y:Int) (h:y.toNat<Lib.len8tab.size):((Lib.len8tab[y.toNat]'h).toNat:Int)=Lib.len8 y:=by
 unfold Lib.len8
 rw[getElem?_pos Lib.len8tab y.toNat h]
 rfl
set_option maxRecDepth 1000000 in
theorem s_bits_Len64 (x:Int) (w:World) (h0:0≤x) (h1:x≤18446744073709551615):
 Calls Tryz.prog 200 #[.int .u64 x] w fun e w'=>e = .returned (.int .i64 (Lib.bitLen x.toNat))∧w'=w:=by
 go_enter Tryz.func200,Tryz.ntmps200
 go_wp2
 all_goals first
  | (go_ret;refine⟨congrArg Ending.returned (congrArg (Value.int IntKind.i64) ?_),rfl⟩;go_light)
  | (exfalso
     go_light
     have hs:=len8tab_size
     omega)
 all_goals first
  | (rw[len8_get (x/4294967296/65536/256) _,Lib.len8_of (x/4294967296/65536/256) (by omega) (by omega)]
     have e:(x/4294967296/65536/256).toNat=x.toNat/72057594037927936:=by omega
     have l:=Lib.bitLen_le8' (x/4294967296/65536/256) (by omega) (by omega)
     have s:=Lib.bitLen_shift56 x.toNat (by omega) (by omega)
     rw[e] at l⊢
     exact wrap_add 56 _ _ (by decide) l s)
  | (rw[len8_get (x/4294967296/65536) _,Lib.len8_of (x/4294967296/65536) (by omega) (by omega)]
     have e:(x/4294967296/65536).toNat=x.toNat/281474976710656:=by omega
     have l:=Lib.bitLen_le8' (x/4294967296/65536) (by omega) (by omega)
     have s:=Lib.bitLen_shift48 x.toNat (by omega) (by omega)
     rw[e] at l⊢
     exact wrap_add 48 _ _ (by decide) l s)
  | (rw[len8_get (x/4294967296/256) _,Lib.len8_of (x/4294967296/256) (by omega) (by omega)]
     have e:(x/4294967296/256).toNat=x.toNat/1099511627776:=by omega
     have l:=Lib.bitLen_le8' (x/4294967296/256) (by omega) (by omega)
     have s:=Lib.bitLen_shift40 x.toNat (by omega) (by omega)
     rw[e] at l⊢
     exact wrap_add 40 _ _ (by decide) l s)
  | (rw[len8_get (x/4294967296) _,Lib.len8_of (x/4294967296) (by omega) (by omega)]
     have e:(x/4294967296).toNat=x.toNat/4294967296:=by omega
     have l:=Lib.bitLen_le8' (x/4294967296) (by omega) (by omega)
     have s:=Lib.bitLen_shift32 x.toNat (by omega) (by omega)
     rw[e] at l⊢
     exact wrap_add 32 _ _ (by decide) l s)
  | (rw[len8_get (x/65536/256) _,Lib.len8_of (x/65536/256) (by omega) (by omega)]
     have e:(x/65536/256).toNat=x.toNat/16777216:=by omega
     have l:=Lib.bitLen_le8' (x/65536/256) (by omega) (by omega)
     have s:=Lib.bitLen_shift24 x.toNat (by omega) (by omega)
     rw[e] at l⊢
     exact wrap_add 24 _ _ (by decide) l s)
  | (rw[len8_get (x/65536) _,Lib.len8_of (x/65536) (by omega) (by omega)]
     have e:(x/65536).toNat=x.toNat/65536:=by omega
     have l:=Lib.bitLen_le8' (x/65536) (by omega) (by omega)
     have s:=Lib.bitLen_shift16 x.toNat (by omega) (by omega)
     rw[e] at l⊢
     exact wrap_add 16 _ _ (by decide) l s)
  | (rw[len8_get (x/256) _,Lib.len8_of (x/256) (by omega) (by omega)]
     have e:(x/256).toNat=x.toNat/256:=by omega
     have l:=Lib.bitLen_le8' (x/256) (by omega) (by omega)
     have s:=Lib.bitLen_shift8 x.toNat (by omega) (by omega)
     rw[e] at l⊢
     exact wrap_add 8 _ _ (by decide) l s)
  | (rw[len8_get (x) _,Lib.len8_of (x) (by omega) (by omega)]
     have e:(x).toNat=x.toNat:=by omega
     have l:=Lib.bitLen_le8' (x) (by omega) (by omega)
     rw[e] at l⊢
     first | exact wrap_wrap _ l | exact wrap_add 0 _ _ (by decide) l (by omega) | exact wrap_one _ l)
set_option maxRecDepth 1000000 in
theorem s_bits_Len (x:Int) (w:World) (h0:0≤x) (h1:x≤18446744073709551615):
 Calls Tryz.prog 174 #[.int .u64 x] w fun e w'=>e = .returned (.int .i64 (Lib.bitLen x.toNat))∧w'=w:=by
 go_enter Tryz.func174,Tryz.ntmps174
 go_wp2_with (go_at_call 200;refine (s_bits_Len64 x _ h0 h1).mono ?_;rintro e w' ⟨rfl,rfl⟩)
 go_ret
 exact⟨rfl,rfl⟩
def s_lenWalk:Prop:=∀(n:Nat) (w:World),n<4611686018427387904→Calls Tryz.prog 174 #[.int .u64 (n:Int)] w fun e w'=>e = .returned (.int .i64 (bitsLen n:Nat))∧w'=w
theorem s_insertionSort_nil (p:Option Addr) (cap:Nat) (w:World):
 Calls Tryz.prog 206 #[.slice p 0 cap,.int .i64 0,.int .i64 0] w fun e w'=>e = .returned (.tuple #[])∧w'=w:=by
 go_enter Tryz.func206,Tryz.ntmps206
 go_wp2
 refine wp_loop_rounds 1 ?_
 rw[rounds_succ]
 go_wp2
 go_end0
 exact⟨rfl,rfl⟩
set_option maxRecDepth 100000 in
theorem s_pdqsort_nil (p:Option Addr) (cap:Nat) (w:World):
 Calls Tryz.prog 181 #[.slice p 0 cap,.int .i64 0,.int .i64 0,.int .i64 0] w fun e w'=>e = .returned (.tuple #[])∧w'=w:=by
 go_enter Tryz.func181,Tryz.ntmps181
 go_wp2
 refine wp_loop_rounds 1 ?_
 rw[rounds_succ]
 go_wp2_with (first | (go_at_call 206;refine (s_insertionSort_nil p cap _).mono ?_;rintro e w' ⟨rfl,rfl⟩))
 refine bodyPost_ret (results_none rfl _ _ _) rfl ?_
 exact⟨rfl,rfl⟩
set_option maxRecDepth 100000 in
theorem s_Sort_nil (p:Option Addr) (cap:Nat) (w:World):
 Calls Tryz.prog 164 #[.slice p 0 cap] w fun e w'=>e = .returned (.tuple #[])∧w'=w:=by
 have hLen:∀w,Calls Tryz.prog 174 #[.int .u64 0] w fun e w'=>e = .returned (.int .i64 0)∧w'=w:=fun w=>s_bits_Len 0 w (by omega) (by omega)
 go_enter Tryz.func164,Tryz.ntmps164
 go_wp2_with (first
  | (go_at_call 174;refine (hLen _).mono ?_;rintro e w' ⟨rfl,rfl⟩)
  | (go_at_call 181;refine (s_pdqsort_nil p cap _).mono ?_;rintro e w' ⟨rfl,rfl⟩))
 go_end0
 exact⟨rfl,rfl⟩
theorem lenWalk:s_lenWalk:=fun n w hn=>by
 have h:=s_bits_Len (n:Int) w (by omega) (by omega)
 rwa [Int.toNat_natCast,bitLen_eq _ (by omega)] at h
theorem grow_nilS (w:World):grow w #[]=w:=by
 cases w
 simp[grow]
set_option maxRecDepth 100000 in
theorem s_pdqsort_small (blk off cap limit:Nat) (d:Array Int) (w:World) (hH:Holds (Value.int .u16) w blk off d) (h12:d.size≤12) (hlim:limit<4611686018427387904):
 Calls Tryz.prog 181 #[.slice (some ⟨blk,off,none⟩) d.size cap,.int .i64 0,.int .i64 d.size,.int .i64 limit] w fun e w'=>e = .returned (.tuple #[])∧∃n,w'=putRow (Value.int .u16) (Sort.ahead w n) blk off (Sort.insertionSort ltInt d 0 d.size):=by
 have HH:Hid (Holds (Value.int .u16) w blk off d):=hH
 have H12:Hid (d.size≤12):=h12
 have h12i:(d.size:Int)≤12:=by omega
 clear hH h12
 go_enter Tryz.func181,Tryz.ntmps181
 go_wp2
 refine wp_loop_rounds 1 ?_
 rw[rounds_succ]
 go_wp2_with (first | (go_at_call 206;refine (s_insertionSort blk off cap 0 d.size d _ (by exact HH.out) (Nat.zero_le _) (Nat.le_refl _) (by have:=H12.out;omega)).mono ?_;rintro e w' ⟨rfl,n,rfl⟩))
 refine bodyPost_ret (results_none rfl _ _ _) rfl ?_
 exact⟨rfl,n,rfl⟩
set_option maxRecDepth 100000 in
theorem s_SortS (blk off cap:Nat) (d:Array Int) (w:World) (hH:Holds (Value.int .u16) w blk off d) (h12:d.size≤12):
 Calls Tryz.prog 164 #[.slice (some ⟨blk,off,none⟩) d.size cap] w fun e w'=>e = .returned (.tuple #[])∧∃n os,w'=grow (putRow (Value.int .u16) (Sort.ahead w n) blk off (Sort.sort ltInt d)) os:=by
 have HH:Hid (Holds (Value.int .u16) w blk off d):=hH
 have H12:Hid (d.size≤12):=h12
 have h62:d.size<4611686018427387904:=by omega
 have hk:bitsLen d.size≤62:=(bitsLen_le_iff d.size 62).2 (by omega)
 have hkk:bitsLen d.size<4611686018427387904:=by omega
 clear hH h12
 go_enter Tryz.func164,Tryz.ntmps164
 go_wp2_with (first
  | (go_at_call 174;refine ((lenWalk d.size _ h62)).mono ?_;rintro e w' ⟨rfl,rfl⟩)
  | (go_at_call 181;refine (s_pdqsort_small blk off cap (bitsLen d.size) d _ (by exact HH.out) H12.out hkk).mono ?_;rintro e w' ⟨rfl,n,rfl⟩))
 go_end0
 refine⟨rfl,n,#[],?_⟩
 unfold Sort.sort
 rw[pdq_small (by have:=H12.out;omega)]
 exact (grow_nilS _).symm
theorem sort_any (blk off cap:Nat) (zs:List Int) (w:World) (hH:Holds (Value.int .u16) w blk off zs.toArray) (hblk:blk<w.heap.size) (hsz:zs.length≤12):
 Calls Tryz.prog 164 #[.slice (some ⟨blk,off,none⟩) zs.length cap] w fun e w'=>
  e = .returned (.tuple #[])∧∃n os,w'=grow (putRow (Value.int .u16) (Sort.ahead w n) blk off (zs.mergeSort fun x y=>decide (x≤y)).toArray) os:=by
 have h:=s_SortS blk off cap zs.toArray w hH (by simpa using hsz)
 rw[show Sort.sort ltInt zs.toArray=(zs.mergeSort fun x y=>decide (x≤y)).toArray by rw[←sortInt zs]] at h
 simpa using h
def nvs (l:List Nat):List Value:=l.map fun (n:Nat)=>Value.int .u16 (n:Int)
theorem nvs_len (l:List Nat):(nvs l).length=l.length:=List.length_map _
theorem infoN:(Tryz.prog.info? 32).map (fun i=>(i.zero,i.size,i.bytes))=some (some (.int .u16 0),1,2):=by kernel_rfl
def NsB (w:World) (B:Nat) (v:Value) (l:List Nat):Prop:=w.ownsRow B 32 1 v l.length (nvs l)
theorem NsB.nil (w:World) (B:Nat):NsB w B (.slice none 0 0) []:=World.ownsRow_nil _ _ _ _
theorem NsB.kept {w w':World} {B:Nat} {v:Value} {l:List Nat} {row:Option Nat} (h:NsB w B v l) (hg:w.grownBy w' row) (hne:v.ownBlock=none∨v.ownBlock≠row):NsB w' B v l:=World.ownsRow.kept h hg hne
theorem NsB.ab {w w':World} {B:Nat} {v:Value} {l:List Nat} (h:NsB w B v l) (hb:Below w.heap.size w w'):NsB w' B v l:=World.ownsRow.kept (row:=none) h (grown_of hb none) (by cases hv:v.ownBlock <;> simp)
theorem NsB.form {w:World} {B:Nat} {v:Value} {l:List Nat} (h:NsB w B v l):∃A c,v = .slice A l.length c∧∀i (hi:i<l.length),∃g,A=some ⟨g,0,none⟩∧w.cell? ⟨g,i,none⟩=some (.int .u16 ((l[i]:Nat):Int)):=by
 have h0:=h
 rcases h.2 with ⟨rfl,h1⟩ | ⟨g,cap,cur,rfl,_,hb,_⟩
 · exact⟨none,0,by rw[h1],fun i hi=>by omega⟩
 · refine⟨_,_,rfl,fun i hi=>⟨g,rfl,?_⟩⟩
   have h2:=World.ownsRow.cellAt h0 i (by omega)
   rw[h2]
   simp[nvs,hi]
theorem wpList_appN {rest:List Oper} {ops:Array Oper} {o:Oper} {a:Act} {w:World} {Q:Exit→Act→World→Prop} (hgd:o.guard=none) (s x:Operand)
 (ho:o.op = .call { callee:=.builtin .append,args:=#[s,x],argTypes:=#[203,203] })
 {B G:Nat} {v:Value} {ls:List Nat} (hown:NsB w B v ls) (hs:a.eval s=v) (n:Nat) (hx:a.eval x = .slice (some ⟨G,0,none⟩) 1 1) (hG:CbB w G 32 #[.int .u16 (n:Int)]) (hl:ls.length≤100000) (hB:B≤w.heap.size)
 (h:∀v' w',NsB w' B v' (ls++[n])→w.grownBy w' v.ownBlock→wpList Tryz.prog ops Q rest (a.put o.dst v') w'):wpList Tryz.prog ops Q (o::rest) a w:=by
 obtain⟨i0,hi0,hz0,hz1,hz2⟩:=info_parts infoN
 obtain⟨v1,W1,hrun,r1,r2,_⟩:=run_append_own (P:=Tryz.prog) w B 203 o.type 32 i0 _ 1 2 Tryz.underlying203 hi0 hz0 hz1 hz2 rfl (by decide) v ls.length (nvs ls) hown ⟨G,0,none⟩ 1 1 [.int .u16 (n:Int)] rfl (row_at hG) (by simp[Value.oneCell']) (by simp only[maxLen];omega) (by omega) hB
 refine wpList_plain hgd fun K hK=>?_
 unfold Oper.wp execOp
 simp only[ho,resolve,invoke,builtin,Sem.run_bind,Sem.run_pure,Result.andThen_ok,List.map_toArray,List.map_cons,List.map_nil,hs,hx,hrun]
 refine hK _ _ (h v1 W1 ?_ r2)
 unfold NsB nvs
 rw[List.map_append,List.length_append,List.length_singleton]
 exact r1
theorem holds_own {w:World} {g:Nat} {cur:Array Value} {e:TypeId} {l:List Nat} (hb:w.heap[g]? = some (.cells cur e (0,0))) (ht:cur.toList.take l.length=nvs l):Holds (Value.int .u16) w g 0 (l.map fun (n:Nat)=>(n:Int)).toArray:=by
 intro j hj
 have hj':j<l.length:=by simpa using hj
 refine⟨?_,by simp[World.frozen?,hb]⟩
 have h1:(cur.toList.take l.length)[j]? = (nvs l)[j]?:=by rw[ht]
 rw[List.getElem?_take_of_lt hj'] at h1
 simp only[World.cell?,hb,Nat.zero_add]
 simp only[Option.isSome_none,Bool.false_eq_true,if_false]
 rw[←Array.getElem?_toList,h1]
 simp[nvs,hj']
theorem heap_sorted {w:World} {g n:Nat} {os:Array Obj} {cur:Array Value} {e:TypeId} {fr:Nat×Nat} (d:Array Int) (hb:w.heap[g]? = some (.cells cur e fr)):
 (grow (putRow (Value.int .u16) (Sort.ahead w n) g 0 d) os).heap[g]? = some (.cells (putCells (Value.int .u16) 0 d cur) e fr):=by
 have hg:g<w.heap.size:=(Array.getElem?_eq_some_iff.1 hb).1
 rw[heap_grow_old _ _ (by simpa using hg)]
 simp[putRow,mapBlock,Sort.ahead,Array.getElem?_modify,hb,onCells]
theorem grownBy_sorted {w:World} {g n:Nat} {os:Array Obj} (d:Array Int):w.grownBy (grow (putRow (Value.int .u16) (Sort.ahead w n) g 0 d) os) (some g):=by
 refine⟨rfl,rfl,rfl,by simp,fun k hk hne=>?_⟩
 rw[heap_grow_old _ _ (by simpa using hk)]
 have:g≠k:=fun e=>hne (by rw[e])
 simp[putRow,mapBlock,Sort.ahead,Array.getElem?_modify,this]
theorem take_sorted (cur:Array Value) (ts:List Nat) (h:ts.length≤cur.size):(putCells (Value.int .u16) 0 (ts.map fun (n:Nat)=>(n:Int)).toArray cur).toList.take ts.length=nvs ts:=by
 apply List.ext_getElem?
 intro j
 by_cases hj:j<ts.length
 · rw[List.getElem?_take_of_lt hj,Array.getElem?_toList]
   simp[putCells,nvs,hj,show j<cur.size by omega]
 · rw[List.getElem?_take_eq_none (by omega),List.getElem?_eq_none (by simp[nvs];omega)]
theorem below_grownO {B:Nat} {a b c:World} {r:Option Nat} (h:Below B a b) (k:b.grownBy c r) (hr:∀g,r=some g→B≤g) (hs:B≤b.heap.size):Below B a c:=h.trans ⟨k.os,k.tape,k.output,k.size,fun i hi=>k.block i (by omega) (fun e=>by have:=hr i e.symm;omega)⟩
def srt (l:List Nat):List Nat:=l.mergeSort fun a b=>decide (a≤b)
theorem srt_len (l:List Nat):(srt l).length=l.length:=List.length_mergeSort _
theorem srt_mem {l:List Nat} {x:Nat}:x∈srt l↔x∈l:=List.mem_mergeSort
theorem srt_int (l:List Nat):(l.map fun (n:Nat)=>(n:Int)).mergeSort (fun x y=>decide (x≤y))=(srt l).map fun (n:Nat)=>(n:Int):=by
 unfold srt
 rw[List.map_mergeSort (s:=fun x y:Int=>decide (x≤y))]
 intro a _ b _
 simp
theorem srt_asc (l:List Nat) (hn:l.Nodup):(srt l).Pairwise (· < ·):=by
 have h1:(srt l).Pairwise fun a b=>(decide (a≤b))=true:=List.pairwise_mergeSort (fun a b c h1 h2=>by simp at h1 h2⊢;omega) (fun a b=>by simp;omega) l
 have h2:(srt l).Nodup:=(List.mergeSort_perm l _).nodup_iff.2 hn
 exact (h1.and h2).imp fun ⟨a,b⟩=>by simp at a;omega
theorem asc_eq:∀{a b:List Nat},a.Pairwise (· < ·)→b.Pairwise (· < ·)→(∀x,x∈a↔x∈b)→a=b
 | [],[],_,_,_=>rfl
 | [],y::_,_,_,h=>absurd ((h y).2 (by simp)) (by simp)
 | x::_,[],_,_,h=>absurd ((h x).1 (by simp)) (by simp)
 | x :: r,y::q,ha,hb,h=>by
   obtain⟨a1,a2⟩:=List.pairwise_cons.1 ha
   obtain⟨b1,b2⟩:=List.pairwise_cons.1 hb
   have hxy:x=y:=by
    rcases List.mem_cons.1 ((h x).1 (by simp)) with e | e
    · exact e
    · rcases List.mem_cons.1 ((h y).2 (by simp)) with e' | e'
      · exact e'.symm
      · have:=a1 _ e';have:=b1 _ e;omega
   subst hxy
   congr 1
   refine asc_eq a2 b2 fun z=>?_
   constructor
   · intro hz
     rcases List.mem_cons.1 ((h z).1 (by simp[hz])) with e | e
     · have:=a1 _ hz;omega
     · exact e
   · intro hz
     rcases List.mem_cons.1 ((h z).2 (by simp[hz])) with e | e
     · have:=b1 _ hz;omega
     · exact e
theorem sort_own (B:Nat) (v:Value) (l:List Nat) (w:World) (h:NsB w B v l) (hl:l.length≤12):
 Calls Tryz.prog 164 #[v] w fun e w'=>e = .returned (.tuple #[])∧NsB w' B v (srt l)∧w.grownBy w' v.ownBlock:=by
 rcases h.2 with ⟨rfl,h1⟩ | ⟨g,cap,cur,rfl,hg,hb,hn,hc,hs,ht⟩
 · obtain rfl:=List.eq_nil_of_length_eq_zero h1
   refine (s_Sort_nil none 0 w).mono ?_
   rintro e w' ⟨rfl,rfl⟩
   exact⟨rfl,by rw[show srt []=[] by simp[srt]];exact NsB.nil _ _,World.grownBy.refl _ _⟩
 · rw[Nat.mul_one] at ht hs
   have h2:=sort_any g 0 cap (l.map fun (n:Nat)=>(n:Int)) w (holds_own hb ht) (Array.getElem?_eq_some_iff.1 hb).1 (by simp;omega)
   rw[srt_int,List.length_map] at h2
   refine h2.mono ?_
   rintro e w' ⟨rfl,n,os,rfl⟩
   refine⟨rfl,⟨by rw[nvs_len,Nat.mul_one],.inr ⟨g,cap,_,by rw[srt_len],hg,heap_sorted _ hb,by rw[srt_len];exact hn,hc,by simp[putCells,hs],?_⟩⟩,grownBy_sorted _⟩
   rw[Nat.mul_one]
   exact take_sorted cur _ (by rw[srt_len];omega)
end Go.Proofs.YtlobgddnlnffbaaGreat.U16
