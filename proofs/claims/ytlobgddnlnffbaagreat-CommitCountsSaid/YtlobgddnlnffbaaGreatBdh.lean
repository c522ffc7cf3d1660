/-
  Parts of the proof, joined.
-/
import Derived.Test.YtlobgddnlnffbaaGreatBdf
import Derived.Test.YtlobgddnlnffbaaGreatBdg
import Derived.Lib.SmallJoins
namespace Go.Proofs.YtlobgddnlnffbaaGreat
set_option maxHeartbeats 4000000
open Go.RowKit
set_option linter.unusedVariables false
structure Lb where
 ten:Nat
 k:Nat
 lv:Nat
 pg:Nat
 cm:Nat
 gn:Nat
 deriving DecidableEq
structure Lb.Ok (l:Lb):Prop where
 ten:l.ten<4294967296
 k:l.k<256
 lv:l.lv<256
 pg:l.pg<4294967296
 cm:l.cm<18446744073709551616
 gn:l.gn<65536
def lab (l:Lb):Array Value:=#[.int .u32 (l.ten:Int),.int .u8 (l.k:Int),.int .u8 (l.lv:Int),.int .u32 (l.pg:Int),.int .u64 (l.cm:Int),.int .u16 (l.gn:Int)]
def flatN:List (Nat×Nat)→List Nat
 | []=>[]
 | p::ps=>digB p.1 p.2++flatN ps
theorem flatN_snoc (ps:List (Nat×Nat)) (p:Nat×Nat):flatN (ps++[p])=flatN ps++digB p.1 p.2:=by
 induction ps with
 | nil=>simp[flatN]
 | cons q ps ih=>rw[List.cons_append,flatN,ih,flatN,List.append_assoc]
def rowN (ps:List (Nat×Nat)):Array Value:=(ps.flatMap fun p=>[Value.int .u64 (p.1:Int),Value.int .u64 (p.2:Int)]).toArray
theorem rowN_at:∀(ps:List (Nat×Nat)) (j:Nat) (p:Nat×Nat),ps[j]? = some p→(ps.flatMap fun p=>[Value.int .u64 (p.1:Int),Value.int .u64 (p.2:Int)])[2*j]? = some (.int .u64 (p.1:Int))∧(ps.flatMap fun p=>[Value.int .u64 (p.1:Int),Value.int .u64 (p.2:Int)])[2*j+1]? = some (.int .u64 (p.2:Int))
 | [],j,p,h=>by simp at h
 | q::ps,0,p,h=>by
   simp only[List.getElem?_cons_zero,Option.some.injEq] at h
   subst h
   exact⟨rfl,rfl⟩
 | q::ps,j+1,p,h=>by
   have:=rowN_at ps j p (by simpa using h)
   rw[show 2*(j+1)=2*j+1+1 by omega]
   exact this
def NumB (w:World) (g:Nat) (ps:List (Nat×Nat)):Prop:=w.heap[g]? = some (.cells (rowN ps) 22 (0,0))
theorem NumB.lt {w:World} {g:Nat} {ps:List (Nat×Nat)} (h:NumB w g ps):g<w.heap.size:=lt_of_block h
theorem NumB.below {w w':World} {g:Nat} {ps:List (Nat×Nat)} (h:NumB w g ps) (hb:Below w.heap.size w w'):NumB w' g ps:=(hb.block g h.lt).trans h
theorem NumB.at {w:World} {g:Nat} {ps:List (Nat×Nat)} (h:NumB w g ps) {j:Nat} {p:Nat×Nat} (hj:ps[j]? = some p):w.cell? ⟨g,2*j,none⟩=some (.int .u64 (p.1:Int))∧w.cell? ⟨g,2*j+1,none⟩=some (.int .u64 (p.2:Int)):=by
 have:=rowN_at ps j p hj
 rw[cell_of_row w g _ _ _ (0,0) h,cell_of_row w g _ _ _ (0,0) h]
 simpa[rowN] using this
def NumOk (ps:List (Nat×Nat)):Prop:=∀p∈ps,p.1<18446744073709551616∧1≤p.2∧p.2≤8∧p.1<256 ^ p.2
theorem flatN_le:∀{ps:List (Nat×Nat)},NumOk ps→(flatN ps).length≤8*ps.length
 | [],_=>Nat.le_refl _
 | p::ps,h=>by
   have h1:=flatN_le (ps:=ps) (fun q hq=>h q (by simp[hq]))
   have h2:=h p (by simp)
   rw[flatN,List.length_append,digB_len,List.length_cons]
   omega
set_option maxRecDepth 100000 in
theorem numbers_any (g n:Nat) (ps:List (Nat×Nat)) (w:World) (hb:NumB w g ps) (hn:ps.length=n) (hok:NumOk ps) (h100:n≤100):
 Calls Tryz.prog 166 #[.slice (some ⟨g,0,none⟩) (2*n) (2*n)] w fun e w'=>∃v,e = .returned v∧OwB w' w.heap.size v (flatN ps)∧Below w.heap.size w w':=by
 obtain⟨i0,hi0,hz0,hz1,hz2⟩:=info_parts infoU8
 have HB:=Lib.hid hb
 have HN:=Lib.hid hn
 have HO:=Lib.hid hok
 have hnb:(n:Int)≤100:=by omega
 have HNB:=Lib.hid h100
 clear hb hn hok h100
 go_enter Tryz.func166,Tryz.ntmps166
 go_wp2_with fail
 go_loopw [3,4,5,6] (fun v j _ _ wr=>∃i q:Nat,i=2*q∧q≤n∧j = .int .i64 i∧OwB wr w.heap.size v (flatN (ps.take q))∧Below w.heap.size w wr) (fun _ j _ _ _=>2*n-(intOf j).toNat)
 case atStart=>exact⟨0,0,rfl,Nat.zero_le _,rfl,OwB.nil _ _,Below.refl _ _⟩
 case round=>
  obtain⟨i,q,hiq,hq,rfl,ho,kb⟩:=hrel
  have hib:(i:Int)≤200:=by omega
  by_cases hlt:q<n
  · have hc:decide ((i:Int)+1<2*(n:Int))=true:=by simp;omega
    obtain⟨p,hp⟩:∃p,ps[q]? = some p:=⟨_,List.getElem?_eq_getElem (by rw[HN.out];exact hlt)⟩
    have hmem:=List.mem_of_getElem? hp
    obtain⟨p1,p2,p3,p4⟩:=HO.out p hmem
    have hts:ps.take (q+1)=ps.take q++[p]:=by rw[List.take_add_one,hp];rfl
    have hfl:=flatN_snoc (ps.take q) p
    rw[←hts] at hfl
    obtain⟨a0,a1⟩:=(HB.out.below kb).at hp
    have hle:=flatN_le (ps:=ps.take q) (fun r hr=>HO.out r (List.mem_of_mem_take hr))
    rw[List.length_take] at hle
    obtain⟨m,s⟩:=p
    simp only at p1 p2 p3 p4 a0 a1 hfl
    have hpu:=fun W=>put_any m s W p1 p2 p3 p4
    have hcv:IntKind.i64.wrap (s:Int)=(s:Int):=IntWalk.i64_in _ (by omega)
    rw[←hiq] at a0 a1
    have HBK:=Lib.hid (HB.out.below kb)
    have A0:=Lib.hid a0
    have A1:=Lib.hid a1
    have KB:=Lib.hid kb
    have OO:=Lib.hid ho
    have HPU:=Lib.hid hpu
    have HFL:=Lib.hid hfl
    have HLE:=Lib.hid hle
    have HQ:=Lib.hid hlt
    have HIQ:=Lib.hid hiq
    have P2:=Lib.hid p2
    have P3:=Lib.hid p3
    have hi2:(i:Int)<2*(n:Int):=by omega
    have hi3:(i:Int)+1<2*(n:Int):=by omega
    have hi4:¬((i:Int)+1<0):=by omega
    have hi5:IntKind.i64.wrap ((i:Int)+1)=(i:Int)+1:=IntWalk.i64_in _ (by omega)
    clear ho kb hpu hfl hle hlt hiq hts hmem hp p1 p2 p3 p4 hq a0 a1
    go_wp2_with fail
    refine wp_wide3 [⟨15,IsR (.slice (some ⟨g,0,none⟩) (2*n) (2*n)),[],false⟩,⟨16,IsR (.int .i64 (i:Int)),[],false⟩,⟨17,IsR (.pointer (some ⟨g,i,none⟩)),[0,1],false⟩,⟨18,IsR (.int .u64 (m:Int)),[2],false⟩,
     ⟨19,IsR (.slice (some ⟨g,0,none⟩) (2*n) (2*n)),[],false⟩,⟨20,IsR (.int .i64 (i:Int)),[],false⟩,⟨21,IsR (.int .i64 ((i:Int)+1)),[5],false⟩,⟨22,IsR (.pointer (some ⟨g,i+1,none⟩)),[4,6],false⟩,⟨23,IsR (.int .u64 (s:Int)),[7],false⟩,⟨24,IsR (.int .i64 (s:Int)),[8],false⟩,
     ⟨25,TupB wr.heap.size 0 (digB m s),[3,9],false⟩,⟨14,TupB wr.heap.size 0 (digB m s),[10],false⟩,⟨26,OwR wr.heap.size (digB m s),[11],false⟩,⟨27,IsR (.int .i64 0),[11],false⟩,⟨5,OwR wr.heap.size (digB m s),[12],false⟩] (by kernel_rfl) (by kernel_rfl) rfl rfl rfl ⟨?_,?_,?_,?_,?_,?_,?_,?_,?_,?_,?_,?_,?_,?_,?_,trivial⟩ ?_
    · refine⟨rfl,IsR.mono _,fun a W hA hb hd=>takes_plain rfl (yields_value _ ?_ rfl)⟩
      have h0:a.tmps[0]?.getD undef = .slice (some ⟨g,0,none⟩) (2*n) (2*n):=(eval_get a 0).trans ((hA.eval (by simp)).trans rfl)
      go_simp
    · refine⟨rfl,IsR.mono _,fun a W hA hb hd=>takes_plain rfl (yields_value _ ?_ rfl)⟩
      have h0:a.tmps[4]?.getD undef = .int .i64 (i:Int):=(eval_get a 4).trans ((hA.eval (by simp)).trans rfl)
      go_simp
    · refine⟨rfl,IsR.mono _,fun a W hA hb hd=>takes_plain rfl (yields_value _ ?_ rfl)⟩
      have h0:a.tmps[15]?.getD undef = .slice (some ⟨g,0,none⟩) (2*n) (2*n):=(eval_get a 15).trans (hd 0 (by simp) _ rfl)
      have h1:a.tmps[16]?.getD undef = .int .i64 (i:Int):=(eval_get a 16).trans (hd 1 (by simp) _ rfl)
      go_simp
    · refine⟨rfl,IsR.mono _,fun a W hA hb hd=>takes_plain rfl (yields_value _ ?_ rfl)⟩
      have h0:a.tmps[17]?.getD undef = .pointer (some ⟨g,i,none⟩):=(eval_get a 17).trans (hd 2 (by simp) _ rfl)
      have a0:W.cell? ⟨g,i,none⟩=some (.int .u64 (m:Int)):=(hb.cell (p:=⟨g,i,none⟩) HBK.out.lt).trans A0.out
      go_simp
    · refine⟨rfl,IsR.mono _,fun a W hA hb hd=>takes_plain rfl (yields_value _ ?_ rfl)⟩
      have h0:a.tmps[0]?.getD undef = .slice (some ⟨g,0,none⟩) (2*n) (2*n):=(eval_get a 0).trans ((hA.eval (by simp)).trans rfl)
      go_simp
    · refine⟨rfl,IsR.mono _,fun a W hA hb hd=>takes_plain rfl (yields_value _ ?_ rfl)⟩
      have h0:a.tmps[4]?.getD undef = .int .i64 (i:Int):=(eval_get a 4).trans ((hA.eval (by simp)).trans rfl)
      go_simp
    · refine⟨rfl,IsR.mono _,fun a W hA hb hd=>takes_plain rfl (yields_value _ ?_ rfl)⟩
      have h0:a.tmps[20]?.getD undef = .int .i64 (i:Int):=(eval_get a 20).trans (hd 5 (by simp) _ rfl)
      go_simp
    · refine⟨rfl,IsR.mono _,fun a W hA hb hd=>takes_plain rfl (yields_value _ ?_ rfl)⟩
      have h0:a.tmps[19]?.getD undef = .slice (some ⟨g,0,none⟩) (2*n) (2*n):=(eval_get a 19).trans (hd 4 (by simp) _ rfl)
      have h1:a.tmps[21]?.getD undef = .int .i64 ((i:Int)+1):=(eval_get a 21).trans (hd 6 (by simp) _ rfl)
      go_simp
    · refine⟨rfl,IsR.mono _,fun a W hA hb hd=>takes_plain rfl (yields_value _ ?_ rfl)⟩
      have h0:a.tmps[22]?.getD undef = .pointer (some ⟨g,i+1,none⟩):=(eval_get a 22).trans (hd 7 (by simp) _ rfl)
      have a0:W.cell? ⟨g,i+1,none⟩=some (.int .u64 (s:Int)):=(hb.cell (p:=⟨g,i+1,none⟩) HBK.out.lt).trans A1.out
      go_simp
    · refine⟨rfl,IsR.mono _,fun a W hA hb hd=>takes_plain rfl (yields_value _ ?_ rfl)⟩
      have h0:a.tmps[23]?.getD undef = .int .u64 (s:Int):=(eval_get a 23).trans (hd 8 (by simp) _ rfl)
      go_simp
    · refine⟨rfl,TupB.mono _ _ _,fun a W hA hb hd=>takes_plain rfl ?_⟩
      have h0:a.tmps[18]?.getD undef = .int .u64 (m:Int):=(eval_get a 18).trans (hd 3 (by simp) _ rfl)
      have h1:a.tmps[24]?.getD undef = .int .i64 (s:Int):=(eval_get a 24).trans (hd 9 (by simp) _ rfl)
      refine yields_call 182 #[.int .u64 (m:Int),.int .i64 (s:Int)] (by go_simp) ((HPU.out W).mono ?_)
      rintro e W' ⟨rfl,hk,hb'⟩
      exact⟨_,rfl,⟨_,rfl,(OwB.ofBk hk (Nat.le_refl _) (digB_len _ _) (Nat.le_refl _) (digB_len _ _) (by have:=P3.out;omega) (List.take_of_length_le (by rw[digB_len];exact Nat.le_refl _)) (digB_byt _ _)).lower hb.size⟩,hb'⟩
    · refine⟨rfl,TupB.mono _ _ _,fun a W hA hb hd=>takes_plain rfl ?_⟩
      obtain⟨v0,e0,ho⟩:=hd 10 (by simp) _ rfl
      have h0:a.tmps[25]?.getD undef = .tuple #[v0,.int .i64 ((0:Nat):Int)]:=(eval_get a 25).trans e0
      refine yields_value (.tuple #[v0,.int .i64 ((0:Nat):Int)]) ?_ ⟨v0,rfl,ho⟩
      go_simp
    · refine⟨rfl,OwR.mono _ _,fun a W hA hb hd=>takes_plain rfl ?_⟩
      obtain⟨v0,e0,ho⟩:=hd 11 (by simp) _ rfl
      have h0:a.tmps[14]?.getD undef = .tuple #[v0,.int .i64 ((0:Nat):Int)]:=(eval_get a 14).trans e0
      refine yields_value v0 ?_ ho
      go_simp
    · refine⟨rfl,IsR.mono _,fun a W hA hb hd=>takes_plain rfl ?_⟩
      obtain⟨v0,e0,ho⟩:=hd 11 (by simp) _ rfl
      have h0:a.tmps[14]?.getD undef = .tuple #[v0,.int .i64 ((0:Nat):Int)]:=(eval_get a 14).trans e0
      refine yields_value (.int .i64 0) ?_ rfl
      go_simp
    · refine⟨rfl,OwR.mono _ _,fun a W hA hb hd=>takes_plain rfl ?_⟩
      have ho:OwB W wr.heap.size (a.eval (.tmp 26)) (digB m s):=hd 12 (by simp) _ rfl
      exact yields_value (a.eval (.tmp 26)) (exec_assign (.tmp 26) rfl W) ho
    · intro vs W hR hF hb
      have hV:OwB W wr.heap.size (vs 5) (digB m s):=hR 14 _ rfl
      simp only[List.map_cons,List.map_nil,List.foldl_cons,List.foldl_nil,List.length_cons,List.length_nil,List.drop_succ_cons,List.drop_zero,Act.put,List.setIfInBounds_toArray,List.set_cons_zero,List.set_cons_succ]
      generalize vs 5=vv at *
      obtain⟨A5,c5,rfl,-,-⟩:=hV.shape
      have I5:=Lib.hid (hV.isB rfl)
      have O5:=Lib.hid (OO.out.ab hb)
      have B5:=Lib.hid (below_tr KB.out hb KB.out.size)
      clear hR hF hb hV
      generalize vs 14=q0
      generalize vs 15=q1
      generalize vs 16=q2
      generalize vs 17=q3
      generalize vs 18=q4
      generalize vs 19=q5
      generalize vs 20=q6
      generalize vs 21=q7
      generalize vs 22=q8
      generalize vs 23=q9
      generalize vs 24=q10
      generalize vs 25=q11
      generalize vs 26=q12
      generalize vs 27=q13
      go_wp2_with (refine wpList_appB _ rfl (.tmp 28) (.tmp 29) rfl Tryz.underlying41 hi0 hz0 hz1 hz2 rfl O5.out rfl I5.out rfl (by rw[digB_len];have:=HLE.out;have:=HNB.out;have:=HQ.out;have:=P3.out;omega) B5.out.size ?_
                   intro v6 w6 hv6 hb6 hg6 hat6
                   rw[←HFL.out] at hv6
                   have V6:=Lib.hid hv6
                   have B6:=Lib.hid (B5.out.trans hb6)
                   clear hv6 hb6 hg6 hat6)
      go_roundw
      case rel=>exact⟨i+2,q+1,by have:=HIQ.out;omega,HQ.out,by go_num,V6.out,B6.out⟩
      case measure=>simp[intOf];omega
  · obtain rfl:q=n:=by omega
    have hc:decide ((i:Int)+1<2*(q:Int))=false:=by simp;omega
    rw[List.take_of_length_le (by rw[HN.out];exact Nat.le_refl _)] at ho
    have OO:=Lib.hid ho
    have KB:=Lib.hid kb
    clear ho kb hlt hq
    go_wp2_with fail
    go_ret
    exact⟨_,rfl,OO.out,KB.out⟩
def headN (l:Lb):List (Nat×Nat):=[(l.k,1),(l.lv,1),(l.gn,2),(l.cm,8)]
def headL (l:Lb):List Nat:=[67,72,84,49]++flatN (headN l)
def nonceN (l:Lb):List (Nat×Nat):=[(l.pg,4),(l.cm,8)]
def nonceL (l:Lb):List Nat:=flatN (nonceN l)
def aadN (l:Lb):List (Nat×Nat):=[(l.ten,4),(l.k,1),(l.lv,1),(l.gn,2)]
def aadL (l:Lb):List Nat:=flatN (aadN l)
theorem Lb.Ok.head {l:Lb} (h:l.Ok):NumOk (headN l):=by
 have h1:=h.k;have h2:=h.lv;have h3:=h.gn;have h4:=h.cm
 intro p hp
 simp only[headN,List.mem_cons,List.not_mem_nil,or_false] at hp
 rcases hp with rfl | rfl | rfl | rfl <;> refine⟨?_,?_,?_,?_⟩ <;> simp only <;> omega
theorem Lb.Ok.nonce {l:Lb} (h:l.Ok):NumOk (nonceN l):=by
 have h1:=h.pg;have h4:=h.cm
 intro p hp
 simp only[nonceN,List.mem_cons,List.not_mem_nil,or_false] at hp
 rcases hp with rfl | rfl <;> refine⟨?_,?_,?_,?_⟩ <;> simp only <;> omega
theorem Lb.Ok.aad {l:Lb} (h:l.Ok):NumOk (aadN l):=by
 have h1:=h.k;have h2:=h.lv;have h3:=h.gn;have h4:=h.ten
 intro p hp
 simp only[aadN,List.mem_cons,List.not_mem_nil,or_false] at hp
 rcases hp with rfl | rfl | rfl | rfl <;> refine⟨?_,?_,?_,?_⟩ <;> simp only <;> omega
theorem headL_len (l:Lb):(headL l).length=16:=by simp[headL,headN,flatN,digB_len]
theorem nonceL_len (l:Lb):(nonceL l).length=12:=by simp[nonceL,nonceN,flatN,digB_len]
theorem aadL_len (l:Lb):(aadL l).length=8:=by simp[aadL,aadN,flatN,digB_len]
def LbB (w:World) (B:Nat) (l:Lb):Prop:=w.heap[B]? = some (.cells (lab l) 36 (0,0))
section
variable {w w':World} {B:Nat} {l:Lb}
theorem LbB.lt (k:LbB w B l):B<w.heap.size:=lt_of_block k
theorem LbB.ab (k:LbB w B l) (hb:Below w.heap.size w w'):LbB w' B l:=(hb.block B k.lt).trans k
theorem LbB.alloc (k:LbB w B l) (o:Obj):LbB (w.alloc o) B l:=k.ab ((Below.refl _ _).alloc (Nat.le_refl _) _)
theorem LbB.cells (k:LbB w B l):w.cell? ⟨B,0,none⟩=some (.int .u32 (l.ten:Int))∧w.cell? ⟨B,1,none⟩=some (.int .u8 (l.k:Int))∧w.cell? ⟨B,2,none⟩=some (.int .u8 (l.lv:Int))∧w.cell? ⟨B,3,none⟩=some (.int .u32 (l.pg:Int))∧w.cell? ⟨B,4,none⟩=some (.int .u64 (l.cm:Int))∧w.cell? ⟨B,5,none⟩=some (.int .u16 (l.gn:Int)):=by
 refine⟨?_,?_,?_,?_,?_,?_⟩ <;> (rw[cell_of_row w B _ _ _ (0,0) k];rfl)
end
theorem wide_u64 (n:Nat) (h:n<18446744073709551616):IntKind.u64.wrap (n:Int)=(n:Int):=wrap_u64' (n:=n) (by omega) _ (by omega) (by omega)
theorem NumB.newAt (w:World) (ps:List (Nat×Nat)) {n:Nat} (h:n=w.heap.size):NumB (w.alloc (.cells (rowN ps) 22)) n ps:=by subst h;exact heap_alloc_new w _
set_option maxRecDepth 100000 in
theorem nonceOf_any (l:Lb) (w:World) (hl:l.Ok):
 Calls Tryz.prog 139 #[.agg (lab l)] w fun e w'=>∃v,e = .returned v∧OwB w' w.heap.size v (nonceL l)∧Below w.heap.size w w':=by
 have X0:Hid (LbB (w.alloc (.cells (lab l) 36)) w.heap.size l):=Lib.hid (heap_alloc_new w _)
 obtain⟨x0,x1,x2,x3,x4,x5⟩:=X0.out.cells
 have hk:=hl.k
 have hlv:=hl.lv
 have hpg:=hl.pg
 have hgn:=hl.gn
 have hten:=hl.ten
 have zpg:=wide_u64 l.pg (by omega)
 have hnum:=fun W=>numbers_any (w.heap.size+1) 2 (nonceN l) W
 have HNU:=Lib.hid hnum
 have HOK:=Lib.hid hl.nonce
 have N0:Hid (NumB ((w.alloc (.cells (lab l) 36)).alloc (.cells (rowN (nonceN l)) 22)) (w.heap.size+1) (nonceN l)):=Lib.hid (NumB.newAt _ _ (by simp))
 have B0:Hid (Below w.heap.size w ((w.alloc (.cells (lab l) 36)).alloc (.cells (rowN (nonceN l)) 22))):=Lib.hid (((Below.refl _ _).alloc (Nat.le_refl _) _).alloc (Nat.le_of_lt (by simp)) _)
 have HL0:Hid (nonceL l=flatN (nonceN l)):=Lib.hid rfl
 clear hnum hl hk hlv hpg hgn hten
 go_enter Tryz.func139,Tryz.ntmps139
 go_wp2_with fail
 refine (HNU.out _ N0.out rfl HOK.out (by decide)).mono ?_
 rintro e w1 ⟨v,rfl,hv,hb⟩
 have V:=Lib.hid (hv.lower B0.out.size)
 have B1:=Lib.hid (below_tr B0.out hb B0.out.size)
 clear hv hb N0 HNU
 go_wp2_with fail
 go_ret
 exact⟨_,rfl,by rw[HL0.out];exact V.out,B1.out⟩
set_option maxRecDepth 100000 in
theorem aadOf_any (l:Lb) (w:World) (hl:l.Ok):
 Calls Tryz.prog 140 #[.agg (lab l)] w fun e w'=>∃v,e = .returned v∧OwB w' w.heap.size v (aadL l)∧Below w.heap.size w w':=by
 have X0:Hid (LbB (w.alloc (.cells (lab l) 36)) w.heap.size l):=Lib.hid (heap_alloc_new w _)
 obtain⟨x0,x1,x2,x3,x4,x5⟩:=X0.out.cells
 have hk:=hl.k
 have hlv:=hl.lv
 have hpg:=hl.pg
 have hgn:=hl.gn
 have hten:=hl.ten
 have zten:=wide_u64 l.ten (by omega)
 have zk:=wide_u64 l.k (by omega)
 have zlv:=wide_u64 l.lv (by omega)
 have zgn:=wide_u64 l.gn (by omega)
 have hnum:=fun W=>numbers_any (w.heap.size+1) 4 (aadN l) W
 have HNU:=Lib.hid hnum
 have HOK:=Lib.hid hl.aad
 have N0:Hid (NumB ((w.alloc (.cells (lab l) 36)).alloc (.cells (rowN (aadN l)) 22)) (w.heap.size+1) (aadN l)):=Lib.hid (NumB.newAt _ _ (by simp))
 have B0:Hid (Below w.heap.size w ((w.alloc (.cells (lab l) 36)).alloc (.cells (rowN (aadN l)) 22))):=Lib.hid (((Below.refl _ _).alloc (Nat.le_refl _) _).alloc (Nat.le_of_lt (by simp)) _)
 have HL0:Hid (aadL l=flatN (aadN l)):=Lib.hid rfl
 clear hnum hl hk hlv hpg hgn hten
 go_enter Tryz.func140,Tryz.ntmps140
 go_wp2_with fail
 refine (HNU.out _ N0.out rfl HOK.out (by decide)).mono ?_
 rintro e w1 ⟨v,rfl,hv,hb⟩
 have V:=Lib.hid (hv.lower B0.out.size)
 have B1:=Lib.hid (below_tr B0.out hb B0.out.size)
 clear hv hb N0 HNU
 go_wp2_with fail
 go_ret
 exact⟨_,rfl,by rw[HL0.out];exact V.out,B1.out⟩
theorem isB_marked {w:World} {g n:Nat} {t:TypeId} {fr:Nat×Nat} {l:List Nat} (h:w.heap[g]? = some (.cells (bts l) t fr)) (hb:Byt l) (hl:l.length=n) (hn:n≤9223372036854775807):IsB w (some ⟨g,0,none⟩) n n l:=by
 refine⟨⟨by simp[hl],Nat.le_refl _,hn,byt_wf hb,.inr ⟨⟨g,0,none⟩,rfl,fun _=>lt_of_block h,fun i hi=>?_⟩⟩,hb⟩
 have hc:w.cell? ⟨g,i,none⟩=(bts l)[i]?:=Joins.cell_of_block h i
 have e:(⟨g,0,none⟩:Addr).add i=⟨g,i,none⟩:=by rw[Addr.add_mid,Nat.zero_add]
 rw[e,hc]
 simp[bts,List.getD_eq_getElem?_getD,List.getElem?_eq_getElem (show i<l.length by omega)]
set_option maxRecDepth 100000 in
theorem headOf_any (l:Lb) (w:World) (hl:l.Ok):
 Calls Tryz.prog 137 #[.agg (lab l)] w fun e w'=>∃v,e = .returned v∧OwB w' w.heap.size v (headL l)∧Below w.heap.size w w':=by
 obtain⟨i0,hi0,hz0,hz1,hz2⟩:=info_parts infoU8
 have hcv:(convert 41 41 (.slice (some ⟨w.heap.size+1,0,none⟩) 4 4)).run Tryz.prog ((w.alloc (.cells (lab l) 36)).alloc (.cells #[Value.int .u8 67,Value.int .u8 72,Value.int .u8 84,Value.int .u8 49] 5)) = .ok (.slice (some ⟨w.heap.size+1,0,none⟩) 4 4) ((w.alloc (.cells (lab l) 36)).alloc (.cells #[Value.int .u8 67,Value.int .u8 72,Value.int .u8 84,Value.int .u8 49] 5 (4,5))):=
  Joins.run_convert_bytes_const_at (w.alloc (.cells (lab l) 36)) 41 5 #[Value.int .u8 67,Value.int .u8 72,Value.int .u8 84,Value.int .u8 49] 4 4 (w.heap.size+1) (by simp) Tryz.underlying41 Tryz.underlying5
 have X0:Hid (LbB ((w.alloc (.cells (lab l) 36)).alloc (.cells #[Value.int .u8 67,Value.int .u8 72,Value.int .u8 84,Value.int .u8 49] 5 (4,5))) w.heap.size l):=Lib.hid ((show LbB (w.alloc (.cells (lab l) 36)) w.heap.size l from heap_alloc_new w _).alloc _)
 obtain⟨x0,x1,x2,x3,x4,x5⟩:=X0.out.cells
 have hk:=hl.k
 have hlv:=hl.lv
 have hgn:=hl.gn
 have zk:=wide_u64 l.k (by omega)
 have zlv:=wide_u64 l.lv (by omega)
 have zgn:=wide_u64 l.gn (by omega)
 have hnum:=fun W=>numbers_any (w.heap.size+1+1) 4 (headN l) W
 have HNU:=Lib.hid hnum
 have HOK:=Lib.hid hl.head
 have M0:Hid (IsB ((w.alloc (.cells (lab l) 36)).alloc (.cells #[Value.int .u8 67,Value.int .u8 72,Value.int .u8 84,Value.int .u8 49] 5 (4,5))) (some ⟨w.heap.size+1,0,none⟩) 4 4 [67,72,84,49]):=Lib.hid (isB_marked (t:=5) (fr:=(4,5)) (by
  have:=heap_alloc_new (w.alloc (.cells (lab l) 36)) (.cells #[Value.int .u8 67,Value.int .u8 72,Value.int .u8 84,Value.int .u8 49] 5 (4,5))
  rw[show (w.alloc (.cells (lab l) 36)).heap.size=w.heap.size+1 by simp] at this
  exact this) (fun x hx=>by simp at hx;omega) rfl (by decide))
 have N0:Hid (NumB (((w.alloc (.cells (lab l) 36)).alloc (.cells #[Value.int .u8 67,Value.int .u8 72,Value.int .u8 84,Value.int .u8 49] 5 (4,5))).alloc (.cells (rowN (headN l)) 22)) (w.heap.size+1+1) (headN l)):=Lib.hid (NumB.newAt _ _ (by simp))
 have B0:Hid (Below w.heap.size w (((w.alloc (.cells (lab l) 36)).alloc (.cells #[Value.int .u8 67,Value.int .u8 72,Value.int .u8 84,Value.int .u8 49] 5 (4,5))).alloc (.cells (rowN (headN l)) 22))):=Lib.hid ((((Below.refl _ _).alloc (Nat.le_refl _) _).alloc (Nat.le_of_lt (by simp)) _).alloc (by simp;omega) _)
 have HL0:Hid (headL l=[67,72,84,49]++flatN (headN l)):=Lib.hid rfl
 have HFL:Hid ((flatN (headN l)).length=12):=Lib.hid (by simp[headN,flatN,digB_len])
 clear hnum hl hk hlv hgn
 go_enter Tryz.func137,Tryz.ntmps137
 go_wp2_with fail
 refine (HNU.out _ N0.out rfl HOK.out (by decide)).mono ?_
 rintro e w1 ⟨v,rfl,hv,hb⟩
 obtain⟨g1,c1,rfl,-,-,-,-,-⟩:=hv.form (by rw[HFL.out];decide)
 rw[HFL.out] at hv⊢
 have V:=Lib.hid (hv.isB HFL.out)
 have M1:=Lib.hid ((M0.out.alloc (.cells (rowN (headN l)) 22)).ab hb)
 have B1:=Lib.hid (below_tr B0.out hb B0.out.size)
 clear hv hb N0 HNU hcv M0
 go_wp2_with (refine wpList_appGrow rfl (.tmp 4) (.tmp 19) rfl Tryz.underlying41 hi0 hz0 hz1 hz2 rfl (A:=some ⟨w.heap.size+1,0,none⟩) (n:=4) (c:=4) (la:=[67,72,84,49]) M1.out rfl (X:=⟨g1,0,none⟩) (m:=12) (d:=c1) (lx:=flatN (headN l)) V.out rfl (fun e=>by cases e) (by decide) (by decide) ?_
              intro v3 w3 hv3 hb3
              have V3:=Lib.hid (hv3.lower B1.out.size)
              have B3:=Lib.hid (below_tr B1.out hb3 B1.out.size)
              clear hv3 hb3)
 go_ret
 exact⟨_,rfl,by rw[HL0.out];exact V3.out,B3.out⟩
def SOk (key:List Nat) (l:Lb):Prop:=KeyOk key∧1≤l.k∧l.k≤4
instance (key:List Nat) (l:Lb):Decidable (SOk key l):=by unfold SOk KeyOk;infer_instance
def sealP (key:List Nat) (l:Lb) (text:List Nat):List Nat×Nat:=
 if SOk key l∧text.length=224 then (headL l++sealA key (nonceL l) (aadL l) text,0) else ([],2)
def openP (key:List Nat) (l:Lb) (s:List Nat):List Nat×Nat:=
 if SOk key l∧s.length=256 then if s.take 16=headL l then openS key (nonceL l) (aadL l) (s.drop 16) else ([],100) else ([],2)
set_option maxRecDepth 100000 in
theorem smay_any (kA:Option Addr) (kn kc k:Nat) (w:World):
 Calls Tryz.prog 98 #[.slice kA kn kc,.int .u8 (k:Int)] w fun e w'=>e = .returned (.bool (decide ((kn=16∨kn=32)∧1≤k∧k≤4)))∧w=w':=by
 by_cases hk:kn=16∨kn=32
 · rcases hk with rfl | rfl
   all_goals
    by_cases h1:1≤k
    · have d1:decide ((1:Int)≤(k:Int))=true:=by simp;omega
      by_cases h2:k≤4
      · have d2:decide ((k:Int)≤4)=true:=by simp;omega
        rw[decide_eq_true ⟨by decide,h1,h2⟩]
        clear h1 h2
        go_enter Tryz.func98,Tryz.ntmps98
        go_wp2_with fail
        go_ret
        exact⟨rfl,rfl⟩
      · have d2:decide ((k:Int)≤4)=false:=by simp;omega
        rw[decide_eq_false (fun h=>h2 h.2.2)]
        clear h1 h2
        go_enter Tryz.func98,Tryz.ntmps98
        go_wp2_with fail
        go_ret
        exact⟨rfl,rfl⟩
    · have d1:decide ((1:Int)≤(k:Int))=false:=by simp;omega
      rw[decide_eq_false (fun h=>h1 h.2.1)]
      clear h1
      go_enter Tryz.func98,Tryz.ntmps98
      go_wp2_with fail
      go_ret
      exact⟨rfl,rfl⟩
 · have e1:((kn:Int)==16)=false:=by simp;omega
   have e2:((kn:Int)==32)=false:=by simp;omega
   rw[decide_eq_false (fun h=>hk h.1)]
   clear hk
   go_enter Tryz.func98,Tryz.ntmps98
   go_wp2_with fail
   go_ret
   exact⟨rfl,rfl⟩
set_option maxRecDepth 100000 in
theorem lseal_ok (kA tA:Option Addr) (kn kc tc:Nat) (l:Lb) (key text:List Nat) (w:World) (hl:l.Ok) (hG:SOk key l) (ik:IsB w kA kn kc key) (it:IsB w tA 224 tc text):
 Calls Tryz.prog 155 #[.slice kA kn kc,.agg (lab l),.slice tA 224 tc] w (OutB w (headL l++sealA key (nonceL l) (aadL l) text) 0):=by
 obtain⟨i0,hi0,hz0,hz1,hz2⟩:=info_parts infoU8
 have lk:=ik.len
 have lt:=it.len
 have hmay:=fun W=>smay_any kA kn kc l.k W
 rw[decide_eq_true (show (kn=16∨kn=32)∧1≤l.k∧l.k≤4 from⟨by have:=hG.1;unfold KeyOk at this;omega,hG.2⟩)] at hmay
 have hse:=fun An Aa cn ca W h1 h2 h3 h4=>gseal_any kA An Aa tA kn kc 12 cn 8 ca 224 tc key (nonceL l) (aadL l) text W h1 h2 h3 h4
 have esl:sealS key (nonceL l) (aadL l) text=(sealA key (nonceL l) (aadL l) text,0):=by
  unfold sealS
  rw[if_pos ⟨hG.1,nonceL_len l⟩,if_neg (by rw[aadL_len];omega)]
 rw[esl] at hse
 have hcl:=sealA_len key (nonceL l) (aadL l) text
 generalize sealA key (nonceL l) (aadL l) text=C at *
 have XB:Hid (LbB (w.alloc (.cells (lab l) 36)) w.heap.size l):=Lib.hid (heap_alloc_new w _)
 have IK:Hid (IsB (w.alloc (.cells (lab l) 36)) kA kn kc key):=Lib.hid (ik.alloc _)
 have IT:Hid (IsB (w.alloc (.cells (lab l) 36)) tA 224 tc text):=Lib.hid (it.alloc _)
 have B0:Hid (Below w.heap.size w (w.alloc (.cells (lab l) 36))):=Lib.hid ((Below.refl _ _).alloc (Nat.le_refl _) _)
 obtain⟨x0,x1,x2,x3,x4,x5⟩:=XB.out.cells
 have HMAY:=Lib.hid hmay
 have HSE:=Lib.hid hse
 have HOK:=Lib.hid hl
 have HKN:Hid (kn=16∨kn=32):=Lib.hid (by have:=hG.1;unfold KeyOk at this;omega)
 have HCL:Hid (C.length=240):=Lib.hid (by omega)
 clear hmay hse hl hG esl hcl ik it lk lt
 go_enter Tryz.func155,Tryz.ntmps155
 go_wp2_with fail
 refine (HMAY.out _).mono ?_
 rintro e w' ⟨rfl,rfl⟩
 go_wp2_with fail
 obtain⟨W0,hW0⟩:∃W0,W0=w.alloc (.cells (lab l) 36):=⟨_,rfl⟩
 change Code.wp _ _ _ _ (w.alloc (.cells (lab l) 36))
 rw[←hW0] at XB IK IT B0 x0 x1 x2 x3 x4 x5⊢
 clear hW0
 refine wp_wide3 [⟨21,IsR (.slice kA kn kc),[],false⟩,⟨22,IsR (.agg #[.int .u32 (l.ten:Int),.int .u8 (l.k:Int),.int .u8 (l.lv:Int),.int .u32 (l.pg:Int),.int .u64 (l.cm:Int),.int .u16 (l.gn:Int)]),[],false⟩,⟨23,OwR W0.heap.size (nonceL l),[1],false⟩,⟨24,IsR (.agg #[.int .u32 (l.ten:Int),.int .u8 (l.k:Int),.int .u8 (l.lv:Int),.int .u32 (l.pg:Int),.int .u64 (l.cm:Int),.int .u16 (l.gn:Int)]),[],false⟩,⟨25,OwR W0.heap.size (aadL l),[3],false⟩,⟨26,IsR (.slice tA 224 tc),[],false⟩,⟨27,TupB W0.heap.size 0 (C),[0,2,4,5],false⟩,⟨20,TupB W0.heap.size 0 (C),[6],false⟩,⟨28,OwR W0.heap.size (C),[7],false⟩,⟨29,IsR (.int .i64 (0:Int)),[7],false⟩,⟨8,OwR W0.heap.size (C),[8],false⟩] (by kernel_rfl) (by kernel_rfl) rfl rfl rfl ⟨?_,?_,?_,?_,?_,?_,?_,?_,?_,?_,?_,trivial⟩ ?_
 · refine⟨rfl,IsR.mono _,fun a W hA hb hd=>takes_plain rfl (yields_value _ ?_ rfl)⟩
   have h0:a.tmps[0]?.getD undef = .slice kA kn kc:=(eval_get a 0).trans ((hA.eval (by simp)).trans rfl)
   go_simp
 · refine⟨rfl,IsR.mono _,fun a W hA hb hd=>takes_plain rfl (yields_value _ ?_ rfl)⟩
   have h4:a.tmps[4]?.getD undef = .pointer (some ⟨w.heap.size,0,none⟩):=(eval_get a 4).trans ((hA.eval (by simp)).trans rfl)
   obtain⟨x0,x1,x2,x3,x4,x5⟩:=(XB.out.ab hb).cells
   go_simp
 · refine⟨rfl,OwR.mono _ _,fun a W hA hb hd=>takes_plain rfl ?_⟩
   have h22:a.tmps[22]?.getD undef = .agg #[.int .u32 (l.ten:Int),.int .u8 (l.k:Int),.int .u8 (l.lv:Int),.int .u32 (l.pg:Int),.int .u64 (l.cm:Int),.int .u16 (l.gn:Int)]:=(eval_get a 22).trans (hd 1 (by simp) _ rfl)
   refine yields_call 139 #[.agg #[.int .u32 (l.ten:Int),.int .u8 (l.k:Int),.int .u8 (l.lv:Int),.int .u32 (l.pg:Int),.int .u64 (l.cm:Int),.int .u16 (l.gn:Int)]] (by go_simp) ((nonceOf_any l W HOK.out).mono ?_)
   rintro e W' ⟨v,rfl,hv,hb'⟩
   exact⟨v,rfl,hv.lower hb.size,hb'⟩
 · refine⟨rfl,IsR.mono _,fun a W hA hb hd=>takes_plain rfl (yields_value _ ?_ rfl)⟩
   have h4:a.tmps[4]?.getD undef = .pointer (some ⟨w.heap.size,0,none⟩):=(eval_get a 4).trans ((hA.eval (by simp)).trans rfl)
   obtain⟨x0,x1,x2,x3,x4,x5⟩:=(XB.out.ab hb).cells
   go_simp
 · refine⟨rfl,OwR.mono _ _,fun a W hA hb hd=>takes_plain rfl ?_⟩
   have h24:a.tmps[24]?.getD undef = .agg #[.int .u32 (l.ten:Int),.int .u8 (l.k:Int),.int .u8 (l.lv:Int),.int .u32 (l.pg:Int),.int .u64 (l.cm:Int),.int .u16 (l.gn:Int)]:=(eval_get a 24).trans (hd 3 (by simp) _ rfl)
   refine yields_call 140 #[.agg #[.int .u32 (l.ten:Int),.int .u8 (l.k:Int),.int .u8 (l.lv:Int),.int .u32 (l.pg:Int),.int .u64 (l.cm:Int),.int .u16 (l.gn:Int)]] (by go_simp) ((aadOf_any l W HOK.out).mono ?_)
   rintro e W' ⟨v,rfl,hv,hb'⟩
   exact⟨v,rfl,hv.lower hb.size,hb'⟩
 · refine⟨rfl,IsR.mono _,fun a W hA hb hd=>takes_plain rfl (yields_value _ ?_ rfl)⟩
   have h2:a.tmps[2]?.getD undef = .slice tA 224 tc:=(eval_get a 2).trans ((hA.eval (by simp)).trans rfl)
   go_simp
 · refine⟨rfl,TupB.mono _ _ _,fun a W hA hb hd=>?_⟩
   have hk:a.tmps[21]?.getD undef = .slice kA kn kc:=(eval_get a 21).trans (hd 0 (by simp) _ rfl)
   have ht:a.tmps[26]?.getD undef = .slice tA 224 tc:=(eval_get a 26).trans (hd 5 (by simp) _ rfl)
   have on:OwB W W0.heap.size (a.eval (.tmp 23)) (nonceL l):=hd 2 (by simp) _ rfl
   have oa:OwB W W0.heap.size (a.eval (.tmp 25)) (aadL l):=hd 4 (by simp) _ rfl
   have en:=eval_get a 23
   have ea:=eval_get a 25
   generalize a.eval (.tmp 23)=vn at *
   generalize a.eval (.tmp 25)=va at *
   obtain⟨An,cn,rfl,-,-⟩:=on.shape
   obtain⟨Aa,ca,rfl,-,-⟩:=oa.shape
   have jn:=on.isB rfl
   have ja:=oa.isB rfl
   rw[nonceL_len] at en jn
   rw[aadL_len] at ea ja
   refine takes_plain rfl (yields_call 175 #[.slice kA kn kc,.slice An 12 cn,.slice Aa 8 ca,.slice tA 224 tc] (by go_simp) ((HSE.out An Aa cn ca W (IK.out.ab hb) jn ja (IT.out.ab hb)).mono ?_))
   rintro e W' ⟨v,rfl,hv,hb'⟩
   exact⟨_,rfl,⟨v,rfl,hv.lower hb.size⟩,hb'⟩
 · refine⟨rfl,TupB.mono _ _ _,fun a W hA hb hd=>takes_plain rfl ?_⟩
   obtain⟨v0,e0,ho⟩:=hd 6 (by simp) _ rfl
   have h0:a.tmps[27]?.getD undef = .tuple #[v0,.int .i64 ((0:Nat):Int)]:=(eval_get a 27).trans e0
   refine yields_value (.tuple #[v0,.int .i64 ((0:Nat):Int)]) ?_ ⟨v0,rfl,ho⟩
   go_simp
 · refine⟨rfl,OwR.mono _ _,fun a W hA hb hd=>takes_plain rfl ?_⟩
   obtain⟨v0,e0,ho⟩:=hd 7 (by simp) _ rfl
   have h0:a.tmps[20]?.getD undef = .tuple #[v0,.int .i64 ((0:Nat):Int)]:=(eval_get a 20).trans e0
   refine yields_value v0 ?_ ho
   go_simp
 · refine⟨rfl,IsR.mono _,fun a W hA hb hd=>takes_plain rfl ?_⟩
   obtain⟨v0,e0,ho⟩:=hd 7 (by simp) _ rfl
   have h0:a.tmps[20]?.getD undef = .tuple #[v0,.int .i64 ((0:Nat):Int)]:=(eval_get a 20).trans e0
   refine yields_value (.int .i64 (0:Int)) ?_ rfl
   go_simp
 · refine⟨rfl,OwR.mono _ _,fun a W hA hb hd=>takes_plain rfl ?_⟩
   have ho:OwB W W0.heap.size (a.eval (.tmp 28)) (C):=hd 8 (by simp) _ rfl
   exact yields_value (a.eval (.tmp 28)) (exec_assign (.tmp 28) rfl W) ho
 intro vs W9 hR hF hb
 have hV:OwB W9 W0.heap.size (vs 8) C:=hR 10 _ rfl
 have e29:vs 29 = .int .i64 (0:Int):=hR 9 _ rfl
 simp only[List.map_cons,List.map_nil,List.foldl_cons,List.foldl_nil,List.length_cons,List.length_nil,List.drop_succ_cons,List.drop_zero,Act.put,List.setIfInBounds_toArray,List.set_cons_zero,List.set_cons_succ,e29]
 generalize vs 21=q21 at *
 generalize vs 22=q22 at *
 generalize vs 23=q23 at *
 generalize vs 24=q24 at *
 generalize vs 25=q25 at *
 generalize vs 26=q26 at *
 generalize vs 27=q27 at *
 generalize vs 20=q20 at *
 generalize vs 28=q28 at *
 generalize vs 8=q8 at *
 obtain⟨g8,c8,rfl,-,-,-,-,-⟩:=hV.form (by rw[HCL.out];decide)
 rw[HCL.out] at hV⊢
 have I8:=Lib.hid (hV.isB HCL.out)
 have X9:=Lib.hid (XB.out.ab hb)
 have B9:=Lib.hid (below_tr B0.out hb B0.out.size)
 clear hV hR hF hb e29 x0 x1 x2 x3 x4 x5 HSE
 obtain⟨x0,x1,x2,x3,x4,x5⟩:=X9.out.cells
 go_wp2_with fail
 refine (headOf_any l W9 HOK.out).mono ?_
 rintro e w5 ⟨v5,rfl,hv5,hb5⟩
 have V5:=Lib.hid hv5
 have I5:=Lib.hid (I8.out.ab hb5)
 have B5:=Lib.hid hb5
 clear hv5 hb5 I8 x0 x1 x2 x3 x4 x5
 have HHL:Hid ((headL l).length=16):=Lib.hid (headL_len l)
 go_wp2_with (refine wpList_appB _ rfl (.tmp 34) (.tmp 35) rfl Tryz.underlying41 hi0 hz0 hz1 hz2 rfl V5.out rfl I5.out rfl (by rw[HHL.out];decide) B5.out.size ?_
              intro v6 w6 hv6 hb6 hg6 hat6
              have V6:=Lib.hid (hv6.lower (B':=w.heap.size) B9.out.size)
              have B6:=Lib.hid (below_tr B9.out (B5.out.trans hb6) B9.out.size)
              clear hv6 hb6 hg6 hat6)
 go_ret2
 exact⟨_,rfl,V6.out,B6.out⟩
set_option maxRecDepth 100000 in
theorem lopen_ok (kA tA:Option Addr) (kn kc tc:Nat) (l:Lb) (key s:List Nat) (w:World) (hl:l.Ok) (hG:SOk key l) (ik:IsB w kA kn kc key) (it:IsB w tA 256 tc s):
 Calls Tryz.prog 81 #[.slice kA kn kc,.agg (lab l),.slice tA 256 tc] w (OutB w (if s.take 16=headL l then (openS key (nonceL l) (aadL l) (s.drop 16)).1 else []) (if s.take 16=headL l then (openS key (nonceL l) (aadL l) (s.drop 16)).2 else 100)):=by
 have lk:=ik.len
 have lt:=it.len
 have hcap:=it.1.lenCap
 have hmay:=fun W=>smay_any kA kn kc l.k W
 rw[decide_eq_true (show (kn=16∨kn=32)∧1≤l.k∧l.k≤4 from⟨by have:=hG.1;unfold KeyOk at this;omega,hG.2⟩)] at hmay
 have itk:=it.take (m:=16) (by decide)
 have itd:=isB_drop it (m:=16) (by decide)
 have hs1:∀W,(Instr.sliceAt 41 (.slice tA 256 tc) none (some (.int .i64 16)) none).run Tryz.prog W = .ok (.slice tA 16 tc) W:=fun W=>sl_upto W tA 256 tc 16 (by omega)
 have hs2:∀W,(Instr.sliceAt 41 (.slice tA 256 tc) (some (.int .i64 16)) none none).run Tryz.prog W = .ok (.slice (dropA tA tc 16) 240 (tc-16)) W:=fun W=>sl_from W tA 256 tc 16 (by decide)
 generalize hDA:dropA tA tc 16=DA at *
 clear hDA
 have hop:=fun An Aa cn ca W h1 h2 h3 h4=>gopen_any kA An Aa DA kn kc 12 cn 8 ca 240 (tc-16) key (nonceL l) (aadL l) (s.drop 16) W h1 h2 h3 h4
 generalize (openS key (nonceL l) (aadL l) (s.drop 16)).1=out at *
 generalize (openS key (nonceL l) (aadL l) (s.drop 16)).2=err at *
 generalize s.take 16=H16 at *
 generalize s.drop 16=D240 at *
 have XB:Hid (LbB (w.alloc (.cells (lab l) 36)) w.heap.size l):=Lib.hid (heap_alloc_new w _)
 have IK:Hid (IsB (w.alloc (.cells (lab l) 36)) kA kn kc key):=Lib.hid (ik.alloc _)
 have ITK:Hid (IsB (w.alloc (.cells (lab l) 36)) tA 16 tc H16):=Lib.hid (itk.alloc _)
 have IT:Hid (IsB (w.alloc (.cells (lab l) 36)) DA 240 (tc-16) D240):=Lib.hid (itd.alloc _)
 have B0:Hid (Below w.heap.size w (w.alloc (.cells (lab l) 36))):=Lib.hid ((Below.refl _ _).alloc (Nat.le_refl _) _)
 obtain⟨x0,x1,x2,x3,x4,x5⟩:=XB.out.cells
 have HMAY:=Lib.hid hmay
 have HOP:=Lib.hid hop
 have HOK:=Lib.hid hl
 have HS1:=Lib.hid hs1
 have HS2:=Lib.hid hs2
 have HKN:Hid (kn=16∨kn=32):=Lib.hid (by have:=hG.1;unfold KeyOk at this;omega)
 clear hmay hop hl hG ik it itk itd lk lt hcap hs1 hs2
 by_cases hTD:H16=headL l
 · rw[if_pos hTD,if_pos hTD]
   have hde:decide (H16=headL l)=true:=decide_eq_true hTD
   clear hTD
   go_enter Tryz.func81,Tryz.ntmps81
   go_wp2_with fail
   refine (HMAY.out _).mono ?_
   rintro e w' ⟨rfl,rfl⟩
   go_wp2_with fail
   obtain⟨W0,hW0⟩:∃W0,W0=w.alloc (.cells (lab l) 36):=⟨_,rfl⟩
   change Code.wp _ _ _ _ (w.alloc (.cells (lab l) 36))
   rw[←hW0] at XB IK IT ITK B0 x0 x1 x2 x3 x4 x5⊢
   clear hW0
   refine wp_wide3 [⟨18,IsR (.slice tA 256 tc),[],false⟩,⟨19,IsR (.slice tA 16 tc),[0],false⟩,⟨20,IsR (.agg #[.int .u32 (l.ten:Int),.int .u8 (l.k:Int),.int .u8 (l.lv:Int),.int .u32 (l.pg:Int),.int .u64 (l.cm:Int),.int .u16 (l.gn:Int)]),[],false⟩,⟨21,OwR W0.heap.size (headL l),[2],false⟩,⟨22,IsR (.bool true),[1,3],false⟩] (by kernel_rfl) (by kernel_rfl) rfl rfl rfl ⟨?_,?_,?_,?_,?_,trivial⟩ ?_
   · refine⟨rfl,IsR.mono _,fun a W hA hb hd=>takes_plain rfl (yields_value _ ?_ rfl)⟩
     have h2:a.tmps[2]?.getD undef = .slice tA 256 tc:=(eval_get a 2).trans ((hA.eval (by simp)).trans rfl)
     go_simp
   · refine⟨rfl,IsR.mono _,fun a W hA hb hd=>takes_plain rfl (yields_value _ ?_ rfl)⟩
     have h18:a.tmps[18]?.getD undef = .slice tA 256 tc:=(eval_get a 18).trans (hd 0 (by simp) _ rfl)
     have hs:=HS1.out W
     go_simp
   · refine⟨rfl,IsR.mono _,fun a W hA hb hd=>takes_plain rfl (yields_value _ ?_ rfl)⟩
     have h4:a.tmps[4]?.getD undef = .pointer (some ⟨w.heap.size,0,none⟩):=(eval_get a 4).trans ((hA.eval (by simp)).trans rfl)
     obtain⟨x0,x1,x2,x3,x4,x5⟩:=(XB.out.ab hb).cells
     go_simp
   · refine⟨rfl,OwR.mono _ _,fun a W hA hb hd=>takes_plain rfl ?_⟩
     have h20:a.tmps[20]?.getD undef = .agg #[.int .u32 (l.ten:Int),.int .u8 (l.k:Int),.int .u8 (l.lv:Int),.int .u32 (l.pg:Int),.int .u64 (l.cm:Int),.int .u16 (l.gn:Int)]:=(eval_get a 20).trans (hd 2 (by simp) _ rfl)
     refine yields_call 137 #[.agg #[.int .u32 (l.ten:Int),.int .u8 (l.k:Int),.int .u8 (l.lv:Int),.int .u32 (l.pg:Int),.int .u64 (l.cm:Int),.int .u16 (l.gn:Int)]] (by go_simp) ((headOf_any l W HOK.out).mono ?_)
     rintro e W' ⟨v,rfl,hv,hb'⟩
     exact⟨v,rfl,hv.lower hb.size,hb'⟩
   · refine⟨rfl,IsR.mono _,fun a W hA hb hd=>?_⟩
     have h1:a.tmps[19]?.getD undef = .slice tA 16 tc:=(eval_get a 19).trans (hd 1 (by simp) _ rfl)
     have oh:OwB W W0.heap.size (a.eval (.tmp 21)) (headL l):=hd 3 (by simp) _ rfl
     have eh:=eval_get a 21
     generalize a.eval (.tmp 21)=v0 at *
     obtain⟨A0,c0,rfl,-,-⟩:=oh.shape
     have i0:=oh.isB rfl
     rw[headL_len] at eh i0
     refine takes_plain rfl (yields_call 136 #[.slice tA 16 tc,.slice A0 16 c0] (by go_simp) ((osame_any _ _ 16 tc c0 H16 (headL l) W (ITK.out.ab hb) i0 (by decide)).mono ?_))
     rintro e W' ⟨rfl,hb'⟩
     exact⟨_,rfl,by rw[hde];rfl,hb'⟩
   intro vs W8 hR hF hb
   have e22:vs 22 = .bool true:=hR 4 _ rfl
   simp only[List.map_cons,List.map_nil,List.foldl_cons,List.foldl_nil,List.length_cons,List.length_nil,List.drop_succ_cons,List.drop_zero,Act.put,List.setIfInBounds_toArray,List.set_cons_zero,List.set_cons_succ,e22]
   generalize vs 18=q18 at *
   generalize vs 19=q19 at *
   generalize vs 20=q20 at *
   generalize vs 21=q21 at *
   have X8:=Lib.hid (XB.out.ab hb)
   have K8:=Lib.hid (IK.out.ab hb)
   have T8:=Lib.hid (IT.out.ab hb)
   have B8:=Lib.hid (below_tr B0.out hb B0.out.size)
   clear hR hF hb e22 x0 x1 x2 x3 x4 x5 XB IK IT ITK B0
   go_wp2_with fail
   refine wp_wide3 [⟨24,IsR (.slice kA kn kc),[],false⟩,⟨25,IsR (.agg #[.int .u32 (l.ten:Int),.int .u8 (l.k:Int),.int .u8 (l.lv:Int),.int .u32 (l.pg:Int),.int .u64 (l.cm:Int),.int .u16 (l.gn:Int)]),[],false⟩,⟨26,OwR W8.heap.size (nonceL l),[1],false⟩,⟨27,IsR (.agg #[.int .u32 (l.ten:Int),.int .u8 (l.k:Int),.int .u8 (l.lv:Int),.int .u32 (l.pg:Int),.int .u64 (l.cm:Int),.int .u16 (l.gn:Int)]),[],false⟩,⟨28,OwR W8.heap.size (aadL l),[3],false⟩,⟨29,IsR (.slice tA 256 tc),[],false⟩,⟨30,IsR (.slice DA 240 (tc-16)),[5],false⟩,⟨31,TupB W8.heap.size err (out),[0,2,4,6],false⟩,⟨32,OwR W8.heap.size (out),[7],false⟩,⟨33,IsR (.int .i64 (err:Int)),[7],false⟩,⟨6,OwR W8.heap.size (out),[8],false⟩] (by kernel_rfl) (by kernel_rfl) rfl rfl rfl ⟨?_,?_,?_,?_,?_,?_,?_,?_,?_,?_,?_,trivial⟩ ?_
   · refine⟨rfl,IsR.mono _,fun a W hA hb hd=>takes_plain rfl (yields_value _ ?_ rfl)⟩
     have h0:a.tmps[0]?.getD undef = .slice kA kn kc:=(eval_get a 0).trans ((hA.eval (by simp)).trans rfl)
     go_simp
   · refine⟨rfl,IsR.mono _,fun a W hA hb hd=>takes_plain rfl (yields_value _ ?_ rfl)⟩
     have h4:a.tmps[4]?.getD undef = .pointer (some ⟨w.heap.size,0,none⟩):=(eval_get a 4).trans ((hA.eval (by simp)).trans rfl)
     obtain⟨x0,x1,x2,x3,x4,x5⟩:=(X8.out.ab hb).cells
     go_simp
   · refine⟨rfl,OwR.mono _ _,fun a W hA hb hd=>takes_plain rfl ?_⟩
     have h25:a.tmps[25]?.getD undef = .agg #[.int .u32 (l.ten:Int),.int .u8 (l.k:Int),.int .u8 (l.lv:Int),.int .u32 (l.pg:Int),.int .u64 (l.cm:Int),.int .u16 (l.gn:Int)]:=(eval_get a 25).trans (hd 1 (by simp) _ rfl)
     refine yields_call 139 #[.agg #[.int .u32 (l.ten:Int),.int .u8 (l.k:Int),.int .u8 (l.lv:Int),.int .u32 (l.pg:Int),.int .u64 (l.cm:Int),.int .u16 (l.gn:Int)]] (by go_simp) ((nonceOf_any l W HOK.out).mono ?_)
     rintro e W' ⟨v,rfl,hv,hb'⟩
     exact⟨v,rfl,hv.lower hb.size,hb'⟩
   · refine⟨rfl,IsR.mono _,fun a W hA hb hd=>takes_plain rfl (yields_value _ ?_ rfl)⟩
     have h4:a.tmps[4]?.getD undef = .pointer (some ⟨w.heap.size,0,none⟩):=(eval_get a 4).trans ((hA.eval (by simp)).trans rfl)
     obtain⟨x0,x1,x2,x3,x4,x5⟩:=(X8.out.ab hb).cells
     go_simp
   · refine⟨rfl,OwR.mono _ _,fun a W hA hb hd=>takes_plain rfl ?_⟩
     have h27:a.tmps[27]?.getD undef = .agg #[.int .u32 (l.ten:Int),.int .u8 (l.k:Int),.int .u8 (l.lv:Int),.int .u32 (l.pg:Int),.int .u64 (l.cm:Int),.int .u16 (l.gn:Int)]:=(eval_get a 27).trans (hd 3 (by simp) _ rfl)
     refine yields_call 140 #[.agg #[.int .u32 (l.ten:Int),.int .u8 (l.k:Int),.int .u8 (l.lv:Int),.int .u32 (l.pg:Int),.int .u64 (l.cm:Int),.int .u16 (l.gn:Int)]] (by go_simp) ((aadOf_any l W HOK.out).mono ?_)
     rintro e W' ⟨v,rfl,hv,hb'⟩
     exact⟨v,rfl,hv.lower hb.size,hb'⟩
   · refine⟨rfl,IsR.mono _,fun a W hA hb hd=>takes_plain rfl (yields_value _ ?_ rfl)⟩
     have h2:a.tmps[2]?.getD undef = .slice tA 256 tc:=(eval_get a 2).trans ((hA.eval (by simp)).trans rfl)
     go_simp
   · refine⟨rfl,IsR.mono _,fun a W hA hb hd=>takes_plain rfl (yields_value _ ?_ rfl)⟩
     have h29:a.tmps[29]?.getD undef = .slice tA 256 tc:=(eval_get a 29).trans (hd 5 (by simp) _ rfl)
     have hs:=HS2.out W
     go_simp
   · refine⟨rfl,TupB.mono _ _ _,fun a W hA hb hd=>?_⟩
     have hk:a.tmps[24]?.getD undef = .slice kA kn kc:=(eval_get a 24).trans (hd 0 (by simp) _ rfl)
     have ht:a.tmps[30]?.getD undef = .slice DA 240 (tc-16):=(eval_get a 30).trans (hd 6 (by simp) _ rfl)
     have on:OwB W W8.heap.size (a.eval (.tmp 26)) (nonceL l):=hd 2 (by simp) _ rfl
     have oa:OwB W W8.heap.size (a.eval (.tmp 28)) (aadL l):=hd 4 (by simp) _ rfl
     have en:=eval_get a 26
     have ea:=eval_get a 28
     generalize a.eval (.tmp 26)=vn at *
     generalize a.eval (.tmp 28)=va at *
     obtain⟨An,cn,rfl,-,-⟩:=on.shape
     obtain⟨Aa,ca,rfl,-,-⟩:=oa.shape
     have jn:=on.isB rfl
     have ja:=oa.isB rfl
     rw[nonceL_len] at en jn
     rw[aadL_len] at ea ja
     refine takes_plain rfl (yields_call 138 #[.slice kA kn kc,.slice An 12 cn,.slice Aa 8 ca,.slice DA 240 (tc-16)] (by go_simp) ((HOP.out An Aa cn ca W (K8.out.ab hb) jn ja (T8.out.ab hb)).mono ?_))
     rintro e W' ⟨v,rfl,hv,hb'⟩
     exact⟨_,rfl,⟨v,rfl,hv.lower hb.size⟩,hb'⟩
   · refine⟨rfl,OwR.mono _ _,fun a W hA hb hd=>takes_plain rfl ?_⟩
     obtain⟨v0,e0,ho⟩:=hd 7 (by simp) _ rfl
     have h0:a.tmps[31]?.getD undef = .tuple #[v0,.int .i64 ((err:Nat):Int)]:=(eval_get a 31).trans e0
     refine yields_value v0 ?_ ho
     go_simp
   · refine⟨rfl,IsR.mono _,fun a W hA hb hd=>takes_plain rfl ?_⟩
     obtain⟨v0,e0,ho⟩:=hd 7 (by simp) _ rfl
     have h0:a.tmps[31]?.getD undef = .tuple #[v0,.int .i64 ((err:Nat):Int)]:=(eval_get a 31).trans e0
     refine yields_value (.int .i64 (err:Int)) ?_ rfl
     go_simp
   · refine⟨rfl,OwR.mono _ _,fun a W hA hb hd=>takes_plain rfl ?_⟩
     have ho:OwB W W8.heap.size (a.eval (.tmp 32)) (out):=hd 8 (by simp) _ rfl
     exact yields_value (a.eval (.tmp 32)) (exec_assign (.tmp 32) rfl W) ho
   intro vs W9 hR hF hb
   have hV:OwB W9 W8.heap.size (vs 6) out:=hR 10 _ rfl
   have e33:vs 33 = .int .i64 (err:Int):=hR 9 _ rfl
   simp only[List.map_cons,List.map_nil,List.foldl_cons,List.foldl_nil,List.length_cons,List.length_nil,List.drop_succ_cons,List.drop_zero,Act.put,List.setIfInBounds_toArray,List.set_cons_zero,List.set_cons_succ,e33]
   generalize vs 24=q24 at *
   generalize vs 25=q25 at *
   generalize vs 26=q26 at *
   generalize vs 27=q27 at *
   generalize vs 28=q28 at *
   generalize vs 29=q29 at *
   generalize vs 30=q30 at *
   generalize vs 31=q31 at *
   generalize vs 32=q32 at *
   generalize vs 6=v6 at *
   have V9:=Lib.hid (hV.lower (B':=w.heap.size) B8.out.size)
   have B9:=Lib.hid (below_tr B8.out hb B8.out.size)
   clear hV hR hF hb e33
   go_wp2_with fail
   go_ret2
   exact⟨_,rfl,V9.out,B9.out⟩
 · rw[if_neg hTD,if_neg hTD]
   have hde:decide (H16=headL l)=false:=decide_eq_false hTD
   clear hTD
   go_enter Tryz.func81,Tryz.ntmps81
   go_wp2_with fail
   refine (HMAY.out _).mono ?_
   rintro e w' ⟨rfl,rfl⟩
   go_wp2_with fail
   obtain⟨W0,hW0⟩:∃W0,W0=w.alloc (.cells (lab l) 36):=⟨_,rfl⟩
   change Code.wp _ _ _ _ (w.alloc (.cells (lab l) 36))
   rw[←hW0] at XB IK IT ITK B0 x0 x1 x2 x3 x4 x5⊢
   clear hW0
   refine wp_wide3 [⟨18,IsR (.slice tA 256 tc),[],false⟩,⟨19,IsR (.slice tA 16 tc),[0],false⟩,⟨20,IsR (.agg #[.int .u32 (l.ten:Int),.int .u8 (l.k:Int),.int .u8 (l.lv:Int),.int .u32 (l.pg:Int),.int .u64 (l.cm:Int),.int .u16 (l.gn:Int)]),[],false⟩,⟨21,OwR W0.heap.size (headL l),[2],false⟩,⟨22,IsR (.bool false),[1,3],false⟩] (by kernel_rfl) (by kernel_rfl) rfl rfl rfl ⟨?_,?_,?_,?_,?_,trivial⟩ ?_
   · refine⟨rfl,IsR.mono _,fun a W hA hb hd=>takes_plain rfl (yields_value _ ?_ rfl)⟩
     have h2:a.tmps[2]?.getD undef = .slice tA 256 tc:=(eval_get a 2).trans ((hA.eval (by simp)).trans rfl)
     go_simp
   · refine⟨rfl,IsR.mono _,fun a W hA hb hd=>takes_plain rfl (yields_value _ ?_ rfl)⟩
     have h18:a.tmps[18]?.getD undef = .slice tA 256 tc:=(eval_get a 18).trans (hd 0 (by simp) _ rfl)
     have hs:=HS1.out W
     go_simp
   · refine⟨rfl,IsR.mono _,fun a W hA hb hd=>takes_plain rfl (yields_value _ ?_ rfl)⟩
     have h4:a.tmps[4]?.getD undef = .pointer (some ⟨w.heap.size,0,none⟩):=(eval_get a 4).trans ((hA.eval (by simp)).trans rfl)
     obtain⟨x0,x1,x2,x3,x4,x5⟩:=(XB.out.ab hb).cells
     go_simp
   · refine⟨rfl,OwR.mono _ _,fun a W hA hb hd=>takes_plain rfl ?_⟩
     have h20:a.tmps[20]?.getD undef = .agg #[.int .u32 (l.ten:Int),.int .u8 (l.k:Int),.int .u8 (l.lv:Int),.int .u32 (l.pg:Int),.int .u64 (l.cm:Int),.int .u16 (l.gn:Int)]:=(eval_get a 20).trans (hd 2 (by simp) _ rfl)
     refine yields_call 137 #[.agg #[.int .u32 (l.ten:Int),.int .u8 (l.k:Int),.int .u8 (l.lv:Int),.int .u32 (l.pg:Int),.int .u64 (l.cm:Int),.int .u16 (l.gn:Int)]] (by go_simp) ((headOf_any l W HOK.out).mono ?_)
     rintro e W' ⟨v,rfl,hv,hb'⟩
     exact⟨v,rfl,hv.lower hb.size,hb'⟩
   · refine⟨rfl,IsR.mono _,fun a W hA hb hd=>?_⟩
     have h1:a.tmps[19]?.getD undef = .slice tA 16 tc:=(eval_get a 19).trans (hd 1 (by simp) _ rfl)
     have oh:OwB W W0.heap.size (a.eval (.tmp 21)) (headL l):=hd 3 (by simp) _ rfl
     have eh:=eval_get a 21
     generalize a.eval (.tmp 21)=v0 at *
     obtain⟨A0,c0,rfl,-,-⟩:=oh.shape
     have i0:=oh.isB rfl
     rw[headL_len] at eh i0
     refine takes_plain rfl (yields_call 136 #[.slice tA 16 tc,.slice A0 16 c0] (by go_simp) ((osame_any _ _ 16 tc c0 H16 (headL l) W (ITK.out.ab hb) i0 (by decide)).mono ?_))
     rintro e W' ⟨rfl,hb'⟩
     exact⟨_,rfl,by rw[hde];rfl,hb'⟩
   intro vs W8 hR hF hb
   have e22:vs 22 = .bool false:=hR 4 _ rfl
   simp only[List.map_cons,List.map_nil,List.foldl_cons,List.foldl_nil,List.length_cons,List.length_nil,List.drop_succ_cons,List.drop_zero,Act.put,List.setIfInBounds_toArray,List.set_cons_zero,List.set_cons_succ,e22]
   generalize vs 18=q18 at *
   generalize vs 19=q19 at *
   generalize vs 20=q20 at *
   generalize vs 21=q21 at *
   have X8:=Lib.hid (XB.out.ab hb)
   have K8:=Lib.hid (IK.out.ab hb)
   have T8:=Lib.hid (IT.out.ab hb)
   have B8:=Lib.hid (below_tr B0.out hb B0.out.size)
   clear hR hF hb e22 x0 x1 x2 x3 x4 x5 XB IK IT ITK B0
   go_wp2_with fail
   go_ret2
   exact OutB.refused 100 B8.out
set_option maxRecDepth 100000 in
theorem lseal_arg (kA tA:Option Addr) (kn kc tn tc:Nat) (l:Lb) (w:World) (h:¬(((kn=16∨kn=32)∧1≤l.k∧l.k≤4)∧tn=224)):
 Calls Tryz.prog 155 #[.slice kA kn kc,.agg (lab l),.slice tA tn tc] w (OutB w [] 2):=by
 have hmay:=fun W=>smay_any kA kn kc l.k W
 have XB:Hid (LbB (w.alloc (.cells (lab l) 36)) w.heap.size l):=Lib.hid (heap_alloc_new w _)
 have B0:Hid (Below w.heap.size w (w.alloc (.cells (lab l) 36))):=Lib.hid ((Below.refl _ _).alloc (Nat.le_refl _) _)
 obtain⟨x0,x1,x2,x3,x4,x5⟩:=XB.out.cells
 by_cases hm:(kn=16∨kn=32)∧1≤l.k∧l.k≤4
 · rw[decide_eq_true hm] at hmay
   have hn:((tn:Int) != 224)=true:=by
    have:tn≠224:=fun e=>h ⟨hm,e⟩
    simp;omega
   have HM:=Lib.hid hmay
   clear hmay hm h
   go_enter Tryz.func155,Tryz.ntmps155
   go_wp2_with fail
   refine (HM.out _).mono ?_
   rintro e w' ⟨rfl,rfl⟩
   go_wp2_with fail
   go_ret2
   exact OutB.refused 2 B0.out
 · rw[decide_eq_false hm] at hmay
   have HM:=Lib.hid hmay
   clear hmay hm h
   go_enter Tryz.func155,Tryz.ntmps155
   go_wp2_with fail
   refine (HM.out _).mono ?_
   rintro e w' ⟨rfl,rfl⟩
   go_wp2_with fail
   go_ret2
   exact OutB.refused 2 B0.out
set_option maxRecDepth 100000 in
theorem lopen_arg (kA tA:Option Addr) (kn kc tn tc:Nat) (l:Lb) (w:World) (h:¬(((kn=16∨kn=32)∧1≤l.k∧l.k≤4)∧tn=256)):
 Calls Tryz.prog 81 #[.slice kA kn kc,.agg (lab l),.slice tA tn tc] w (OutB w [] 2):=by
 have hmay:=fun W=>smay_any kA kn kc l.k W
 have XB:Hid (LbB (w.alloc (.cells (lab l) 36)) w.heap.size l):=Lib.hid (heap_alloc_new w _)
 have B0:Hid (Below w.heap.size w (w.alloc (.cells (lab l) 36))):=Lib.hid ((Below.refl _ _).alloc (Nat.le_refl _) _)
 obtain⟨x0,x1,x2,x3,x4,x5⟩:=XB.out.cells
 by_cases hm:(kn=16∨kn=32)∧1≤l.k∧l.k≤4
 · rw[decide_eq_true hm] at hmay
   have hn:((tn:Int) != 256)=true:=by
    have:tn≠256:=fun e=>h ⟨hm,e⟩
    simp;omega
   have HM:=Lib.hid hmay
   clear hmay hm h
   go_enter Tryz.func81,Tryz.ntmps81
   go_wp2_with fail
   refine (HM.out _).mono ?_
   rintro e w' ⟨rfl,rfl⟩
   go_wp2_with fail
   go_ret2
   exact OutB.refused 2 B0.out
 · rw[decide_eq_false hm] at hmay
   have HM:=Lib.hid hmay
   clear hmay hm h
   go_enter Tryz.func81,Tryz.ntmps81
   go_wp2_with fail
   refine (HM.out _).mono ?_
   rintro e w' ⟨rfl,rfl⟩
   go_wp2_with fail
   go_ret2
   exact OutB.refused 2 B0.out
theorem lseal_any (kA tA:Option Addr) (kn kc tn tc:Nat) (l:Lb) (key text:List Nat) (w:World) (hl:l.Ok) (ik:IsB w kA kn kc key) (it:IsB w tA tn tc text):
 Calls Tryz.prog 155 #[.slice kA kn kc,.agg (lab l),.slice tA tn tc] w (OutB w (sealP key l text).1 (sealP key l text).2):=by
 have lk:=ik.len
 have lt:=it.len
 unfold sealP
 by_cases h:SOk key l∧text.length=224
 · rw[if_pos h]
   obtain rfl:tn=224:=by omega
   exact lseal_ok kA tA kn kc tc l key text w hl h.1 ik it
 · rw[if_neg h]
   exact lseal_arg kA tA kn kc tn tc l w (fun hh=>h ⟨⟨by unfold KeyOk;omega,hh.1.2⟩,by omega⟩)
theorem lopen_any (kA tA:Option Addr) (kn kc tn tc:Nat) (l:Lb) (key s:List Nat) (w:World) (hl:l.Ok) (ik:IsB w kA kn kc key) (it:IsB w tA tn tc s):
 Calls Tryz.prog 81 #[.slice kA kn kc,.agg (lab l),.slice tA tn tc] w (OutB w (openP key l s).1 (openP key l s).2):=by
 have lk:=ik.len
 have lt:=it.len
 unfold openP
 by_cases h:SOk key l∧s.length=256
 · rw[if_pos h]
   obtain rfl:tn=256:=by omega
   have:=lopen_ok kA tA kn kc tc l key s w hl h.1 ik it
   by_cases hT:s.take 16=headL l
   · rw[if_pos hT]
     rw[if_pos hT,if_pos hT] at this
     exact this
   · rw[if_neg hT]
     rw[if_neg hT,if_neg hT] at this
     exact this
 · rw[if_neg h]
   exact lopen_arg kA tA kn kc tn tc l w (fun hh=>h ⟨⟨by unfold KeyOk;omega,hh.1.2⟩,by omega⟩)
end Go.Proofs.YtlobgddnlnffbaaGreat
