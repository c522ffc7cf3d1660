/-
  Parts of the proof, joined.
-/
import Derived.Test.YtlobgddnlnffbaaGreatBdm
import Derived.Test.YtlobgddnlnffbaaGreatBds
import Derived.Test.YtlobgddnlnffbaaGreatBdp
import Derived.Deep.AppendLies
import Derived.Laws.OwnMore
import Derived.BigQuiet
import Derived.Test.YtlobgddnlnffbaaGreatBdw
import Derived.Lib.MinMax
namespace Go.Proofs.YtlobgddnlnffbaaGreat
set_option maxHeartbeats 4000000
open Go.RowKit
set_option linter.unusedVariables false
set_option linter.unusedSimpArgs false
def addR (l:RnL) (r:Nat×Nat):RnL:=match l.getLast? with
 | some q=>if r.1≤q.2 then l.dropLast++[(q.1,max q.2 r.2)] else l++[r]
 | none=>[r]
theorem addR_nil (r:Nat×Nat):addR [] r=[r]:=rfl
theorem addR_in {l:RnL} {q r:Nat×Nat} (h:r.1≤q.2):addR (l++[q]) r=l++[(q.1,max q.2 r.2)]:=by
 unfold addR
 rw[List.getLast?_concat]
 simp only
 rw[if_pos h,List.dropLast_concat]
theorem addR_out {l:RnL} {q r:Nat×Nat} (h:¬r.1≤q.2):addR (l++[q]) r=l++[q]++[r]:=by
 unfold addR
 rw[List.getLast?_concat]
 simp only
 rw[if_neg h]
theorem runVs_max (l:RnL) (q:Nat×Nat) (m:Nat):(runVs (l++[q])).set (l.length*2+1) (.int .u32 (m:Int))=runVs (l++[(q.1,m)]):=by
 rw[runVs_app,runVs_app,List.set_append,if_neg (by rw[runVs_len];omega),runVs_len,show l.length*2+1-l.length*2=1 from by omega]
 rfl
theorem addR_len (l:RnL) (r:Nat×Nat):(addR l r).length≤l.length+1:=by
 rcases List.eq_nil_or_concat l with rfl | ⟨l0,q,rfl⟩
 · rw[addR_nil];simp
 · rw[List.concat_eq_append]
   by_cases h:r.1≤q.2
   · rw[addR_in h];simp
   · rw[addR_out h];simp
theorem addR_lt {l:RnL} {r:Nat×Nat} {N:Nat} (h:∀q∈l,q.1<N∧q.2<N) (hr:r.1<N∧r.2<N):∀q∈addR l r,q.1<N∧q.2<N:=by
 rcases List.eq_nil_or_concat l with rfl | ⟨l0,q,rfl⟩
 · rw[addR_nil];intro x hx;rw[List.mem_singleton.1 hx];exact hr
 · rw[List.concat_eq_append] at h⊢
   have hq:=h q (by simp)
   by_cases h1:r.1≤q.2
   · rw[addR_in h1]
     intro x hx
     rcases List.mem_append.1 hx with hx | hx
     · exact h x (by simp[hx])
     · rw[List.mem_singleton.1 hx];exact⟨hq.1,by show max q.2 r.2<N;omega⟩
   · rw[addR_out h1]
     intro x hx
     rcases List.mem_append.1 hx with hx | hx
     · exact h x hx
     · rw[List.mem_singleton.1 hx];exact hr
set_option maxRecDepth 100000 in
theorem radd_any {w:World} {B:Nat} {v:Value} {l:RnL} (a b:Nat) (h:RuB w B v l) (hu:∀q∈l,q.2<4294967296) (ha:a<4294967296) (hb:b<4294967296) (hl:l.length≤100000) (hB:B≤w.heap.size):
 Calls Tryz.prog 180 #[v,.agg #[.int .u32 (a:Int),.int .u32 (b:Int)]] w fun e w'=>∃v',e = .returned v'∧RuB w' B v' (addR l (a,b))∧Fr w w' (fun k=>v.ownBlock=some k):=by
 have A0:Hid (Below w.heap.size w (w.alloc (.cells #[.int .u32 (a:Int),.int .u32 (b:Int)] 118))):=Lib.hid ((Below.refl _ _).alloc (Nat.le_refl _) _)
 have R1:=Lib.hid (h.ab A0.out)
 have CX:Hid (∀W,Below (w.alloc (.cells #[.int .u32 (a:Int),.int .u32 (b:Int)] 118)).heap.size (w.alloc (.cells #[.int .u32 (a:Int),.int .u32 (b:Int)] 118)) W→W.cell? ⟨w.heap.size,0,none⟩=some (.int .u32 (a:Int))∧W.cell? ⟨w.heap.size,1,none⟩=some (.int .u32 (b:Int))):=Lib.hid fun W hW=>
  ⟨((CbB.new w _ _).ab hW).cell (k:=0) rfl,((CbB.new w _ _).ab hW).cell (k:=1) rfl⟩
 have SB:Hid (B≤(w.alloc (.cells #[.int .u32 (a:Int),.int .u32 (b:Int)] 118)).heap.size∧w.heap.size<(w.alloc (.cells #[.int .u32 (a:Int),.int .u32 (b:Int)] 118)).heap.size):=Lib.hid ⟨by simp;omega,by simp⟩
 have FN:Hid (∀W,Fr (w.alloc (.cells #[.int .u32 (a:Int),.int .u32 (b:Int)] 118)) W (fun k=>v.ownBlock=some k)→Fr w W (fun k=>v.ownBlock=some k)):=Lib.hid fun W hW=>(Fr.of A0.out _).tr hW
 have HL:=Lib.hid hl
 rcases List.eq_nil_or_concat l with rfl | ⟨l0,q,rfl⟩
 · obtain⟨A,c,rfl,hr,_⟩:=h.rn
   have H9:=Lib.hid h
   clear h hu hl hr
   go_enter Tryz.func180,Tryz.ntmps180
   go_wp2_with fail
   go_quiet (fail)
   obtain⟨w1,hw1⟩:∃w1,w.alloc (.cells #[.int .u32 (a:Int),.int .u32 (b:Int)] 118)=w1:=⟨_,rfl⟩
   rw[hw1] at R1 CX SB FN⊢
   clear hw1 A0
   go_upto_region 5 with (fail)
   obtain⟨k0,k1⟩:=CX.out (w1.drewN nq) (bel_dN (Below.refl w1.heap.size w1) nq)
   have RW:=Lib.hid (R1.out.ab (bel_dN (Below.refl w1.heap.size w1) nq))
   have FW:=Lib.hid (Fr.of (F:=fun k=>Value.ownBlock (.slice A 0 c)=some k) (bel_dN (Below.refl w1.heap.size w1) nq))
   have ZW:Hid (B≤(w1.drewN nq).heap.size):=Lib.hid SB.out.1
   obtain⟨w2,hw2⟩:∃w2,w1.drewN nq=w2:=⟨_,rfl⟩
   rw[hw2] at k0 k1 RW FW ZW⊢
   have A2:Hid (Below w2.heap.size w2 (w2.alloc (.cells #[.int .u32 (a:Int),.int .u32 (b:Int)] 118))):=Lib.hid ((Below.refl _ _).alloc (Nat.le_refl _) _)
   clear hw2 CX
   obtain⟨A7,c7,h7,h8,_⟩:=(RuB.one w2 a b).rn
   injection h7 with h7a h7b h7c
   subst h7a h7c
   have H8:=Lib.hid h8
   clear h8 h7b
   go_wp2_with (first
    | (refine wpList_appR rfl (.tmp 36) (.tmp 38) rfl (RW.out.ab A2.out) rfl rfl H8.out (by have:=HL.out;simp only[List.concat_eq_append,List.length_append,List.length_cons,List.length_nil] at *;omega) (Nat.le_trans ZW.out A2.out.size) ?_
       intro v9 w9 hv9 hg9
       have V9:=Lib.hid hv9
       have F9:=Lib.hid (FN.out w9 ((FW.out.tr (Fr.of A2.out _)).tr (Fr.grown hg9)))
       clear hv9 hg9))
   go_ret
   exact⟨_,rfl,V9.out,F9.out⟩
 · rw[List.concat_eq_append] at *
   obtain⟨A,c,rfl,hr,hown⟩:=h.rn
   obtain⟨i,hi⟩:∃i,l0.length=i:=⟨_,rfl⟩
   have hlen:(l0++[q]).length=i+1:=by simp[hi]
   rw[hlen] at h hr R1 FN hown⊢
   obtain⟨x,hx,hxl,hcel⟩:=hr.at (i:=i) (r:=q) (by rw[List.getElem?_append_right (by omega),hi];simp)
   subst hx
   obtain⟨g,rfl⟩:∃g,x=⟨g,0,none⟩:=by
    obtain⟨g,c',h1,_⟩:=World.ownsRow.form h (by omega)
    injection h1 with h1 _ _
    injection h1 with h1
    exact⟨g,h1⟩
   have CQ:Hid (∀W,Below (w.alloc (.cells #[.int .u32 (a:Int),.int .u32 (b:Int)] 118)).heap.size (w.alloc (.cells #[.int .u32 (a:Int),.int .u32 (b:Int)] 118)) W→W.cell? ⟨g,i*2+1,none⟩=some (.int .u32 (q.2:Int))):=Lib.hid fun W hW=>by
    have:=(hcel W (below_tr A0.out hW A0.out.size)).2
    rw[show ({ block:=g,off:=0 }:Addr).add (i*2)=⟨g,i*2,none⟩ from by unfold Addr.add;split <;> simp_all] at this
    exact this
   have HQ:Hid (q.2<4294967296):=Lib.hid (hu q (by simp))
   have HI:=Lib.hid hi
   have hl2:i+1≤100000:=by have:=HL.out;rw[List.length_append,HI.out] at this;exact this
   have hib:(i:Int)≤99999:=by omega
   have hi0:(0:Int)≤(i:Int):=by omega
   have hlti:(i:Int)<((i+1:Nat):Int):=by omega
   have hnb:(0:Int)<((i+1:Nat):Int):=by omega
   have hwi:IntKind.i64.wrap (i:Int)=(i:Int):=wrap_i64P (by omega) (by omega)
   have H9:=Lib.hid h
   have c2:=CQ.out _ (Below.refl _ _)
   obtain⟨c0,c1⟩:=CX.out _ (Below.refl _ _)
   have HMX:Hid (max (q.2:Int) (b:Int)=((max q.2 b:Nat):Int)):=Lib.hid (by omega)
   clear h hu hl hr hown hlen hxl hcel hl2 hi
   by_cases hqa:a≤q.2
   · have hqi:(a:Int)≤(q.2:Int):=by omega
     go_enter Tryz.func180,Tryz.ntmps180
     go_wp2_with fail
     go_quiet (fail)
     go_upto_region 3 with (fail)
     have BW:Below (w.alloc (.cells #[.int .u32 (a:Int),.int .u32 (b:Int)] 118)).heap.size (w.alloc (.cells #[.int .u32 (a:Int),.int .u32 (b:Int)] 118)) ((w.alloc (.cells #[.int .u32 (a:Int),.int .u32 (b:Int)] 118)).drewN nq):=bel_dN (Below.refl _ _) nq
     have RW:=Lib.hid (R1.out.ab BW)
     have CV:Hid (∀W,Below ((w.alloc (.cells #[.int .u32 (a:Int),.int .u32 (b:Int)] 118)).drewN nq).heap.size ((w.alloc (.cells #[.int .u32 (a:Int),.int .u32 (b:Int)] 118)).drewN nq) W→W.cell? ⟨g,i*2+1,none⟩=some (.int .u32 (q.2:Int))∧W.cell? ⟨w.heap.size,1,none⟩=some (.int .u32 (b:Int))):=Lib.hid fun W hW=>⟨CQ.out W (below_tr BW hW (Nat.le_refl _)),(CX.out W (below_tr BW hW (Nat.le_refl _))).2⟩
     have FW:=Lib.hid (Fr.of (F:=fun k=>Value.ownBlock (.slice (some ⟨g,0,none⟩) (i+1) c)=some k) BW)
     obtain⟨w1,hw1⟩:∃w1,(w.alloc (.cells #[.int .u32 (a:Int),.int .u32 (b:Int)] 118)).drewN nq=w1:=⟨_,rfl⟩
     rw[hw1] at RW CV FW⊢
     clear hw1 BW c0 c1 c2 CX CQ
     refine wp_wide3 [⟨21,IsR (.slice (some ⟨g,0,none⟩) (i+1) c),[],false⟩,⟨22,IsR (.int .i64 ((i+1:Nat):Int)),[],false⟩,⟨23,IsR (.int .i64 (i:Int)),[1],false⟩,⟨24,IsR (.slice (some ⟨g,0,none⟩) (i+1) c),[],false⟩,⟨25,IsR (.int .i64 ((i+1:Nat):Int)),[],false⟩,⟨26,IsR (.int .i64 (i:Int)),[4],false⟩,⟨27,IsR (.pointer (some ⟨g,i*2,none⟩)),[3,5],false⟩,⟨28,IsR (.pointer (some ⟨g,i*2+1,none⟩)),[6],false⟩,⟨29,IsR (.int .u32 (q.2:Int)),[7],false⟩,⟨30,IsR (.pointer (some ⟨w.heap.size,1,none⟩)),[],false⟩,⟨31,IsR (.int .u32 (b:Int)),[9],false⟩,⟨32,IsR (.int .u32 ((max q.2 b:Nat):Int)),[8,10],false⟩,⟨33,IsR (.pointer (some ⟨g,i*2,none⟩)),[0,2],false⟩,⟨34,IsR (.pointer (some ⟨g,i*2+1,none⟩)),[12],false⟩] (by kernel_rfl) (by kernel_rfl) rfl rfl rfl ⟨?_,?_,?_,?_,?_,?_,?_,?_,?_,?_,?_,?_,?_,?_,trivial⟩ ?_
     · refine⟨rfl,IsR.mono _,fun a W hA hb hd=>takes_plain rfl (yields_value _ ?_ rfl)⟩
       have h0:a.tmps[0]?.getD undef = .slice (some ⟨g,0,none⟩) (i+1) c:=(eval_get a 0).trans ((hA.eval (by simp)).trans rfl)
       go_simp
     · refine⟨rfl,IsR.mono _,fun a W hA hb hd=>takes_plain rfl (yields_value _ ?_ rfl)⟩
       have h5:a.tmps[5]?.getD undef = .int .i64 ((i+1:Nat):Int):=(eval_get a 5).trans ((hA.eval (by simp)).trans rfl)
       go_simp
     · refine⟨rfl,IsR.mono _,fun a W hA hb hd=>takes_plain rfl (yields_value _ ?_ rfl)⟩
       have h22:a.tmps[22]?.getD undef = .int .i64 ((i+1:Nat):Int):=(eval_get a 22).trans (hd 1 (by simp) _ rfl)
       have hw:=hwi
       go_simp
     · refine⟨rfl,IsR.mono _,fun a W hA hb hd=>takes_plain rfl (yields_value _ ?_ rfl)⟩
       have h0:a.tmps[0]?.getD undef = .slice (some ⟨g,0,none⟩) (i+1) c:=(eval_get a 0).trans ((hA.eval (by simp)).trans rfl)
       go_simp
     · refine⟨rfl,IsR.mono _,fun a W hA hb hd=>takes_plain rfl (yields_value _ ?_ rfl)⟩
       have h5:a.tmps[5]?.getD undef = .int .i64 ((i+1:Nat):Int):=(eval_get a 5).trans ((hA.eval (by simp)).trans rfl)
       go_simp
     · refine⟨rfl,IsR.mono _,fun a W hA hb hd=>takes_plain rfl (yields_value _ ?_ rfl)⟩
       have h25:a.tmps[25]?.getD undef = .int .i64 ((i+1:Nat):Int):=(eval_get a 25).trans (hd 4 (by simp) _ rfl)
       have hw:=hwi
       go_simp
     · refine⟨rfl,IsR.mono _,fun a W hA hb hd=>takes_plain rfl ?_⟩
       refine yields_value (.pointer (some ⟨g,i*2,none⟩)) ?_ rfl
       have h24:a.tmps[24]?.getD undef = .slice (some ⟨g,0,none⟩) (i+1) c:=(eval_get a 24).trans (hd 3 (by simp) _ rfl)
       have h26:a.tmps[26]?.getD undef = .int .i64 (i:Int):=(eval_get a 26).trans (hd 5 (by simp) _ rfl)
       have h0:=hi0
       go_simp
       intro hx
       omega
     · refine⟨rfl,IsR.mono _,fun a W hA hb hd=>takes_plain rfl (yields_value _ ?_ rfl)⟩
       have h27:a.tmps[27]?.getD undef = .pointer (some ⟨g,i*2,none⟩):=(eval_get a 27).trans (hd 6 (by simp) _ rfl)
       go_simp
     · refine⟨rfl,IsR.mono _,fun a W hA hb hd=>takes_plain rfl (yields_value _ ?_ rfl)⟩
       have h28:a.tmps[28]?.getD undef = .pointer (some ⟨g,i*2+1,none⟩):=(eval_get a 28).trans (hd 7 (by simp) _ rfl)
       have hc:=(CV.out W hb).1
       go_simp
     · refine⟨rfl,IsR.mono _,fun a W hA hb hd=>takes_plain rfl (yields_value _ ?_ rfl)⟩
       have h3:a.tmps[3]?.getD undef = .pointer (some ⟨w.heap.size,0,none⟩):=(eval_get a 3).trans ((hA.eval (by simp)).trans rfl)
       go_simp
     · refine⟨rfl,IsR.mono _,fun a W hA hb hd=>takes_plain rfl (yields_value _ ?_ rfl)⟩
       have h30:a.tmps[30]?.getD undef = .pointer (some ⟨w.heap.size,1,none⟩):=(eval_get a 30).trans (hd 9 (by simp) _ rfl)
       have hc:=(CV.out W hb).2
       go_simp
     · refine⟨rfl,IsR.mono _,fun a W hA hb hd=>takes_plain rfl ?_⟩
       refine yields_value (.int .u32 ((max q.2 b:Nat):Int)) ?_ rfl
       have h29:a.tmps[29]?.getD undef = .int .u32 (q.2:Int):=(eval_get a 29).trans (hd 8 (by simp) _ rfl)
       have h31:a.tmps[31]?.getD undef = .int .u32 (b:Int):=(eval_get a 31).trans (hd 10 (by simp) _ rfl)
       go_simp
       exact HMX.out
     · refine⟨rfl,IsR.mono _,fun a W hA hb hd=>takes_plain rfl ?_⟩
       refine yields_value (.pointer (some ⟨g,i*2,none⟩)) ?_ rfl
       have h21:a.tmps[21]?.getD undef = .slice (some ⟨g,0,none⟩) (i+1) c:=(eval_get a 21).trans (hd 0 (by simp) _ rfl)
       have h23:a.tmps[23]?.getD undef = .int .i64 (i:Int):=(eval_get a 23).trans (hd 2 (by simp) _ rfl)
       have h0:=hi0
       go_simp
       intro hx
       omega
     · refine⟨rfl,IsR.mono _,fun a W hA hb hd=>takes_plain rfl (yields_value _ ?_ rfl)⟩
       have h33:a.tmps[33]?.getD undef = .pointer (some ⟨g,i*2,none⟩):=(eval_get a 33).trans (hd 12 (by simp) _ rfl)
       go_simp
     intro vs w2 hR hF hb
     have e21:vs 21 = .slice (some ⟨g,0,none⟩) (i+1) c:=hR 0 _ rfl
     have e22:vs 22 = .int .i64 ((i+1:Nat):Int):=hR 1 _ rfl
     have e23:vs 23 = .int .i64 (i:Int):=hR 2 _ rfl
     have e24:vs 24 = .slice (some ⟨g,0,none⟩) (i+1) c:=hR 3 _ rfl
     have e25:vs 25 = .int .i64 ((i+1:Nat):Int):=hR 4 _ rfl
     have e26:vs 26 = .int .i64 (i:Int):=hR 5 _ rfl
     have e27:vs 27 = .pointer (some ⟨g,i*2,none⟩):=hR 6 _ rfl
     have e28:vs 28 = .pointer (some ⟨g,i*2+1,none⟩):=hR 7 _ rfl
     have e29:vs 29 = .int .u32 (q.2:Int):=hR 8 _ rfl
     have e30:vs 30 = .pointer (some ⟨w.heap.size,1,none⟩):=hR 9 _ rfl
     have e31:vs 31 = .int .u32 (b:Int):=hR 10 _ rfl
     have e32:vs 32 = .int .u32 ((max q.2 b:Nat):Int):=hR 11 _ rfl
     have e33:vs 33 = .pointer (some ⟨g,i*2,none⟩):=hR 12 _ rfl
     have e34:vs 34 = .pointer (some ⟨g,i*2+1,none⟩):=hR 13 _ rfl
     simp only[List.map_cons,List.map_nil,List.foldl_cons,List.foldl_nil,List.length_cons,List.length_nil,List.drop_succ_cons,List.drop_zero,Act.put,List.setIfInBounds_toArray,List.set_cons_zero,List.set_cons_succ,e21,e22,e23,e24,e25,e26,e27,e28,e29,e30,e31,e32,e33,e34]
     have R2:=Lib.hid (RW.out.ab hb)
     have BB:=Lib.hid hb
     clear hR hF hb e21 e22 e23 e24 e25 e26 e27 e28 e29 e30 e31 e32 e33 e34
     have FX:Fr w2 (w2.setCell ⟨g,i*2+1,none⟩ (.int .u32 ((max q.2 b:Nat):Int))) (fun j=>Value.ownBlock (.slice (some ⟨g,0,none⟩) (i+1) c)=some j):=(Fr.grown (grown_cell w2 g (i*2+1) (.int .u32 ((max q.2 b:Nat):Int)))).imp fun k hk=>by injection hk with hk;rw[←hk];rfl
     have hlen:(l0++[q]).length=i+1:=by simp[HI.out]
     have R3:w2.ownsRow B 118 2 (.slice (some ⟨g,0,none⟩) (i+1) c) (i+1) (runVs (l0++[q])):=by have h9:=R2.out;unfold RuB at h9;rw[hlen] at h9;exact h9
     have RZ:=(R3.stored (i*2+1) (.int .u32 ((max q.2 b:Nat):Int))).1
     have hfz:=R3.frozenAt (i*2+1)
     have hcz:=(CV.out w2 BB.out).1
     have RN:=Lib.hid RZ
     have FN9:=Lib.hid (FN.out _ ((FW.out.tr (Fr.of BB.out _)).tr FX))
     clear FX RZ R3
     go_wp2_with fail
     go_ret
     refine⟨_,rfl,?_,FN9.out⟩
     rw[addR_in hqa]
     have h9:=RN.out
     rw[←HI.out,runVs_max,HI.out] at h9
     unfold RuB
     rw[show (l0++[(q.1,max q.2 b)]).length=i+1 from by simp[HI.out]]
     exact h9
   · have hqi:¬(a:Int)≤(q.2:Int):=by omega
     go_enter Tryz.func180,Tryz.ntmps180
     go_wp2_with fail
     go_quiet (fail)
     obtain⟨w1,hw1⟩:∃w1,w.alloc (.cells #[.int .u32 (a:Int),.int .u32 (b:Int)] 118)=w1:=⟨_,rfl⟩
     rw[hw1] at R1 CX SB FN⊢
     rw[hw1] at c0 c1 c2
     clear hw1 A0
     go_upto_region 5 with (fail)
     obtain⟨k0,k1⟩:=CX.out (w1.drewN nq) (bel_dN (Below.refl w1.heap.size w1) nq)
     have RW:=Lib.hid (R1.out.ab (bel_dN (Below.refl w1.heap.size w1) nq))
     have FW:=Lib.hid (Fr.of (F:=fun k=>Value.ownBlock (.slice (some ⟨g,0,none⟩) (i+1) c)=some k) (bel_dN (Below.refl w1.heap.size w1) nq))
     have ZW:Hid (B≤(w1.drewN nq).heap.size):=Lib.hid SB.out.1
     obtain⟨w2,hw2⟩:∃w2,w1.drewN nq=w2:=⟨_,rfl⟩
     rw[hw2] at k0 k1 RW FW ZW⊢
     have A2:Hid (Below w2.heap.size w2 (w2.alloc (.cells #[.int .u32 (a:Int),.int .u32 (b:Int)] 118))):=Lib.hid ((Below.refl _ _).alloc (Nat.le_refl _) _)
     clear hw2 CX
     obtain⟨A7,c7,h7,h8,_⟩:=(RuB.one w2 a b).rn
     injection h7 with h7a h7b h7c
     subst h7a h7c
     have H8:=Lib.hid h8
     clear h8 h7b
     go_wp2_with (first
      | (refine wpList_appR rfl (.tmp 36) (.tmp 38) rfl (RW.out.ab A2.out) rfl rfl H8.out (by have:=HL.out;simp only[List.concat_eq_append,List.length_append,List.length_cons,List.length_nil] at *;omega) (Nat.le_trans ZW.out A2.out.size) ?_
         intro v9 w9 hv9 hg9
         have V9:=Lib.hid hv9
         have F9:=Lib.hid (FN.out w9 ((FW.out.tr (Fr.of A2.out _)).tr (Fr.grown hg9)))
         clear hv9 hg9))
     go_ret
     exact⟨_,rfl,by rw[addR_out (by simpa using hqa)];exact V9.out,F9.out⟩
def bothN:Nat→RnL→RnL→RnL→RnL
 | 0,acc,_,_=>acc
 | _+1,acc,[],[]=>acc
 | n+1,acc,r::a,[]=>bothN n (addR acc r) a []
 | n+1,acc,[],s::b=>bothN n (addR acc s) [] b
 | n+1,acc,r::a,s::b=>if r.1≤s.1 then bothN n (addR acc r) a (s::b) else bothN n (addR acc s) (r::a) b
def bothR (a b:RnL):RnL:=bothN (a.length+b.length) [] a b
theorem bothN_end (n:Nat) (acc:RnL):bothN n acc [] []=acc:=by cases n <;> rfl
theorem bothN_l (acc:RnL) (r:Nat×Nat) (a:RnL):bothN ((r::a).length+([]:RnL).length) acc (r::a) []=bothN (a.length+([]:RnL).length) (addR acc r) a []:=rfl
theorem bothN_r (acc:RnL) (s:Nat×Nat) (b:RnL):bothN (([]:RnL).length+(s::b).length) acc [] (s::b)=bothN (([]:RnL).length+b.length) (addR acc s) [] b:=by
 rw[show ([]:RnL).length+(s::b).length=(([]:RnL).length+b.length)+1 from by simp];rfl
theorem bothN_le (acc:RnL) (r s:Nat×Nat) (a b:RnL) (h:r.1≤s.1):bothN ((r::a).length+(s::b).length) acc (r::a) (s::b)=bothN (a.length+(s::b).length) (addR acc r) a (s::b):=by
 rw[show (r::a).length+(s::b).length=(a.length+(s::b).length)+1 from by simp;omega]
 simp only[bothN]
 rw[if_pos h]
theorem bothN_gt (acc:RnL) (r s:Nat×Nat) (a b:RnL) (h:¬r.1≤s.1):bothN ((r::a).length+(s::b).length) acc (r::a) (s::b)=bothN ((r::a).length+b.length) (addR acc s) (r::a) b:=by
 rw[show (r::a).length+(s::b).length=((r::a).length+b.length)+1 from by simp;omega]
 simp only[bothN]
 rw[if_neg h]
def lenS (v:Value):Nat:=match v with
 | .slice _ n _=>n
 | _=>0
structure BoI (w:World) (a b:RnL) (n m:Nat) (z0 z1 z6:Value) (wr:World) (A:Option Addr) (c:Nat) (A2:Option Addr) (c2:Nat) (a1 b1 acc:RnL):Prop where
 e0:z0 = .slice A a1.length c
 e1:z1 = .slice A2 b1.length c2
 ra:RnB w A a1.length c a1
 rb:RnB w A2 b1.length c2 b1
 rv:RuB wr w.heap.size z6 acc
 ln:acc.length+a1.length+b1.length≤20000
 ba:∀q∈a1,q.1<4294967296∧q.2<4294967296
 bb:∀q∈b1,q.1<4294967296∧q.2<4294967296
 bc:∀q∈acc,q.1<4294967296∧q.2<4294967296
 eq:bothN (a1.length+b1.length) acc a1 b1=bothR a b
 hb:Below w.heap.size w wr
theorem RnB.cons {w:World} {A:Option Addr} {n c:Nat} {r:Nat×Nat} {l:RnL} (h:RnB w A n c (r::l)):∃x,A=some x∧n=l.length+1∧n≤c∧(∀W,Below w.heap.size w W→W.cell? x=some (.int .u32 (r.1:Int))∧W.cell? ⟨x.block,x.off+1,none⟩=some (.int .u32 (r.2:Int)))∧RnB w (dropR2 (some x) c 1) l.length (c-1) l:=by
 obtain⟨x,rfl,hxl,hcel⟩:=h.at (i:=0) (r:=r) rfl
 rw[show x.add (0*2)=x from by rw[Nat.zero_mul];exact addr_zero x] at hcel
 have hn:n=l.length+1:=by have:=h.len;simpa using this.symm
 have hd:=h.drop (m:=1) (by omega)
 rw[hn,Nat.add_sub_cancel] at hd
 exact⟨x,rfl,hn,h.cap,hcel,hd⟩
set_option maxRecDepth 100000 in
theorem both_any {w:World} {A A2:Option Addr} {n c m c2:Nat} {a b:RnL} (ha:RnB w A n c a) (hb:RnB w A2 m c2 b) (ra:rightR a=true) (rb:rightR b=true) (ua:∀q∈a,q.1<4294967296∧q.2<4294967296) (ub:∀q∈b,q.1<4294967296∧q.2<4294967296) (hl:n+m≤20000):
 Calls Tryz.prog 163 #[.slice A n c,.slice A2 m c2] w fun e w'=>∃v,e = .returned (.tuple #[v,.int .i64 0])∧RuB w' w.heap.size v (bothR a b)∧Below w.heap.size w w':=by
 obtain rfl:a.length=n:=ha.len
 obtain rfl:b.length=m:=hb.len
 have H1:=Lib.hid (right_any' A _ c a w ha)
 have H2:Hid (∀W,Below w.heap.size w W→Calls Tryz.prog 97 #[.slice A2 b.length c2] W fun e w'=>e = .returned (.bool true)∧Below W.heap.size W w'):=Lib.hid fun W hW=>by
  have h:=right_any' A2 _ c2 b W (hb.ab hW)
  rw[rb] at h
  exact h
 rw[ra] at H1
 have I0:Hid (∀W,Below w.heap.size w W→BoI w a b a.length b.length (.slice A a.length c) (.slice A2 b.length c2) (.slice none 0 0) W A c A2 c2 a b []):=Lib.hid fun W hW=>
  ⟨rfl,rfl,ha,hb,RuB.nil _ _,by simpa using hl,ua,ub,(fun q hq=>by cases hq),rfl,hW⟩
 clear ha hb ra rb ua ub hl
 go_enter Tryz.func163,Tryz.ntmps163
 go_wp2_with fail
 refine H1.out.mono ?_
 rintro e w1 ⟨rfl,hb1⟩
 have B1:=Lib.hid hb1
 clear hb1
 go_wp2_with fail
 refine (H2.out w1 B1.out).mono ?_
 rintro e w2 ⟨rfl,hb2⟩
 have B2:=Lib.hid (below_tr B1.out hb2 B1.out.size)
 clear hb2 B1 H1 H2
 go_wp2_with fail
 go_loopw [0,1,6] (fun z0 z1 z6 wr=>∃A c A2 c2 a1 b1 acc,BoI w a b a.length b.length z0 z1 z6 wr A c A2 c2 a1 b1 acc) (fun z0 z1 _ _=>lenS z0+lenS z1)
 case atStart=>exact⟨_,_,_,_,_,_,_,I0.out w2 B2.out⟩
 case round=>
  clear I0 B2
  obtain⟨A,c,A2,c2,a1,b1,acc,hI⟩:=hrel
  obtain rfl:=hI.e0
  obtain rfl:=hI.e1
  obtain⟨A6,c6,h6,_⟩:=hI.rv.rn
  obtain⟨v,hv⟩:∃v,u6=v:=⟨_,rfl⟩
  rw[hv] at hI h6⊢
  clear hv
  have IH:=Lib.hid hI
  have HN:Hid (∀W,Fr wr W (fun k=>v.ownBlock=some k)→Below w.heap.size w W):=Lib.hid fun W hW=>Fr.below hW (fun k hk=>own_ge9 IH.out.rv k hk) IH.out.hb IH.out.hb.size
  clear hI
  cases a1 with
  | nil =>
    cases b1 with
    | nil=>
      go_wp2_with fail
      go_ret2
      refine⟨_,rfl,?_,IH.out.hb⟩
      have h9:=IH.out.rv
      rw[←IH.out.eq,bothN_end]
      exact h9
    | cons s b1=>
      obtain⟨y,rfl,_,hcap,hcel,hdr⟩:=IH.out.rb.cons
      have KC:=Lib.hid hcel
      have DR:=Lib.hid hdr
      have UR:=Lib.hid (IH.out.bb s (by simp))
      have SF:Hid (∀W,_):=Lib.hid (fun W=>sl_fromR W (some y) (b1.length+1) c2 1 (by omega))
      simp only[show ((1:Nat):Int)=1 from rfl,Nat.add_sub_cancel] at SF
      clear hcel hdr hcap
      go_upto_region 5 with (fail)
      have z1_b1:¬(b1.length:Int)+1=0:=by omega
      have z2_b1:((b1.length:Int)+1==0)=false:=by simp;omega
      have z3_b1:(0:Int)<(b1.length:Int)+1:=by omega
      have z4_b1:decide ((b1.length:Int)+1=0)=false:=decide_eq_false z1_b1
      have z5_b1:decide ((0:Int)<(b1.length:Int)+1)=true:=decide_eq_true z3_b1
      go_quiet (fail)
      go_upto_region 7 with (fail)
      have RV:Hid (RuB (wr.drewN nq) w.heap.size v acc):=Lib.hid (IH.out.rv.ab (bel_dN (Below.refl wr.heap.size wr) nq))
      have HM:Hid (∀W,Fr (wr.drewN nq) W (fun k=>v.ownBlock=some k)→Below w.heap.size w W):=Lib.hid fun W hW=>HN.out W ((Fr.of (bel_dN (Below.refl wr.heap.size wr) nq) _).tr hW)
      obtain⟨wy,hwy⟩:∃wy,wr.drewN nq=wy:=⟨_,rfl⟩
      rw[hwy] at RV HM⊢
      clear hwy HN
      refine wp_wide5L (fun i k=>i=4∧v.ownBlock=some k) [⟨49,IsR v,[],false⟩,⟨50,IsR (.slice (some y) (b1.length+1) c2),[],false⟩,⟨51,IsR (.pointer (some y)),[1],false⟩,⟨52,IsR (.agg #[.int .u32 (s.1:Int),.int .u32 (s.2:Int)]),[2],false⟩,⟨53,fun v' W=>RuB W w.heap.size v' (addR acc (s.1,s.2)),[0,3],false⟩,⟨54,IsR (.slice (some y) (b1.length+1) c2),[],false⟩,⟨55,IsR (.slice (dropR2 (some y) c2 1) b1.length (c2-1)),[5],false⟩] [5,6] (fun _ _ _ d _ h=>by cases d <;> exact h) ?_ (by kernel_rfl) (by kernel_rfl) rfl rfl rfl ⟨?_,?_,?_,?_,?_,?_,?_,trivial⟩ ?_
      · intro li hli hl0 ol e1 e2
        simp only[List.mem_cons,List.mem_nil_iff,or_false] at hli
        rcases hli with rfl | rfl
        · injection e1 with e1
          injection e2 with e2
          subst e1 e2
          refine⟨rfl,fun a W hA hb hd=>⟨_,fun w'=>?_,rfl⟩⟩
          have h1:a.tmps[1]?.getD undef = .slice (some y) (b1.length+1) c2:=(eval_get a 1).trans ((hA.eval (by simp)).trans rfl)
          go_simp
        · injection e1 with e1
          injection e2 with e2
          subst e1 e2
          refine⟨rfl,fun a W hA hb hd=>⟨_,fun w'=>?_,rfl⟩⟩
          have h1:a.tmps[54]?.getD undef = .slice (some y) (b1.length+1) c2:=(eval_get a 54).trans (hd 5 (by simp) _ rfl)
          have hs:=SF.out w'
          go_simp
      · refine⟨rfl,IsR.monoF _ _,fun a W hA hb hd=>Takes.to5 (takes_plain rfl (yields_value _ ?_ rfl)) _⟩
        have h6:a.tmps[6]?.getD undef=v:=(eval_get a 6).trans ((hA.eval (by simp)).trans rfl)
        go_simp
      · refine⟨rfl,IsR.monoF _ _,fun a W hA hb hd=>Takes.to5 (takes_plain rfl (yields_value _ ?_ rfl)) _⟩
        have h1:a.tmps[1]?.getD undef = .slice (some y) (b1.length+1) c2:=(eval_get a 1).trans ((hA.eval (by simp)).trans rfl)
        go_simp
      · refine⟨rfl,IsR.monoF _ _,fun a W hA hb hd=>Takes.to5 (takes_plain rfl (yields_value _ ?_ rfl)) _⟩
        have h1:a.tmps[50]?.getD undef = .slice (some y) (b1.length+1) c2:=(eval_get a 50).trans (hd 1 (by simp) _ rfl)
        have h0:(0:Int)<(b1.length:Int)+1:=by omega
        go_simp
      · refine⟨rfl,IsR.monoF _ _,fun a W hA hb hd=>Takes.to5 (takes_plain rfl (yields_value _ ?_ rfl)) _⟩
        have h1:a.tmps[51]?.getD undef = .pointer (some y):=(eval_get a 51).trans (hd 2 (by simp) _ rfl)
        obtain⟨hc0,hc1⟩:=KC.out W (HM.out W (hb.imp fun k ⟨j,_,_,hj⟩=>hj))
        go_simp
      · refine⟨rfl,fun z W W1 h3 hf=>row_fr h3 hf (fun k hk ⟨j,hj,hj2,_⟩=>hj hj2),fun a W hA hb hd=>takes5_plain rfl ?_⟩
        have h1:a.tmps[49]?.getD undef=v:=(eval_get a 49).trans (hd 0 (by simp) _ rfl)
        have h2:a.tmps[52]?.getD undef = .agg #[.int .u32 (s.1:Int),.int .u32 (s.2:Int)]:=(eval_get a 52).trans (hd 3 (by simp) _ rfl)
        have hrow:RuB W w.heap.size v acc:=row_fr RV.out hb (fun k hk ⟨j,hj,hj2,_⟩=>hj hj2)
        refine .inr ⟨180,#[v,.agg #[.int .u32 (s.1:Int),.int .u32 (s.2:Int)]],by go_simp,(radd_any s.1 s.2 hrow (fun q hq=>(IH.out.bc q hq).2) UR.out.1 UR.out.2 (by have:=IH.out.ln;omega) (HM.out W (hb.imp fun k ⟨j,_,_,hj⟩=>hj)).size).mono ?_⟩
        rintro e W1 ⟨v',rfl,h3,h4⟩
        exact⟨v',rfl,h3,h4.imp fun k hk=>⟨rfl,hk⟩⟩
      · refine⟨rfl,IsR.monoF _ _,fun a W hA hb hd=>Takes.to5 (takes_plain rfl (yields_value _ ?_ rfl)) _⟩
        have h1:a.tmps[1]?.getD undef = .slice (some y) (b1.length+1) c2:=(eval_get a 1).trans ((hA.eval (by simp)).trans rfl)
        go_simp
      · refine⟨rfl,IsR.monoF _ _,fun a W hA hb hd=>Takes.to5 (takes_plain rfl (yields_value _ ?_ rfl)) _⟩
        have h1:a.tmps[54]?.getD undef = .slice (some y) (b1.length+1) c2:=(eval_get a 54).trans (hd 5 (by simp) _ rfl)
        have hs:=SF.out W
        go_simp
      intro vs wrn hR hb
      have hrow:RuB wrn w.heap.size (vs 53) (addR acc (s.1,s.2)):=hR 4 _ rfl
      have e0:vs 49=v:=hR 0 _ rfl
      have e1:vs 50 = .slice (some y) (b1.length+1) c2:=hR 1 _ rfl
      have e2:vs 51 = .pointer (some y):=hR 2 _ rfl
      have e3:vs 52 = .agg #[.int .u32 (s.1:Int),.int .u32 (s.2:Int)]:=hR 3 _ rfl
      have e5:vs 54 = .slice (some y) (b1.length+1) c2:=hR 5 _ rfl
      have e6:vs 55 = .slice (dropR2 (some y) c2 1) b1.length (c2-1):=hR 6 _ rfl
      simp only[List.map_cons,List.map_nil,List.foldl_cons,List.foldl_nil,List.length_cons,List.length_nil,List.drop_succ_cons,List.drop_zero,Act.put,List.setIfInBounds_toArray,List.set_cons_zero,List.set_cons_succ,e0,e1,e2,e3,e5,e6]
      have RW:=Lib.hid hrow
      have BB:=Lib.hid (HM.out wrn (hb.imp fun k ⟨j,_,hj⟩=>hj))
      generalize vs 53=q4 at *
      clear hR hb hrow e0 e1 e2 e3 e5 e6
      go_wp2_with fail
      go_roundw
      case rel=>exact⟨_,_,_,_,[],b1,addR acc (s.1,s.2),{ e0:=rfl,e1:=rfl,ra:=by simpa using IH.out.ra,rb:=DR.out,rv:=RW.out,ln:=by have h1:=addR_len acc (s.1,s.2);have h2:=IH.out.ln;simp only[List.length_cons] at *;omega,ba:=IH.out.ba,bb:=fun q hq=>IH.out.bb q (by simp[hq]),bc:=addR_lt IH.out.bc UR.out,eq:=((bothN_r acc (s.1,s.2) b1).symm.trans IH.out.eq),hb:=BB.out }⟩
      case measure=>simp[lenS];try omega
  | cons r a1=>
    cases b1 with
    | nil =>
      obtain⟨x,rfl,_,hcap,hcel,hdr⟩:=IH.out.ra.cons
      have KC:=Lib.hid hcel
      have DR:=Lib.hid hdr
      have UR:=Lib.hid (IH.out.ba r (by simp))
      have SF:Hid (∀W,_):=Lib.hid (fun W=>sl_fromR W (some x) (a1.length+1) c 1 (by omega))
      simp only[show ((1:Nat):Int)=1 from rfl,Nat.add_sub_cancel] at SF
      clear hcel hdr hcap
      go_upto_region 5 with (fail)
      have z1_a1:¬(a1.length:Int)+1=0:=by omega
      have z2_a1:((a1.length:Int)+1==0)=false:=by simp;omega
      have z3_a1:(0:Int)<(a1.length:Int)+1:=by omega
      have z4_a1:decide ((a1.length:Int)+1=0)=false:=decide_eq_false z1_a1
      have z5_a1:decide ((0:Int)<(a1.length:Int)+1)=true:=decide_eq_true z3_a1
      go_quiet (fail)
      go_upto_region 6 with (fail)
      have RV:Hid (RuB (wr.drewN nq) w.heap.size v acc):=Lib.hid (IH.out.rv.ab (bel_dN (Below.refl wr.heap.size wr) nq))
      have HM:Hid (∀W,Fr (wr.drewN nq) W (fun k=>v.ownBlock=some k)→Below w.heap.size w W):=Lib.hid fun W hW=>HN.out W ((Fr.of (bel_dN (Below.refl wr.heap.size wr) nq) _).tr hW)
      obtain⟨wy,hwy⟩:∃wy,wr.drewN nq=wy:=⟨_,rfl⟩
      rw[hwy] at RV HM⊢
      clear hwy HN
      refine wp_wide5L (fun i k=>i=4∧v.ownBlock=some k) [⟨42,IsR v,[],false⟩,⟨43,IsR (.slice (some x) (a1.length+1) c),[],false⟩,⟨44,IsR (.pointer (some x)),[1],false⟩,⟨45,IsR (.agg #[.int .u32 (r.1:Int),.int .u32 (r.2:Int)]),[2],false⟩,⟨46,fun v' W=>RuB W w.heap.size v' (addR acc (r.1,r.2)),[0,3],false⟩,⟨47,IsR (.slice (some x) (a1.length+1) c),[],false⟩,⟨48,IsR (.slice (dropR2 (some x) c 1) a1.length (c-1)),[5],false⟩] [5,6] (fun _ _ _ d _ h=>by cases d <;> exact h) ?_ (by kernel_rfl) (by kernel_rfl) rfl rfl rfl ⟨?_,?_,?_,?_,?_,?_,?_,trivial⟩ ?_
      · intro li hli hl0 ol e1 e2
        simp only[List.mem_cons,List.mem_nil_iff,or_false] at hli
        rcases hli with rfl | rfl
        · injection e1 with e1
          injection e2 with e2
          subst e1 e2
          refine⟨rfl,fun a W hA hb hd=>⟨_,fun w'=>?_,rfl⟩⟩
          have h0:a.tmps[0]?.getD undef = .slice (some x) (a1.length+1) c:=(eval_get a 0).trans ((hA.eval (by simp)).trans rfl)
          go_simp
        · injection e1 with e1
          injection e2 with e2
          subst e1 e2
          refine⟨rfl,fun a W hA hb hd=>⟨_,fun w'=>?_,rfl⟩⟩
          have h1:a.tmps[47]?.getD undef = .slice (some x) (a1.length+1) c:=(eval_get a 47).trans (hd 5 (by simp) _ rfl)
          have hs:=SF.out w'
          go_simp
      · refine⟨rfl,IsR.monoF _ _,fun a W hA hb hd=>Takes.to5 (takes_plain rfl (yields_value _ ?_ rfl)) _⟩
        have h6:a.tmps[6]?.getD undef=v:=(eval_get a 6).trans ((hA.eval (by simp)).trans rfl)
        go_simp
      · refine⟨rfl,IsR.monoF _ _,fun a W hA hb hd=>Takes.to5 (takes_plain rfl (yields_value _ ?_ rfl)) _⟩
        have h0:a.tmps[0]?.getD undef = .slice (some x) (a1.length+1) c:=(eval_get a 0).trans ((hA.eval (by simp)).trans rfl)
        go_simp
      · refine⟨rfl,IsR.monoF _ _,fun a W hA hb hd=>Takes.to5 (takes_plain rfl (yields_value _ ?_ rfl)) _⟩
        have h1:a.tmps[43]?.getD undef = .slice (some x) (a1.length+1) c:=(eval_get a 43).trans (hd 1 (by simp) _ rfl)
        have h0:(0:Int)<(a1.length:Int)+1:=by omega
        go_simp
      · refine⟨rfl,IsR.monoF _ _,fun a W hA hb hd=>Takes.to5 (takes_plain rfl (yields_value _ ?_ rfl)) _⟩
        have h1:a.tmps[44]?.getD undef = .pointer (some x):=(eval_get a 44).trans (hd 2 (by simp) _ rfl)
        obtain⟨hc0,hc1⟩:=KC.out W (HM.out W (hb.imp fun k ⟨j,_,_,hj⟩=>hj))
        go_simp
      · refine⟨rfl,fun z W W1 h3 hf=>row_fr h3 hf (fun k hk ⟨j,hj,hj2,_⟩=>hj hj2),fun a W hA hb hd=>takes5_plain rfl ?_⟩
        have h1:a.tmps[42]?.getD undef=v:=(eval_get a 42).trans (hd 0 (by simp) _ rfl)
        have h2:a.tmps[45]?.getD undef = .agg #[.int .u32 (r.1:Int),.int .u32 (r.2:Int)]:=(eval_get a 45).trans (hd 3 (by simp) _ rfl)
        have hrow:RuB W w.heap.size v acc:=row_fr RV.out hb (fun k hk ⟨j,hj,hj2,_⟩=>hj hj2)
        refine .inr ⟨180,#[v,.agg #[.int .u32 (r.1:Int),.int .u32 (r.2:Int)]],by go_simp,(radd_any r.1 r.2 hrow (fun q hq=>(IH.out.bc q hq).2) UR.out.1 UR.out.2 (by have:=IH.out.ln;omega) (HM.out W (hb.imp fun k ⟨j,_,_,hj⟩=>hj)).size).mono ?_⟩
        rintro e W1 ⟨v',rfl,h3,h4⟩
        exact⟨v',rfl,h3,h4.imp fun k hk=>⟨rfl,hk⟩⟩
      · refine⟨rfl,IsR.monoF _ _,fun a W hA hb hd=>Takes.to5 (takes_plain rfl (yields_value _ ?_ rfl)) _⟩
        have h0:a.tmps[0]?.getD undef = .slice (some x) (a1.length+1) c:=(eval_get a 0).trans ((hA.eval (by simp)).trans rfl)
        go_simp
      · refine⟨rfl,IsR.monoF _ _,fun a W hA hb hd=>Takes.to5 (takes_plain rfl (yields_value _ ?_ rfl)) _⟩
        have h1:a.tmps[47]?.getD undef = .slice (some x) (a1.length+1) c:=(eval_get a 47).trans (hd 5 (by simp) _ rfl)
        have hs:=SF.out W
        go_simp
      intro vs wrn hR hb
      have hrow:RuB wrn w.heap.size (vs 46) (addR acc (r.1,r.2)):=hR 4 _ rfl
      have e0:vs 42=v:=hR 0 _ rfl
      have e1:vs 43 = .slice (some x) (a1.length+1) c:=hR 1 _ rfl
      have e2:vs 44 = .pointer (some x):=hR 2 _ rfl
      have e3:vs 45 = .agg #[.int .u32 (r.1:Int),.int .u32 (r.2:Int)]:=hR 3 _ rfl
      have e5:vs 47 = .slice (some x) (a1.length+1) c:=hR 5 _ rfl
      have e6:vs 48 = .slice (dropR2 (some x) c 1) a1.length (c-1):=hR 6 _ rfl
      simp only[List.map_cons,List.map_nil,List.foldl_cons,List.foldl_nil,List.length_cons,List.length_nil,List.drop_succ_cons,List.drop_zero,Act.put,List.setIfInBounds_toArray,List.set_cons_zero,List.set_cons_succ,e0,e1,e2,e3,e5,e6]
      have RW:=Lib.hid hrow
      have BB:=Lib.hid (HM.out wrn (hb.imp fun k ⟨j,_,hj⟩=>hj))
      generalize vs 46=q4 at *
      clear hR hb hrow e0 e1 e2 e3 e5 e6
      go_wp2_with fail
      go_roundw
      case rel=>exact⟨_,_,_,_,a1,[],addR acc (r.1,r.2),{ e0:=rfl,e1:=rfl,ra:=DR.out,rb:=by simpa using IH.out.rb,rv:=RW.out,ln:=by have h1:=addR_len acc (r.1,r.2);have h2:=IH.out.ln;simp only[List.length_cons] at *;omega,ba:=fun q hq=>IH.out.ba q (by simp[hq]),bb:=IH.out.bb,bc:=addR_lt IH.out.bc UR.out,eq:=((bothN_l acc (r.1,r.2) a1).symm.trans IH.out.eq),hb:=BB.out }⟩
      case measure=>simp[lenS];try omega
    | cons s b1=>
      by_cases hle:r.1≤s.1
      · have hlei:(r.1:Int)≤(s.1:Int):=by omega
        have hled:decide ((r.1:Int)≤(s.1:Int))=true:=decide_eq_true hlei
        obtain⟨x,rfl,_,hcap,hcel,hdr⟩:=IH.out.ra.cons
        have KC:=Lib.hid hcel
        have DR:=Lib.hid hdr
        have UR:=Lib.hid (IH.out.ba r (by simp))
        have SF:Hid (∀W,_):=Lib.hid (fun W=>sl_fromR W (some x) (a1.length+1) c 1 (by omega))
        simp only[show ((1:Nat):Int)=1 from rfl,Nat.add_sub_cancel] at SF
        clear hcel hdr hcap
        obtain⟨y,rfl,_,hcap2,hcel,_⟩:=IH.out.rb.cons
        have c1:=(hcel wr IH.out.hb).1
        have c0:=(KC.out wr IH.out.hb).1
        clear hcel hcap2
        go_upto_region 5 with (fail)
        have z1_a1:¬(a1.length:Int)+1=0:=by omega
        have z2_a1:((a1.length:Int)+1==0)=false:=by simp;omega
        have z3_a1:(0:Int)<(a1.length:Int)+1:=by omega
        have z4_a1:decide ((a1.length:Int)+1=0)=false:=decide_eq_false z1_a1
        have z5_a1:decide ((0:Int)<(a1.length:Int)+1)=true:=decide_eq_true z3_a1
        have z1_b1:¬(b1.length:Int)+1=0:=by omega
        have z2_b1:((b1.length:Int)+1==0)=false:=by simp;omega
        have z3_b1:(0:Int)<(b1.length:Int)+1:=by omega
        have z4_b1:decide ((b1.length:Int)+1=0)=false:=decide_eq_false z1_b1
        have z5_b1:decide ((0:Int)<(b1.length:Int)+1)=true:=decide_eq_true z3_b1
        go_quiet (fail)
        go_upto_region 6 with (fail)
        have RV:Hid (RuB (wr.drewN nq) w.heap.size v acc):=Lib.hid (IH.out.rv.ab (bel_dN (Below.refl wr.heap.size wr) nq))
        have HM:Hid (∀W,Fr (wr.drewN nq) W (fun k=>v.ownBlock=some k)→Below w.heap.size w W):=Lib.hid fun W hW=>HN.out W ((Fr.of (bel_dN (Below.refl wr.heap.size wr) nq) _).tr hW)
        obtain⟨wy,hwy⟩:∃wy,wr.drewN nq=wy:=⟨_,rfl⟩
        rw[hwy] at RV HM⊢
        clear hwy HN
        refine wp_wide5L (fun i k=>i=4∧v.ownBlock=some k) [⟨42,IsR v,[],false⟩,⟨43,IsR (.slice (some x) (a1.length+1) c),[],false⟩,⟨44,IsR (.pointer (some x)),[1],false⟩,⟨45,IsR (.agg #[.int .u32 (r.1:Int),.int .u32 (r.2:Int)]),[2],false⟩,⟨46,fun v' W=>RuB W w.heap.size v' (addR acc (r.1,r.2)),[0,3],false⟩,⟨47,IsR (.slice (some x) (a1.length+1) c),[],false⟩,⟨48,IsR (.slice (dropR2 (some x) c 1) a1.length (c-1)),[5],false⟩] [5,6] (fun _ _ _ d _ h=>by cases d <;> exact h) ?_ (by kernel_rfl) (by kernel_rfl) rfl rfl rfl ⟨?_,?_,?_,?_,?_,?_,?_,trivial⟩ ?_
        · intro li hli hl0 ol e1 e2
          simp only[List.mem_cons,List.mem_nil_iff,or_false] at hli
          rcases hli with rfl | rfl
          · injection e1 with e1
            injection e2 with e2
            subst e1 e2
            refine⟨rfl,fun a W hA hb hd=>⟨_,fun w'=>?_,rfl⟩⟩
            have h0:a.tmps[0]?.getD undef = .slice (some x) (a1.length+1) c:=(eval_get a 0).trans ((hA.eval (by simp)).trans rfl)
            go_simp
          · injection e1 with e1
            injection e2 with e2
            subst e1 e2
            refine⟨rfl,fun a W hA hb hd=>⟨_,fun w'=>?_,rfl⟩⟩
            have h1:a.tmps[47]?.getD undef = .slice (some x) (a1.length+1) c:=(eval_get a 47).trans (hd 5 (by simp) _ rfl)
            have hs:=SF.out w'
            go_simp
        · refine⟨rfl,IsR.monoF _ _,fun a W hA hb hd=>Takes.to5 (takes_plain rfl (yields_value _ ?_ rfl)) _⟩
          have h6:a.tmps[6]?.getD undef=v:=(eval_get a 6).trans ((hA.eval (by simp)).trans rfl)
          go_simp
        · refine⟨rfl,IsR.monoF _ _,fun a W hA hb hd=>Takes.to5 (takes_plain rfl (yields_value _ ?_ rfl)) _⟩
          have h0:a.tmps[0]?.getD undef = .slice (some x) (a1.length+1) c:=(eval_get a 0).trans ((hA.eval (by simp)).trans rfl)
          go_simp
        · refine⟨rfl,IsR.monoF _ _,fun a W hA hb hd=>Takes.to5 (takes_plain rfl (yields_value _ ?_ rfl)) _⟩
          have h1:a.tmps[43]?.getD undef = .slice (some x) (a1.length+1) c:=(eval_get a 43).trans (hd 1 (by simp) _ rfl)
          have h0:(0:Int)<(a1.length:Int)+1:=by omega
          go_simp
        · refine⟨rfl,IsR.monoF _ _,fun a W hA hb hd=>Takes.to5 (takes_plain rfl (yields_value _ ?_ rfl)) _⟩
          have h1:a.tmps[44]?.getD undef = .pointer (some x):=(eval_get a 44).trans (hd 2 (by simp) _ rfl)
          obtain⟨hc0,hc1⟩:=KC.out W (HM.out W (hb.imp fun k ⟨j,_,_,hj⟩=>hj))
          go_simp
        · refine⟨rfl,fun z W W1 h3 hf=>row_fr h3 hf (fun k hk ⟨j,hj,hj2,_⟩=>hj hj2),fun a W hA hb hd=>takes5_plain rfl ?_⟩
          have h1:a.tmps[42]?.getD undef=v:=(eval_get a 42).trans (hd 0 (by simp) _ rfl)
          have h2:a.tmps[45]?.getD undef = .agg #[.int .u32 (r.1:Int),.int .u32 (r.2:Int)]:=(eval_get a 45).trans (hd 3 (by simp) _ rfl)
          have hrow:RuB W w.heap.size v acc:=row_fr RV.out hb (fun k hk ⟨j,hj,hj2,_⟩=>hj hj2)
          refine .inr ⟨180,#[v,.agg #[.int .u32 (r.1:Int),.int .u32 (r.2:Int)]],by go_simp,(radd_any r.1 r.2 hrow (fun q hq=>(IH.out.bc q hq).2) UR.out.1 UR.out.2 (by have:=IH.out.ln;omega) (HM.out W (hb.imp fun k ⟨j,_,_,hj⟩=>hj)).size).mono ?_⟩
          rintro e W1 ⟨v',rfl,h3,h4⟩
          exact⟨v',rfl,h3,h4.imp fun k hk=>⟨rfl,hk⟩⟩
        · refine⟨rfl,IsR.monoF _ _,fun a W hA hb hd=>Takes.to5 (takes_plain rfl (yields_value _ ?_ rfl)) _⟩
          have h0:a.tmps[0]?.getD undef = .slice (some x) (a1.length+1) c:=(eval_get a 0).trans ((hA.eval (by simp)).trans rfl)
          go_simp
        · refine⟨rfl,IsR.monoF _ _,fun a W hA hb hd=>Takes.to5 (takes_plain rfl (yields_value _ ?_ rfl)) _⟩
          have h1:a.tmps[47]?.getD undef = .slice (some x) (a1.length+1) c:=(eval_get a 47).trans (hd 5 (by simp) _ rfl)
          have hs:=SF.out W
          go_simp
        intro vs wrn hR hb
        have hrow:RuB wrn w.heap.size (vs 46) (addR acc (r.1,r.2)):=hR 4 _ rfl
        have e0:vs 42=v:=hR 0 _ rfl
        have e1:vs 43 = .slice (some x) (a1.length+1) c:=hR 1 _ rfl
        have e2:vs 44 = .pointer (some x):=hR 2 _ rfl
        have e3:vs 45 = .agg #[.int .u32 (r.1:Int),.int .u32 (r.2:Int)]:=hR 3 _ rfl
        have e5:vs 47 = .slice (some x) (a1.length+1) c:=hR 5 _ rfl
        have e6:vs 48 = .slice (dropR2 (some x) c 1) a1.length (c-1):=hR 6 _ rfl
        simp only[List.map_cons,List.map_nil,List.foldl_cons,List.foldl_nil,List.length_cons,List.length_nil,List.drop_succ_cons,List.drop_zero,Act.put,List.setIfInBounds_toArray,List.set_cons_zero,List.set_cons_succ,e0,e1,e2,e3,e5,e6]
        have RW:=Lib.hid hrow
        have BB:=Lib.hid (HM.out wrn (hb.imp fun k ⟨j,_,hj⟩=>hj))
        generalize vs 46=q4 at *
        clear hR hb hrow e0 e1 e2 e3 e5 e6
        go_wp2_with fail
        go_roundw
        case rel=>exact⟨_,_,_,_,a1,s::b1,addR acc (r.1,r.2),{ e0:=rfl,e1:=rfl,ra:=DR.out,rb:=by simpa using IH.out.rb,rv:=RW.out,ln:=by have h1:=addR_len acc (r.1,r.2);have h2:=IH.out.ln;simp only[List.length_cons] at *;omega,ba:=fun q hq=>IH.out.ba q (by simp[hq]),bb:=IH.out.bb,bc:=addR_lt IH.out.bc UR.out,eq:=((bothN_le acc (r.1,r.2) s a1 b1 hle).symm.trans IH.out.eq),hb:=BB.out }⟩
        case measure=>simp[lenS];try omega
      · have hlei:¬(r.1:Int)≤(s.1:Int):=by omega
        have hled:decide ((r.1:Int)≤(s.1:Int))=false:=decide_eq_false hlei
        obtain⟨y,rfl,_,hcap,hcel,hdr⟩:=IH.out.rb.cons
        have KC:=Lib.hid hcel
        have DR:=Lib.hid hdr
        have UR:=Lib.hid (IH.out.bb s (by simp))
        have SF:Hid (∀W,_):=Lib.hid (fun W=>sl_fromR W (some y) (b1.length+1) c2 1 (by omega))
        simp only[show ((1:Nat):Int)=1 from rfl,Nat.add_sub_cancel] at SF
        clear hcel hdr hcap
        obtain⟨x,rfl,_,hcap2,hcel,_⟩:=IH.out.ra.cons
        have c1:=(hcel wr IH.out.hb).1
        have c0:=(KC.out wr IH.out.hb).1
        clear hcel hcap2
        go_upto_region 5 with (fail)
        have z1_a1:¬(a1.length:Int)+1=0:=by omega
        have z2_a1:((a1.length:Int)+1==0)=false:=by simp;omega
        have z3_a1:(0:Int)<(a1.length:Int)+1:=by omega
        have z4_a1:decide ((a1.length:Int)+1=0)=false:=decide_eq_false z1_a1
        have z5_a1:decide ((0:Int)<(a1.length:Int)+1)=true:=decide_eq_true z3_a1
        have z1_b1:¬(b1.length:Int)+1=0:=by omega
        have z2_b1:((b1.length:Int)+1==0)=false:=by simp;omega
        have z3_b1:(0:Int)<(b1.length:Int)+1:=by omega
        have z4_b1:decide ((b1.length:Int)+1=0)=false:=decide_eq_false z1_b1
        have z5_b1:decide ((0:Int)<(b1.length:Int)+1)=true:=decide_eq_true z3_b1
        go_quiet (fail)
        go_upto_region 7 with (fail)
        have RV:Hid (RuB (wr.drewN nq) w.heap.size v acc):=Lib.hid (IH.out.rv.ab (bel_dN (Below.refl wr.heap.size wr) nq))
        have HM:Hid (∀W,Fr (wr.drewN nq) W (fun k=>v.ownBlock=some k)→Below w.heap.size w W):=Lib.hid fun W hW=>HN.out W ((Fr.of (bel_dN (Below.refl wr.heap.size wr) nq) _).tr hW)
        obtain⟨wy,hwy⟩:∃wy,wr.drewN nq=wy:=⟨_,rfl⟩
        rw[hwy] at RV HM⊢
        clear hwy HN
        refine wp_wide5L (fun i k=>i=4∧v.ownBlock=some k) [⟨49,IsR v,[],false⟩,⟨50,IsR (.slice (some y) (b1.length+1) c2),[],false⟩,⟨51,IsR (.pointer (some y)),[1],false⟩,⟨52,IsR (.agg #[.int .u32 (s.1:Int),.int .u32 (s.2:Int)]),[2],false⟩,⟨53,fun v' W=>RuB W w.heap.size v' (addR acc (s.1,s.2)),[0,3],false⟩,⟨54,IsR (.slice (some y) (b1.length+1) c2),[],false⟩,⟨55,IsR (.slice (dropR2 (some y) c2 1) b1.length (c2-1)),[5],false⟩] [5,6] (fun _ _ _ d _ h=>by cases d <;> exact h) ?_ (by kernel_rfl) (by kernel_rfl) rfl rfl rfl ⟨?_,?_,?_,?_,?_,?_,?_,trivial⟩ ?_
        · intro li hli hl0 ol e1 e2
          simp only[List.mem_cons,List.mem_nil_iff,or_false] at hli
          rcases hli with rfl | rfl
          · injection e1 with e1
            injection e2 with e2
            subst e1 e2
            refine⟨rfl,fun a W hA hb hd=>⟨_,fun w'=>?_,rfl⟩⟩
            have h1:a.tmps[1]?.getD undef = .slice (some y) (b1.length+1) c2:=(eval_get a 1).trans ((hA.eval (by simp)).trans rfl)
            go_simp
          · injection e1 with e1
            injection e2 with e2
            subst e1 e2
            refine⟨rfl,fun a W hA hb hd=>⟨_,fun w'=>?_,rfl⟩⟩
            have h1:a.tmps[54]?.getD undef = .slice (some y) (b1.length+1) c2:=(eval_get a 54).trans (hd 5 (by simp) _ rfl)
            have hs:=SF.out w'
            go_simp
        · refine⟨rfl,IsR.monoF _ _,fun a W hA hb hd=>Takes.to5 (takes_plain rfl (yields_value _ ?_ rfl)) _⟩
          have h6:a.tmps[6]?.getD undef=v:=(eval_get a 6).trans ((hA.eval (by simp)).trans rfl)
          go_simp
        · refine⟨rfl,IsR.monoF _ _,fun a W hA hb hd=>Takes.to5 (takes_plain rfl (yields_value _ ?_ rfl)) _⟩
          have h1:a.tmps[1]?.getD undef = .slice (some y) (b1.length+1) c2:=(eval_get a 1).trans ((hA.eval (by simp)).trans rfl)
          go_simp
        · refine⟨rfl,IsR.monoF _ _,fun a W hA hb hd=>Takes.to5 (takes_plain rfl (yields_value _ ?_ rfl)) _⟩
          have h1:a.tmps[50]?.getD undef = .slice (some y) (b1.length+1) c2:=(eval_get a 50).trans (hd 1 (by simp) _ rfl)
          have h0:(0:Int)<(b1.length:Int)+1:=by omega
          go_simp
        · refine⟨rfl,IsR.monoF _ _,fun a W hA hb hd=>Takes.to5 (takes_plain rfl (yields_value _ ?_ rfl)) _⟩
          have h1:a.tmps[51]?.getD undef = .pointer (some y):=(eval_get a 51).trans (hd 2 (by simp) _ rfl)
          obtain⟨hc0,hc1⟩:=KC.out W (HM.out W (hb.imp fun k ⟨j,_,_,hj⟩=>hj))
          go_simp
        · refine⟨rfl,fun z W W1 h3 hf=>row_fr h3 hf (fun k hk ⟨j,hj,hj2,_⟩=>hj hj2),fun a W hA hb hd=>takes5_plain rfl ?_⟩
          have h1:a.tmps[49]?.getD undef=v:=(eval_get a 49).trans (hd 0 (by simp) _ rfl)
          have h2:a.tmps[52]?.getD undef = .agg #[.int .u32 (s.1:Int),.int .u32 (s.2:Int)]:=(eval_get a 52).trans (hd 3 (by simp) _ rfl)
          have hrow:RuB W w.heap.size v acc:=row_fr RV.out hb (fun k hk ⟨j,hj,hj2,_⟩=>hj hj2)
          refine .inr ⟨180,#[v,.agg #[.int .u32 (s.1:Int),.int .u32 (s.2:Int)]],by go_simp,(radd_any s.1 s.2 hrow (fun q hq=>(IH.out.bc q hq).2) UR.out.1 UR.out.2 (by have:=IH.out.ln;omega) (HM.out W (hb.imp fun k ⟨j,_,_,hj⟩=>hj)).size).mono ?_⟩
          rintro e W1 ⟨v',rfl,h3,h4⟩
          exact⟨v',rfl,h3,h4.imp fun k hk=>⟨rfl,hk⟩⟩
        · refine⟨rfl,IsR.monoF _ _,fun a W hA hb hd=>Takes.to5 (takes_plain rfl (yields_value _ ?_ rfl)) _⟩
          have h1:a.tmps[1]?.getD undef = .slice (some y) (b1.length+1) c2:=(eval_get a 1).trans ((hA.eval (by simp)).trans rfl)
          go_simp
        · refine⟨rfl,IsR.monoF _ _,fun a W hA hb hd=>Takes.to5 (takes_plain rfl (yields_value _ ?_ rfl)) _⟩
          have h1:a.tmps[54]?.getD undef = .slice (some y) (b1.length+1) c2:=(eval_get a 54).trans (hd 5 (by simp) _ rfl)
          have hs:=SF.out W
          go_simp
        intro vs wrn hR hb
        have hrow:RuB wrn w.heap.size (vs 53) (addR acc (s.1,s.2)):=hR 4 _ rfl
        have e0:vs 49=v:=hR 0 _ rfl
        have e1:vs 50 = .slice (some y) (b1.length+1) c2:=hR 1 _ rfl
        have e2:vs 51 = .pointer (some y):=hR 2 _ rfl
        have e3:vs 52 = .agg #[.int .u32 (s.1:Int),.int .u32 (s.2:Int)]:=hR 3 _ rfl
        have e5:vs 54 = .slice (some y) (b1.length+1) c2:=hR 5 _ rfl
        have e6:vs 55 = .slice (dropR2 (some y) c2 1) b1.length (c2-1):=hR 6 _ rfl
        simp only[List.map_cons,List.map_nil,List.foldl_cons,List.foldl_nil,List.length_cons,List.length_nil,List.drop_succ_cons,List.drop_zero,Act.put,List.setIfInBounds_toArray,List.set_cons_zero,List.set_cons_succ,e0,e1,e2,e3,e5,e6]
        have RW:=Lib.hid hrow
        have BB:=Lib.hid (HM.out wrn (hb.imp fun k ⟨j,_,hj⟩=>hj))
        generalize vs 53=q4 at *
        clear hR hb hrow e0 e1 e2 e3 e5 e6
        go_wp2_with fail
        go_roundw
        case rel=>exact⟨_,_,_,_,r::a1,b1,addR acc (s.1,s.2),{ e0:=rfl,e1:=rfl,ra:=by simpa using IH.out.ra,rb:=DR.out,rv:=RW.out,ln:=by have h1:=addR_len acc (s.1,s.2);have h2:=IH.out.ln;simp only[List.length_cons] at *;omega,ba:=IH.out.ba,bb:=fun q hq=>IH.out.bb q (by simp[hq]),bc:=addR_lt IH.out.bc UR.out,eq:=((bothN_gt acc r (s.1,s.2) a1 b1 hle).symm.trans IH.out.eq),hb:=BB.out }⟩
        case measure=>simp[lenS];try omega
def giveP (l:RnL) (p:Nat):RnL×Nat:=if hasR l p then ([],8) else (bothR l (mkR p (p+1)),0)
theorem rightR_one (p:Nat):rightR (mkR p (p+1))=true:=Rgt.right (Rgt.mk p (p+1))
set_option maxRecDepth 100000 in
theorem give_any {w:World} {A:Option Addr} {n c:Nat} {l:RnL} (p:Nat) (h:RnB w A n c l) (hr:rightR l=true) (hu:∀q∈l,q.1<4294967296∧q.2<4294967296) (hn:n≤10000) (hp:p<4294967295):
 Calls Tryz.prog 130 #[.slice A n c,.int .u32 (p:Int)] w fun e w'=>∃v,e = .returned (.tuple #[v,.int .i64 ((giveP l p).2:Int)])∧RuB w' w.heap.size v (giveP l p).1∧Below w.heap.size w w':=by
 have H1:=Lib.hid (has_any' A n c p l w h hr)
 have H0:=Lib.hid h
 have HP:=Lib.hid hp
 have HU:=Lib.hid hu
 have HR:=Lib.hid hr
 have HN:=Lib.hid hn
 have hpw:IntKind.u32.wrap ((p:Int)+1)=((p+1:Nat):Int):=wrap_u32 _ (by omega) (by omega)
 have hp1:¬(p:Int)=4294967295:=by omega
 have hp2:((p:Int)==4294967295)=false:=by simp;omega
 clear h hr hu hn hp
 cases hh:hasR l p with
 | true=>
   rw[hh] at H1
   have e:giveP l p=([],8):=by unfold giveP;rw[if_pos hh]
   rw[e]
   clear e hh
   go_enter Tryz.func130,Tryz.ntmps130
   go_wp2_with fail
   refine H1.out.mono ?_
   rintro e w1 ⟨rfl,hb1⟩
   go_wp2_with fail
   go_ret2
   exact⟨_,rfl,RuB.nil _ _,hb1⟩
 | false=>
   rw[hh] at H1
   have e:giveP l p=(bothR l (mkR p (p+1)),0):=by unfold giveP;rw[if_neg (by rw[hh];exact Bool.false_ne_true)]
   rw[e]
   clear e hh
   go_enter Tryz.func130,Tryz.ntmps130
   go_wp2_with fail
   refine H1.out.mono ?_
   rintro e w1 ⟨rfl,hb1⟩
   have B1:=Lib.hid hb1
   clear hb1 H1
   go_wp2_with fail
   refine (make_any p (p+1) w1).mono ?_
   rintro e w2 ⟨v,rfl,hv,hb2⟩
   obtain⟨A2,c2,rfl,hr2,_⟩:=hv.rn
   have HB:=Lib.hid (both_any (H0.out.ab (below_tr B1.out hb2 B1.out.size)) hr2 HR.out (rightR_one p) HU.out (fun q hq=>by rw[(mkR_mem hq).1];have:=HP.out;exact⟨by show p<_;omega,by show p+1<_;omega⟩) (by have:=mkR_le p (p+1);have:=HN.out;omega))
   have B2:=Lib.hid (below_tr B1.out hb2 B1.out.size)
   clear hv hb2 hr2
   go_wp2_with fail
   refine HB.out.mono ?_
   rintro e w3 ⟨v3,rfl,hv3,hb3⟩
   have V3:=Lib.hid hv3
   have B3:=Lib.hid (below_tr B2.out hb3 B2.out.size)
   have S2:=Lib.hid B2.out.size
   clear hv3 hb3 HB
   go_wp2_with fail
   go_ret2
   exact⟨_,rfl,V3.out.lower S2.out,B3.out⟩
theorem Rgt.of {l:RnL} (h:rightR l=true):Rgt l:=by
 have key:∀(d i j:Nat) (r q:Nat×Nat),j-i=d→i<j→l[i]? = some q→l[j]? = some r→q.2<r.1:=by
  intro d
  induction d using Nat.strongRecOn with
  | _ d ih=>
    intro i j r q hd hij hq hr
    by_cases h1:j=i+1
    · subst h1
      exact (right_all h (i+1) r hr).2 q (by omega) (by simpa using hq)
    · obtain⟨s,hs⟩:∃s,l[j-1]? = some s:=⟨_,List.getElem?_eq_getElem (by have:=(List.getElem?_eq_some_iff.1 hr).1;omega)⟩
      have h2:=ih (j-1-i) (by omega) i (j-1) s q rfl (by omega) hq hs
      have h3:=(right_all h (j-1) s hs).1
      have h4:=(right_all h j r hr).2 s (by omega) hs
      omega
 refine⟨List.pairwise_iff_getElem.2 fun i j hi hj hij=>key (j-i) i j _ _ rfl hij (List.getElem?_eq_getElem hi) (List.getElem?_eq_getElem hj),fun r hr=>?_⟩
 obtain⟨i,hi,e⟩:=List.getElem_of_mem hr
 exact (right_all h i r (by rw[List.getElem?_eq_getElem hi,e])).1
theorem Rgt.addR {l:RnL} {r:Nat×Nat} (h:Rgt l) (hr:r.1<r.2):Rgt (addR l r):=by
 rcases List.eq_nil_or_concat l with rfl | ⟨l0,q,rfl⟩
 · rw[addR_nil]
   exact⟨List.pairwise_singleton _ _,fun x hx=>by rw[List.mem_singleton.1 hx];exact hr⟩
 · rw[List.concat_eq_append] at h⊢
   obtain⟨h1,h2⟩:=h
   rw[List.pairwise_append] at h1
   obtain⟨p1,p2,p3⟩:=h1
   have hq:=h2 q (by simp)
   by_cases ha:r.1≤q.2
   · rw[addR_in ha]
     refine⟨List.pairwise_append.2 ⟨p1,List.pairwise_singleton _ _,fun a ha b hb=>?_⟩,fun x hx=>?_⟩
     · rw[List.mem_singleton.1 hb]
       exact p3 a ha q (by simp)
     · rcases List.mem_append.1 hx with hx | hx
       · exact h2 x (by simp[hx])
       · rw[List.mem_singleton.1 hx];show q.1<max q.2 r.2;omega
   · rw[addR_out ha]
     refine⟨List.pairwise_append.2 ⟨List.pairwise_append.2 ⟨p1,p2,p3⟩,List.pairwise_singleton _ _,fun a ha' b hb=>?_⟩,fun x hx=>?_⟩
     · rw[List.mem_singleton.1 hb]
       rcases List.mem_append.1 ha' with ha' | ha'
       · have:=p3 a ha' q (by simp);omega
       · rw[List.mem_singleton.1 ha'];omega
     · rcases List.mem_append.1 hx with hx | hx
       · exact h2 x hx
       · rw[List.mem_singleton.1 hx];exact hr
theorem bothN_rgt:∀(n:Nat) (acc a b:RnL),Rgt acc→(∀r∈a,r.1<r.2)→(∀r∈b,r.1<r.2)→Rgt (bothN n acc a b)
 | 0,acc,_,_,h,_,_=>h
 | n+1,acc,[],[],h,_,_=>h
 | n+1,acc,r::a,[],h,ha,hb=>bothN_rgt n _ a [] (h.addR (ha r (by simp))) (fun x hx=>ha x (by simp[hx])) hb
 | n+1,acc,[],s::b,h,ha,hb=>bothN_rgt n _ [] b (h.addR (hb s (by simp))) ha (fun x hx=>hb x (by simp[hx]))
 | n+1,acc,r::a,s::b,h,ha,hb=>by
   unfold bothN
   split
   · exact bothN_rgt n _ a (s::b) (h.addR (ha r (by simp))) (fun x hx=>ha x (by simp[hx])) hb
   · exact bothN_rgt n _ (r::a) b (h.addR (hb s (by simp))) ha (fun x hx=>hb x (by simp[hx]))
theorem addR_bd {l:RnL} {r:Nat×Nat} {lo hi:Nat} (h:∀q∈l,lo<q.1∧q.2≤hi) (hr:lo<r.1∧r.2≤hi):∀q∈addR l r,lo<q.1∧q.2≤hi:=by
 rcases List.eq_nil_or_concat l with rfl | ⟨l0,q,rfl⟩
 · rw[addR_nil];intro x hx;rw[List.mem_singleton.1 hx];exact hr
 · rw[List.concat_eq_append] at h⊢
   have hq:=h q (by simp)
   by_cases h1:r.1≤q.2
   · rw[addR_in h1]
     intro x hx
     rcases List.mem_append.1 hx with hx | hx
     · exact h x (by simp[hx])
     · rw[List.mem_singleton.1 hx];exact⟨hq.1,by show max q.2 r.2≤hi;omega⟩
   · rw[addR_out h1]
     intro x hx
     rcases List.mem_append.1 hx with hx | hx
     · exact h x hx
     · rw[List.mem_singleton.1 hx];exact hr
theorem bothN_bd {lo hi:Nat}:∀(n:Nat) (acc a b:RnL),(∀q∈acc,lo<q.1∧q.2≤hi)→(∀q∈a,lo<q.1∧q.2≤hi)→(∀q∈b,lo<q.1∧q.2≤hi)→∀q∈bothN n acc a b,lo<q.1∧q.2≤hi
 | 0,acc,_,_,h,_,_=>h
 | n+1,acc,[],[],h,_,_=>h
 | n+1,acc,r::a,[],h,ha,hb=>bothN_bd n _ a [] (addR_bd h (ha r (by simp))) (fun x hx=>ha x (by simp[hx])) hb
 | n+1,acc,[],s::b,h,ha,hb=>bothN_bd n _ [] b (addR_bd h (hb s (by simp))) ha (fun x hx=>hb x (by simp[hx]))
 | n+1,acc,r::a,s::b,h,ha,hb=>by
   unfold bothN
   split
   · exact bothN_bd n _ a (s::b) (addR_bd h (ha r (by simp))) (fun x hx=>ha x (by simp[hx])) hb
   · exact bothN_bd n _ (r::a) b (addR_bd h (hb s (by simp))) ha (fun x hx=>hb x (by simp[hx]))
theorem give_fr {l:RnL} {p:Nat} (h:rightR l=true) (hb:∀q∈l,1<q.1∧q.2≤4096) (hp:1<p∧p<4096):rightR (giveP l p).1=true∧(∀q∈(giveP l p).1,1<q.1∧q.2≤4096)∧(giveP l p).1.length≤4096:=by
 have key:rightR (giveP l p).1=true∧∀q∈(giveP l p).1,1<q.1∧q.2≤4096:=by
  unfold giveP
  split
  · exact⟨rfl,fun q hq=>by cases hq⟩
  · refine⟨(bothN_rgt _ _ _ _ Rgt.nil (Rgt.of h).2 (Rgt.mk p (p+1)).2).right,bothN_bd _ _ _ _ (fun q hq=>by cases hq) hb (fun q hq=>?_)⟩
    rw[(mkR_mem hq).1]
    exact⟨hp.1,by show p+1≤4096;omega⟩
 exact⟨key.1,key.2,rnl_num key.1 fun q hq=>(key.2 q hq).2⟩
def relT (T:PgP) (n:Nat):PgP:={ T with fr:=(giveP T.fr n).1,kn:=T.kn.filter fun q=>!decide (q.1=n) }
set_option maxRecDepth 100000 in
theorem release_any {w:World} {O:Tgm} {p d rg lg:Nat} {T:PgP} (n:Nat) (h:PgM w O p d rg lg T) (hn:1<n∧n<4096):
 Calls Tryz.prog 70 #[.pointer (some ⟨p,0,none⟩),.int .u32 (n:Int)] w fun e w'=>(∃v,e = .returned v)∧∃O',PgM w' O' p d rg lg (relT T n)∧Wr (fun τ=>τ=(p,1)∨τ=(p,2)) w O w' O':=by
 obtain⟨b,hN,rfl,rfl,rfl⟩:=h
 obtain⟨A,c,hfv,hr,_⟩:=hN.free.rn
 have HG:=Lib.hid (give_any n hr hN.rgt (fun q hq=>by have h1:=hN.okr q hq;have h2:=(Rgt.of hN.rgt).2 q hq;omega) (by have:=hN.num;omega) (by omega))
 have c3:w.cell? ⟨p,3,none⟩=some (.slice A T.fr.length c):=by rw[←hfv];exact CbB.cell hN.box (k:=3) rfl
 have GF:=Lib.hid (give_fr hN.rgt hN.okr hn)
 have HN:=Lib.hid hN
 have H2:=Lib.hid hn
 obtain⟨m,hm⟩:∃m,T.fr.length=m:=⟨_,rfl⟩
 rw[hm] at HG c3
 clear hN hfv hr hn hm
 go_enter Tryz.func70,Tryz.ntmps70
 go_wp2_with fail
 refine HG.out.mono ?_
 rintro e w1 ⟨v,rfl,hv,hb⟩
 obtain⟨A1,c1,rfl,_,_⟩:=hv.rn
 obtain⟨m1,hm1⟩:∃m1,List.length (giveP T.fr n).1=m1:=⟨_,rfl⟩
 rw[hm1] at hv⊢
 have n1:=HN.out.wr (Wr.cut hb (fun _=>False)) (fun _=>id) id
 have t1:Wr (fun τ=>τ=(p,1)) w O w1 (cutO O w.heap.size):=Wr.cut hb _
 have tg:∀k,(Value.slice A1 m1 c1).ownBlock=some k→cutO O w.heap.size k=(0,0):=fun k hk=>cutO_at (own_ge9 hv k hk)
 obtain⟨O1,hO1⟩:∃O1,cutO O w.heap.size=O1:=⟨_,rfl⟩
 rw[hO1] at n1 t1 tg
 have f3:=CbB.free n1.box 3
 have q3:w1.cell? ⟨p,3,none⟩=some (.slice A m c):=by rw[←c3];exact World.cell?_of_block (hb.block p (CbB.lt HN.out.box))
 have N1:=Lib.hid n1
 have T1:=Lib.hid t1
 have TG:=Lib.hid tg
 have HV:=Lib.hid hv
 have M1:=Lib.hid hm1
 clear n1 t1 tg hO1 hb hv hm1 c3 HG
 go_upto_region 1 with (fail)
 have hge:∀q,(Value.slice A1 m1 c1).ownBlock=some q→w.heap.size≤q:=fun q hq=>own_ge9 HV.out q hq
 have hp3:p<w.heap.size:=CbB.lt HN.out.box
 have w34:Wr (fun τ=>τ=(p,1)) w1 O1 (w1.setCell ⟨p,3,none⟩ (.slice A1 m1 c1)) O1:=⟨(fr_setD w1 p 3 (.slice A1 m1 c1)).imp fun q hq=>by rw[hq];exact N1.out.tb,fun _ _=>rfl⟩
 have n4:PgN (w1.setCell ⟨p,3,none⟩ (.slice A1 m1 c1)) O1 p { b with fv:=.slice A1 m1 c1 } { T with fr:=(giveP T.fr n).1 }:=N1.out.upd w34 (CbB.set N1.out.box 3 _) (by
  have hz:=HV.out
  unfold RuB at hz⊢
  exact row_fr (row_low hz (Nat.zero_le _)) (fr_setD w1 p 3 (.slice A1 m1 c1)) (fun k hk e=>by have:=hge k hk;omega)) TG.out rfl rfl rfl rfl rfl GF.out.1 GF.out.2.1 GF.out.2.2 N1.out.cmo id
 have t4:=T1.out.tr w34
 obtain⟨w4,hw4⟩:∃w4,w1.setCell ⟨p,3,none⟩ (.slice A1 m1 c1)=w4:=⟨_,rfl⟩
 rw[hw4] at n4 t4⊢
 obtain⟨vs,mk,kv⟩:=n4.kn
 have c4:w4.cell? ⟨p,4,none⟩=some (.map (some b.kn)):=CbB.cell n4.box (k:=4) rfl
 have N4:=Lib.hid n4
 have T4:=Lib.hid t4
 have MK:=Lib.hid mk
 have KV:=Lib.hid kv
 have OK:Hid (u32Okp n):=Lib.hid (by have:=H2.out;unfold u32Okp;omega)
 clear hw4 n4 t4 mk kv w34 hge hp3 f3 q3
 go_wp2_with (first
  | (refine wpList_mapDel rfl (.tmp 19) (.tmp 20) rfl u32p_K Tryz.underlying133 rfl MK.out n OK.out rfl ?_
     intro w5 h5 g5 s5 _
     have H5:=Lib.hid h5
     have G5:=Lib.hid g5
     clear h5 g5 s5))
 first
  | ((try simp only[Exit.inBlock,Exit.then]);refine bodyPost_ret (results_none rfl _ _ _) rfl ?_)
  | ((try simp only[Exit.inBlock,Exit.then]);refine bodyPost_end (results_none rfl _ _ _) rfl ?_)
 have hp:=N4.out.pos
 have s:Wr (fun t=>t=(p,2)) w4 O1 w5 O1:=Wr.grown G5.out N4.out.tk
 have f0:¬((0:Nat),(0:Nat))=(p,2):=fun e=>by injection e with e;omega
 refine⟨⟨_,rfl⟩,O1,⟨_,N4.out.setKn s ⟨_,H5.out,KnV.drop n (KV.out.wr s f0)⟩,rfl,rfl,rfl⟩,(T4.out.imp fun _ h=>Or.inl h).tr (s.imp fun _ h=>Or.inr h)⟩
theorem zero_bo9 (w:World):(zeroValue 4).run Tryz.prog w = .ok (.bool false) w:=by kernel_rfl
set_option maxRecDepth 100000 in
theorem drop_new {w:World} {O:Tgm} {p d rg lg:Nat} {T:PgP} (n cm gn:Nat) (h:PgM w O p d rg lg T) {D:DvS} (hD:DvM w O d D) (hf:T.fa=false) (ho:T.cm≠0∧T.fl=false) (hn:1<n∧n<D.n∧n<4096) (hw:lookL n T.wa=none) (hfr:hasR T.fr n=false) (hp:lookL n T.pu=none):
 Calls Tryz.prog 26 #[.pointer (some ⟨p,0,none⟩),.agg #[.int .u32 (n:Int),.int .u64 (cm:Int),.int .u16 (gn:Int)]] w fun e w'=>∃O',e = .returned (.int .i64 0)∧PgM w' O' p d rg lg { T with wa:=putL n (.bool true) T.wa,dr:=putL n (.bool true) T.dr }∧Wr (fun τ=>τ.1=p) w O w' O':=by
 obtain⟨b,hN,hbd,rfl,rfl⟩:=h
 have N0:=Lib.hid fun W (hW:Below w.heap.size w W)=>hN.wr (Wr.cut (O:=O) hW (fun _=>False)) (fun _=>id) id
 have HM:=Lib.hid fun W hW=>may_any (N0.out W hW).box
 have B1:Hid (Below w.heap.size w (w.alloc (.cells #[.int .u32 (n:Int),.int .u64 (cm:Int),.int .u16 (gn:Int)] 34))):=Lib.hid ((Below.refl _ _).alloc (Nat.le_refl _) _)
 have K1:Hid (CbB (w.alloc (.cells #[.int .u32 (n:Int),.int .u64 (cm:Int),.int .u16 (gn:Int)] 34)) w.heap.size 34 #[.int .u32 (n:Int),.int .u64 (cm:Int),.int .u16 (gn:Int)]):=Lib.hid (CbB.new _ _ _)
 rw[show mayP (pcS b T)=0 from by unfold mayP pcS;rw[hf];rfl] at HM
 have HO:=Lib.hid fun W hW=>open_any (N0.out W hW).box
 rw[show openB (pcS b T)=true from by unfold openB pcS;rw[ho.2,decide_eq_false ho.1];rfl] at HO
 have HH:Hid (∀W,Below w.heap.size w W→Calls Tryz.prog 68 #[.pointer (some ⟨p,0,none⟩),.int .u32 (n:Int)] W fun e w'=>e = .returned (.bool true)∧W=w'):=Lib.hid fun W hW=>by
  obtain⟨g1,g2,wv,k1,_⟩:=hD.wr (Wr.cut (O:=O) hW (fun _=>False)) id
  rw[←hbd] at k1
  refine (phas_any n (by omega) (N0.out W hW).box k1).mono ?_
  rw[decide_eq_true hn.1,decide_eq_true hn.2.1]
  exact fun _ _ h=>h
 have OK:Hid (u32Okp n):=Lib.hid (by unfold u32Okp;omega)
 have hlk:(Instr.lookup 134 (.map (some b.mw)) (.int .u32 (n:Int)) false).run Tryz.prog (w.alloc (.cells #[.int .u32 (n:Int),.int .u64 (cm:Int),.int .u16 (gn:Int)] 34)) = .ok (.bool false) (w.alloc (.cells #[.int .u32 (n:Int),.int .u64 (cm:Int),.int .u16 (gn:Int)] 34)):=(N0.out _ B1.out).wa.look_none u32p_K Tryz.underlying134 OK.out hw (zero_bo9 _) false
 have HF:=Lib.hid (isFree_any n (N0.out _ B1.out))
 rw[hfr] at HF
 obtain⟨av,hav⟩:=(hN.opn ho.1).1
 obtain⟨dv,hdv⟩:=(hN.opn ho.1).2
 have HAV:=Lib.hid hav
 have HDV:=Lib.hid hdv
 have HN:=Lib.hid hN
 have HP:=Lib.hid hp
 have HBD:=Lib.hid hbd
 clear hN hD hf ho hn hw hbd hfr hp hav hdv
 go_enter Tryz.func26,Tryz.ntmps26
 go_wp2_with fail
 refine (HM.out _ B1.out).mono ?_
 rintro e w1 ⟨rfl,rfl⟩
 go_wp2_with fail
 refine (HO.out _ B1.out).mono ?_
 rintro e w1 ⟨rfl,rfl⟩
 have k0:=K1.out.cell (k:=0) rfl
 go_wp2_with fail
 refine (HH.out _ B1.out).mono ?_
 rintro e w1 ⟨rfl,rfl⟩
 have c5:(w.alloc (.cells #[.int .u32 (n:Int),.int .u64 (cm:Int),.int .u16 (gn:Int)] 34)).cell? ⟨p,5,none⟩=some (.map (some b.mw)):=CbB.cell (N0.out _ B1.out).box (k:=5) rfl
 go_wp2_with fail
 refine HF.out.mono ?_
 rintro e w2 ⟨rfl,hb2⟩
 have n2:=N0.out _ (below_tr B1.out hb2 B1.out.size)
 have t2:Wr (fun τ=>τ.1=p) w O w2 (cutO O w.heap.size):=Wr.cut (below_tr B1.out hb2 B1.out.size) _
 obtain⟨O2,hO2⟩:∃O2,cutO O w.heap.size=O2:=⟨_,rfl⟩
 rw[hO2] at n2 t2
 have N2:=Lib.hid n2
 have T2:=Lib.hid t2
 have c6:w2.cell? ⟨p,6,none⟩=some (.map (some av)):=by rw[←HAV.out];exact CbB.cell n2.box (k:=6) rfl
 have d5:w2.cell? ⟨p,5,none⟩=some (.map (some b.mw)):=CbB.cell n2.box (k:=5) rfl
 have hl2:(Instr.lookup 134 (.map (some av)) (.int .u32 (n:Int)) false).run Tryz.prog w2 = .ok (.bool false) w2:=(n2.puB HAV.out).1.look_none u32p_K Tryz.underlying134 OK.out HP.out (zero_bo9 _) false
 clear n2 t2 hO2 hb2 HF HM HO HH K1 k0 c5 hlk
 go_wp2_with (first
  | (refine wpList_mapPut rfl (.tmp 52) (.tmp 53) (.const (.bool true)) rfl u32p_K Tryz.underlying134 rfl N2.out.wa n OK.out rfl (.bool true) rfl ?_
     intro w3 h3 g3 s3 _
     have H3:=Lib.hid h3
     have G3:=Lib.hid g3
     clear h3 g3 s3
     have s3:Wr (fun t=>t=(p,3)) w2 O2 w3 O2:=Wr.grown G3.out N2.out.tw
     have n3:=N2.out.setWa s3 H3.out
     have c7:w3.cell? ⟨p,7,none⟩=some (.map (some dv)):=by rw[←HDV.out];exact CbB.cell n3.box (k:=7) rfl
     have N3:=Lib.hid n3
     have T3:=Lib.hid (T2.out.tr (s3.imp fun t ht=>by rw[ht]))
     clear n3 s3)
  | (refine wpList_mapPut rfl (.tmp 57) (.tmp 58) (.const (.bool true)) rfl u32p_K Tryz.underlying134 rfl (N3.out.drB HDV.out).1 n OK.out rfl (.bool true) rfl ?_
     intro w4 h4 g4 s4 _
     have H4:=Lib.hid h4
     have G4:=Lib.hid g4
     clear h4 g4 s4))
 go_ret
 have s4:Wr (fun t=>t=(p,5)) w3 O2 w4 O2:=Wr.grown G4.out (N3.out.drB HDV.out).2
 exact⟨rfl,O2,⟨_,N3.out.setDr s4 HDV.out H4.out (N3.out.drB HDV.out).2,HBD.out,rfl,rfl⟩,T3.out.tr (s4.imp fun t ht=>by rw[ht])⟩
end Go.Proofs.YtlobgddnlnffbaaGreat
