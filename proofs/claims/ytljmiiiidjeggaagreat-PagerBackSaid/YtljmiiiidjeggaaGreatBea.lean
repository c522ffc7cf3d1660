/-
  Parts of the proof, joined.
-/
import Derived.Test.YtljmiiiidjeggaaGreatBdl
import Derived.Test.YtljmiiiidjeggaaGreatBdx
import Derived.Test.YtljmiiiidjeggaaGreatBdw
import Derived.Deep.AppendLies
import Derived.Laws.OwnMore
import Derived.BigQuiet
import Derived.Test.YtljmiiiidjeggaaGreatBdz
import Derived.Lib.MinMax
namespace Go.Proofs.YtljmiiiidjeggaaGreat
set_option maxHeartbeats 4000000
open Go.RowKit
set_option linter.unusedVariables false
set_option linter.unusedSimpArgs false
def addR (l:RnL) (r:Nat×Nat):RnL:=match l.getLast? with
 | some q=>if r.1≤q.2 then l.dropLast++[(q.1,max q.2 r.2)] else l++[r]
 | none=>[r]
theorem addR_nil (r:Nat×Nat):addR [] r=[r]:=rfl
theorem addR_in {l:RnL} {q r:Nat×Nat} (h:r.1≤q.2):addR (l++[q]) r=l++[(q.1,max q.2 r.2)]:=by
 unfold addR
 rw[List.getLast?_concat]
 simp only
 rw[if_pos h,List.dropLast_concat]
theorem addR_out {l:RnL} {q r:Nat×Nat} (h:¬r.1≤q.2):addR (l++[q]) r=l++[q]++[r]:=by
 unfold addR
 rw[List.getLast?_concat]
 simp only
 rw[if_neg h]
theorem runVs_max (l:RnL) (q:Nat×Nat) (m:Nat):(runVs (l++[q])).set (l.length*2+1) (.int .u32 (m:Int))=runVs (l++[(q.1,m)]):=by
 rw[runVs_app,runVs_app,List.set_append,if_neg (by rw[runVs_len];omega),runVs_len,show l.length*2+1-l.length*2=1 from by omega]
 rfl
theorem addR_len (l:RnL) (r:Nat×Nat):(addR l r).length≤l.length+1:=by
 rcases List.eq_nil_or_concat l with rfl | ⟨l0,q,rfl⟩
 · rw[addR_nil];simp
 · rw[List.concat_eq_append]
   by_cases h:r.1≤q.2
   · rw[addR_in h];simp
   · rw[addR_out h];simp
theorem addR_lt {l:RnL} {r:Nat×Nat} {N:Nat} (h:∀q∈l,q.1<N∧q.2<N) (hr:r.1<N∧r.2<N):∀q∈addR l r,q.1<N∧q.2<N:=by
 rcases List.eq_nil_or_concat l with rfl | ⟨l0,q,rfl⟩
 · rw[addR_nil];intro x hx;rw[List.mem_singleton.1 hx];exact hr
 · rw[List.concat_eq_append] at h⊢
   have hq:=h q (by simp)
   by_cases h1:r.1≤q.2
   · rw[addR_in h1]
     intro x hx
     rcases List.mem_append.1 hx with hx | hx
     · exact h x (by simp[hx])
     · rw[List.mem_singleton.1 hx];exact⟨hq.1,by show max q.2 r.2<N;omega⟩
   · rw[addR_out h1]
     intro x hx
     rcases List.mem_append.1 hx with hx | hx
     · exact h x hx
     · rw[List.mem_singleton.1 hx];exact hr
set_option maxRecDepth 100000 in
theorem radd_any {w:World} {B:Nat} {v:Value} {l:RnL} (a b:Nat) (h:RuB w B v l) (hu:∀q∈l,q.2<4294967296) (ha:a<4294967296) (hb:b<4294967296) (hl:l.length≤100000) (hB:B≤w.heap.size):
 Calls Tryz.prog 162 #[v,.agg #[.int .u32 (a:Int),.int .u32 (b:Int)]] w fun e w'=>∃v',e = .returned v'∧RuB w' B v' (addR l (a,b))∧Fr w w' (fun k=>v.ownBlock=some k):=by
 have A0:Hid (Below w.heap.size w (w.alloc (.cells #[.int .u32 (a:Int),.int .u32 (b:Int)] 33))):=Lib.hid ((Below.refl _ _).alloc (Nat.le_refl _) _)
 have R1:=Lib.hid (h.ab A0.out)
 have CX:Hid (∀W,Below (w.alloc (.cells #[.int .u32 (a:Int),.int .u32 (b:Int)] 33)).heap.size (w.alloc (.cells #[.int .u32 (a:Int),.int .u32 (b:Int)] 33)) W→W.cell? ⟨w.heap.size,0,none⟩=some (.int .u32 (a:Int))∧W.cell? ⟨w.heap.size,1,none⟩=some (.int .u32 (b:Int))):=Lib.hid fun W hW=>
  ⟨((CbB.new w _ _).ab hW).cell (k:=0) rfl,((CbB.new w _ _).ab hW).cell (k:=1) rfl⟩
 have SB:Hid (B≤(w.alloc (.cells #[.int .u32 (a:Int),.int .u32 (b:Int)] 33)).heap.size∧w.heap.size<(w.alloc (.cells #[.int .u32 (a:Int),.int .u32 (b:Int)] 33)).heap.size):=Lib.hid ⟨by simp;omega,by simp⟩
 have FN:Hid (∀W,Fr (w.alloc (.cells #[.int .u32 (a:Int),.int .u32 (b:Int)] 33)) W (fun k=>v.ownBlock=some k)→Fr w W (fun k=>v.ownBlock=some k)):=Lib.hid fun W hW=>(Fr.of A0.out _).tr hW
 have HL:=Lib.hid hl
 rcases List.eq_nil_or_concat l with rfl | ⟨l0,q,rfl⟩
 · obtain⟨A,c,rfl,hr,_⟩:=h.rn
   have H9:=Lib.hid h
   clear h hu hl hr
   go_enter Tryz.func162,Tryz.ntmps162
   go_wp2_with fail
   go_quiet (fail)
   obtain⟨w1,hw1⟩:∃w1,w.alloc (.cells #[.int .u32 (a:Int),.int .u32 (b:Int)] 33)=w1:=⟨_,rfl⟩
   rw[hw1] at R1 CX SB FN⊢
   clear hw1 A0
   go_upto_region 5 with (fail)
   obtain⟨k0,k1⟩:=CX.out (w1.drewN nq) (bel_dN (Below.refl w1.heap.size w1) nq)
   have RW:=Lib.hid (R1.out.ab (bel_dN (Below.refl w1.heap.size w1) nq))
   have FW:=Lib.hid (Fr.of (F:=fun k=>Value.ownBlock (.slice A 0 c)=some k) (bel_dN (Below.refl w1.heap.size w1) nq))
   have ZW:Hid (B≤(w1.drewN nq).heap.size):=Lib.hid SB.out.1
   obtain⟨w2,hw2⟩:∃w2,w1.drewN nq=w2:=⟨_,rfl⟩
   rw[hw2] at k0 k1 RW FW ZW⊢
   have A2:Hid (Below w2.heap.size w2 (w2.alloc (.cells #[.int .u32 (a:Int),.int .u32 (b:Int)] 33))):=Lib.hid ((Below.refl _ _).alloc (Nat.le_refl _) _)
   clear hw2 CX
   obtain⟨A7,c7,h7,h8,_⟩:=(RuB.one w2 a b).rn
   injection h7 with h7a h7b h7c
   subst h7a h7c
   have H8:=Lib.hid h8
   clear h8 h7b
   go_wp2_with (first
    | (refine wpList_appR rfl (.tmp 36) (.tmp 38) rfl (RW.out.ab A2.out) rfl rfl H8.out (by have:=HL.out;simp only[List.concat_eq_append,List.length_append,List.length_cons,List.length_nil] at *;omega) (Nat.le_trans ZW.out A2.out.size) ?_
       intro v9 w9 hv9 hg9
       have V9:=Lib.hid hv9
       have F9:=Lib.hid (FN.out w9 ((FW.out.tr (Fr.of A2.out _)).tr (Fr.grown hg9)))
       clear hv9 hg9))
   go_ret
   exact⟨_,rfl,V9.out,F9.out⟩
 · rw[List.concat_eq_append] at *
   obtain⟨A,c,rfl,hr,hown⟩:=h.rn
   obtain⟨i,hi⟩:∃i,l0.length=i:=⟨_,rfl⟩
   have hlen:(l0++[q]).length=i+1:=by simp[hi]
   rw[hlen] at h hr R1 FN hown⊢
   obtain⟨x,hx,hxl,hcel⟩:=hr.at (i:=i) (r:=q) (by rw[List.getElem?_append_right (by omega),hi];simp)
   subst hx
   obtain⟨g,rfl⟩:∃g,x=⟨g,0,none⟩:=by
    obtain⟨g,c',h1,_⟩:=World.ownsRow.form h (by omega)
    injection h1 with h1 _ _
    injection h1 with h1
    exact⟨g,h1⟩
   have CQ:Hid (∀W,Below (w.alloc (.cells #[.int .u32 (a:Int),.int .u32 (b:Int)] 33)).heap.size (w.alloc (.cells #[.int .u32 (a:Int),.int .u32 (b:Int)] 33)) W→W.cell? ⟨g,i*2+1,none⟩=some (.int .u32 (q.2:Int))):=Lib.hid fun W hW=>by
    have:=(hcel W (below_tr A0.out hW A0.out.size)).2
    rw[show ({ block:=g,off:=0 }:Addr).add (i*2)=⟨g,i*2,none⟩ from by unfold Addr.add;split <;> simp_all] at this
    exact this
   have HQ:Hid (q.2<4294967296):=Lib.hid (hu q (by simp))
   have HI:=Lib.hid hi
   have hl2:i+1≤100000:=by have:=HL.out;rw[List.length_append,HI.out] at this;exact this
   have hib:(i:Int)≤99999:=by omega
   have hi0:(0:Int)≤(i:Int):=by omega
   have hlti:(i:Int)<((i+1:Nat):Int):=by omega
   have hnb:(0:Int)<((i+1:Nat):Int):=by omega
   have hwi:IntKind.i64.wrap (i:Int)=(i:Int):=wrap_i64P (by omega) (by omega)
   have H9:=Lib.hid h
   have c2:=CQ.out _ (Below.refl _ _)
   obtain⟨c0,c1⟩:=CX.out _ (Below.refl _ _)
   have HMX:Hid (max (q.2:Int) (b:Int)=((max q.2 b:Nat):Int)):=Lib.hid (by omega)
   clear h hu hl hr hown hlen hxl hcel hl2 hi
   by_cases hqa:a≤q.2
   · have hqi:(a:Int)≤(q.2:Int):=by omega
     go_enter Tryz.func162,Tryz.ntmps162
     go_wp2_with fail
     go_quiet (fail)
     go_upto_region 3 with (fail)
     have BW:Below (w.alloc (.cells #[.int .u32 (a:Int),.int .u32 (b:Int)] 33)).heap.size (w.alloc (.cells #[.int .u32 (a:Int),.int .u32 (b:Int)] 33)) ((w.alloc (.cells #[.int .u32 (a:Int),.int .u32 (b:Int)] 33)).drewN nq):=bel_dN (Below.refl _ _) nq
     have RW:=Lib.hid (R1.out.ab BW)
     have CV:Hid (∀W,Below ((w.alloc (.cells #[.int .u32 (a:Int),.int .u32 (b:Int)] 33)).drewN nq).heap.size ((w.alloc (.cells #[.int .u32 (a:Int),.int .u32 (b:Int)] 33)).drewN nq) W→W.cell? ⟨g,i*2+1,none⟩=some (.int .u32 (q.2:Int))∧W.cell? ⟨w.heap.size,1,none⟩=some (.int .u32 (b:Int))):=Lib.hid fun W hW=>⟨CQ.out W (below_tr BW hW (Nat.le_refl _)),(CX.out W (below_tr BW hW (Nat.le_refl _))).2⟩
     have FW:=Lib.hid (Fr.of (F:=fun k=>Value.ownBlock (.slice (some ⟨g,0,none⟩) (i+1) c)=some k) BW)
     obtain⟨w1,hw1⟩:∃w1,(w.alloc (.cells #[.int .u32 (a:Int),.int .u32 (b:Int)] 33)).drewN nq=w1:=⟨_,rfl⟩
     rw[hw1] at RW CV FW⊢
     clear hw1 BW c0 c1 c2 CX CQ
     refine wp_wide3 [⟨21,IsR (.slice (some ⟨g,0,none⟩) (i+1) c),[],false⟩,⟨22,IsR (.int .i64 ((i+1:Nat):Int)),[],false⟩,⟨23,IsR (.int .i64 (i:Int)),[1],false⟩,⟨24,IsR (.slice (some ⟨g,0,none⟩) (i+1) c),[],false⟩,⟨25,IsR (.int .i64 ((i+1:Nat):Int)),[],false⟩,⟨26,IsR (.int .i64 (i:Int)),[4],false⟩,⟨27,IsR (.pointer (some ⟨g,i*2,none⟩)),[3,5],false⟩,⟨28,IsR (.pointer (some ⟨g,i*2+1,none⟩)),[6],false⟩,⟨29,IsR (.int .u32 (q.2:Int)),[7],false⟩,⟨30,IsR (.pointer (some ⟨w.heap.size,1,none⟩)),[],false⟩,⟨31,IsR (.int .u32 (b:Int)),[9],false⟩,⟨32,IsR (.int .u32 ((max q.2 b:Nat):Int)),[8,10],false⟩,⟨33,IsR (.pointer (some ⟨g,i*2,none⟩)),[0,2],false⟩,⟨34,IsR (.pointer (some ⟨g,i*2+1,none⟩)),[12],false⟩] (by kernel_rfl) (by kernel_rfl) rfl rfl rfl ⟨?_,?_,?_,?_,?_,?_,?_,?_,?_,?_,?_,?_,?_,?_,trivial⟩ ?_
     · refine⟨rfl,IsR.mono _,fun a W hA hb hd=>takes_plain rfl (yields_value _ ?_ rfl)⟩
       have h0:a.tmps[0]?.getD undef = .slice (some ⟨g,0,none⟩) (i+1) c:=(eval_get a 0).trans ((hA.eval (by simp)).trans rfl)
       go_simp
     · refine⟨rfl,IsR.mono _,fun a W hA hb hd=>takes_plain rfl (yields_value _ ?_ rfl)⟩
       have h5:a.tmps[5]?.getD undef = .int .i64 ((i+1:Nat):Int):=(eval_get a 5).trans ((hA.eval (by simp)).trans rfl)
       go_simp
     · refine⟨rfl,IsR.mono _,fun a W hA hb hd=>takes_plain rfl (yields_value _ ?_ rfl)⟩
       have h22:a.tmps[22]?.getD undef = .int .i64 ((i+1:Nat):Int):=(eval_get a 22).trans (hd 1 (by simp) _ rfl)
       have hw:=hwi
       go_simp
     · refine⟨rfl,IsR.mono _,fun a W hA hb hd=>takes_plain rfl (yields_value _ ?_ rfl)⟩
       have h0:a.tmps[0]?.getD undef = .slice (some ⟨g,0,none⟩) (i+1) c:=(eval_get a 0).trans ((hA.eval (by simp)).trans rfl)
       go_simp
     · refine⟨rfl,IsR.mono _,fun a W hA hb hd=>takes_plain rfl (yields_value _ ?_ rfl)⟩
       have h5:a.tmps[5]?.getD undef = .int .i64 ((i+1:Nat):Int):=(eval_get a 5).trans ((hA.eval (by simp)).trans rfl)
       go_simp
     · refine⟨rfl,IsR.mono _,fun a W hA hb hd=>takes_plain rfl (yields_value _ ?_ rfl)⟩
       have h25:a.tmps[25]?.getD undef = .int .i64 ((i+1:Nat):Int):=(eval_get a 25).trans (hd 4 (by simp) _ rfl)
       have hw:=hwi
       go_simp
     · refine⟨rfl,IsR.mono _,fun a W hA hb hd=>takes_plain rfl ?_⟩
       refine yields_value (.pointer (some ⟨g,i*2,none⟩)) ?_ rfl
       have h24:a.tmps[24]?.getD undef = .slice (some ⟨g,0,none⟩) (i+1) c:=(eval_get a 24).trans (hd 3 (by simp) _ rfl)
       have h26:a.tmps[26]?.getD undef = .int .i64 (i:Int):=(eval_get a 26).trans (hd 5 (by simp) _ rfl)
       have h0:=hi0
       go_simp
       intro hx
       omega
     · refine⟨rfl,IsR.mono _,fun a W hA hb hd=>takes_plain rfl (yields_value _ ?_ rfl)⟩
       have h27:a.tmps[27]?.getD undef = .pointer (some ⟨g,i*2,none⟩):=(eval_get a 27).trans (hd 6 (by simp) _ rfl)
       go_simp
     · refine⟨rfl,IsR.mono _,fun a W hA hb hd=>takes_plain rfl (yields_value _ ?_ rfl)⟩
       have h28:a.tmps[28]?.getD undef = .pointer (some ⟨g,i*2+1,none⟩):=(eval_get a 28).trans (hd 7 (by simp) _ rfl)
       have hc:=(CV.out W hb).1
       go_simp
     · refine⟨rfl,IsR.mono _,fun a W hA hb hd=>takes_plain rfl (yields_value _ ?_ rfl)⟩
       have h3:a.tmps[3]?.getD undef = .pointer (some ⟨w.heap.size,0,none⟩):=(eval_get a 3).trans ((hA.eval (by simp)).trans rfl)
       go_simp
     · refine⟨rfl,IsR.mono _,fun a W hA hb hd=>takes_plain rfl (yields_value _ ?_ rfl)⟩
       have h30:a.tmps[30]?.getD undef = .pointer (some ⟨w.heap.size,1,none⟩):=(eval_get a 30).trans (hd 9 (by simp) _ rfl)
       have hc:=(CV.out W hb).2
       go_simp
     · refine⟨rfl,IsR.mono _,fun a W hA hb hd=>takes_plain rfl ?_⟩
       refine yields_value (.int .u32 ((max q.2 b:Nat):Int)) ?_ rfl
       have h29:a.tmps[29]?.getD undef = .int .u32 (q.2:Int):=(eval_get a 29).trans (hd 8 (by simp) _ rfl)
       have h31:a.tmps[31]?.getD undef = .int .u32 (b:Int):=(eval_get a 31).trans (hd 10 (by simp) _ rfl)
       go_simp
       exact HMX.out
     · refine⟨rfl,IsR.mono _,fun a W hA hb hd=>takes_plain rfl ?_⟩
       refine yields_value (.pointer (some ⟨g,i*2,none⟩)) ?_ rfl
       have h21:a.tmps[21]?.getD undef = .slice (some ⟨g,0,none⟩) (i+1) c:=(eval_get a 21).trans (hd 0 (by simp) _ rfl)
       have h23:a.tmps[23]?.getD undef = .int .i64 (i:Int):=(eval_get a 23).trans (hd 2 (by simp) _ rfl)
       have h0:=hi0
       go_simp
       intro hx
       omega
     · refine⟨rfl,IsR.mono _,fun a W hA hb hd=>takes_plain rfl (yields_value _ ?_ rfl)⟩
       have h33:a.tmps[33]?.getD undef = .pointer (some ⟨g,i*2,none⟩):=(eval_get a 33).trans (hd 12 (by simp) _ rfl)
       go_simp
     intro vs w2 hR hF hb
     have e21:vs 21 = .slice (some ⟨g,0,none⟩) (i+1) c:=hR 0 _ rfl
     have e22:vs 22 = .int .i64 ((i+1:Nat):Int):=hR 1 _ rfl
     have e23:vs 23 = .int .i64 (i:Int):=hR 2 _ rfl
     have e24:vs 24 = .slice (some ⟨g,0,none⟩) (i+1) c:=hR 3 _ rfl
     have e25:vs 25 = .int .i64 ((i+1:Nat):Int):=hR 4 _ rfl
     have e26:vs 26 = .int .i64 (i:Int):=hR 5 _ rfl
     have e27:vs 27 = .pointer (some ⟨g,i*2,none⟩):=hR 6 _ rfl
     have e28:vs 28 = .pointer (some ⟨g,i*2+1,none⟩):=hR 7 _ rfl
     have e29:vs 29 = .int .u32 (q.2:Int):=hR 8 _ rfl
     have e30:vs 30 = .pointer (some ⟨w.heap.size,1,none⟩):=hR 9 _ rfl
     have e31:vs 31 = .int .u32 (b:Int):=hR 10 _ rfl
     have e32:vs 32 = .int .u32 ((max q.2 b:Nat):Int):=hR 11 _ rfl
     have e33:vs 33 = .pointer (some ⟨g,i*2,none⟩):=hR 12 _ rfl
     have e34:vs 34 = .pointer (some ⟨g,i*2+1,none⟩):=hR 13 _ rfl
     simp only[List.map_cons,List.map_nil,List.foldl_cons,List.foldl_nil,List.length_cons,List.length_nil,List.drop_succ_cons,List.drop_zero,Act.put,List.setIfInBounds_toArray,List.set_cons_zero,List.set_cons_succ,e21,e22,e23,e24,e25,e26,e27,e28,e29,e30,e31,e32,e33,e34]
     have R2:=Lib.hid (RW.out.ab hb)
     have BB:=Lib.hid hb
     clear hR hF hb e21 e22 e23 e24 e25 e26 e27 e28 e29 e30 e31 e32 e33 e34
     have FX:Fr w2 (w2.setCell ⟨g,i*2+1,none⟩ (.int .u32 ((max q.2 b:Nat):Int))) (fun j=>Value.ownBlock (.slice (some ⟨g,0,none⟩) (i+1) c)=some j):=(Fr.grown (grown_cell w2 g (i*2+1) (.int .u32 ((max q.2 b:Nat):Int)))).imp fun k hk=>by injection hk with hk;rw[←hk];rfl
     have hlen:(l0++[q]).length=i+1:=by simp[HI.out]
     have R3:w2.ownsRow B 33 2 (.slice (some ⟨g,0,none⟩) (i+1) c) (i+1) (runVs (l0++[q])):=by have h9:=R2.out;unfold RuB at h9;rw[hlen] at h9;exact h9
     have RZ:=(R3.stored (i*2+1) (.int .u32 ((max q.2 b:Nat):Int))).1
     have hfz:=R3.frozenAt (i*2+1)
     have hcz:=(CV.out w2 BB.out).1
     have RN:=Lib.hid RZ
     have FN9:=Lib.hid (FN.out _ ((FW.out.tr (Fr.of BB.out _)).tr FX))
     clear FX RZ R3
     go_wp2_with fail
     go_ret
     refine⟨_,rfl,?_,FN9.out⟩
     rw[addR_in hqa]
     have h9:=RN.out
     rw[←HI.out,runVs_max,HI.out] at h9
     unfold RuB
     rw[show (l0++[(q.1,max q.2 b)]).length=i+1 from by simp[HI.out]]
     exact h9
   · have hqi:¬(a:Int)≤(q.2:Int):=by omega
     go_enter Tryz.func162,Tryz.ntmps162
     go_wp2_with fail
     go_quiet (fail)
     obtain⟨w1,hw1⟩:∃w1,w.alloc (.cells #[.int .u32 (a:Int),.int .u32 (b:Int)] 33)=w1:=⟨_,rfl⟩
     rw[hw1] at R1 CX SB FN⊢
     rw[hw1] at c0 c1 c2
     clear hw1 A0
     go_upto_region 5 with (fail)
     obtain⟨k0,k1⟩:=CX.out (w1.drewN nq) (bel_dN (Below.refl w1.heap.size w1) nq)
     have RW:=Lib.hid (R1.out.ab (bel_dN (Below.refl w1.heap.size w1) nq))
     have FW:=Lib.hid (Fr.of (F:=fun k=>Value.ownBlock (.slice (some ⟨g,0,none⟩) (i+1) c)=some k) (bel_dN (Below.refl w1.heap.size w1) nq))
     have ZW:Hid (B≤(w1.drewN nq).heap.size):=Lib.hid SB.out.1
     obtain⟨w2,hw2⟩:∃w2,w1.drewN nq=w2:=⟨_,rfl⟩
     rw[hw2] at k0 k1 RW FW ZW⊢
     have A2:Hid (Below w2.heap.size w2 (w2.alloc (.cells #[.int .u32 (a:Int),.int .u32 (b:Int)] 33))):=Lib.hid ((Below.refl _ _).alloc (Nat.le_refl _) _)
     clear hw2 CX
     obtain⟨A7,c7,h7,h8,_⟩:=(RuB.one w2 a b).rn
     injection h7 with h7a h7b h7c
     subst h7a h7c
     have H8:=Lib.hid h8
     clear h8 h7b
     go_wp2_with (first
      | (refine wpList_appR rfl (.tmp 36) (.tmp 38) rfl (RW.out.ab A2.out) rfl rfl H8.out (by have:=HL.out;simp only[List.concat_eq_append,List.length_append,List.length_cons,List.length_nil] at *;omega) (Nat.le_trans ZW.out A2.out.size) ?_
         intro v9 w9 hv9 hg9
         have V9:=Lib.hid hv9
         have F9:=Lib.hid (FN.out w9 ((FW.out.tr (Fr.of A2.out _)).tr (Fr.grown hg9)))
         clear hv9 hg9))
     go_ret
     exact⟨_,rfl,by rw[addR_out (by simpa using hqa)];exact V9.out,F9.out⟩
def bothN:Nat→RnL→RnL→RnL→RnL
 | 0,acc,_,_=>acc
 | _+1,acc,[],[]=>acc
 | n+1,acc,r::a,[]=>bothN n (addR acc r) a []
 | n+1,acc,[],s::b=>bothN n (addR acc s) [] b
 | n+1,acc,r::a,s::b=>if r.1≤s.1 then bothN n (addR acc r) a (s::b) else bothN n (addR acc s) (r::a) b
def bothR (a b:RnL):RnL:=bothN (a.length+b.length) [] a b
theorem bothN_end (n:Nat) (acc:RnL):bothN n acc [] []=acc:=by cases n <;> rfl
theorem bothN_l (acc:RnL) (r:Nat×Nat) (a:RnL):bothN ((r::a).length+([]:RnL).length) acc (r::a) []=bothN (a.length+([]:RnL).length) (addR acc r) a []:=rfl
theorem bothN_r (acc:RnL) (s:Nat×Nat) (b:RnL):bothN (([]:RnL).length+(s::b).length) acc [] (s::b)=bothN (([]:RnL).length+b.length) (addR acc s) [] b:=by
 rw[show ([]:RnL).length+(s::b).length=(([]:RnL).length+b.length)+1 from by simp];rfl
theorem bothN_le (acc:RnL) (r s:Nat×Nat) (a b:RnL) (h:r.1≤s.1):bothN ((r::a).length+(s::b).length) acc (r::a) (s::b)=bothN (a.length+(s::b).length) (addR acc r) a (s::b):=by
 rw[show (r::a).length+(s::b).length=(a.length+(s::b).length)+1 from by simp;omega]
 simp only[bothN]
 rw[if_pos h]
theorem bothN_gt (acc:RnL) (r s:Nat×Nat) (a b:RnL) (h:¬r.1≤s.1):bothN ((r::a).length+(s::b).length) acc (r::a) (s::b)=bothN ((r::a).length+b.length) (addR acc s) (r::a) b:=by
 rw[show (r::a).length+(s::b).length=((r::a).length+b.length)+1 from by simp;omega]
 simp only[bothN]
 rw[if_neg h]
def lenS (v:Value):Nat:=match v with
 | .slice _ n _=>n
 | _=>0
structure BoI (w:World) (a b:RnL) (n m:Nat) (z0 z1 z6:Value) (wr:World) (A:Option Addr) (c:Nat) (A2:Option Addr) (c2:Nat) (a1 b1 acc:RnL):Prop where
 e0:z0 = .slice A a1.length c
 e1:z1 = .slice A2 b1.length c2
 ra:RnB w A a1.length c a1
 rb:RnB w A2 b1.length c2 b1
 rv:RuB wr w.heap.size z6 acc
 ln:acc.length+a1.length+b1.length≤20000
 ba:∀q∈a1,q.1<4294967296∧q.2<4294967296
 bb:∀q∈b1,q.1<4294967296∧q.2<4294967296
 bc:∀q∈acc,q.1<4294967296∧q.2<4294967296
 eq:bothN (a1.length+b1.length) acc a1 b1=bothR a b
 hb:Below w.heap.size w wr
theorem RnB.cons {w:World} {A:Option Addr} {n c:Nat} {r:Nat×Nat} {l:RnL} (h:RnB w A n c (r::l)):∃x,A=some x∧n=l.length+1∧n≤c∧(∀W,Below w.heap.size w W→W.cell? x=some (.int .u32 (r.1:Int))∧W.cell? ⟨x.block,x.off+1,none⟩=some (.int .u32 (r.2:Int)))∧RnB w (dropR2 (some x) c 1) l.length (c-1) l:=by
 obtain⟨x,rfl,hxl,hcel⟩:=h.at (i:=0) (r:=r) rfl
 rw[show x.add (0*2)=x from by rw[Nat.zero_mul];exact addr_zero x] at hcel
 have hn:n=l.length+1:=by have:=h.len;simpa using this.symm
 have hd:=h.drop (m:=1) (by omega)
 rw[hn,Nat.add_sub_cancel] at hd
 exact⟨x,rfl,hn,h.cap,hcel,hd⟩
set_option maxRecDepth 100000 in
theorem both_any {w:World} {A A2:Option Addr} {n c m c2:Nat} {a b:RnL} (ha:RnB w A n c a) (hb:RnB w A2 m c2 b) (ra:rightR a=true) (rb:rightR b=true) (ua:∀q∈a,q.1<4294967296∧q.2<4294967296) (ub:∀q∈b,q.1<4294967296∧q.2<4294967296) (hl:n+m≤20000):
 Calls Tryz.prog 130 #[.slice A n c,.slice A2 m c2] w fun e w'=>∃v,e = .returned (.tuple #[v,.int .i64 0])∧RuB w' w.heap.size v (bothR a b)∧Below w.heap.size w w':=by
 obtain rfl:a.length=n:=ha.len
 obtain rfl:b.length=m:=hb.len
 have H1:=Lib.hid (right_any' A _ c a w ha)
 have H2:Hid (∀W,Below w.heap.size w W→Calls Tryz.prog 48 #[.slice A2 b.length c2] W fun e w'=>e = .returned (.bool true)∧Below W.heap.size W w'):=Lib.hid fun W hW=>by
  have h:=right_any' A2 _ c2 b W (hb.ab hW)
  rw[rb] at h
  exact h
 rw[ra] at H1
 have I0:Hid (∀W,Below w.heap.size w W→BoI w a b a.length b.length (.slice A a.length c) (.slice A2 b.length c2) (.slice none 0 0) W A c A2 c2 a b []):=Lib.hid fun W hW=>
  ⟨rfl,rfl,ha,hb,RuB.nil _ _,by simpa using hl,ua,ub,(fun q hq=>by cases hq),rfl,hW⟩
 clear ha hb ra rb ua ub hl
 go_enter Tryz.func130,Tryz.ntmps130
 go_wp2_with fail
 refine H1.out.mono ?_
 rintro e w1 ⟨rfl,hb1⟩
 have B1:=Lib.hid hb1
 clear hb1
 go_wp2_with fail
 refine (H2.out w1 B1.out).mono ?_
 rintro e w2 ⟨rfl,hb2⟩
 have B2:=Lib.hid (below_tr B1.out hb2 B1.out.size)
 clear hb2 B1 H1 H2
 go_wp2_with fail
 go_loopw [0,1,6] (fun z0 z1 z6 wr=>∃A c A2 c2 a1 b1 acc,BoI w a b a.length b.length z0 z1 z6 wr A c A2 c2 a1 b1 acc) (fun z0 z1 _ _=>lenS z0+lenS z1)
 case atStart=>exact⟨_,_,_,_,_,_,_,I0.out w2 B2.out⟩
 case round=>
  clear I0 B2
  obtain⟨A,c,A2,c2,a1,b1,acc,hI⟩:=hrel
  obtain rfl:=hI.e0
  obtain rfl:=hI.e1
  obtain⟨A6,c6,h6,_⟩:=hI.rv.rn
  obtain⟨v,hv⟩:∃v,u6=v:=⟨_,rfl⟩
  rw[hv] at hI h6⊢
  clear hv
  have IH:=Lib.hid hI
  have HN:Hid (∀W,Fr wr W (fun k=>v.ownBlock=some k)→Below w.heap.size w W):=Lib.hid fun W hW=>Fr.below hW (fun k hk=>own_ge9 IH.out.rv k hk) IH.out.hb IH.out.hb.size
  clear hI
  cases a1 with
  | nil =>
    cases b1 with
    | nil=>
      go_wp2_with fail
      go_ret2
      refine⟨_,rfl,?_,IH.out.hb⟩
      have h9:=IH.out.rv
      rw[←IH.out.eq,bothN_end]
      exact h9
    | cons s b1=>
      obtain⟨y,rfl,_,hcap,hcel,hdr⟩:=IH.out.rb.cons
      have KC:=Lib.hid hcel
      have DR:=Lib.hid hdr
      have UR:=Lib.hid (IH.out.bb s (by simp))
      have SF:Hid (∀W,_):=Lib.hid (fun W=>sl_fromR W (some y) (b1.length+1) c2 1 (by omega))
      simp only[show ((1:Nat):Int)=1 from rfl,Nat.add_sub_cancel] at SF
      clear hcel hdr hcap
      go_upto_region 5 with (fail)
      have z1_b1:¬(b1.length:Int)+1=0:=by omega
      have z2_b1:((b1.length:Int)+1==0)=false:=by simp;omega
      have z3_b1:(0:Int)<(b1.length:Int)+1:=by omega
      have z4_b1:decide ((b1.length:Int)+1=0)=false:=decide_eq_false z1_b1
      have z5_b1:decide ((0:Int)<(b1.length:Int)+1)=true:=decide_eq_true z3_b1
      go_quiet (fail)
      go_upto_region 7 with (fail)
      have RV:Hid (RuB (wr.drewN nq) w.heap.size v acc):=Lib.hid (IH.out.rv.ab (bel_dN (Below.refl wr.heap.size wr) nq))
      have HM:Hid (∀W,Fr (wr.drewN nq) W (fun k=>v.ownBlock=some k)→Below w.heap.size w W):=Lib.hid fun W hW=>HN.out W ((Fr.of (bel_dN (Below.refl wr.heap.size wr) nq) _).tr hW)
      obtain⟨wy,hwy⟩:∃wy,wr.drewN nq=wy:=⟨_,rfl⟩
      rw[hwy] at RV HM⊢
      clear hwy HN
      refine wp_wide5L (fun i k=>i=4∧v.ownBlock=some k) [⟨49,IsR v,[],false⟩,⟨50,IsR (.slice (some y) (b1.length+1) c2),[],false⟩,⟨51,IsR (.pointer (some y)),[1],false⟩,⟨52,IsR (.agg #[.int .u32 (s.1:Int),.int .u32 (s.2:Int)]),[2],false⟩,⟨53,fun v' W=>RuB W w.heap.size v' (addR acc (s.1,s.2)),[0,3],false⟩,⟨54,IsR (.slice (some y) (b1.length+1) c2),[],false⟩,⟨55,IsR (.slice (dropR2 (some y) c2 1) b1.length (c2-1)),[5],false⟩] [5,6] (fun _ _ _ d _ h=>by cases d <;> exact h) ?_ (by kernel_rfl) (by kernel_rfl) rfl rfl rfl ⟨?_,?_,?_,?_,?_,?_,?_,trivial⟩ ?_
      · intro li hli hl0 ol e1 e2
        simp only[List.mem_cons,List.mem_nil_iff,or_false] at hli
        rcases hli with rfl | rfl
        · injection e1 with e1
          injection e2 with e2
          subst e1 e2
          refine⟨rfl,fun a W hA hb hd=>⟨_,fun w'=>?_,rfl⟩⟩
          have h1:a.tmps[1]?.getD undef = .slice (some y) (b1.length+1) c2:=(eval_get a 1).trans ((hA.eval (by simp)).trans rfl)
          go_simp
        · injection e1 with e1
          injection e2 with e2
          subst e1 e2
          refine⟨rfl,fun a W hA hb hd=>⟨_,fun w'=>?_,rfl⟩⟩
          have h1:a.tmps[54]?.getD undef = .slice (some y) (b1.length+1) c2:=(eval_get a 54).trans (hd 5 (by simp) _ rfl)
          have hs:=SF.out w'
          go_simp
      · refine⟨rfl,IsR.monoF _ _,fun a W hA hb hd=>Takes.to5 (takes_plain rfl (yields_value _ ?_ rfl)) _⟩
        have h6:a.tmps[6]?.getD undef=v:=(eval_get a 6).trans ((hA.eval (by simp)).trans rfl)
        go_simp
      · refine⟨rfl,IsR.monoF _ _,fun a W hA hb hd=>Takes.to5 (takes_plain rfl (yields_value _ ?_ rfl)) _⟩
        have h1:a.tmps[1]?.getD undef = .slice (some y) (b1.length+1) c2:=(eval_get a 1).trans ((hA.eval (by simp)).trans rfl)
        go_simp
      · refine⟨rfl,IsR.monoF _ _,fun a W hA hb hd=>Takes.to5 (takes_plain rfl (yields_value _ ?_ rfl)) _⟩
        have h1:a.tmps[50]?.getD undef = .slice (some y) (b1.length+1) c2:=(eval_get a 50).trans (hd 1 (by simp) _ rfl)
        have h0:(0:Int)<(b1.length:Int)+1:=by omega
        go_simp
      · refine⟨rfl,IsR.monoF _ _,fun a W hA hb hd=>Takes.to5 (takes_plain rfl (yields_value _ ?_ rfl)) _⟩
        have h1:a.tmps[51]?.getD undef = .pointer (some y):=(eval_get a 51).trans (hd 2 (by simp) _ rfl)
        obtain⟨hc0,hc1⟩:=KC.out W (HM.out W (hb.imp fun k ⟨j,_,_,hj⟩=>hj))
        go_simp
      · refine⟨rfl,fun z W W1 h3 hf=>row_fr h3 hf (fun k hk ⟨j,hj,hj2,_⟩=>hj hj2),fun a W hA hb hd=>takes5_plain rfl ?_⟩
        have h1:a.tmps[49]?.getD undef=v:=(eval_get a 49).trans (hd 0 (by simp) _ rfl)
        have h2:a.tmps[52]?.getD undef = .agg #[.int .u32 (s.1:Int),.int .u32 (s.2:Int)]:=(eval_get a 52).trans (hd 3 (by simp) _ rfl)
        have hrow:RuB W w.heap.size v acc:=row_fr RV.out hb (fun k hk ⟨j,hj,hj2,_⟩=>hj hj2)
        refine .inr ⟨162,#[v,.agg #[.int .u32 (s.1:Int),.int .u32 (s.2:Int)]],by go_simp,(radd_any s.1 s.2 hrow (fun q hq=>(IH.out.bc q hq).2) UR.out.1 UR.out.2 (by have:=IH.out.ln;omega) (HM.out W (hb.imp fun k ⟨j,_,_,hj⟩=>hj)).size).mono ?_⟩
        rintro e W1 ⟨v',rfl,h3,h4⟩
        exact⟨v',rfl,h3,h4.imp fun k hk=>⟨rfl,hk⟩⟩
      · refine⟨rfl,IsR.monoF _ _,fun a W hA hb hd=>Takes.to5 (takes_plain rfl (yields_value _ ?_ rfl)) _⟩
        have h1:a.tmps[1]?.getD undef = .slice (some y) (b1.length+1) c2:=(eval_get a 1).trans ((hA.eval (by simp)).trans rfl)
        go_simp
      · refine⟨rfl,IsR.monoF _ _,fun a W hA hb hd=>Takes.to5 (takes_plain rfl (yields_value _ ?_ rfl)) _⟩
        have h1:a.tmps[54]?.getD undef = .slice (some y) (b1.length+1) c2:=(eval_get a 54).trans (hd 5 (by simp) _ rfl)
        have hs:=SF.out W
        go_simp
      intro vs wrn hR hb
      have hrow:RuB wrn w.heap.size (vs 53) (addR acc (s.1,s.2)):=hR 4 _ rfl
      have e0:vs 49=v:=hR 0 _ rfl
      have e1:vs 50 = .slice (some y) (b1.length+1) c2:=hR 1 _ rfl
      have e2:vs 51 = .pointer (some y):=hR 2 _ rfl
      have e3:vs 52 = .agg #[.int .u32 (s.1:Int),.int .u32 (s.2:Int)]:=hR 3 _ rfl
      have e5:vs 54 = .slice (some y) (b1.length+1) c2:=hR 5 _ rfl
      have e6:vs 55 = .slice (dropR2 (some y) c2 1) b1.length (c2-1):=hR 6 _ rfl
      simp only[List.map_cons,List.map_nil,List.foldl_cons,List.foldl_nil,List.length_cons,List.length_nil,List.drop_succ_cons,List.drop_zero,Act.put,List.setIfInBounds_toArray,List.set_cons_zero,List.set_cons_succ,e0,e1,e2,e3,e5,e6]
      have RW:=Lib.hid hrow
      have BB:=Lib.hid (HM.out wrn (hb.imp fun k ⟨j,_,hj⟩=>hj))
      generalize vs 53=q4 at *
      clear hR hb hrow e0 e1 e2 e3 e5 e6
      go_wp2_with fail
      go_roundw
      case rel=>exact⟨_,_,_,_,[],b1,addR acc (s.1,s.2),{ e0:=rfl,e1:=rfl,ra:=by simpa using IH.out.ra,rb:=DR.out,rv:=RW.out,ln:=by have h1:=addR_len acc (s.1,s.2);have h2:=IH.out.ln;simp only[List.length_cons] at *;omega,ba:=IH.out.ba,bb:=fun q hq=>IH.out.bb q (by simp[hq]),bc:=addR_lt IH.out.bc UR.out,eq:=((bothN_r acc (s.1,s.2) b1).symm.trans IH.out.eq),hb:=BB.out }⟩
      case measure=>simp[lenS];try omega
  | cons r a1=>
    cases b1 with
    | nil =>
      obtain⟨x,rfl,_,hcap,hcel,hdr⟩:=IH.out.ra.cons
      have KC:=Lib.hid hcel
      have DR:=Lib.hid hdr
      have UR:=Lib.hid (IH.out.ba r (by simp))
      have SF:Hid (∀W,_):=Lib.hid (fun W=>sl_fromR W (some x) (a1.length+1) c 1 (by omega))
      simp only[show ((1:Nat):Int)=1 from rfl,Nat.add_sub_cancel] at SF
      clear hcel hdr hcap
      go_upto_region 5 with (fail)
      have z1_a1:¬(a1.length:Int)+1=0:=by omega
      have z2_a1:((a1.length:Int)+1==0)=false:=by simp;omega
      have z3_a1:(0:Int)<(a1.length:Int)+1:=by omega
      have z4_a1:decide ((a1.length:Int)+1=0)=false:=decide_eq_false z1_a1
      have z5_a1:decide ((0:Int)<(a1.length:Int)+1)=true:=decide_eq_true z3_a1
      go_quiet (fail)
      go_upto_region 6 with (fail)
      have RV:Hid (RuB (wr.drewN nq) w.heap.size v acc):=Lib.hid (IH.out.rv.ab (bel_dN (Below.refl wr.heap.size wr) nq))
      have HM:Hid (∀W,Fr (wr.drewN nq) W (fun k=>v.ownBlock=some k)→Below w.heap.size w W):=Lib.hid fun W hW=>HN.out W ((Fr.of (bel_dN (Below.refl wr.heap.size wr) nq) _).tr hW)
      obtain⟨wy,hwy⟩:∃wy,wr.drewN nq=wy:=⟨_,rfl⟩
      rw[hwy] at RV HM⊢
      clear hwy HN
      refine wp_wide5L (fun i k=>i=4∧v.ownBlock=some k) [⟨42,IsR v,[],false⟩,⟨43,IsR (.slice (some x) (a1.length+1) c),[],false⟩,⟨44,IsR (.pointer (some x)),[1],false⟩,⟨45,IsR (.agg #[.int .u32 (r.1:Int),.int .u32 (r.2:Int)]),[2],false⟩,⟨46,fun v' W=>RuB W w.heap.size v' (addR acc (r.1,r.2)),[0,3],false⟩,⟨47,IsR (.slice (some x) (a1.length+1) c),[],false⟩,⟨48,IsR (.slice (dropR2 (some x) c 1) a1.length (c-1)),[5],false⟩] [5,6] (fun _ _ _ d _ h=>by cases d <;> exact h) ?_ (by kernel_rfl) (by kernel_rfl) rfl rfl rfl ⟨?_,?_,?_,?_,?_,?_,?_,trivial⟩ ?_
      · intro li hli hl0 ol e1 e2
        simp only[List.mem_cons,List.mem_nil_iff,or_false] at hli
        rcases hli with rfl | rfl
        · injection e1 with e1
          injection e2 with e2
          subst e1 e2
          refine⟨rfl,fun a W hA hb hd=>⟨_,fun w'=>?_,rfl⟩⟩
          have h0:a.tmps[0]?.getD undef = .slice (some x) (a1.length+1) c:=(eval_get a 0).trans ((hA.eval (by simp)).trans rfl)
          go_simp
        · injection e1 with e1
          injection e2 with e2
          subst e1 e2
          refine⟨rfl,fun a W hA hb hd=>⟨_,fun w'=>?_,rfl⟩⟩
          have h1:a.tmps[47]?.getD undef = .slice (some x) (a1.length+1) c:=(eval_get a 47).trans (hd 5 (by simp) _ rfl)
          have hs:=SF.out w'
          go_simp
      · refine⟨rfl,IsR.monoF _ _,fun a W hA hb hd=>Takes.to5 (takes_plain rfl (yields_value _ ?_ rfl)) _⟩
        have h6:a.tmps[6]?.getD undef=v:=(eval_get a 6).trans ((hA.eval (by simp)).trans rfl)
        go_simp
      · refine⟨rfl,IsR.monoF _ _,fun a W hA hb hd=>Takes.to5 (takes_plain rfl (yields_value _ ?_ rfl)) _⟩
        have h0:a.tmps[0]?.getD undef = .slice (some x) (a1.length+1) c:=(eval_get a 0).trans ((hA.eval (by simp)).trans rfl)
        go_simp
      · refine⟨rfl,IsR.monoF _ _,fun a W hA hb hd=>Takes.to5 (takes_plain rfl (yields_value _ ?_ rfl)) _⟩
        have h1:a.tmps[43]?.getD undef = .slice (some x) (a1.length+1) c:=(eval_get a 43).trans (hd 1 (by simp) _ rfl)
        have h0:(0:Int)<(a1.length:Int)+1:=by omega
        go_simp
      · refine⟨rfl,IsR.monoF _ _,fun a W hA hb hd=>Takes.to5 (takes_plain rfl (yields_value _ ?_ rfl)) _⟩
        have h1:a.tmps[44]?.getD undef = .pointer (some x):=(eval_get a 44).trans (hd 2 (by simp) _ rfl)
        obtain⟨hc0,hc1⟩:=KC.out W (HM.out W (hb.imp fun k ⟨j,_,_,hj⟩=>hj))
        go_simp
      · refine⟨rfl,fun z W W1 h3 hf=>row_fr h3 hf (fun k hk ⟨j,hj,hj2,_⟩=>hj hj2),fun a W hA hb hd=>takes5_plain rfl ?_⟩
        have h1:a.tmps[42]?.getD undef=v:=(eval_get a 42).trans (hd 0 (by simp) _ rfl)
        have h2:a.tmps[45]?.getD undef = .agg #[.int .u32 (r.1:Int),.int .u32 (r.2:Int)]:=(eval_get a 45).trans (hd 3 (by simp) _ rfl)
        have hrow:RuB W w.heap.size v acc:=row_fr RV.out hb (fun k hk ⟨j,hj,hj2,_⟩=>hj hj2)
        refine .inr ⟨162,#[v,.agg #[.int .u32 (r.1:Int),.int .u32 (r.2:Int)]],by go_simp,(radd_any r.1 r.2 hrow (fun q hq=>(IH.out.bc q hq).2) UR.out.1 UR.out.2 (by have:=IH.out.ln;omega) (HM.out W (hb.imp fun k ⟨j,_,_,hj⟩=>hj)).size).mono ?_⟩
        rintro e W1 ⟨v',rfl,h3,h4⟩
        exact⟨v',rfl,h3,h4.imp fun k hk=>⟨rfl,hk⟩⟩
      · refine⟨rfl,IsR.monoF _ _,fun a W hA hb hd=>Takes.to5 (takes_plain rfl (yields_value _ ?_ rfl)) _⟩
        have h0:a.tmps[0]?.getD undef = .slice (some x) (a1.length+1) c:=(eval_get a 0).trans ((hA.eval (by simp)).trans rfl)
        go_simp
      · refine⟨rfl,IsR.monoF _ _,fun a W hA hb hd=>Takes.to5 (takes_plain rfl (yields_value _ ?_ rfl)) _⟩
        have h1:a.tmps[47]?.getD undef = .slice (some x) (a1.length+1) c:=(eval_get a 47).trans (hd 5 (by simp) _ rfl)
        have hs:=SF.out W
        go_simp
      intro vs wrn hR hb
      have hrow:RuB wrn w.heap.size (vs 46) (addR acc (r.1,r.2)):=hR 4 _ rfl
      have e0:vs 42=v:=hR 0 _ rfl
      have e1:vs 43 = .slice (some x) (a1.length+1) c:=hR 1 _ rfl
      have e2:vs 44 = .pointer (some x):=hR 2 _ rfl
      have e3:vs 45 = .agg #[.int .u32 (r.1:Int),.int .u32 (r.2:Int)]:=hR 3 _ rfl
      have e5:vs 47 = .slice (some x) (a1.length+1) c:=hR 5 _ rfl
      have e6:vs 48 = .slice (dropR2 (some x) c 1) a1.length (c-1):=hR 6 _ rfl
      simp only[List.map_cons,List.map_nil,List.foldl_cons,List.foldl_nil,List.length_cons,List.length_nil,List.drop_succ_cons,List.drop_zero,Act.put,List.setIfInBounds_toArray,List.set_cons_zero,List.set_cons_succ,e0,e1,e2,e3,e5,e6]
      have RW:=Lib.hid hrow
      have BB:=Lib.hid (HM.out wrn (hb.imp fun k ⟨j,_,hj⟩=>hj))
      generalize vs 46=q4 at *
      clear hR hb hrow e0 e1 e2 e3 e5 e6
      go_wp2_with fail
      go_roundw
      case rel=>exact⟨_,_,_,_,a1,[],addR acc (r.1,r.2),{ e0:=rfl,e1:=rfl,ra:=DR.out,rb:=by simpa using IH.out.rb,rv:=RW.out,ln:=by have h1:=addR_len acc (r.1,r.2);have h2:=IH.out.ln;simp only[List.length_cons] at *;omega,ba:=fun q hq=>IH.out.ba q (by simp[hq]),bb:=IH.out.bb,bc:=addR_lt IH.out.bc UR.out,eq:=((bothN_l acc (r.1,r.2) a1).symm.trans IH.out.eq),hb:=BB.out }⟩
      case measure=>simp[lenS];try omega
    | cons s b1=>
      by_cases hle:r.1≤s.1
      · have hlei:(r.1:Int)≤(s.1:Int):=by omega
        have hled:decide ((r.1:Int)≤(s.1:Int))=true:=decide_eq_true hlei
        obtain⟨x,rfl,_,hcap,hcel,hdr⟩:=IH.out.ra.cons
        have KC:=Lib.hid hcel
        have DR:=Lib.hid hdr
        have UR:=Lib.hid (IH.out.ba r (by simp))
        have SF:Hid (∀W,_):=Lib.hid (fun W=>sl_fromR W (some x) (a1.length+1) c 1 (by omega))
        simp only[show ((1:Nat):Int)=1 from rfl,Nat.add_sub_cancel] at SF
        clear hcel hdr hcap
        obtain⟨y,rfl,_,hcap2,hcel,_⟩:=IH.out.rb.cons
        have c1:=(hcel wr IH.out.hb).1
        have c0:=(KC.out wr IH.out.hb).1
        clear hcel hcap2
        go_upto_region 5 with (fail)
        have z1_a1:¬(a1.length:Int)+1=0:=by omega
        have z2_a1:((a1.length:Int)+1==0)=false:=by simp;omega
        have z3_a1:(0:Int)<(a1.length:Int)+1:=by omega
        have z4_a1:decide ((a1.length:Int)+1=0)=false:=decide_eq_false z1_a1
        have z5_a1:decide ((0:Int)<(a1.length:Int)+1)=true:=decide_eq_true z3_a1
        have z1_b1:¬(b1.length:Int)+1=0:=by omega
        have z2_b1:((b1.length:Int)+1==0)=false:=by simp;omega
        have z3_b1:(0:Int)<(b1.length:Int)+1:=by omega
        have z4_b1:decide ((b1.length:Int)+1=0)=false:=decide_eq_false z1_b1
        have z5_b1:decide ((0:Int)<(b1.length:Int)+1)=true:=decide_eq_true z3_b1
        go_quiet (fail)
        go_upto_region 6 with (fail)
        have RV:Hid (RuB (wr.drewN nq) w.heap.size v acc):=Lib.hid (IH.out.rv.ab (bel_dN (Below.refl wr.heap.size wr) nq))
        have HM:Hid (∀W,Fr (wr.drewN nq) W (fun k=>v.ownBlock=some k)→Below w.heap.size w W):=Lib.hid fun W hW=>HN.out W ((Fr.of (bel_dN (Below.refl wr.heap.size wr) nq) _).tr hW)
        obtain⟨wy,hwy⟩:∃wy,wr.drewN nq=wy:=⟨_,rfl⟩
        rw[hwy] at RV HM⊢
        clear hwy HN
        refine wp_wide5L (fun i k=>i=4∧v.ownBlock=some k) [⟨42,IsR v,[],false⟩,⟨43,IsR (.slice (some x) (a1.length+1) c),[],false⟩,⟨44,IsR (.pointer (some x)),[1],false⟩,⟨45,IsR (.agg #[.int .u32 (r.1:Int),.int .u32 (r.2:Int)]),[2],false⟩,⟨46,fun v' W=>RuB W w.heap.size v' (addR acc (r.1,r.2)),[0,3],false⟩,⟨47,IsR (.slice (some x) (a1.length+1) c),[],false⟩,⟨48,IsR (.slice (dropR2 (some x) c 1) a1.length (c-1)),[5],false⟩] [5,6] (fun _ _ _ d _ h=>by cases d <;> exact h) ?_ (by kernel_rfl) (by kernel_rfl) rfl rfl rfl ⟨?_,?_,?_,?_,?_,?_,?_,trivial⟩ ?_
        · intro li hli hl0 ol e1 e2
          simp only[List.mem_cons,List.mem_nil_iff,or_false] at hli
          rcases hli with rfl | rfl
          · injection e1 with e1
            injection e2 with e2
            subst e1 e2
            refine⟨rfl,fun a W hA hb hd=>⟨_,fun w'=>?_,rfl⟩⟩
            have h0:a.tmps[0]?.getD undef = .slice (some x) (a1.length+1) c:=(eval_get a 0).trans ((hA.eval (by simp)).trans rfl)
            go_simp
          · injection e1 with e1
            injection e2 with e2
            subst e1 e2
            refine⟨rfl,fun a W hA hb hd=>⟨_,fun w'=>?_,rfl⟩⟩
            have h1:a.tmps[47]?.getD undef = .slice (some x) (a1.length+1) c:=(eval_get a 47).trans (hd 5 (by simp) _ rfl)
            have hs:=SF.out w'
            go_simp
        · refine⟨rfl,IsR.monoF _ _,fun a W hA hb hd=>Takes.to5 (takes_plain rfl (yields_value _ ?_ rfl)) _⟩
          have h6:a.tmps[6]?.getD undef=v:=(eval_get a 6).trans ((hA.eval (by simp)).trans rfl)
          go_simp
        · refine⟨rfl,IsR.monoF _ _,fun a W hA hb hd=>Takes.to5 (takes_plain rfl (yields_value _ ?_ rfl)) _⟩
          have h0:a.tmps[0]?.getD undef = .slice (some x) (a1.length+1) c:=(eval_get a 0).trans ((hA.eval (by simp)).trans rfl)
          go_simp
        · refine⟨rfl,IsR.monoF _ _,fun a W hA hb hd=>Takes.to5 (takes_plain rfl (yields_value _ ?_ rfl)) _⟩
          have h1:a.tmps[43]?.getD undef = .slice (some x) (a1.length+1) c:=(eval_get a 43).trans (hd 1 (by simp) _ rfl)
          have h0:(0:Int)<(a1.length:Int)+1:=by omega
          go_simp
        · refine⟨rfl,IsR.monoF _ _,fun a W hA hb hd=>Takes.to5 (takes_plain rfl (yields_value _ ?_ rfl)) _⟩
          have h1:a.tmps[44]?.getD undef = .pointer (some x):=(eval_get a 44).trans (hd 2 (by simp) _ rfl)
          obtain⟨hc0,hc1⟩:=KC.out W (HM.out W (hb.imp fun k ⟨j,_,_,hj⟩=>hj))
          go_simp
        · refine⟨rfl,fun z W W1 h3 hf=>row_fr h3 hf (fun k hk ⟨j,hj,hj2,_⟩=>hj hj2),fun a W hA hb hd=>takes5_plain rfl ?_⟩
          have h1:a.tmps[42]?.getD undef=v:=(eval_get a 42).trans (hd 0 (by simp) _ rfl)
          have h2:a.tmps[45]?.getD undef = .agg #[.int .u32 (r.1:Int),.int .u32 (r.2:Int)]:=(eval_get a 45).trans (hd 3 (by simp) _ rfl)
          have hrow:RuB W w.heap.size v acc:=row_fr RV.out hb (fun k hk ⟨j,hj,hj2,_⟩=>hj hj2)
          refine .inr ⟨162,#[v,.agg #[.int .u32 (r.1:Int),.int .u32 (r.2:Int)]],by go_simp,(radd_any r.1 r.2 hrow (fun q hq=>(IH.out.bc q hq).2) UR.out.1 UR.out.2 (by have:=IH.out.ln;omega) (HM.out W (hb.imp fun k ⟨j,_,_,hj⟩=>hj)).size).mono ?_⟩
          rintro e W1 ⟨v',rfl,h3,h4⟩
          exact⟨v',rfl,h3,h4.imp fun k hk=>⟨rfl,hk⟩⟩
        · refine⟨rfl,IsR.monoF _ _,fun a W hA hb hd=>Takes.to5 (takes_plain rfl (yields_value _ ?_ rfl)) _⟩
          have h0:a.tmps[0]?.getD undef = .slice (some x) (a1.length+1) c:=(eval_get a 0).trans ((hA.eval (by simp)).trans rfl)
          go_simp
        · refine⟨rfl,IsR.monoF _ _,fun a W hA hb hd=>Takes.to5 (takes_plain rfl (yields_value _ ?_ rfl)) _⟩
          have h1:a.tmps[47]?.getD undef = .slice (some x) (a1.length+1) c:=(eval_get a 47).trans (hd 5 (by simp) _ rfl)
          have hs:=SF.out W
          go_simp
        intro vs wrn hR hb
        have hrow:RuB wrn w.heap.size (vs 46) (addR acc (r.1,r.2)):=hR 4 _ rfl
        have e0:vs 42=v:=hR 0 _ rfl
        have e1:vs 43 = .slice (some x) (a1.length+1) c:=hR 1 _ rfl
        have e2:vs 44 = .pointer (some x):=hR 2 _ rfl
        have e3:vs 45 = .agg #[.int .u32 (r.1:Int),.int .u32 (r.2:Int)]:=hR 3 _ rfl
        have e5:vs 47 = .slice (some x) (a1.length+1) c:=hR 5 _ rfl
        have e6:vs 48 = .slice (dropR2 (some x) c 1) a1.length (c-1):=hR 6 _ rfl
        simp only[List.map_cons,List.map_nil,List.foldl_cons,List.foldl_nil,List.length_cons,List.length_nil,List.drop_succ_cons,List.drop_zero,Act.put,List.setIfInBounds_toArray,List.set_cons_zero,List.set_cons_succ,e0,e1,e2,e3,e5,e6]
        have RW:=Lib.hid hrow
        have BB:=Lib.hid (HM.out wrn (hb.imp fun k ⟨j,_,hj⟩=>hj))
        generalize vs 46=q4 at *
        clear hR hb hrow e0 e1 e2 e3 e5 e6
        go_wp2_with fail
        go_roundw
        case rel=>exact⟨_,_,_,_,a1,s::b1,addR acc (r.1,r.2),{ e0:=rfl,e1:=rfl,ra:=DR.out,rb:=by simpa using IH.out.rb,rv:=RW.out,ln:=by have h1:=addR_len acc (r.1,r.2);have h2:=IH.out.ln;simp only[List.length_cons] at *;omega,ba:=fun q hq=>IH.out.ba q (by simp[hq]),bb:=IH.out.bb,bc:=addR_lt IH.out.bc UR.out,eq:=((bothN_le acc (r.1,r.2) s a1 b1 hle).symm.trans IH.out.eq),hb:=BB.out }⟩
        case measure=>simp[lenS];try omega
      · have hlei:¬(r.1:Int)≤(s.1:Int):=by omega
        have hled:decide ((r.1:Int)≤(s.1:Int))=false:=decide_eq_false hlei
        obtain⟨y,rfl,_,hcap,hcel,hdr⟩:=IH.out.rb.cons
        have KC:=Lib.hid hcel
        have DR:=Lib.hid hdr
        have UR:=Lib.hid (IH.out.bb s (by simp))
        have SF:Hid (∀W,_):=Lib.hid (fun W=>sl_fromR W (some y) (b1.length+1) c2 1 (by omega))
        simp only[show ((1:Nat):Int)=1 from rfl,Nat.add_sub_cancel] at SF
        clear hcel hdr hcap
        obtain⟨x,rfl,_,hcap2,hcel,_⟩:=IH.out.ra.cons
        have c1:=(hcel wr IH.out.hb).1
        have c0:=(KC.out wr IH.out.hb).1
        clear hcel hcap2
        go_upto_region 5 with (fail)
        have z1_a1:¬(a1.length:Int)+1=0:=by omega
        have z2_a1:((a1.length:Int)+1==0)=false:=by simp;omega
        have z3_a1:(0:Int)<(a1.length:Int)+1:=by omega
        have z4_a1:decide ((a1.length:Int)+1=0)=false:=decide_eq_false z1_a1
        have z5_a1:decide ((0:Int)<(a1.length:Int)+1)=true:=decide_eq_true z3_a1
        have z1_b1:¬(b1.length:Int)+1=0:=by omega
        have z2_b1:((b1.length:Int)+1==0)=false:=by simp;omega
        have z3_b1:(0:Int)<(b1.length:Int)+1:=by omega
        have z4_b1:decide ((b1.length:Int)+1=0)=false:=decide_eq_false z1_b1
        have z5_b1:decide ((0:Int)<(b1.length:Int)+1)=true:=decide_eq_true z3_b1
        go_quiet (fail)
        go_upto_region 7 with (fail)
        have RV:Hid (RuB (wr.drewN nq) w.heap.size v acc):=Lib.hid (IH.out.rv.ab (bel_dN (Below.refl wr.heap.size wr) nq))
        have HM:Hid (∀W,Fr (wr.drewN nq) W (fun k=>v.ownBlock=some k)→Below w.heap.size w W):=Lib.hid fun W hW=>HN.out W ((Fr.of (bel_dN (Below.refl wr.heap.size wr) nq) _).tr hW)
        obtain⟨wy,hwy⟩:∃wy,wr.drewN nq=wy:=⟨_,rfl⟩
        rw[hwy] at RV HM⊢
        clear hwy HN
        refine wp_wide5L (fun i k=>i=4∧v.ownBlock=some k) [⟨49,IsR v,[],false⟩,⟨50,IsR (.slice (some y) (b1.length+1) c2),[],false⟩,⟨51,IsR (.pointer (some y)),[1],false⟩,⟨52,IsR (.agg #[.int .u32 (s.1:Int),.int .u32 (s.2:Int)]),[2],false⟩,⟨53,fun v' W=>RuB W w.heap.size v' (addR acc (s.1,s.2)),[0,3],false⟩,⟨54,IsR (.slice (some y) (b1.length+1) c2),[],false⟩,⟨55,IsR (.slice (dropR2 (some y) c2 1) b1.length (c2-1)),[5],false⟩] [5,6] (fun _ _ _ d _ h=>by cases d <;> exact h) ?_ (by kernel_rfl) (by kernel_rfl) rfl rfl rfl ⟨?_,?_,?_,?_,?_,?_,?_,trivial⟩ ?_
        · intro li hli hl0 ol e1 e2
          simp only[List.mem_cons,List.mem_nil_iff,or_false] at hli
          rcases hli with rfl | rfl
          · injection e1 with e1
            injection e2 with e2
            subst e1 e2
            refine⟨rfl,fun a W hA hb hd=>⟨_,fun w'=>?_,rfl⟩⟩
            have h1:a.tmps[1]?.getD undef = .slice (some y) (b1.length+1) c2:=(eval_get a 1).trans ((hA.eval (by simp)).trans rfl)
            go_simp
          · injection e1 with e1
            injection e2 with e2
            subst e1 e2
            refine⟨rfl,fun a W hA hb hd=>⟨_,fun w'=>?_,rfl⟩⟩
            have h1:a.tmps[54]?.getD undef = .slice (some y) (b1.length+1) c2:=(eval_get a 54).trans (hd 5 (by simp) _ rfl)
            have hs:=SF.out w'
            go_simp
        · refine⟨rfl,IsR.monoF _ _,fun a W hA hb hd=>Takes.to5 (takes_plain rfl (yields_value _ ?_ rfl)) _⟩
          have h6:a.tmps[6]?.getD undef=v:=(eval_get a 6).trans ((hA.eval (by simp)).trans rfl)
          go_simp
        · refine⟨rfl,IsR.monoF _ _,fun a W hA hb hd=>Takes.to5 (takes_plain rfl (yields_value _ ?_ rfl)) _⟩
          have h1:a.tmps[1]?.getD undef = .slice (some y) (b1.length+1) c2:=(eval_get a 1).trans ((hA.eval (by simp)).trans rfl)
          go_simp
        · refine⟨rfl,IsR.monoF _ _,fun a W hA hb hd=>Takes.to5 (takes_plain rfl (yields_value _ ?_ rfl)) _⟩
          have h1:a.tmps[50]?.getD undef = .slice (some y) (b1.length+1) c2:=(eval_get a 50).trans (hd 1 (by simp) _ rfl)
          have h0:(0:Int)<(b1.length:Int)+1:=by omega
          go_simp
        · refine⟨rfl,IsR.monoF _ _,fun a W hA hb hd=>Takes.to5 (takes_plain rfl (yields_value _ ?_ rfl)) _⟩
          have h1:a.tmps[51]?.getD undef = .pointer (some y):=(eval_get a 51).trans (hd 2 (by simp) _ rfl)
          obtain⟨hc0,hc1⟩:=KC.out W (HM.out W (hb.imp fun k ⟨j,_,_,hj⟩=>hj))
          go_simp
        · refine⟨rfl,fun z W W1 h3 hf=>row_fr h3 hf (fun k hk ⟨j,hj,hj2,_⟩=>hj hj2),fun a W hA hb hd=>takes5_plain rfl ?_⟩
          have h1:a.tmps[49]?.getD undef=v:=(eval_get a 49).trans (hd 0 (by simp) _ rfl)
          have h2:a.tmps[52]?.getD undef = .agg #[.int .u32 (s.1:Int),.int .u32 (s.2:Int)]:=(eval_get a 52).trans (hd 3 (by simp) _ rfl)
          have hrow:RuB W w.heap.size v acc:=row_fr RV.out hb (fun k hk ⟨j,hj,hj2,_⟩=>hj hj2)
          refine .inr ⟨162,#[v,.agg #[.int .u32 (s.1:Int),.int .u32 (s.2:Int)]],by go_simp,(radd_any s.1 s.2 hrow (fun q hq=>(IH.out.bc q hq).2) UR.out.1 UR.out.2 (by have:=IH.out.ln;omega) (HM.out W (hb.imp fun k ⟨j,_,_,hj⟩=>hj)).size).mono ?_⟩
          rintro e W1 ⟨v',rfl,h3,h4⟩
          exact⟨v',rfl,h3,h4.imp fun k hk=>⟨rfl,hk⟩⟩
        · refine⟨rfl,IsR.monoF _ _,fun a W hA hb hd=>Takes.to5 (takes_plain rfl (yields_value _ ?_ rfl)) _⟩
          have h1:a.tmps[1]?.getD undef = .slice (some y) (b1.length+1) c2:=(eval_get a 1).trans ((hA.eval (by simp)).trans rfl)
          go_simp
        · refine⟨rfl,IsR.monoF _ _,fun a W hA hb hd=>Takes.to5 (takes_plain rfl (yields_value _ ?_ rfl)) _⟩
          have h1:a.tmps[54]?.getD undef = .slice (some y) (b1.length+1) c2:=(eval_get a 54).trans (hd 5 (by simp) _ rfl)
          have hs:=SF.out W
          go_simp
        intro vs wrn hR hb
        have hrow:RuB wrn w.heap.size (vs 53) (addR acc (s.1,s.2)):=hR 4 _ rfl
        have e0:vs 49=v:=hR 0 _ rfl
        have e1:vs 50 = .slice (some y) (b1.length+1) c2:=hR 1 _ rfl
        have e2:vs 51 = .pointer (some y):=hR 2 _ rfl
        have e3:vs 52 = .agg #[.int .u32 (s.1:Int),.int .u32 (s.2:Int)]:=hR 3 _ rfl
        have e5:vs 54 = .slice (some y) (b1.length+1) c2:=hR 5 _ rfl
        have e6:vs 55 = .slice (dropR2 (some y) c2 1) b1.length (c2-1):=hR 6 _ rfl
        simp only[List.map_cons,List.map_nil,List.foldl_cons,List.foldl_nil,List.length_cons,List.length_nil,List.drop_succ_cons,List.drop_zero,Act.put,List.setIfInBounds_toArray,List.set_cons_zero,List.set_cons_succ,e0,e1,e2,e3,e5,e6]
        have RW:=Lib.hid hrow
        have BB:=Lib.hid (HM.out wrn (hb.imp fun k ⟨j,_,hj⟩=>hj))
        generalize vs 53=q4 at *
        clear hR hb hrow e0 e1 e2 e3 e5 e6
        go_wp2_with fail
        go_roundw
        case rel=>exact⟨_,_,_,_,r::a1,b1,addR acc (s.1,s.2),{ e0:=rfl,e1:=rfl,ra:=by simpa using IH.out.ra,rb:=DR.out,rv:=RW.out,ln:=by have h1:=addR_len acc (s.1,s.2);have h2:=IH.out.ln;simp only[List.length_cons] at *;omega,ba:=IH.out.ba,bb:=fun q hq=>IH.out.bb q (by simp[hq]),bc:=addR_lt IH.out.bc UR.out,eq:=((bothN_gt acc r (s.1,s.2) a1 b1 hle).symm.trans IH.out.eq),hb:=BB.out }⟩
        case measure=>simp[lenS];try omega
def giveP (l:RnL) (p:Nat):RnL×Nat:=if hasR l p then ([],8) else (bothR l (mkR p (p+1)),0)
theorem rightR_one (p:Nat):rightR (mkR p (p+1))=true:=Rgt.right (Rgt.mk p (p+1))
set_option maxRecDepth 100000 in
theorem give_any {w:World} {A:Option Addr} {n c:Nat} {l:RnL} (p:Nat) (h:RnB w A n c l) (hr:rightR l=true) (hu:∀q∈l,q.1<4294967296∧q.2<4294967296) (hn:n≤10000) (hp:p<4294967295):
 Calls Tryz.prog 85 #[.slice A n c,.int .u32 (p:Int)] w fun e w'=>∃v,e = .returned (.tuple #[v,.int .i64 ((giveP l p).2:Int)])∧RuB w' w.heap.size v (giveP l p).1∧Below w.heap.size w w':=by
 have H1:=Lib.hid (has_any' A n c p l w h hr)
 have H0:=Lib.hid h
 have HP:=Lib.hid hp
 have HU:=Lib.hid hu
 have HR:=Lib.hid hr
 have HN:=Lib.hid hn
 have hpw:IntKind.u32.wrap ((p:Int)+1)=((p+1:Nat):Int):=wrap_u32 _ (by omega) (by omega)
 have hp1:¬(p:Int)=4294967295:=by omega
 have hp2:((p:Int)==4294967295)=false:=by simp;omega
 clear h hr hu hn hp
 cases hh:hasR l p with
 | true=>
   rw[hh] at H1
   have e:giveP l p=([],8):=by unfold giveP;rw[if_pos hh]
   rw[e]
   clear e hh
   go_enter Tryz.func85,Tryz.ntmps85
   go_wp2_with fail
   refine H1.out.mono ?_
   rintro e w1 ⟨rfl,hb1⟩
   go_wp2_with fail
   go_ret2
   exact⟨_,rfl,RuB.nil _ _,hb1⟩
 | false=>
   rw[hh] at H1
   have e:giveP l p=(bothR l (mkR p (p+1)),0):=by unfold giveP;rw[if_neg (by rw[hh];exact Bool.false_ne_true)]
   rw[e]
   clear e hh
   go_enter Tryz.func85,Tryz.ntmps85
   go_wp2_with fail
   refine H1.out.mono ?_
   rintro e w1 ⟨rfl,hb1⟩
   have B1:=Lib.hid hb1
   clear hb1 H1
   go_wp2_with fail
   refine (make_any p (p+1) w1).mono ?_
   rintro e w2 ⟨v,rfl,hv,hb2⟩
   obtain⟨A2,c2,rfl,hr2,_⟩:=hv.rn
   have HB:=Lib.hid (both_any (H0.out.ab (below_tr B1.out hb2 B1.out.size)) hr2 HR.out (rightR_one p) HU.out (fun q hq=>by rw[(mkR_mem hq).1];have:=HP.out;exact⟨by show p<_;omega,by show p+1<_;omega⟩) (by have:=mkR_le p (p+1);have:=HN.out;omega))
   have B2:=Lib.hid (below_tr B1.out hb2 B1.out.size)
   clear hv hb2 hr2
   go_wp2_with fail
   refine HB.out.mono ?_
   rintro e w3 ⟨v3,rfl,hv3,hb3⟩
   have V3:=Lib.hid hv3
   have B3:=Lib.hid (below_tr B2.out hb3 B2.out.size)
   have S2:=Lib.hid B2.out.size
   clear hv3 hb3 HB
   go_wp2_with fail
   go_ret2
   exact⟨_,rfl,V3.out.lower S2.out,B3.out⟩
end Go.Proofs.YtljmiiiidjeggaaGreat
