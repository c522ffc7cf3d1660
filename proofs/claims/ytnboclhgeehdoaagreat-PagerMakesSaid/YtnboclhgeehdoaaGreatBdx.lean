/-
  Parts of the proof, joined.
-/
import Derived.Test.YtnboclhgeehdoaaGreatBdw
import Derived.Test.YtnboclhgeehdoaaGreatBdj
import Derived.Deep.QuietTactic
import Derived.BigQuiet
namespace Go.Proofs.YtnboclhgeehdoaaGreat
set_option maxHeartbeats 16000000
open Go.RowKit Go.ChangeShapes Go.WideShapes
set_option linter.unusedVariables false
set_option linter.unusedSimpArgs false
section
variable {H:Type} {enc:TypeId×Value→H} {W:World}
def WtB (t:TypeId) (d:DataW H):Prop:=∀z∈d.weights Tryz.prog t,z≤140737488351232
theorem wtAll {e:TypeId}:∀{l:List (DataW H)} {d:DataW H},d∈l→∀z∈d.weights Tryz.prog e,z∈DataW.weightsAll Tryz.prog e l
 | p::r,d,hd,z,hz=>by
   rw[DataW.weightsAll]
   rcases List.mem_cons.1 hd with rfl | h
   · exact List.mem_append_left _ hz
   · exact List.mem_append_right _ (wtAll h z hz)
theorem wt_slice {t e:TypeId} {a b:List (DataW H)} (ht:Tryz.prog.underlying t=some (.slice e)) (h:WtB t (.slice a b)):(a.length+b.length)*Tryz.prog.bytesOf e≤140737488351232∧(∀d∈a,WtB e d)∧∀d∈b,WtB e d:=by
 unfold WtB at h
 rw[DataW.weights] at h
 simp only[ht] at h
 refine⟨h _ (List.mem_cons_self ..),fun d hd z hz=>h z (List.mem_cons_of_mem _ (List.mem_append_left _ (wtAll hd z hz))),fun d hd z hz=>h z (List.mem_cons_of_mem _ (List.mem_append_right _ (wtAll hd z hz)))⟩
theorem wtEach {ts:List TypeId}:∀{ds:List (DataW H)} {i:Nat} {t:TypeId} {d:DataW H},ts[i]? = some t→ds[i]? = some d→∀z∈d.weights Tryz.prog t,z∈DataW.weightsEach Tryz.prog ts ds:=by
 induction ts with
 | nil=>intro ds i t d h;simp at h
 | cons t0 ts ih=>
   intro ds i t d h1 h2 z hz
   cases ds with
   | nil=>simp at h2
   | cons d0 ds=>
     rw[DataW.weightsEach]
     cases i with
     | zero=>
       simp at h1 h2
       subst h1 h2
       exact List.mem_append_left _ hz
     | succ i=>exact List.mem_append_right _ (ih (by simpa using h1) (by simpa using h2) z hz)
theorem wt_cap {t e:TypeId} {fuel A n c} {x:DataW H×List MemPlace} (ht:Tryz.prog.underlying t=some (.slice e)) (h:DataW.trod enc Tryz.prog W 0 (fun _=>true) true fuel t [.slice A n c]=some x) (hw:WtB t x.1):c*Tryz.prog.bytesOf e≤140737488351232:=by
 rcases Go.Deep.open_slice ht h with ⟨e1,_⟩ | ⟨a,len,cap,m,k,D,Pl,e1,_,hl,hm,hmm,rfl,hx⟩
 · simp only[List.cons.injEq,Value.slice.injEq,and_true] at e1
   rw[e1.2.2];omega
 · simp only[List.cons.injEq,Value.slice.injEq,and_true] at e1
   obtain⟨rfl,rfl,rfl⟩:=e1
   have hmc:m=c:=by simpa using hmm
   subst hmc
   have:=(wt_slice ht hw).1
   rw[List.length_map,List.length_map,List.length_range,List.length_range] at this
   have e2:n+(m-n)=m:=by omega
   rwa [e2] at this
theorem sl_trodW {α:Type} {t e:TypeId} {fuel:Nat} {cs:List Value} {x:DataW H×List MemPlace} (Q:Addr→α→Prop) (ht:Tryz.prog.underlying t=some (.slice e)) (k:Nat) (hk:Tryz.prog.cellsOf e=k) (hk0:0<k)
 (h:DataW.trod enc Tryz.prog W 0 (fun _=>true) true fuel t cs=some x) (hlt:∀q∈x.2,q.block<W.heap.size) (hw:WtB t x.1)
 (hel:∀(n:Nat) (a:Addr) (cs':List Value) (y:DataW H×List MemPlace),cs'.length=k→(∀i,i<k→W.cell? (a.add i)=cs'[i]?)→DataW.trod enc Tryz.prog W 0 (fun _=>true) true n e cs'=some y→(∀q∈y.2,q.block<W.heap.size)→WtB e y.1→∃q:α,Q a q):
 ∃(A:Option Addr) (n c:Nat) (l:List α),cs=[.slice A n c]∧(A=none→c=0)∧l.length=n∧n≤c∧c≤maxLen∧∀(i:Nat) (q:α),l[i]? = some q→∃a,A=some a∧a.block<W.heap.size∧Q (a.add (i*k)) q:=by
 rcases Go.Deep.open_slice ht h with ⟨rfl,rfl⟩ | ⟨a,len,cap,m,n,D,Pl,rfl,_,hl,hm,hmm,rfl,hx⟩
 · exact⟨none,0,0,[],rfl,fun _=>rfl,rfl,Nat.le_refl _,Nat.zero_le _,fun i q hq=>by simp at hq⟩
 · have hmc:m=cap:=by simpa using hmm
   subst hmc
   rw[hk] at hx
   have each:∀i,i<len→∃q:α,Q (a.add (i*k)) q:=fun i hi=>by
    obtain⟨cs',h1,h2⟩:=hx i (by omega)
    obtain⟨_,h3,h4⟩:=World.cells?_some h1
    exact hel n _ cs' _ h3 h4 h2 (fun q hq=>hlt q (List.mem_append_right _ (List.mem_flatMap.2 ⟨i,List.mem_range.2 (by omega),hq⟩))) ((wt_slice ht hw).2.1 _ (List.mem_map.2 ⟨i,List.mem_range.2 hi,rfl⟩))
   obtain⟨l,hll,hlq⟩:=list_ofX len each
   refine⟨some a,len,m,l,rfl,fun e=>(by cases e),hll,hl,hm,fun i q hq=>⟨a,rfl,?_,hlq i q hq⟩⟩
   have hin:i<len:=by rw[←hll];exact (List.getElem?_eq_some_iff.1 hq).1
   have h1:MemPlace.cell a.block a.off∈MemPlace.row a (m*Tryz.prog.cellsOf e):=List.mem_map.2 ⟨0,List.mem_range.2 (by rw[hk];exact Nat.mul_pos (by omega) hk0),by simp⟩
   exact hlt _ (List.mem_append_left _ h1)
set_option maxRecDepth 100000 in
theorem open_runs {base:Nat} {v:Value} {d:DataW H} {p:List MemPlace} (hk:Value.okWide Tryz.prog W .any base 22 v)
 (h:DataW.Trod enc Tryz.prog W 0 (fun _=>true) true 22 v d p) (hlt:∀x∈p,x.block<W.heap.size) (hw:WtB 22 d):∃A n c l,v = .slice A n c∧RnB W A n c l∧(∀r∈l,r.1<4294967296∧r.2<4294967296)∧c*8≤140737488351232:=by
 obtain⟨A,n,c,rfl⟩:=okWide_slice Tryz.underlying22 hk
 obtain⟨fuel,hf⟩:=h
 have c2:Tryz.prog.cellsOf 72=2:=by kernel_rfl
 have b8:Tryz.prog.bytesOf 72=8:=by kernel_rfl
 have cu:Tryz.prog.cellsOf 42=1:=by kernel_rfl
 have hcs:(Value.slice A n c).cells.toList=[.slice A n c]:=rfl
 rw[hcs] at hf
 have hcap:=wt_cap Tryz.underlying22 hf hw
 rw[b8] at hcap
 obtain⟨A',n',c',l,e,hA,hl,hn,hm,hq⟩:=sl_trodW (fun a (r:Nat×Nat)=>(W.cell? a=some (.int .u32 (r.1:Int))∧W.cell? (a.add 1)=some (.int .u32 (r.2:Int)))∧r.1<4294967296∧r.2<4294967296) Tryz.underlying22 2 c2 (by decide) hf hlt hw (fun n a cs' y h3 h4 h5 h6 h7=>by
  obtain⟨y0,y1,m,_,_,g0,g1⟩:=trod_struct2 Tryz.underlying72 h5
  match cs',h3 with
  | [v0,v1],_=>
  simp only[cu] at g0 g1
  obtain⟨n0,e0,w0⟩:=int_trod Tryz.underlying42 g0
  obtain⟨n1,e1,w1⟩:=int_trod Tryz.underlying42 g1
  simp at e0 e1
  subst e0 e1
  obtain⟨a0,rfl,b0⟩:=nat_intX (m:=4294967296) w0 rfl (by decide)
  obtain⟨a1,rfl,b1⟩:=nat_intX (m:=4294967296) w1 rfl (by decide)
  have k0:=h4 0 (by decide)
  have k1:=h4 1 (by decide)
  rw[addr_zero] at k0
  exact⟨(a0,a1),⟨k0,k1⟩,b0,b1⟩)
 simp only[List.cons.injEq,Value.slice.injEq,and_true] at e
 obtain⟨rfl,rfl,rfl⟩:=e
 refine⟨A,n,c,l,rfl,⟨hl,hn,hm,fun h0=>?_,hA⟩,fun r hr=>?_,hcap⟩
 · obtain⟨r0,hr0⟩:∃r0,l[0]? = some r0:=⟨_,List.getElem?_eq_getElem (by omega)⟩
   obtain⟨x,rfl,hx,_⟩:=hq 0 r0 hr0
   refine⟨x,rfl,hx,fun j u hu=>?_⟩
   have hj:j<l.length*2:=by rw[←runVs_len];exact (List.getElem?_eq_some_iff.1 hu).1
   obtain⟨r,hr⟩:∃r,l[j/2]? = some r:=⟨_,List.getElem?_eq_getElem (by omega)⟩
   obtain⟨x',e,_,⟨q0,q1⟩,_⟩:=hq (j/2) r hr
   injection e with e
   subst e
   obtain⟨t0,t1⟩:=runVs_at l (j/2) r hr
   rcases Nat.mod_two_eq_zero_or_one j with hm2 | hm2
   · have hj2:j=j/2*2:=by omega
     rw[←hj2] at t0 q0
     rw[t0] at hu
     injection hu with hu
     rw[q0,hu]
   · have hj2:j=j/2*2+1:=by omega
     rw[←hj2] at t1
     rw[Go.Deep.add_add,←hj2] at q1
     rw[t1] at hu
     injection hu with hu
     rw[q1,hu]
 · obtain⟨j,hj,he⟩:=List.getElem_of_mem hr
   obtain⟨_,_,_,_,k1⟩:=hq j r (by rw[List.getElem?_eq_getElem hj,he])
   exact k1
end
theorem zero_blkN {i n:Nat} (hi:i<n):blkL (zeros (n*256)) i=zeros 256:=by
 unfold blkL zeros
 rw[List.drop_replicate,List.take_replicate,Nat.min_eq_left (by omega)]
set_option maxRecDepth 100000 in
theorem rd8_any (n:Nat) (hn:n≤100000) (w:World):Calls Tryz.prog 14 #[.int .i64 (n:Int)] w fun e w'=>∃g v1 v2 b1 b2,e = .returned (.pointer (some ⟨g,0,none⟩))∧RdB w' w.heap.size g v1 v2 b1 b2 0 (-1) false (zeros (n*256))∧b1.length=n∧b2.length=n∧Below w.heap.size w w':=by
 have HN:=Lib.hid hn
 clear hn
 go_enter Tryz.func14,Tryz.ntmps14
 go_wp2_with fail
 go_loopw [4] (fun z wr=>∃i:Nat,i≤n∧z = .int .i64 (i:Int)∧∃v1 v2 b1 b2,RdB wr w.heap.size w.heap.size v1 v2 b1 b2 0 (-1) false (zeros (n*256))∧b1.length=i∧b2.length=i∧Below w.heap.size w wr) (fun z _=>n-(intOf z).toNat)
 case atStart=>
  refine⟨0,Nat.zero_le _,rfl,.slice none 0 0,.slice none 0 0,[],[],⟨CbB.new _ _ _,World.ownsRow_nil _ _ _ _,World.ownsRow_nil _ _ _ _,fun k hk=>(by cases hk),fun i b hi=>(by simp at hi),fun i b hi=>(by simp at hi),by simp,Nat.le_refl _⟩,rfl,rfl,(Below.refl _ _).alloc (Nat.le_refl _) _⟩
 case round=>
  obtain⟨i,hi,rfl,v1,v2,b1,b2,hr,hl1,hl2,hb⟩:=hrel
  by_cases hlt:i<n
  · have hlti:(i:Int)<(n:Int):=by omega
    have hib:(i:Int)≤100000:=by have:=HN.out;omega
    have HR:=Lib.hid hr
    have HB:=Lib.hid hb
    have L1:=Lib.hid hl1
    have L2:=Lib.hid hl2
    have HL:=Lib.hid hlt
    clear hr hb hlt hi hl1 hl2
    go_wp2_with fail
    · skip
      refine wp_wide5 (fun i k=>i=4∧v1.ownBlock=some k) [⟨11,IsR (.pointer (some ⟨w.heap.size,0,none⟩)),[],false⟩,⟨12,IsR (v1),[0],false⟩,⟨13,BnewR wr.heap.size,[],false⟩,⟨14,OneSl wr.heap.size,[2],false⟩,⟨15,AppR w.heap.size wr.heap.size v1 b1,[1,3],false⟩,⟨16,IsR (.pointer (some ⟨w.heap.size,0,none⟩)),[],false⟩] (by kernel_rfl) (by kernel_rfl) rfl rfl rfl ⟨?_,?_,?_,?_,?_,?_,trivial⟩ ?_
      · refine⟨rfl,IsR.monoF _ _,fun a W hA hb hd=>Takes.to5 (takes_plain rfl (yields_value _ ?_ rfl)) _⟩
        have h3:a.tmps[3]?.getD undef = .pointer (some ⟨w.heap.size,0,none⟩):=(eval_get a 3).trans ((hA.eval (by simp)).trans rfl)
        go_simp
      · refine⟨rfl,IsR.monoF _ _,fun a W hA hb hd=>Takes.to5 (takes_plain rfl (yields_value _ ?_ rfl)) _⟩
        have h11:a.tmps[11]?.getD undef = .pointer (some ⟨w.heap.size,0,none⟩):=(eval_get a 11).trans (hd 0 (by simp) _ rfl)
        have hc:W.cell? ⟨w.heap.size,0,none⟩=some v1:=(HR.out.box.fr hb (fun ⟨j,_,_,hj⟩=>row_ne HR.out.own1 HR.out.box (by decide) hj)).cell (k:=0) rfl
        obtain⟨A,cp,hv⟩:=row_shape HR.out.own1
        subst hv
        go_simp
      · refine⟨rfl,fun z W W1 h1 hf=>h1.fr hf (fun k ⟨j,_,_,hj⟩=>own_ltX HR.out.own1 k hj),fun a W hA hb hd=>takes5_plain rfl ?_⟩
        refine .inl ⟨.slice (some ⟨W.heap.size,0,none⟩) 256 256,W.alloc (.cells (bts (zeros 256)) 5),?_,⟨_,rfl,hb.size,Bk.new _ _ _⟩,Fr.of ((Below.refl _ _).alloc (Nat.le_refl _) _) _⟩
        have hmk:=make_u8 256 256 (Nat.le_refl _) (by decide) W
        have hx:a.eval (.const (.int .i64 256)) = .int .i64 ((256:Nat):Int):=rfl
        unfold execOp
        simp only[hx,hmk,Sem.run_bind,Result.andThen_ok,Sem.run_pure]
      · refine⟨rfl,fun z W W1 ⟨G1,u,h1,h2,h3,h4⟩ hf=>⟨G1,u,h1,h2.fr hf (fun ⟨j,_,_,hj⟩=>by have:=own_ltX HR.out.own1 _ hj;omega),h3,h4.fr hf (fun k ⟨j,_,_,hj⟩=>own_ltX HR.out.own1 k hj)⟩,fun a W hA hb hd=>takes5_plain rfl ?_⟩
        obtain⟨b,hu,hbs,hbk⟩:=hd 2 (by simp) _ rfl
        have h13:a.tmps[13]?.getD undef = .slice (some ⟨b,0,none⟩) 256 256:=(eval_get a 13).trans hu
        refine .inl ⟨.slice (some ⟨W.heap.size,0,none⟩) 1 1,W.alloc (.cells #[.slice (some ⟨b,0,none⟩) 256 256] 64),?_,⟨_,_,rfl,CbB.new _ _ _,hb.size,b,rfl,hbs,hbk.alloc _⟩,Fr.of ((Below.refl _ _).alloc (Nat.le_refl _) _) _⟩
        go_simp
      · refine⟨rfl,fun z W W1 ⟨b,h1,h2,h3,h4⟩ hf=>⟨b,h1,h2.fr hf (fun ⟨j,_,_,hj⟩=>by have:=own_ltX HR.out.own1 _ hj;omega),row_fr h3 hf (fun k hk ⟨j,hj,hj2,_⟩=>hj hj2),h4⟩,fun a W hA hb hd=>takes5_plain rfl ?_⟩
        have hs:a.eval (.tmp 12)=v1:=hd 1 (by simp) _ rfl
        obtain⟨Gs,u,he,hcb,hGs,b,rfl,hbs,hbk⟩:=hd 3 (by simp) _ rfl
        have hx:a.eval (.tmp 14) = .slice (some ⟨Gs,0,none⟩) 1 1:=he
        have hown:=row_fr HR.out.own1 hb (fun k hk ⟨j,hj,hj2,_⟩=>hj hj2)
        obtain⟨i0,hi0,hz0,hz1,hz2⟩:=info_parts infoSlB
        obtain⟨vq,W1,hrun,r1,r2,_,r4⟩:=run_append_own_at (P:=Tryz.prog) W w.heap.size 117 117 64 i0 _ 1 24 Tryz.underlying117 hi0 hz0 hz1 hz2 rfl (by decide) v1 b1.length _ hown ⟨Gs,0,none⟩ 1 1 [.slice (some ⟨b,0,none⟩) 256 256] rfl (row_at hcb) (by simp[Value.oneCell']) (by have:=HN.out;have:=HL.out;have:=L1.out;have:=L2.out;simp only[maxLen];have:=L1.out;have:=HL.out;omega) (by have:=HN.out;have:=HL.out;have:=L1.out;have:=L2.out;have:=L1.out;have:=HL.out;omega) (Nat.le_trans HB.out.size hb.size)
        refine .inl ⟨vq,W1,?_,⟨b,hbs,hbk.fr (Fr.grown r2) (fun e=>by have:=own_ltX HR.out.own1 _ e;omega),r1,?_⟩,(Fr.grown r2).imp fun k hk=>⟨rfl,hk⟩⟩
        · unfold execOp
          simp only[resolve,invoke,builtin,Sem.run_bind,Sem.run_pure,Result.andThen_ok,List.map_toArray,List.map_cons,List.map_nil,hs,hx,hrun]
        · rcases r4 with r4 | r4
          · exact .inl r4
          · exact .inr ⟨_,r4,hb.size⟩
      · refine⟨rfl,IsR.monoF _ _,fun a W hA hb hd=>Takes.to5 (takes_plain rfl (yields_value _ ?_ rfl)) _⟩
        have h3:a.tmps[3]?.getD undef = .pointer (some ⟨w.heap.size,0,none⟩):=(eval_get a 3).trans ((hA.eval (by simp)).trans rfl)
        go_simp
      intro vs0 wrn hR hb
      obtain⟨b,hbs,hbk,hrow,hvv⟩:AppR w.heap.size wr.heap.size v1 b1 (vs0 15) wrn:=hR 4 _ rfl
      have e11:vs0 11 = .pointer (some ⟨w.heap.size,0,none⟩):=hR 0 _ rfl
      have e12:vs0 12=v1:=hR 1 _ rfl
      have e16:vs0 16 = .pointer (some ⟨w.heap.size,0,none⟩):=hR 5 _ rfl
      simp only[List.map_cons,List.map_nil,List.foldl_cons,List.foldl_nil,List.length_cons,List.length_nil,List.drop_succ_cons,List.drop_zero,Act.put,List.setIfInBounds_toArray,List.set_cons_zero,List.set_cons_succ,e11,e12,e16]
      have FR:Hid (Fr wr wrn (fun k=>v1.ownBlock=some k)):=Lib.hid (hb.imp fun k ⟨j,_,hj⟩=>hj)
      have NW:=Lib.hid (HR.out.push1 HB.out.size FR.out (by rw[L1.out,zero_blkN (by have:=HL.out;omega)];exact hbk) hbs hrow hvv)
      have G2:=Lib.hid (HR.out.box.fr FR.out (row_ne HR.out.own1 HR.out.box (by decide)))
      have BB:=Lib.hid (Fr.below FR.out (fun k hk=>own_ge9 HR.out.own1 k hk) HB.out HB.out.size)
      obtain⟨A1,c1,hv1⟩:=row_shape hrow
      generalize vs0 15=q15 at *
      subst hv1
      have hf:=G2.out.free 0
      have hcl:=G2.out.cell (k:=0) rfl
      clear hR hb hrow hvv e11 e12 e16
      generalize vs0 13=q13 at *
      generalize vs0 14=q14 at *
      go_upto_region 6 with (fail)
      obtain⟨wm,hwm⟩:∃wm,wrn.setCell ⟨w.heap.size,0,none⟩ (.slice A1 (b1.length+1) c1)=wm:=⟨_,rfl⟩
      have BM:Hid (Below w.heap.size w wm):=Lib.hid (by rw[←hwm];exact Fr.below (fr_cell _ _ _ _) (fun k hk=>by omega) BB.out BB.out.size)
      rw[hwm] at NW⊢
      clear hwm hf hcl G2 FR hbk hbs BB HR HB
      have HB:=BM
      clear BM
      refine wp_wide5 (fun i k=>i=4∧v2.ownBlock=some k) [⟨17,IsR (.pointer (some ⟨w.heap.size,1,none⟩)),[],false⟩,⟨18,IsR (v2),[0],false⟩,⟨19,BnewR wm.heap.size,[],false⟩,⟨20,OneSl wm.heap.size,[2],false⟩,⟨21,AppR w.heap.size wm.heap.size v2 b2,[1,3],false⟩,⟨22,IsR (.pointer (some ⟨w.heap.size,1,none⟩)),[],false⟩] (by kernel_rfl) (by kernel_rfl) rfl rfl rfl ⟨?_,?_,?_,?_,?_,?_,trivial⟩ ?_
      · refine⟨rfl,IsR.monoF _ _,fun a W hA hb hd=>Takes.to5 (takes_plain rfl (yields_value _ ?_ rfl)) _⟩
        have h3:a.tmps[3]?.getD undef = .pointer (some ⟨w.heap.size,0,none⟩):=(eval_get a 3).trans ((hA.eval (by simp)).trans rfl)
        go_simp
      · refine⟨rfl,IsR.monoF _ _,fun a W hA hb hd=>Takes.to5 (takes_plain rfl (yields_value _ ?_ rfl)) _⟩
        have h17:a.tmps[17]?.getD undef = .pointer (some ⟨w.heap.size,1,none⟩):=(eval_get a 17).trans (hd 0 (by simp) _ rfl)
        have hc:W.cell? ⟨w.heap.size,1,none⟩=some v2:=(NW.out.box.fr hb (fun ⟨j,_,_,hj⟩=>row_ne NW.out.own2 NW.out.box (by decide) hj)).cell (k:=1) rfl
        obtain⟨A,cp,hv⟩:=row_shape NW.out.own2
        subst hv
        go_simp
      · refine⟨rfl,fun z W W1 h1 hf=>h1.fr hf (fun k ⟨j,_,_,hj⟩=>own_ltX NW.out.own2 k hj),fun a W hA hb hd=>takes5_plain rfl ?_⟩
        refine .inl ⟨.slice (some ⟨W.heap.size,0,none⟩) 256 256,W.alloc (.cells (bts (zeros 256)) 5),?_,⟨_,rfl,hb.size,Bk.new _ _ _⟩,Fr.of ((Below.refl _ _).alloc (Nat.le_refl _) _) _⟩
        have hmk:=make_u8 256 256 (Nat.le_refl _) (by decide) W
        have hx:a.eval (.const (.int .i64 256)) = .int .i64 ((256:Nat):Int):=rfl
        unfold execOp
        simp only[hx,hmk,Sem.run_bind,Result.andThen_ok,Sem.run_pure]
      · refine⟨rfl,fun z W W1 ⟨G1,u,h1,h2,h3,h4⟩ hf=>⟨G1,u,h1,h2.fr hf (fun ⟨j,_,_,hj⟩=>by have:=own_ltX NW.out.own2 _ hj;omega),h3,h4.fr hf (fun k ⟨j,_,_,hj⟩=>own_ltX NW.out.own2 k hj)⟩,fun a W hA hb hd=>takes5_plain rfl ?_⟩
        obtain⟨b,hu,hbs,hbk⟩:=hd 2 (by simp) _ rfl
        have h19:a.tmps[19]?.getD undef = .slice (some ⟨b,0,none⟩) 256 256:=(eval_get a 19).trans hu
        refine .inl ⟨.slice (some ⟨W.heap.size,0,none⟩) 1 1,W.alloc (.cells #[.slice (some ⟨b,0,none⟩) 256 256] 64),?_,⟨_,_,rfl,CbB.new _ _ _,hb.size,b,rfl,hbs,hbk.alloc _⟩,Fr.of ((Below.refl _ _).alloc (Nat.le_refl _) _) _⟩
        go_simp
      · refine⟨rfl,fun z W W1 ⟨b,h1,h2,h3,h4⟩ hf=>⟨b,h1,h2.fr hf (fun ⟨j,_,_,hj⟩=>by have:=own_ltX NW.out.own2 _ hj;omega),row_fr h3 hf (fun k hk ⟨j,hj,hj2,_⟩=>hj hj2),h4⟩,fun a W hA hb hd=>takes5_plain rfl ?_⟩
        have hs:a.eval (.tmp 18)=v2:=hd 1 (by simp) _ rfl
        obtain⟨Gs,u,he,hcb,hGs,b,rfl,hbs,hbk⟩:=hd 3 (by simp) _ rfl
        have hx:a.eval (.tmp 20) = .slice (some ⟨Gs,0,none⟩) 1 1:=he
        have hown:=row_fr NW.out.own2 hb (fun k hk ⟨j,hj,hj2,_⟩=>hj hj2)
        obtain⟨i0,hi0,hz0,hz1,hz2⟩:=info_parts infoSlB
        obtain⟨vq,W1,hrun,r1,r2,_,r4⟩:=run_append_own_at (P:=Tryz.prog) W w.heap.size 117 117 64 i0 _ 1 24 Tryz.underlying117 hi0 hz0 hz1 hz2 rfl (by decide) v2 b2.length _ hown ⟨Gs,0,none⟩ 1 1 [.slice (some ⟨b,0,none⟩) 256 256] rfl (row_at hcb) (by simp[Value.oneCell']) (by have:=HN.out;have:=HL.out;have:=L1.out;have:=L2.out;simp only[maxLen];have:=L2.out;have:=HL.out;omega) (by have:=HN.out;have:=HL.out;have:=L1.out;have:=L2.out;have:=L2.out;have:=HL.out;omega) (Nat.le_trans HB.out.size hb.size)
        refine .inl ⟨vq,W1,?_,⟨b,hbs,hbk.fr (Fr.grown r2) (fun e=>by have:=own_ltX NW.out.own2 _ e;omega),r1,?_⟩,(Fr.grown r2).imp fun k hk=>⟨rfl,hk⟩⟩
        · unfold execOp
          simp only[resolve,invoke,builtin,Sem.run_bind,Sem.run_pure,Result.andThen_ok,List.map_toArray,List.map_cons,List.map_nil,hs,hx,hrun]
        · rcases r4 with r4 | r4
          · exact .inl r4
          · exact .inr ⟨_,r4,hb.size⟩
      · refine⟨rfl,IsR.monoF _ _,fun a W hA hb hd=>Takes.to5 (takes_plain rfl (yields_value _ ?_ rfl)) _⟩
        have h3:a.tmps[3]?.getD undef = .pointer (some ⟨w.heap.size,0,none⟩):=(eval_get a 3).trans ((hA.eval (by simp)).trans rfl)
        go_simp
      intro vs1 wmn hR hb
      obtain⟨b,hbs,hbk,hrow,hvv⟩:AppR w.heap.size wm.heap.size v2 b2 (vs1 21) wmn:=hR 4 _ rfl
      have e17:vs1 17 = .pointer (some ⟨w.heap.size,1,none⟩):=hR 0 _ rfl
      have e18:vs1 18=v2:=hR 1 _ rfl
      have e22:vs1 22 = .pointer (some ⟨w.heap.size,1,none⟩):=hR 5 _ rfl
      simp only[List.map_cons,List.map_nil,List.foldl_cons,List.foldl_nil,List.length_cons,List.length_nil,List.drop_succ_cons,List.drop_zero,Act.put,List.setIfInBounds_toArray,List.set_cons_zero,List.set_cons_succ,e17,e18,e22]
      have FR:Hid (Fr wm wmn (fun k=>v2.ownBlock=some k)):=Lib.hid (hb.imp fun k ⟨j,_,hj⟩=>hj)
      have NW2:=Lib.hid (NW.out.push2 HB.out.size FR.out hbk (by rw[zeros_len]) hbs hrow hvv)
      have G2:=Lib.hid (NW.out.box.fr FR.out (row_ne NW.out.own2 NW.out.box (by decide)))
      have BB:=Lib.hid (Fr.below FR.out (fun k hk=>own_ge9 NW.out.own2 k hk) HB.out HB.out.size)
      obtain⟨A2,c2,hv2⟩:=row_shape hrow
      generalize vs1 21=q21 at *
      subst hv2
      have hf:=G2.out.free 1
      have hcl:=G2.out.cell (k:=1) rfl
      clear hR hb hrow hvv e17 e18 e22
      generalize vs1 19=q19 at *
      generalize vs1 20=q20 at *
      have B7:=Lib.hid (Fr.below (fr_cell wmn w.heap.size 1 (.slice A2 (b2.length+1) c2)) (fun k hk=>by omega) BB.out BB.out.size)
      clear G2 FR hbk hbs BB HB NW
      go_wp2_with fail
      go_roundw
      case rel=>exact⟨i+1,HL.out,by go_num,_,_,_,_,NW2.out,by rw[List.length_append,L1.out];rfl,by rw[List.length_append,L2.out];rfl,B7.out⟩
      case measure=>simp[intOf];have:=HL.out;omega
  · obtain rfl:i=n:=by omega
    have HR:=Lib.hid hr
    have HB:=Lib.hid hb
    have L1:=Lib.hid hl1
    have L2:=Lib.hid hl2
    clear hr hb hlt hi hl1 hl2
    go_wp2_with fail
    go_ret
    exact⟨w.heap.size,v1,v2,b1,b2,rfl,HR.out,L1.out,L2.out,HB.out⟩
set_option maxRecDepth 100000 in
theorem diskNew_bad (z:Int) (w:World) (h:z<8∨4096<z):Calls Tryz.prog 7 #[.int .i64 z] w fun e w'=>e = .returned (.tuple #[.pointer none,.int .i64 2])∧Below w.heap.size w w':=by
 by_cases h1:z<8
 · clear h
   go_enter Tryz.func7,Tryz.ntmps7
   go_wp2_with fail
   go_ret2
   exact⟨rfl,Below.refl _ _⟩
 · have h2:4096<z:=by omega
   clear h
   go_enter Tryz.func7,Tryz.ntmps7
   go_wp2_with fail
   go_ret2
   exact⟨rfl,Below.refl _ _⟩
section
variable {d rg lg n c:Nat} {A:Option Addr} {w:World}
set_option maxRecDepth 100000 in
theorem pnew_nilD (u v:Option Addr):Calls Tryz.prog 10 #[.pointer none,.pointer u,.pointer v,.slice A n c] w fun e w'=>e = .returned (.tuple #[.pointer none,.int .i64 1])∧Below w.heap.size w w':=by
 go_enter Tryz.func10,Tryz.ntmps10
 go_wp2_with fail
 go_ret2
 exact⟨rfl,Below.refl _ _⟩
set_option maxRecDepth 100000 in
theorem pnew_nilR (v:Option Addr):Calls Tryz.prog 10 #[.pointer (some ⟨d,0,none⟩),.pointer none,.pointer v,.slice A n c] w fun e w'=>e = .returned (.tuple #[.pointer none,.int .i64 1])∧Below w.heap.size w w':=by
 go_enter Tryz.func10,Tryz.ntmps10
 go_wp2_with fail
 go_ret2
 exact⟨rfl,Below.refl _ _⟩
set_option maxRecDepth 100000 in
theorem pnew_nilL:Calls Tryz.prog 10 #[.pointer (some ⟨d,0,none⟩),.pointer (some ⟨rg,0,none⟩),.pointer none,.slice A n c] w fun e w'=>e = .returned (.tuple #[.pointer none,.int .i64 1])∧Below w.heap.size w w':=by
 go_enter Tryz.func10,Tryz.ntmps10
 go_wp2_with fail
 go_ret2
 exact⟨rfl,Below.refl _ _⟩
set_option maxRecDepth 100000 in
theorem pnew_bad {O:Tgm} {l:RnL} {D:DvS} (hd:DvM w O d D) (hr:RnB w A n c l) (hu:∀r∈l,r.1<4294967296∧r.2<4294967296) (h:rightR l=false∨frNew D.n l=false):
 Calls Tryz.prog 10 #[.pointer (some ⟨d,0,none⟩),.pointer (some ⟨rg,0,none⟩),.pointer (some ⟨lg,0,none⟩),.slice A n c] w fun e w'=>e = .returned (.tuple #[.pointer none,.int .i64 2])∧Below w.heap.size w w':=by
 have hmm:∀W:World,(Instr.makeMap 109 none).run Tryz.prog W = .ok (.map (some W.heap.size)) (W.alloc (.map #[] 0)):=fun _=>rfl
 have hmb:∀W:World,(Instr.makeMap 110 none).run Tryz.prog W = .ok (.map (some W.heap.size)) (W.alloc (.map #[] 0)):=fun _=>rfl
 have hmi:∀W:World,(Instr.makeMap 111 none).run Tryz.prog W = .ok (.map (some W.heap.size)) (W.alloc (.map #[] 0)):=fun _=>rfl
 have HD:=Lib.hid hd
 have HR:=Lib.hid hr
 have HU:=Lib.hid hu
 have HP:=Lib.hid h
 clear hd hr hu h
 go_enter Tryz.func10,Tryz.ntmps10
 go_wp2_with fail
 obtain⟨W0,hW0⟩:∃W0,newW w d rg lg=W0:=⟨_,rfl⟩
 have hN:=new_begin w O d rg lg
 rw[hW0] at hN
 unfold newW at hW0
 rw[hW0]
 clear hW0
 obtain⟨n1,n2,n3⟩:=hN
 have N1:=Lib.hid n1
 have N2:=Lib.hid n2
 have N3:=Lib.hid n3
 have HR0:=Lib.hid (HR.out.ab n2)
 clear n1 n2 n3 hmm hmb hmi
 refine (right_any' A n c l W0 HR0.out).mono ?_
 rintro e w1 ⟨rfl,hb1⟩
 have B1:=Lib.hid (N2.out.trans (show Below w.heap.size W0 w1 from hb1.mono N2.out.size))
 have B01:=Lib.hid hb1
 clear hb1
 cases hrr:rightR l with
 | false=>
   clear hrr
   go_wp2_with fail
   go_ret2
   exact⟨rfl,B1.out⟩
 | true=>
 have HRR:=Lib.hid hrr
 clear hrr
 have hfn:frNew D.n l=false:=by
  rcases HP.out with h | h
  · rw[HRR.out] at h;cases h
  · exact h
 have hl0:l≠[]:=fun e=>by
  subst e
  cases hfn
 have h0n:0<n:=by have:=HR.out.len;have:=List.length_pos_iff.2 hl0;omega
 obtain⟨m,hm⟩:∃m,n=m+1:=⟨n-1,by omega⟩
 obtain⟨ra,hra⟩:∃ra,l[0]? = some ra:=⟨_,List.getElem?_eq_getElem (by have:=HR.out.len;omega)⟩
 obtain⟨rb,hrb⟩:∃rb,l[m]? = some rb:=⟨_,List.getElem?_eq_getElem (by have:=HR.out.len;omega)⟩
 unfold frNew at hfn
 rw[List.head?_eq_getElem?,hra,List.getLast?_eq_getElem?,show l.length-1=m by have:=HR.out.len;omega,hrb] at hfn
 dsimp only at hfn
 have hua:=HU.out ra (List.mem_of_getElem? hra)
 have hub:=HU.out rb (List.mem_of_getElem? hrb)
 have hb0:=(right_all HRR.out m rb hrb).1
 obtain⟨x,rfl,hxl,hca⟩:=HR.out.at hra
 rw[show x.add (0*2)=x from by rw[Nat.zero_mul];exact addr_zero x] at hca
 obtain⟨x',he,_,hcb⟩:=HR.out.at hrb
 injection he with he
 subst he
 have KA:=Lib.hid hca
 have KB:=Lib.hid hcb
 have r0:=(KA.out _ B1.out).1
 have r1:=(KB.out _ B1.out).2
 have g0:(0:Int)<(n:Int):=by omega
 have g1:IntKind.i64.wrap ((n:Int)-1)=(m:Int):=by
  have h1:=HR.out.cap
  have h2:=HR.out.max
  unfold maxLen at h2
  rw[show (n:Int)-1=(m:Int) by omega]
  exact wrap_i64P (by omega) (by omega)
 have g2:(m:Int)<(n:Int):=by omega
 have g3:(0:Int)≤(m:Int):=by omega
 have g4:IntKind.u32.wrap ((rb.2:Int)-1)=((rb.2-1:Nat):Int):=by
  rw[show (rb.2:Int)-1=((rb.2-1:Nat):Int) by omega]
  exact wrap_u32 _ (by omega) (by omega)
 have HF:=Lib.hid hfn
 have HNA:Hid (ra.1<4294967296∧rb.2-1<4294967296):=Lib.hid (by omega)
 have DH:Hid (∀W,Below W0.heap.size W0 W→∀q:Nat,q<4294967296→Calls Tryz.prog 42 #[.pointer (some ⟨w.heap.size+1+1+1,0,none⟩),.int .u32 (q:Int)] W fun e w'=>e = .returned (.bool (decide (1<q)&&decide (q<D.n)))∧W=w'):=Lib.hid fun W hW q hq=>by
  obtain⟨g1,g2,wv,k1,_⟩:=HD.out
  exact phas_any q hq ((show CbB _ _ _ _ from N1.out.box).ab hW) (k1.ab (N2.out.trans (hW.mono N2.out.size)))
 clear hl0 hra hrb hfn hua hub hb0 hxl hca hcb h0n hm
 go_wp2_with fail
 refine (DH.out w1 B01.out ra.1 HNA.out.1).mono ?_
 rintro e w' ⟨rfl,rfl⟩
 cases hq1:decide (1<ra.1)&&decide (ra.1<D.n) with
 | false=>
   clear hq1 HF
   go_wp2_with fail
   go_ret2
   exact⟨rfl,B1.out⟩
 | true=>
   have hq2:=HF.out
   rw[hq1,Bool.true_and] at hq2
   have HQ2:=Lib.hid hq2
   clear hq1 hq2 HF
   go_wp2_with fail
   refine (DH.out w1 B01.out (rb.2-1) HNA.out.2).mono ?_
   rintro e w' ⟨rfl,rfl⟩
   rw[HQ2.out]
   go_wp2_with fail
   go_ret2
   exact⟨rfl,B1.out⟩
end
set_option maxRecDepth 100000 in
theorem wpList_appRL {rest:List Oper} {ops:Array Oper} {o:Oper} {a:Act} {w:World} {Q:Exit→Act→World→Prop} (hgd:o.guard=none) (s x:Operand)
 (ho:o.op = .call { callee:=.builtin .append,args:=#[s,x],argTypes:=#[22,22] })
 {B:Nat} {v:Value} {l m:RnL} (hown:RuB w B v l) (hs:a.eval s=v) {A:Option Addr} {n c:Nat} (hx:a.eval x = .slice A n c) (hr:RnB w A n c m) (hl:(l.length+n)*8≤140737488355328) (hB:B≤w.heap.size)
 (h:∀v' w',RuB w' B v' (l++m)→w.grownBy w' v.ownBlock→wpList Tryz.prog ops Q rest (a.put o.dst v') w'):wpList Tryz.prog ops Q (o::rest) a w:=by
 obtain⟨i0,hi0,hz0,hz1,hz2⟩:=info_parts infoRun
 have hlen:=hr.len
 have hap:∃v' w',(Builtin.append_ #[22,22] o.type #[v,.slice A n c]).run Tryz.prog w = .ok v' w'∧RuB w' B v' (l++m)∧w.grownBy w' v.ownBlock:=by
  cases A with
  | none=>
    have hc:=hr.nil rfl
    have hcap:=hr.cap
    have hn0:n=0:=by omega
    have hm0:m=[]:=List.eq_nil_of_length_eq_zero (by omega)
    subst hc hn0 hm0
    exact⟨v,w,run_append_owned_none (P:=Tryz.prog) w B 22 o.type 72 i0 2 Tryz.underlying22 hi0 v _ _ hown,by simpa using hown,World.grownBy.refl w _⟩
  | some y=>
    have hcells:∀j u,(runVs m)[j]? = some u→w.cell? (y.add j)=some u:=fun j u hu=>by
     have hj:=(List.getElem?_eq_some_iff.1 hu).1
     rw[runVs_len] at hj
     obtain⟨x,h1,_,h3⟩:=hr.cel (by omega)
     injection h1 with h1
     subst h1
     exact h3 j u hu
    obtain⟨v1,W1,hrun,r1,r2,_⟩:=run_append_own_at (P:=Tryz.prog) w B 22 o.type 72 i0 _ 2 8 Tryz.underlying22 hi0 hz0 hz1 hz2 rfl (by decide) v l.length (runVs l) hown y n c (runVs m) (by rw[runVs_len,hlen]) hcells (runVs_one m) (by simp only[maxLen];omega) hl hB
    refine⟨v1,W1,hrun,?_,r2⟩
    unfold RuB
    rw[runVs_app,List.length_append,hlen]
    exact r1
 obtain⟨v',w',hrun,h1,h2⟩:=hap
 refine wpList_plain hgd fun K hK=>?_
 unfold Oper.wp execOp
 simp only[ho,resolve,invoke,builtin,Sem.run_bind,Sem.run_pure,Result.andThen_ok,List.map_toArray,List.map_cons,List.map_nil,hs,hx,hrun]
 exact hK _ _ (h v' w' h1 h2)
theorem bel_dN {B:Nat} {a b:World} (h:Below B a b) (n:Nat):Below B a (b.drewN n):=⟨h.os,h.tape,h.output,h.size,h.block⟩
set_option maxRecDepth 100000 in
theorem rright_any (A:Option Addr) (n c:Nat) (l:RnL) (w:World) (h:RnB w A n c l):
 Calls Tryz.prog 44 #[.slice A n c] w fun e w'=>e = .returned (.bool (rightR l))∧Below w.heap.size w w':=by
 have hn:(n:Int)≤9223372036854775807:=by have:=h.cap;have:=h.max;unfold maxLen at this;omega
 have HR:=Lib.hid h
 clear h
 go_enter Tryz.func44,Tryz.ntmps44
 go_wp2_with fail
 go_loopw [3] (fun z wx=>∃i:Nat,i≤n∧z = .int .i64 (i:Int)∧(List.range i).all (rightI l)=true∧Below w.heap.size w wx) (fun z _=>n-(intOf z).toNat)
 case atStart=>exact⟨0,Nat.zero_le _,rfl,rfl,Below.refl _ _⟩
 case round=>
  obtain⟨i,hi,rfl,hal,hb⟩:=hrel
  have HB:=Lib.hid hb
  have HA:=Lib.hid hal
  clear hb hal
  by_cases hlt:i<n
  · obtain⟨r,hr⟩:∃r,l[i]? = some r:=⟨_,List.getElem?_eq_getElem (by rw[HR.out.len];exact hlt)⟩
    obtain⟨x,rfl,hxl,hcel⟩:=HR.out.at hr
    have hlti:(i:Int)<(n:Int):=by omega
    have HLT:=Lib.hid hlt
    have HL:Hid (i<l.length):=Lib.hid (by rw[HR.out.len];exact hlt)
    have hgd:l.getD i (0,0)=r:=by rw[List.getD_eq_getElem?_getD,hr];rfl
    have hq:rightI l i=(decide (r.1<r.2)&&(decide (i=0)||decide ((l.getD (i-1) (0,0)).2<r.1))):=by unfold rightI;rw[hgd]
    have HQ:=Lib.hid hq
    have r0:wr.cell? (x.add (i*2))=some (.int .u32 (r.1:Int)):=(hcel _ HB.out).1
    have r1:wr.cell? ⟨(x.add (i*2)).block,(x.add (i*2)).off+1,none⟩=some (.int .u32 (r.2:Int)):=(hcel _ HB.out).2
    have hi0:(0:Int)≤(i:Int):=by omega
    clear hlt hi hr hxl hcel hgd hq
    by_cases h1:r.1<r.2
    · have e1:decide ((r.2:Int)≤(r.1:Int))=false:=decide_eq_false (by omega)
      have e1n:decide (r.2≤r.1)=false:=decide_eq_false (by omega)
      have E1:=Lib.hid h1
      clear h1
      by_cases h0:i=0
      · subst h0
        have g0n:decide (0<0)=false:=rfl
        have hs:Hid ((List.range (0+1)).all (rightI l)=true):=Lib.hid (all_snoc HA.out (by rw[HQ.out];simp[E1.out]))
        simp only[Nat.zero_mul,addr_zero] at r0 r1
        go_wp2_with fail
        go_quiet (fail)
        go_wp2_with fail
        go_quiet (fail)
        go_wp2_with fail
        go_roundw
        case rel=>exact⟨0+1,HLT.out,by go_num,hs.out,by first | exact bel_dN HB.out _ | exact bel_dN (bel_dN HB.out _) _⟩
        case measure=>simp[intOf];have:=HLT.out;omega
      · obtain⟨j,hj⟩:∃j,i=j+1:=⟨i-1,by omega⟩
        obtain⟨q,hq2⟩:∃q,l[j]? = some q:=⟨_,List.getElem?_eq_getElem (by have:=HL.out;omega)⟩
        obtain⟨x2,he,_,hcel2⟩:=HR.out.at hq2
        injection he with he
        subst he
        have hgd2:l.getD (i-1) (0,0)=q:=by rw[List.getD_eq_getElem?_getD,show i-1=j by omega,hq2];rfl
        have q1:wr.cell? ⟨(x.add (j*2)).block,(x.add (j*2)).off+1,none⟩=some (.int .u32 (q.2:Int)):=(hcel2 _ HB.out).2
        have g0:decide ((0:Int)<(i:Int))=true:=decide_eq_true (by omega)
        have g0n:decide (0<i)=true:=decide_eq_true (by omega)
        have H0:=Lib.hid h0
        have g1:IntKind.i64.wrap ((i:Int)-1)=(j:Int):=by
         have h1:=HLT.out
         rw[show (i:Int)-1=(j:Int) by omega]
         exact wrap_i64P (by omega) (by omega)
        have g2:(j:Int)<(n:Int):=by omega
        have g3:(0:Int)≤(j:Int):=by omega
        have g4:(j:Int).toNat=j:=Int.toNat_natCast j
        clear h0 hj hq2 hcel2
        by_cases h2:q.2<r.1
        · have e2:decide ((r.1:Int)≤(q.2:Int))=false:=decide_eq_false (by omega)
          have e2n:decide (r.1≤q.2)=false:=decide_eq_false (by omega)
          have hs:Hid ((List.range (i+1)).all (rightI l)=true):=Lib.hid (all_snoc HA.out (by rw[HQ.out,hgd2,decide_eq_true h2,decide_eq_true E1.out];simp))
          clear h2 hgd2
          go_wp2_with fail
          go_quiet (fail)
          go_wp2_with fail
          go_quiet (fail)
          go_wp2_with fail
          go_roundw
          case rel=>exact⟨i+1,HLT.out,by go_num,hs.out,by first | exact bel_dN HB.out _ | exact bel_dN (bel_dN HB.out _) _⟩
          case measure=>simp[intOf];have:=HLT.out;omega
        · have e2:decide ((r.1:Int)≤(q.2:Int))=true:=decide_eq_true (by omega)
          have e2n:decide (r.1≤q.2)=true:=decide_eq_true (by omega)
          have hs:Hid (rightR l=false):=Lib.hid (all_not HL.out (by rw[HQ.out,hgd2,decide_eq_false h2,decide_eq_false H0.out];simp))
          clear h2 hgd2
          go_wp2_with fail
          go_quiet (fail)
          go_wp2_with fail
          go_quiet (fail)
          go_wp2_with fail
          go_ret
          exact⟨by rw[hs.out];rfl,by first | exact bel_dN HB.out _ | exact bel_dN (bel_dN HB.out _) _⟩
    · have e1:decide ((r.2:Int)≤(r.1:Int))=true:=decide_eq_true (by omega)
      have e1n:decide (r.2≤r.1)=true:=decide_eq_true (by omega)
      have hs:Hid (rightR l=false):=Lib.hid (all_not HL.out (by rw[HQ.out,decide_eq_false h1];rfl))
      clear h1
      go_wp2_with fail
      go_quiet (fail)
      go_wp2_with fail
      go_ret
      exact⟨by rw[hs.out];rfl,by first | exact bel_dN HB.out _ | exact bel_dN (bel_dN HB.out _) _⟩
  · obtain rfl:i=n:=by omega
    have hs:Hid (rightR l=true):=Lib.hid (by unfold rightR;rw[HR.out.len];exact HA.out)
    clear hlt hi
    go_wp2_with fail
    go_ret
    exact⟨by rw[hs.out];rfl,HB.out⟩
def mayR (n:Nat) (l:RnL):Bool:=match l.head?,l.getLast? with
 | some a,some b=>decide (1<a.1)&&decide (b.2≤n)
 | _,_=>true
theorem may_fr {n:Nat} {l:RnL} (h:rightR l=true):mayR n l=frNew n l:=by
 unfold mayR frNew
 cases ha:l.head? with
 | none=>rfl
 | some a=>
   cases hb:l.getLast? with
   | none=>rfl
   | some b=>
     dsimp only
     have h1:l[0]? = some a:=by rw[←List.head?_eq_getElem?];exact ha
     have hl:0<l.length:=(List.getElem?_eq_some_iff.1 h1).1
     have h2:=(right_all h 0 a h1).1
     have h3:=right_down h (l.length-1) 0 a h1 (by omega) b hb
     by_cases q1:1<a.1
     · by_cases q2:b.2≤n
       · rw[decide_eq_true q1,decide_eq_true q2,decide_eq_true (show a.1<n by omega),decide_eq_true (show 1<b.2-1 by omega),decide_eq_true (show b.2-1<n by omega)];rfl
       · rw[decide_eq_true q1,decide_eq_false q2,decide_eq_false (show ¬b.2-1<n by omega)];simp
     · rw[decide_eq_false q1];simp
theorem wrap_u64P {z:Int} (h0:0≤z) (h1:z<18446744073709551616):IntKind.u64.wrap z=z:=by
 obtain⟨k,rfl⟩:∃k:Nat,z=(k:Int):=⟨z.toNat,by omega⟩
 simp only[IntKind.wrap]
 have:IntKind.u64.bits=64:=rfl
 simp[IntKind.signed,IntKind.bits]
 omega
set_option maxRecDepth 100000 in
theorem rmay_any {B g n m c:Nat} {v1 v2:Value} {b1 b2:List Nat} {st cut:Int} {down:Bool} {L:List Nat} {A:Option Addr} {l:RnL} {w:World} (hd:RdB w B g v1 v2 b1 b2 st cut down L) (hn:b1.length=n) (hn4:n≤100000) (h:RnB w A m c l) (hu:∀r∈l,r.1<4294967296∧r.2<4294967296):
 Calls Tryz.prog 13 #[.pointer (some ⟨g,0,none⟩),.slice A m c] w fun e w'=>e = .returned (.bool (rightR l&&mayR n l))∧Below w.heap.size w w':=by
 have RR:=Lib.hid (rright_any A m c l w h)
 have HR:=Lib.hid h
 have HD:=Lib.hid hd
 have HU:=Lib.hid hu
 obtain⟨A1,c1,hv1⟩:=row_shape hd.own1
 rw[hn] at hv1
 have HV:=Lib.hid hv1
 have HN:=Lib.hid hn4
 clear h hd hu hn hv1 hn4
 cases hr:rightR l with
 | false=>
   rw[hr] at RR
   rw[Bool.false_and]
   clear hr
   go_enter Tryz.func13,Tryz.ntmps13
   go_wp2_with fail
   refine RR.out.mono ?_
   rintro e w1 ⟨rfl,hb⟩
   go_wp2_with fail
   go_ret
   exact⟨rfl,hb⟩
 | true=>
 rw[hr] at RR
 rw[Bool.true_and]
 have HRR:=Lib.hid hr
 clear hr
 by_cases hl0:l=[]
 · subst hl0
   obtain rfl:m=0:=HR.out.len.symm
   rw[show mayR n []=true from rfl]
   go_enter Tryz.func13,Tryz.ntmps13
   go_wp2_with fail
   refine RR.out.mono ?_
   rintro e w1 ⟨rfl,hb⟩
   have HB:=Lib.hid hb
   clear hb
   go_wp2_with fail
   go_quiet (fail)
   go_wp2_with fail
   go_ret
   exact⟨rfl,bel_dN HB.out _⟩
 · have h0m:0<m:=by have:=HR.out.len;have:=List.length_pos_iff.2 hl0;omega
   obtain⟨k,hk⟩:∃k,m=k+1:=⟨m-1,by omega⟩
   obtain⟨ra,hra⟩:∃ra,l[0]? = some ra:=⟨_,List.getElem?_eq_getElem (by have:=HR.out.len;omega)⟩
   obtain⟨rb,hrb⟩:∃rb,l[k]? = some rb:=⟨_,List.getElem?_eq_getElem (by have:=HR.out.len;omega)⟩
   have hmy:mayR n l=(decide (1<ra.1)&&decide (rb.2≤n)):=by
    unfold mayR
    rw[List.head?_eq_getElem?,hra,List.getLast?_eq_getElem?,show l.length-1=k by have:=HR.out.len;omega,hrb]
   rw[hmy]
   have hub:=HU.out rb (List.mem_of_getElem? hrb)
   obtain⟨x,rfl,hxl,hca⟩:=HR.out.at hra
   rw[show x.add (0*2)=x from by rw[Nat.zero_mul];exact addr_zero x] at hca
   obtain⟨x',he,_,hcb⟩:=HR.out.at hrb
   injection he with he
   subst he
   have e0:((m:Int)==0)=false:=by simp;omega
   have e0n:(m==0)=false:=by simp;omega
   have e02:¬(m:Int)=0:=by omega
   have g0:(0:Int)<(m:Int):=by omega
   have g1:IntKind.i64.wrap ((m:Int)-1)=(k:Int):=by
    have h1:=HR.out.cap
    have h2:=HR.out.max
    unfold maxLen at h2
    rw[show (m:Int)-1=(k:Int) by omega]
    exact wrap_i64P (by omega) (by omega)
   have g2:(k:Int)<(m:Int):=by omega
   have g3:(0:Int)≤(k:Int):=by omega
   have g4:IntKind.u64.wrap (rb.2:Int)=(rb.2:Int):=wrap_u64P (by omega) (by omega)
   have g5:IntKind.u64.wrap (n:Int)=(n:Int):=wrap_u64P (by omega) (by have:=HN.out;omega)
   have KA:=Lib.hid hca
   have KB:=Lib.hid hcb
   clear hl0 h0m hk hra hrb hmy hub hxl hca hcb
   cases hq1:decide (1<ra.1) with
   | false=>
     have q1:decide ((1:Int)<(ra.1:Int))=false:=by rw[←hq1,decide_eq_decide];omega
     rw[Bool.false_and]
     go_enter Tryz.func13,Tryz.ntmps13
     go_wp2_with fail
     refine RR.out.mono ?_
     rintro e w1 ⟨rfl,hb⟩
     have HB:=Lib.hid hb
     have r0:=(KA.out w1 hb).1
     clear hb
     go_wp2_with fail
     go_quiet (fail)
     go_wp2_with fail
     go_ret
     exact⟨rfl,bel_dN HB.out _⟩
   | true=>
     have q1:decide ((1:Int)<(ra.1:Int))=true:=by rw[←hq1,decide_eq_decide];omega
     rw[Bool.true_and]
     go_enter Tryz.func13,Tryz.ntmps13
     go_wp2_with fail
     refine RR.out.mono ?_
     rintro e w1 ⟨rfl,hb⟩
     have HB:=Lib.hid hb
     have r0:=(KA.out w1 hb).1
     have r1:=(KB.out w1 hb).2
     have c0:w1.cell? ⟨g,0,none⟩=some (.slice A1 n c1):=by rw[←HV.out];exact (HD.out.box.ab hb).cell (k:=0) rfl
     clear hb
     go_wp2_with fail
     go_quiet (fail)
     go_wp2_with fail
     go_ret
     exact⟨rfl,bel_dN HB.out _⟩
set_option maxRecDepth 100000 in
theorem makes_bad_true_true (z:Int) (hz:z<8∨4096<z) (n c:Nat) (A:Option Addr) (l:RnL) (w:World) (hi:RnB w A n c l) (hc:c*8≤140737488351232):Calls Tryz.prog 3 #[.int .i64 z,.slice A n c,.bool true,.bool true] w fun e w'=>e = .returned (.bool true)∧Below w.heap.size w w':=by
 have HI:=Lib.hid hi
 have HC:=Lib.hid hc
 clear hi hc
 go_enter Tryz.func3,Tryz.ntmps3
 go_wp2_with fail
 refine (diskNew_bad z w hz).mono ?_
 rintro e w1 ⟨rfl,hb1⟩
 have B1:=Lib.hid hb1
 clear hb1
 go_wp2_with fail
 refine (newRing_any w1).mono ?_
 rintro e w2 ⟨rg,m,rfl,hge,hr,hb2⟩
 have GE2:=Lib.hid (Nat.le_trans B1.out.size hge)
 have B2:=Lib.hid (below_tr B1.out hb2 B1.out.size)
 clear hr hb2 hge B1
 go_wp2_with fail
 refine (newLog_any w2).mono ?_
 rintro e w3 ⟨lg,rfl,hge,hl,hb3⟩
 have GE3:=Lib.hid (Nat.le_trans B2.out.size hge)
 have B3:=Lib.hid (below_tr B2.out hb3 B2.out.size)
 clear hl hb3 hge B2
 have I3:=Lib.hid (HI.out.ab B3.out)
 go_wp2_with (first
  | (refine wpList_appRL rfl (.tmp 27) (.tmp 28) rfl (RuB.empty w3) rfl rfl (I3.out.ab ((Below.refl _ _).alloc (Nat.le_refl _) _)) (by have:=HC.out;have:=HI.out.cap;simp only[List.length_nil];omega) (by simp) ?_
     intro v7 w7 hv7 hg7
     obtain⟨A7,c7,rfl,hn7,ho7⟩:=hv7.rn
     rw[List.nil_append] at hn7 hv7 ho7
     have b7:Below w3.heap.size w3 w7:=below_grownR ((Below.refl _ _).alloc (Nat.le_refl _) _) hg7 (by intro g hg;simp only[Value.ownBlock,Option.some.injEq] at hg;omega) (by simp)
     have B7:=Lib.hid (below_tr B3.out b7 B3.out.size)
     have N7:=Lib.hid hn7
     have V7:=Lib.hid hv7
     have B37:=Lib.hid b7
     rw[List.nil_append,HI.out.len]
     rw[HI.out.len] at N7 V7
     clear hv7 hg7 hn7 ho7 b7))
 refine (pnew_nilD _ _).mono ?_
 rintro e w8 ⟨rfl,hb8⟩
 have B8:=Lib.hid (below_tr B7.out hb8 B7.out.size)
 have SA:=Lib.hid (sameR_any _ _ _ _ _ _ l l w8 (N7.out.ab hb8) (HI.out.ab B8.out))
 rw[decide_eq_true rfl] at SA
 clear hb8
 go_wp2_with fail
 refine SA.out.mono ?_
 rintro e w9 ⟨rfl,hb9⟩
 have B9:=Lib.hid (below_tr B8.out hb9 B8.out.size)
 clear hb9
 go_wp2_with fail
 refine (known19_any w9).mono ?_
 rintro e w10 ⟨rfl,hb10⟩
 go_wp2_with fail
 go_ret
 exact⟨rfl,below_tr B9.out hb10 B9.out.size⟩
set_option maxRecDepth 100000 in
theorem makes_bad_true_false (z:Int) (hz:z<8∨4096<z) (n c:Nat) (A:Option Addr) (l:RnL) (w:World) (hi:RnB w A n c l) (hc:c*8≤140737488351232):Calls Tryz.prog 3 #[.int .i64 z,.slice A n c,.bool true,.bool false] w fun e w'=>e = .returned (.bool true)∧Below w.heap.size w w':=by
 have HI:=Lib.hid hi
 have HC:=Lib.hid hc
 clear hi hc
 go_enter Tryz.func3,Tryz.ntmps3
 go_wp2_with fail
 refine (diskNew_bad z w hz).mono ?_
 rintro e w1 ⟨rfl,hb1⟩
 have B1:=Lib.hid hb1
 clear hb1
 go_wp2_with fail
 refine (newRing_any w1).mono ?_
 rintro e w2 ⟨rg,m,rfl,hge,hr,hb2⟩
 have GE2:=Lib.hid (Nat.le_trans B1.out.size hge)
 have B2:=Lib.hid (below_tr B1.out hb2 B1.out.size)
 clear hr hb2 hge B1
 go_wp2_with fail
 refine (newLog_any w2).mono ?_
 rintro e w3 ⟨lg,rfl,hge,hl,hb3⟩
 have GE3:=Lib.hid (Nat.le_trans B2.out.size hge)
 have B3:=Lib.hid (below_tr B2.out hb3 B2.out.size)
 clear hl hb3 hge B2
 have I3:=Lib.hid (HI.out.ab B3.out)
 go_wp2_with (first
  | (refine wpList_appRL rfl (.tmp 27) (.tmp 28) rfl (RuB.empty w3) rfl rfl (I3.out.ab ((Below.refl _ _).alloc (Nat.le_refl _) _)) (by have:=HC.out;have:=HI.out.cap;simp only[List.length_nil];omega) (by simp) ?_
     intro v7 w7 hv7 hg7
     obtain⟨A7,c7,rfl,hn7,ho7⟩:=hv7.rn
     rw[List.nil_append] at hn7 hv7 ho7
     have b7:Below w3.heap.size w3 w7:=below_grownR ((Below.refl _ _).alloc (Nat.le_refl _) _) hg7 (by intro g hg;simp only[Value.ownBlock,Option.some.injEq] at hg;omega) (by simp)
     have B7:=Lib.hid (below_tr B3.out b7 B3.out.size)
     have N7:=Lib.hid hn7
     have V7:=Lib.hid hv7
     have B37:=Lib.hid b7
     rw[List.nil_append,HI.out.len]
     rw[HI.out.len] at N7 V7
     clear hv7 hg7 hn7 ho7 b7))
 refine (pnew_nilD _ _).mono ?_
 rintro e w8 ⟨rfl,hb8⟩
 have B8:=Lib.hid (below_tr B7.out hb8 B7.out.size)
 have SA:=Lib.hid (sameR_any _ _ _ _ _ _ l l w8 (N7.out.ab hb8) (HI.out.ab B8.out))
 rw[decide_eq_true rfl] at SA
 clear hb8
 go_wp2_with fail
 refine SA.out.mono ?_
 rintro e w9 ⟨rfl,hb9⟩
 have B9:=Lib.hid (below_tr B8.out hb9 B8.out.size)
 clear hb9
 go_wp2_with fail
 refine (known19_any w9).mono ?_
 rintro e w10 ⟨rfl,hb10⟩
 go_wp2_with fail
 go_ret
 exact⟨rfl,below_tr B9.out hb10 B9.out.size⟩
set_option maxRecDepth 100000 in
theorem makes_bad_false_true (z:Int) (hz:z<8∨4096<z) (n c:Nat) (A:Option Addr) (l:RnL) (w:World) (hi:RnB w A n c l) (hc:c*8≤140737488351232):Calls Tryz.prog 3 #[.int .i64 z,.slice A n c,.bool false,.bool true] w fun e w'=>e = .returned (.bool true)∧Below w.heap.size w w':=by
 have HI:=Lib.hid hi
 have HC:=Lib.hid hc
 clear hi hc
 go_enter Tryz.func3,Tryz.ntmps3
 go_wp2_with fail
 refine (diskNew_bad z w hz).mono ?_
 rintro e w1 ⟨rfl,hb1⟩
 have B1:=Lib.hid hb1
 clear hb1
 go_wp2_with fail
 refine (newRing_any w1).mono ?_
 rintro e w2 ⟨rg,m,rfl,hge,hr,hb2⟩
 have GE2:=Lib.hid (Nat.le_trans B1.out.size hge)
 have B2:=Lib.hid (below_tr B1.out hb2 B1.out.size)
 clear hr hb2 hge B1
 go_wp2_with fail
 refine (newLog_any w2).mono ?_
 rintro e w3 ⟨lg,rfl,hge,hl,hb3⟩
 have GE3:=Lib.hid (Nat.le_trans B2.out.size hge)
 have B3:=Lib.hid (below_tr B2.out hb3 B2.out.size)
 clear hl hb3 hge B2
 have I3:=Lib.hid (HI.out.ab B3.out)
 go_wp2_with (first
  | (refine wpList_appRL rfl (.tmp 27) (.tmp 28) rfl (RuB.empty w3) rfl rfl (I3.out.ab ((Below.refl _ _).alloc (Nat.le_refl _) _)) (by have:=HC.out;have:=HI.out.cap;simp only[List.length_nil];omega) (by simp) ?_
     intro v7 w7 hv7 hg7
     obtain⟨A7,c7,rfl,hn7,ho7⟩:=hv7.rn
     rw[List.nil_append] at hn7 hv7 ho7
     have b7:Below w3.heap.size w3 w7:=below_grownR ((Below.refl _ _).alloc (Nat.le_refl _) _) hg7 (by intro g hg;simp only[Value.ownBlock,Option.some.injEq] at hg;omega) (by simp)
     have B7:=Lib.hid (below_tr B3.out b7 B3.out.size)
     have N7:=Lib.hid hn7
     have V7:=Lib.hid hv7
     have B37:=Lib.hid b7
     rw[List.nil_append,HI.out.len]
     rw[HI.out.len] at N7 V7
     clear hv7 hg7 hn7 ho7 b7))
 refine (pnew_nilD _ _).mono ?_
 rintro e w8 ⟨rfl,hb8⟩
 have B8:=Lib.hid (below_tr B7.out hb8 B7.out.size)
 have SA:=Lib.hid (sameR_any _ _ _ _ _ _ l l w8 (N7.out.ab hb8) (HI.out.ab B8.out))
 rw[decide_eq_true rfl] at SA
 clear hb8
 go_wp2_with fail
 refine SA.out.mono ?_
 rintro e w9 ⟨rfl,hb9⟩
 have B9:=Lib.hid (below_tr B8.out hb9 B8.out.size)
 clear hb9
 go_wp2_with fail
 refine (known19_any w9).mono ?_
 rintro e w10 ⟨rfl,hb10⟩
 go_wp2_with fail
 go_ret
 exact⟨rfl,below_tr B9.out hb10 B9.out.size⟩
set_option maxRecDepth 100000 in
theorem makes_bad_false_false (z:Int) (hz:z<8∨4096<z) (n c:Nat) (A:Option Addr) (l:RnL) (w:World) (hi:RnB w A n c l) (hc:c*8≤140737488351232):Calls Tryz.prog 3 #[.int .i64 z,.slice A n c,.bool false,.bool false] w fun e w'=>e = .returned (.bool true)∧Below w.heap.size w w':=by
 have HI:=Lib.hid hi
 have HC:=Lib.hid hc
 clear hi hc
 go_enter Tryz.func3,Tryz.ntmps3
 go_wp2_with fail
 refine (diskNew_bad z w hz).mono ?_
 rintro e w1 ⟨rfl,hb1⟩
 have B1:=Lib.hid hb1
 clear hb1
 go_wp2_with fail
 refine (newRing_any w1).mono ?_
 rintro e w2 ⟨rg,m,rfl,hge,hr,hb2⟩
 have GE2:=Lib.hid (Nat.le_trans B1.out.size hge)
 have B2:=Lib.hid (below_tr B1.out hb2 B1.out.size)
 clear hr hb2 hge B1
 go_wp2_with fail
 refine (newLog_any w2).mono ?_
 rintro e w3 ⟨lg,rfl,hge,hl,hb3⟩
 have GE3:=Lib.hid (Nat.le_trans B2.out.size hge)
 have B3:=Lib.hid (below_tr B2.out hb3 B2.out.size)
 clear hl hb3 hge B2
 have I3:=Lib.hid (HI.out.ab B3.out)
 go_wp2_with (first
  | (refine wpList_appRL rfl (.tmp 27) (.tmp 28) rfl (RuB.empty w3) rfl rfl (I3.out.ab ((Below.refl _ _).alloc (Nat.le_refl _) _)) (by have:=HC.out;have:=HI.out.cap;simp only[List.length_nil];omega) (by simp) ?_
     intro v7 w7 hv7 hg7
     obtain⟨A7,c7,rfl,hn7,ho7⟩:=hv7.rn
     rw[List.nil_append] at hn7 hv7 ho7
     have b7:Below w3.heap.size w3 w7:=below_grownR ((Below.refl _ _).alloc (Nat.le_refl _) _) hg7 (by intro g hg;simp only[Value.ownBlock,Option.some.injEq] at hg;omega) (by simp)
     have B7:=Lib.hid (below_tr B3.out b7 B3.out.size)
     have N7:=Lib.hid hn7
     have V7:=Lib.hid hv7
     have B37:=Lib.hid b7
     rw[List.nil_append,HI.out.len]
     rw[HI.out.len] at N7 V7
     clear hv7 hg7 hn7 ho7 b7))
 refine (pnew_nilD _ _).mono ?_
 rintro e w8 ⟨rfl,hb8⟩
 have B8:=Lib.hid (below_tr B7.out hb8 B7.out.size)
 have SA:=Lib.hid (sameR_any _ _ _ _ _ _ l l w8 (N7.out.ab hb8) (HI.out.ab B8.out))
 rw[decide_eq_true rfl] at SA
 clear hb8
 go_wp2_with fail
 refine SA.out.mono ?_
 rintro e w9 ⟨rfl,hb9⟩
 have B9:=Lib.hid (below_tr B8.out hb9 B8.out.size)
 clear hb9
 go_wp2_with fail
 refine (known19_any w9).mono ?_
 rintro e w10 ⟨rfl,hb10⟩
 go_wp2_with fail
 go_ret
 exact⟨rfl,below_tr B9.out hb10 B9.out.size⟩
set_option maxRecDepth 100000 in
theorem makes_nil_true_false (b:Nat) (h8:8≤b) (h4:b≤4096) (n c:Nat) (A:Option Addr) (l:RnL) (w:World) (hi:RnB w A n c l) (hc:c*8≤140737488351232):Calls Tryz.prog 3 #[.int .i64 (b:Int),.slice A n c,.bool true,.bool false] w fun e w'=>e = .returned (.bool true)∧Below w.heap.size w w':=by
 have HI:=Lib.hid hi
 have HC:=Lib.hid hc
 clear hi hc
 go_enter Tryz.func3,Tryz.ntmps3
 go_wp2_with fail
 refine (diskNew_any b w h8 h4).mono ?_
 rintro e w1 ⟨d,g1,g2,rfl,hd,hb1⟩
 have D1:=Lib.hid hd.ds
 have B1:=Lib.hid hb1
 clear hd hb1
 go_wp2_with fail
 refine (newRing_any w1).mono ?_
 rintro e w2 ⟨rg,m,rfl,hge,hr,hb2⟩
 have D2:=Lib.hid (D1.out.ab hb2)
 have R2:=Lib.hid (hr.lowr B1.out.size)
 have GE2:=Lib.hid (Nat.le_trans B1.out.size hge)
 have B2:=Lib.hid (below_tr B1.out hb2 B1.out.size)
 clear hr hb2 hge D1 B1
 go_wp2_with fail
 refine (newLog_any w2).mono ?_
 rintro e w3 ⟨lg,rfl,hge,hl,hb3⟩
 have D3:=Lib.hid (D2.out.ab hb3)
 have R3:=Lib.hid (R2.out.ab hb3)
 have GE3:=Lib.hid (Nat.le_trans B2.out.size hge)
 have B3:=Lib.hid (below_tr B2.out hb3 B2.out.size)
 have L3:=Lib.hid (LgB.empty (B:=w.heap.size) hl B3.out.size)
 clear hl hb3 hge D2 R2 B2
 have I3:=Lib.hid (HI.out.ab B3.out)
 go_wp2_with (first
  | (refine wpList_appRL rfl (.tmp 27) (.tmp 28) rfl (RuB.empty w3) rfl rfl (I3.out.ab ((Below.refl _ _).alloc (Nat.le_refl _) _)) (by have:=HC.out;have:=HI.out.cap;simp only[List.length_nil];omega) (by simp) ?_
     intro v7 w7 hv7 hg7
     obtain⟨A7,c7,rfl,hn7,ho7⟩:=hv7.rn
     rw[List.nil_append] at hn7 hv7 ho7
     have b7:Below w3.heap.size w3 w7:=below_grownR ((Below.refl _ _).alloc (Nat.le_refl _) _) hg7 (by intro g hg;simp only[Value.ownBlock,Option.some.injEq] at hg;omega) (by simp)
     have B7:=Lib.hid (below_tr B3.out b7 B3.out.size)
     have N7:=Lib.hid hn7
     have V7:=Lib.hid hv7
     have B37:=Lib.hid b7
     rw[List.nil_append,HI.out.len]
     rw[HI.out.len] at N7 V7
     clear hv7 hg7 hn7 ho7 b7))
 refine (pnew_nilL).mono ?_
 rintro e w8 ⟨rfl,hb8⟩
 have B8:=Lib.hid (below_tr B7.out hb8 B7.out.size)
 have SA:=Lib.hid (sameR_any _ _ _ _ _ _ l l w8 (N7.out.ab hb8) (HI.out.ab B8.out))
 rw[decide_eq_true rfl] at SA
 clear hb8
 go_wp2_with fail
 refine SA.out.mono ?_
 rintro e w9 ⟨rfl,hb9⟩
 have B9:=Lib.hid (below_tr B8.out hb9 B8.out.size)
 clear hb9
 go_wp2_with fail
 refine (known19_any w9).mono ?_
 rintro e w10 ⟨rfl,hb10⟩
 go_wp2_with fail
 go_ret
 exact⟨rfl,below_tr B9.out hb10 B9.out.size⟩
set_option maxRecDepth 100000 in
theorem makes_nil_false_true (b:Nat) (h8:8≤b) (h4:b≤4096) (n c:Nat) (A:Option Addr) (l:RnL) (w:World) (hi:RnB w A n c l) (hc:c*8≤140737488351232):Calls Tryz.prog 3 #[.int .i64 (b:Int),.slice A n c,.bool false,.bool true] w fun e w'=>e = .returned (.bool true)∧Below w.heap.size w w':=by
 have HI:=Lib.hid hi
 have HC:=Lib.hid hc
 clear hi hc
 go_enter Tryz.func3,Tryz.ntmps3
 go_wp2_with fail
 refine (diskNew_any b w h8 h4).mono ?_
 rintro e w1 ⟨d,g1,g2,rfl,hd,hb1⟩
 have D1:=Lib.hid hd.ds
 have B1:=Lib.hid hb1
 clear hd hb1
 go_wp2_with fail
 refine (newRing_any w1).mono ?_
 rintro e w2 ⟨rg,m,rfl,hge,hr,hb2⟩
 have D2:=Lib.hid (D1.out.ab hb2)
 have R2:=Lib.hid (hr.lowr B1.out.size)
 have GE2:=Lib.hid (Nat.le_trans B1.out.size hge)
 have B2:=Lib.hid (below_tr B1.out hb2 B1.out.size)
 clear hr hb2 hge D1 B1
 go_wp2_with fail
 refine (newLog_any w2).mono ?_
 rintro e w3 ⟨lg,rfl,hge,hl,hb3⟩
 have D3:=Lib.hid (D2.out.ab hb3)
 have R3:=Lib.hid (R2.out.ab hb3)
 have GE3:=Lib.hid (Nat.le_trans B2.out.size hge)
 have B3:=Lib.hid (below_tr B2.out hb3 B2.out.size)
 have L3:=Lib.hid (LgB.empty (B:=w.heap.size) hl B3.out.size)
 clear hl hb3 hge D2 R2 B2
 have I3:=Lib.hid (HI.out.ab B3.out)
 go_wp2_with (first
  | (refine wpList_appRL rfl (.tmp 27) (.tmp 28) rfl (RuB.empty w3) rfl rfl (I3.out.ab ((Below.refl _ _).alloc (Nat.le_refl _) _)) (by have:=HC.out;have:=HI.out.cap;simp only[List.length_nil];omega) (by simp) ?_
     intro v7 w7 hv7 hg7
     obtain⟨A7,c7,rfl,hn7,ho7⟩:=hv7.rn
     rw[List.nil_append] at hn7 hv7 ho7
     have b7:Below w3.heap.size w3 w7:=below_grownR ((Below.refl _ _).alloc (Nat.le_refl _) _) hg7 (by intro g hg;simp only[Value.ownBlock,Option.some.injEq] at hg;omega) (by simp)
     have B7:=Lib.hid (below_tr B3.out b7 B3.out.size)
     have N7:=Lib.hid hn7
     have V7:=Lib.hid hv7
     have B37:=Lib.hid b7
     rw[List.nil_append,HI.out.len]
     rw[HI.out.len] at N7 V7
     clear hv7 hg7 hn7 ho7 b7))
 refine (pnew_nilR _).mono ?_
 rintro e w8 ⟨rfl,hb8⟩
 have B8:=Lib.hid (below_tr B7.out hb8 B7.out.size)
 have SA:=Lib.hid (sameR_any _ _ _ _ _ _ l l w8 (N7.out.ab hb8) (HI.out.ab B8.out))
 rw[decide_eq_true rfl] at SA
 clear hb8
 go_wp2_with fail
 refine SA.out.mono ?_
 rintro e w9 ⟨rfl,hb9⟩
 have B9:=Lib.hid (below_tr B8.out hb9 B8.out.size)
 clear hb9
 go_wp2_with fail
 refine (known19_any w9).mono ?_
 rintro e w10 ⟨rfl,hb10⟩
 go_wp2_with fail
 go_ret
 exact⟨rfl,below_tr B9.out hb10 B9.out.size⟩
set_option maxRecDepth 100000 in
theorem makes_nil_false_false (b:Nat) (h8:8≤b) (h4:b≤4096) (n c:Nat) (A:Option Addr) (l:RnL) (w:World) (hi:RnB w A n c l) (hc:c*8≤140737488351232):Calls Tryz.prog 3 #[.int .i64 (b:Int),.slice A n c,.bool false,.bool false] w fun e w'=>e = .returned (.bool true)∧Below w.heap.size w w':=by
 have HI:=Lib.hid hi
 have HC:=Lib.hid hc
 clear hi hc
 go_enter Tryz.func3,Tryz.ntmps3
 go_wp2_with fail
 refine (diskNew_any b w h8 h4).mono ?_
 rintro e w1 ⟨d,g1,g2,rfl,hd,hb1⟩
 have D1:=Lib.hid hd.ds
 have B1:=Lib.hid hb1
 clear hd hb1
 go_wp2_with fail
 refine (newRing_any w1).mono ?_
 rintro e w2 ⟨rg,m,rfl,hge,hr,hb2⟩
 have D2:=Lib.hid (D1.out.ab hb2)
 have R2:=Lib.hid (hr.lowr B1.out.size)
 have GE2:=Lib.hid (Nat.le_trans B1.out.size hge)
 have B2:=Lib.hid (below_tr B1.out hb2 B1.out.size)
 clear hr hb2 hge D1 B1
 go_wp2_with fail
 refine (newLog_any w2).mono ?_
 rintro e w3 ⟨lg,rfl,hge,hl,hb3⟩
 have D3:=Lib.hid (D2.out.ab hb3)
 have R3:=Lib.hid (R2.out.ab hb3)
 have GE3:=Lib.hid (Nat.le_trans B2.out.size hge)
 have B3:=Lib.hid (below_tr B2.out hb3 B2.out.size)
 have L3:=Lib.hid (LgB.empty (B:=w.heap.size) hl B3.out.size)
 clear hl hb3 hge D2 R2 B2
 have I3:=Lib.hid (HI.out.ab B3.out)
 go_wp2_with (first
  | (refine wpList_appRL rfl (.tmp 27) (.tmp 28) rfl (RuB.empty w3) rfl rfl (I3.out.ab ((Below.refl _ _).alloc (Nat.le_refl _) _)) (by have:=HC.out;have:=HI.out.cap;simp only[List.length_nil];omega) (by simp) ?_
     intro v7 w7 hv7 hg7
     obtain⟨A7,c7,rfl,hn7,ho7⟩:=hv7.rn
     rw[List.nil_append] at hn7 hv7 ho7
     have b7:Below w3.heap.size w3 w7:=below_grownR ((Below.refl _ _).alloc (Nat.le_refl _) _) hg7 (by intro g hg;simp only[Value.ownBlock,Option.some.injEq] at hg;omega) (by simp)
     have B7:=Lib.hid (below_tr B3.out b7 B3.out.size)
     have N7:=Lib.hid hn7
     have V7:=Lib.hid hv7
     have B37:=Lib.hid b7
     rw[List.nil_append,HI.out.len]
     rw[HI.out.len] at N7 V7
     clear hv7 hg7 hn7 ho7 b7))
 refine (pnew_nilR _).mono ?_
 rintro e w8 ⟨rfl,hb8⟩
 have B8:=Lib.hid (below_tr B7.out hb8 B7.out.size)
 have SA:=Lib.hid (sameR_any _ _ _ _ _ _ l l w8 (N7.out.ab hb8) (HI.out.ab B8.out))
 rw[decide_eq_true rfl] at SA
 clear hb8
 go_wp2_with fail
 refine SA.out.mono ?_
 rintro e w9 ⟨rfl,hb9⟩
 have B9:=Lib.hid (below_tr B8.out hb9 B8.out.size)
 clear hb9
 go_wp2_with fail
 refine (known19_any w9).mono ?_
 rintro e w10 ⟨rfl,hb10⟩
 go_wp2_with fail
 go_ret
 exact⟨rfl,below_tr B9.out hb10 B9.out.size⟩
set_option maxRecDepth 100000 in
theorem makes_good (b:Nat) (h8:8≤b) (h4:b≤4096) (n c:Nat) (A:Option Addr) (l:RnL) (w:World) (hi:RnB w A n c l) (hc:c*8≤140737488351232) (hu:∀r∈l,r.1<4294967296∧r.2<4294967296):Calls Tryz.prog 3 #[.int .i64 (b:Int),.slice A n c,.bool true,.bool true] w fun e w'=>e = .returned (.bool true)∧Below w.heap.size w w':=by
 have HI:=Lib.hid hi
 have HC:=Lib.hid hc
 have HU:=Lib.hid hu
 clear hi hc hu
 go_enter Tryz.func3,Tryz.ntmps3
 go_wp2_with fail
 refine (diskNew_any b w h8 h4).mono ?_
 rintro e w1 ⟨d,g1,g2,rfl,hd,hb1⟩
 have D1:=Lib.hid hd.ds
 have B1:=Lib.hid hb1
 clear hd hb1
 go_wp2_with fail
 refine (newRing_any w1).mono ?_
 rintro e w2 ⟨rg,m,rfl,hge,hr,hb2⟩
 have D2:=Lib.hid (D1.out.ab hb2)
 have R2:=Lib.hid (hr.lowr B1.out.size)
 have GE2:=Lib.hid (Nat.le_trans B1.out.size hge)
 have B2:=Lib.hid (below_tr B1.out hb2 B1.out.size)
 clear hr hb2 hge D1 B1
 go_wp2_with fail
 refine (newLog_any w2).mono ?_
 rintro e w3 ⟨lg,rfl,hge,hl,hb3⟩
 have D3:=Lib.hid (D2.out.ab hb3)
 have R3:=Lib.hid (R2.out.ab hb3)
 have GE3:=Lib.hid (Nat.le_trans B2.out.size hge)
 have B3:=Lib.hid (below_tr B2.out hb3 B2.out.size)
 have L3:=Lib.hid (LgB.empty (B:=w.heap.size) hl B3.out.size)
 clear hl hb3 hge D2 R2 B2
 have I3:=Lib.hid (HI.out.ab B3.out)
 go_wp2_with (first
  | (refine wpList_appRL rfl (.tmp 27) (.tmp 28) rfl (RuB.empty w3) rfl rfl (I3.out.ab ((Below.refl _ _).alloc (Nat.le_refl _) _)) (by have:=HC.out;have:=HI.out.cap;simp only[List.length_nil];omega) (by simp) ?_
     intro v7 w7 hv7 hg7
     obtain⟨A7,c7,rfl,hn7,ho7⟩:=hv7.rn
     rw[List.nil_append] at hn7 hv7 ho7
     have b7:Below w3.heap.size w3 w7:=below_grownR ((Below.refl _ _).alloc (Nat.le_refl _) _) hg7 (by intro g hg;simp only[Value.ownBlock,Option.some.injEq] at hg;omega) (by simp)
     have B7:=Lib.hid (below_tr B3.out b7 B3.out.size)
     have N7:=Lib.hid hn7
     have V7:=Lib.hid hv7
     have B37:=Lib.hid b7
     rw[List.nil_append,HI.out.len]
     rw[HI.out.len] at N7 V7
     clear hv7 hg7 hn7 ho7 b7))
 obtain⟨dv0,ri0,lo0⟩:=stage D3.out R3.out GE2.out L3.out GE3.out
 obtain⟨O3,hO3⟩:∃O3,stO w3 w.heap.size m=O3:=⟨_,rfl⟩
 have OL:Hid (∀k,k<w.heap.size→O3 k=(0,9)):=Lib.hid fun k hk=>by rw[←hO3];exact stO_low hk
 rw[hO3] at dv0
 have s7:Wr (fun _=>False) w3 O3 w7 O3:=Wr.of B37.out _ (fun _ _=>rfl)
 have DV:=Lib.hid (dv0.wr s7 id)
 clear dv0 ri0 lo0 hO3 D3 R3 L3 GE2 GE3
 have hH4:=Lib.hid h4
 cases hq:rightR l&&frNew b l with
 | false=>
   have hbad:rightR l=false∨frNew (newD b).n l=false:=by
    rcases Bool.and_eq_false_iff.1 hq with h | h
    · exact .inl h
    · exact .inr h
   have PB:=Lib.hid (pnew_bad (rg:=rg) (lg:=lg) DV.out N7.out HU.out hbad)
   have HM:Hid ((rightR l&&mayR b l)=false):=Lib.hid (by
    cases h:rightR l with
    | false=>rfl
    | true=>rw[h] at hq;rw[may_fr h];exact hq)
   have R8:=Lib.hid fun W=>rd8_any b (by omega) W
   clear hbad hq h8 h4
   refine PB.out.mono ?_
   rintro e w8 ⟨rfl,hb8⟩
   have B8:=Lib.hid (below_tr B7.out hb8 B7.out.size)
   have SA:=Lib.hid (sameR_any _ _ _ _ _ _ l l w8 (N7.out.ab hb8) (HI.out.ab B8.out))
   rw[decide_eq_true rfl] at SA
   clear hb8
   go_wp2_with fail
   refine SA.out.mono ?_
   rintro e w9 ⟨rfl,hb9⟩
   have B9:=Lib.hid (below_tr B8.out hb9 B8.out.size)
   clear hb9
   go_wp2_with fail
   refine (R8.out w9).mono ?_
   rintro e wa ⟨g,v1,v2,b1,b2,rfl,hrd,hl1,hl2,hba⟩
   have Ba:=Lib.hid (below_tr B9.out hba B9.out.size)
   have MY:=Lib.hid (rmay_any hrd hl1 (by have:=hH4.out;omega) (HI.out.ab Ba.out) HU.out)
   rw[HM.out] at MY
   clear hrd hl1 hl2 hba
   go_wp2_with fail
   refine MY.out.mono ?_
   rintro e wb ⟨rfl,hbb⟩
   have Bb:=Lib.hid (below_tr Ba.out hbb Ba.out.size)
   clear hbb
   go_wp2_with fail
   refine (known19_any wb).mono ?_
   rintro e wc ⟨rfl,hbc⟩
   go_wp2_with fail
   go_ret
   exact⟨rfl,below_tr Bb.out hbc Bb.out.size⟩
 | true=>
   rw[Bool.and_eq_true] at hq
   have NW:=Lib.hid (new_ok (rg:=rg) (lg:=lg) DV.out N7.out (show (newD b).n≤4096 from h4) hq.1 hq.2)
   have HM:Hid ((rightR l&&mayR b l)=true):=Lib.hid (by rw[may_fr hq.1,hq.1,hq.2];rfl)
   have R8:=Lib.hid fun W=>rd8_any b (by omega) W
   clear hq h8 h4
   refine NW.out.mono ?_
   rintro e w8 ⟨p,O8,rfl,hp8,s8,hge8⟩
   have P8:=Lib.hid hp8
   have S8:=Lib.hid (s7.tr s8)
   have B8:Hid (Below w.heap.size w w8):=Lib.hid (S8.out.below B3.out B3.out.size fun k hk h=>h)
   have SA:=Lib.hid (sameR_any _ _ _ _ _ _ l l w8 (N7.out.fr s8.fr (fun _ _ h=>h)) (HI.out.ab B8.out))
   rw[decide_eq_true rfl] at SA
   clear hp8 s8 hge8
   go_wp2_with fail
   refine SA.out.mono ?_
   rintro e w9 ⟨rfl,hb9⟩
   have P9:=Lib.hid (P8.out.wr (Wr.of hb9 (fun _=>False) (fun _ _=>rfl)) (fun _=>id) id)
   have B9:=Lib.hid (below_tr B8.out hb9 B8.out.size)
   clear hb9
   go_wp2_with fail
   refine (R8.out w9).mono ?_
   rintro e wa ⟨g,v1,v2,b1,b2,rfl,hrd,hl1,hl2,hba⟩
   have Ba:=Lib.hid (below_tr B9.out hba B9.out.size)
   have Pa:=Lib.hid (P9.out.wr (Wr.of hba (fun _=>False) (fun _ _=>rfl)) (fun _=>id) id)
   have MY:=Lib.hid (rmay_any hrd hl1 (by have:=hH4.out;omega) (HI.out.ab Ba.out) HU.out)
   rw[HM.out] at MY
   clear hrd hl1 hl2 hba
   go_wp2_with fail
   refine MY.out.mono ?_
   rintro e wb ⟨rfl,hbb⟩
   have Bb:=Lib.hid (below_tr Ba.out hbb Ba.out.size)
   have Pb:=Lib.hid (Pa.out.wr (Wr.of hbb (fun _=>False) (fun _ _=>rfl)) (fun _=>id) id)
   clear hbb
   go_wp2_with fail
   refine (pfree_any Pb.out).mono ?_
   rintro e wc ⟨vf,rfl,hvf,hbc⟩
   obtain⟨Af,cf,rfl,hnf,_⟩:=hvf.rn
   have Bc:=Lib.hid (below_tr Bb.out hbc Bb.out.size)
   have Pc:=Lib.hid (Pb.out.wr (Wr.of hbc (fun _=>False) (fun _ _=>rfl)) (fun _=>id) id)
   have SB:=Lib.hid (sameR_any _ _ _ _ _ _ l l wc hnf (HI.out.ab Bc.out))
   rw[decide_eq_true rfl] at SB
   clear hvf hnf hbc
   go_wp2_with fail
   refine SB.out.mono ?_
   rintro e wd ⟨rfl,hbd⟩
   have Bd:=Lib.hid (below_tr Bc.out hbd Bc.out.size)
   have FA:Hid (Calls Tryz.prog 16 #[.pointer (some ⟨p,0,none⟩)] wd fun e w'=>e = .returned (.bool false)∧wd=w'):=Lib.hid (by
    obtain⟨bb,hN,_⟩:=Pc.out.wr (Wr.of hbd (fun _=>False) (fun _ _=>rfl)) (fun _=>id) id
    exact failed_any hN.box)
   clear hbd
   go_wp2_with fail
   refine FA.out.mono ?_
   rintro e we ⟨rfl,rfl⟩
   go_wp2_with fail
   refine (known19_any wd).mono ?_
   rintro e wf ⟨rfl,hbf⟩
   go_wp2_with fail
   go_ret
   exact⟨rfl,below_tr Bd.out hbf Bd.out.size⟩
set_option maxRecDepth 100000 in
theorem pmakes_walk {H:Type} {enc:TypeId×Value→H} {d:DataW H} {p:List MemPlace} (z:Int) (v:Value) (ring log:Bool) (W:World) (hz:(Lit.int .i64 z).wf=true) (hk:∃base,Value.okWide Tryz.prog W .any base 22 v)
 (h:DataW.Trod enc Tryz.prog W 0 (fun _=>true) true 22 v d p) (hlt:∀x∈p,x.block<W.heap.size) (hw:WtB 22 d):Calls Tryz.prog 3 #[.int .i64 z,v,.bool ring,.bool log] W fun e w'=>e = .returned (.bool true)∧Below W.heap.size W w':=by
 obtain⟨base,hk⟩:=hk
 obtain⟨A,n,c,l,rfl,hi,hu,hc⟩:=open_runs hk h hlt hw
 by_cases hb:z<8∨4096<z
 · cases ring <;> cases log
   · exact makes_bad_false_false z hb n c A l W hi hc
   · exact makes_bad_false_true z hb n c A l W hi hc
   · exact makes_bad_true_false z hb n c A l W hi hc
   · exact makes_bad_true_true z hb n c A l W hi hc
 · obtain⟨b,rfl⟩:∃b:Nat,z=(b:Int):=⟨z.toNat,by omega⟩
   have h8:8≤b:=by omega
   have h4:b≤4096:=by omega
   cases ring <;> cases log
   · exact makes_nil_false_false b h8 h4 n c A l W hi hc
   · exact makes_nil_false_true b h8 h4 n c A l W hi hc
   · exact makes_nil_true_false b h8 h4 n c A l W hi hc
   · exact makes_good b h8 h4 n c A l W hi hc hu
end Go.Proofs.YtnboclhgeehdoaaGreat
