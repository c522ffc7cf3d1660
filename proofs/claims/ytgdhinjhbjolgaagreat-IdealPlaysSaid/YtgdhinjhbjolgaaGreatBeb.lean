/-
  Parts of the proof, joined.
-/
import Derived.Test.YtgdhinjhbjolgaaGreatBea
namespace Go.Proofs.YtgdhinjhbjolgaaGreat
set_option maxHeartbeats 4000000
open Go.RowKit Go.ChangeShapes Go.WideShapes
set_option linter.unusedVariables false
set_option linter.unusedSimpArgs false
section
variable {H:Type} {enc:TypeId×Value→H} {W:World}
def WtB (t:TypeId) (d:DataW H):Prop:=∀z∈d.weights Tryz.prog t,z≤140737488351232
theorem wtAll {e:TypeId}:∀{l:List (DataW H)} {d:DataW H},d∈l→∀z∈d.weights Tryz.prog e,z∈DataW.weightsAll Tryz.prog e l
 | p::r,d,hd,z,hz=>by
   rw[DataW.weightsAll]
   rcases List.mem_cons.1 hd with rfl | h
   · exact List.mem_append_left _ hz
   · exact List.mem_append_right _ (wtAll h z hz)
theorem wt_slice {t e:TypeId} {a b:List (DataW H)} (ht:Tryz.prog.underlying t=some (.slice e)) (h:WtB t (.slice a b)):(a.length+b.length)*Tryz.prog.bytesOf e≤140737488351232∧(∀d∈a,WtB e d)∧∀d∈b,WtB e d:=by
 unfold WtB at h
 rw[DataW.weights] at h
 simp only[ht] at h
 refine⟨h _ (List.mem_cons_self ..),fun d hd z hz=>h z (List.mem_cons_of_mem _ (List.mem_append_left _ (wtAll hd z hz))),fun d hd z hz=>h z (List.mem_cons_of_mem _ (List.mem_append_right _ (wtAll hd z hz)))⟩
theorem wtEach {ts:List TypeId}:∀{ds:List (DataW H)} {i:Nat} {t:TypeId} {d:DataW H},ts[i]? = some t→ds[i]? = some d→∀z∈d.weights Tryz.prog t,z∈DataW.weightsEach Tryz.prog ts ds:=by
 induction ts with
 | nil=>intro ds i t d h;simp at h
 | cons t0 ts ih=>
   intro ds i t d h1 h2 z hz
   cases ds with
   | nil=>simp at h2
   | cons d0 ds=>
     rw[DataW.weightsEach]
     cases i with
     | zero=>
       simp at h1 h2
       subst h1 h2
       exact List.mem_append_left _ hz
     | succ i=>exact List.mem_append_right _ (ih (by simpa using h1) (by simpa using h2) z hz)
theorem wt_struct {t:TypeId} {fs:Array Field} {ds:List (DataW H)} (ht:Tryz.prog.underlying t=some (.struct fs)) (h:WtB t (.agg ds)) {i:Nat} {e:TypeId} {d:DataW H} (h1:(fs.toList.map (·.type))[i]? = some e) (h2:ds[i]? = some d):WtB e d:=by
 unfold WtB at h
 rw[DataW.weights] at h
 simp only[ht] at h
 exact fun z hz=>h z (wtEach h1 h2 z hz)
theorem wt_cap {t e:TypeId} {fuel A n c} {x:DataW H×List MemPlace} (ht:Tryz.prog.underlying t=some (.slice e)) (h:DataW.trod enc Tryz.prog W 0 (fun _=>true) true fuel t [.slice A n c]=some x) (hw:WtB t x.1):c*Tryz.prog.bytesOf e≤140737488351232:=by
 rcases Go.Deep.open_slice ht h with ⟨e1,_⟩ | ⟨a,len,cap,m,k,D,Pl,e1,_,hl,hm,hmm,rfl,hx⟩
 · simp only[List.cons.injEq,Value.slice.injEq,and_true] at e1
   rw[e1.2.2];omega
 · simp only[List.cons.injEq,Value.slice.injEq,and_true] at e1
   obtain⟨rfl,rfl,rfl⟩:=e1
   have hmc:m=c:=by simpa using hmm
   subst hmc
   have:=(wt_slice ht hw).1
   rw[List.length_map,List.length_map,List.length_range,List.length_range] at this
   have e2:n+(m-n)=m:=by omega
   rwa [e2] at this
theorem sl_trodW {α:Type} {t e:TypeId} {fuel:Nat} {cs:List Value} {x:DataW H×List MemPlace} (Q:Addr→α→Prop) (ht:Tryz.prog.underlying t=some (.slice e)) (k:Nat) (hk:Tryz.prog.cellsOf e=k) (hk0:0<k)
 (h:DataW.trod enc Tryz.prog W 0 (fun _=>true) true fuel t cs=some x) (hlt:∀q∈x.2,q.block<W.heap.size) (hw:WtB t x.1)
 (hel:∀(n:Nat) (a:Addr) (cs':List Value) (y:DataW H×List MemPlace),cs'.length=k→(∀i,i<k→W.cell? (a.add i)=cs'[i]?)→DataW.trod enc Tryz.prog W 0 (fun _=>true) true n e cs'=some y→(∀q∈y.2,q.block<W.heap.size)→WtB e y.1→∃q:α,Q a q):
 ∃(A:Option Addr) (n c:Nat) (l:List α),cs=[.slice A n c]∧l.length=n∧n≤c∧c≤maxLen∧∀(i:Nat) (q:α),l[i]? = some q→∃a,A=some a∧a.block<W.heap.size∧Q (a.add (i*k)) q:=by
 rcases Go.Deep.open_slice ht h with ⟨rfl,rfl⟩ | ⟨a,len,cap,m,n,D,Pl,rfl,_,hl,hm,hmm,rfl,hx⟩
 · exact⟨none,0,0,[],rfl,rfl,Nat.le_refl _,Nat.zero_le _,fun i q hq=>by simp at hq⟩
 · have hmc:m=cap:=by simpa using hmm
   subst hmc
   rw[hk] at hx
   have each:∀i,i<len→∃q:α,Q (a.add (i*k)) q:=fun i hi=>by
    obtain⟨cs',h1,h2⟩:=hx i (by omega)
    obtain⟨_,h3,h4⟩:=World.cells?_some h1
    exact hel n _ cs' _ h3 h4 h2 (fun q hq=>hlt q (List.mem_append_right _ (List.mem_flatMap.2 ⟨i,List.mem_range.2 (by omega),hq⟩))) ((wt_slice ht hw).2.1 _ (List.mem_map.2 ⟨i,List.mem_range.2 hi,rfl⟩))
   obtain⟨l,hll,hlq⟩:=list_ofX len each
   refine⟨some a,len,m,l,rfl,hll,hl,hm,fun i q hq=>⟨a,rfl,?_,hlq i q hq⟩⟩
   have hin:i<len:=by rw[←hll];exact (List.getElem?_eq_some_iff.1 hq).1
   have h1:MemPlace.cell a.block a.off∈MemPlace.row a (m*Tryz.prog.cellsOf e):=List.mem_map.2 ⟨0,List.mem_range.2 (by rw[hk];exact Nat.mul_pos (by omega) hk0),by simp⟩
   exact hlt _ (List.mem_append_left _ h1)
def OpS (o:OpP):Prop:=o.k.c≤140737488351232∧o.v.c≤140737488351232
structure CallS (c:CallP):Prop where
 sec:c.sec.c≤140737488351232
 key:c.key.c≤140737488351232
 frm:c.frm.c≤140737488351232
 upto:c.upto.c≤140737488351232
 cap:c.oC*56≤140737488351232
 ops:∀o∈c.ops,OpS o
theorem wt_byt {fuel A n c} {x:DataW H×List MemPlace} (h:DataW.trod enc Tryz.prog W 0 (fun _=>true) true fuel 32 [.slice A n c]=some x) (hw:WtB 32 x.1):c≤140737488351232:=by
 have:=wt_cap Tryz.underlying32 h hw
 have b:Tryz.prog.bytesOf 5=1:=by kernel_rfl
 rw[b] at this
 omega
set_option maxRecDepth 100000 in
theorem op_trodW (n:Nat) (a:Addr) (cs':List Value) (y:DataW H×List MemPlace) (h3:cs'.length=3) (h4:∀i,i<3→W.cell? (a.add i)=cs'[i]?) (h:DataW.trod enc Tryz.prog W 0 (fun _=>true) true n 61 cs'=some y) (hlt:∀q∈y.2,q.block<W.heap.size) (hw:WtB 61 y.1):∃q:OpP,OpQ W a q∧OpS q:=by
 obtain⟨y0,y1,y2,m,hx,hl,h0,h1,h2⟩:=trod_struct3X Tryz.underlying61 h
 have cb:Tryz.prog.cellsOf 32=1:=by kernel_rfl
 have cl:Tryz.prog.cellsOf 4=1:=by kernel_rfl
 have c8:Tryz.prog.cellsOf 5=1:=by kernel_rfl
 have hp:y.2=y0.2++(y1.2++y2.2):=by simpa using congrArg (·.2) hx
 have hy:y.1 = .agg [y0.1,y1.1,y2.1]:=by simpa using congrArg (·.1) hx
 rw[hy] at hw
 have w0:WtB 32 y0.1:=wt_struct Tryz.underlying61 hw (i:=0) rfl rfl
 have w1:WtB 32 y1.1:=wt_struct Tryz.underlying61 hw (i:=1) rfl rfl
 obtain⟨v0,v1,v2,rfl⟩:∃c0 c1 c2,cs'=[c0,c1,c2]:=by
  match cs',h3 with
  | [a,b,c],_=>exact⟨a,b,c,rfl⟩
 simp only[cb,cl] at h0 h1 h2
 obtain⟨kA,kn,kc,kl,e0,i0⟩:=isB_trod Tryz.underlying32 Tryz.underlying5 c8 h0 (fun q hq=>hlt q (by rw[hp];simp[hq]))
 obtain⟨vA,vn,vc,vl,e1,i1⟩:=isB_trod Tryz.underlying32 Tryz.underlying5 c8 h1 (fun q hq=>hlt q (by rw[hp];simp[hq]))
 obtain⟨d,e2⟩:=bool_trodX Tryz.underlying4 h2
 rw[e0] at h0
 rw[e1] at h1
 have s0:=wt_byt h0 w0
 have s1:=wt_byt h1 w1
 simp at e0 e1 e2
 subst e0 e1 e2
 exact⟨⟨⟨kA,kn,kc,kl⟩,⟨vA,vn,vc,vl⟩,d⟩,⟨addZ a (h4 0 (by decide)),h4 1 (by decide),h4 2 (by decide),i0,i1⟩,s0,s1⟩
set_option maxRecDepth 100000 in
theorem ops_trodW {n:Nat} {cs':List Value} {y:DataW H×List MemPlace} (h:DataW.trod enc Tryz.prog W 0 (fun _=>true) true n 35 cs'=some y) (hlt:∀q∈y.2,q.block<W.heap.size) (hw:WtB 35 y.1):∃A m c ops,cs'=[.slice A m c]∧OpsB W A m c ops∧(∀o∈ops,OpS o)∧c*56≤140737488351232:=by
 obtain⟨A,m,c,l,e,h1,h2,h3,h4⟩:=sl_trodW (fun a q=>OpQ W a q∧OpS q) Tryz.underlying35 3 (by kernel_rfl) (by decide) h hlt hw (fun n a cs' y g1 g2 g3 g4 g5=>op_trodW n a cs' y g1 g2 g3 g4 g5)
 rw[e] at h
 have hc:=wt_cap Tryz.underlying35 h hw
 have b:Tryz.prog.bytesOf 61=56:=by kernel_rfl
 rw[b] at hc
 refine⟨A,m,c,l,e,ops_of h1 h2 h3 fun i q hq=>?_,fun o ho=>?_,hc⟩
 · obtain⟨a,q1,q2,q3,_⟩:=h4 i q hq
   exact⟨a,q1,q2,q3⟩
 · obtain⟨i,hi⟩:=List.getElem?_of_mem ho
   obtain⟨_,_,_,_,q4⟩:=h4 i o hi
   exact q4
set_option maxRecDepth 100000 in
theorem call_trodW (n:Nat) (a:Addr) (cs':List Value) (y:DataW H×List MemPlace) (h3:cs'.length=14) (h4:∀i,i<14→W.cell? (a.add i)=cs'[i]?) (h:DataW.trod enc Tryz.prog W 0 (fun _=>true) true n 37 cs'=some y) (hlt:∀q∈y.2,q.block<W.heap.size) (hw:WtB 37 y.1):∃q:CallP,CallQ W a q∧CallS q:=by
 obtain⟨xs,m,_,hx,hl,hlen,hf⟩:=DataW.trod_struct Tryz.underlying37 h
 have cI:Tryz.prog.cellsOf 30=1:=by kernel_rfl
 have c32:Tryz.prog.cellsOf 31=1:=by kernel_rfl
 have cb:Tryz.prog.cellsOf 32=1:=by kernel_rfl
 have ci:Tryz.prog.cellsOf 3=1:=by kernel_rfl
 have c64:Tryz.prog.cellsOf 33=1:=by kernel_rfl
 have cr:Tryz.prog.cellsOf 34=1:=by kernel_rfl
 have co:Tryz.prog.cellsOf 35=1:=by kernel_rfl
 have cl:Tryz.prog.cellsOf 4=1:=by kernel_rfl
 have c8:Tryz.prog.cellsOf 5=1:=by kernel_rfl
 have hxl:∀(i:Nat) (z:DataW H×List MemPlace),xs[i]? = some z→∀q∈z.2,q.block<W.heap.size:=fun i z hz q hq=>hlt q (by
  rw[hx]
  exact List.mem_flatMap.2 ⟨z,List.mem_of_getElem? hz,hq⟩)
 match xs,hlen with
 | [x0,x1,x2,x3,x4,x5,x6,x7,x8,x9,x10,x11,x12,x13],_=>
 obtain⟨v0,v1,v2,v3,v4,v5,v6,v7,v8,v9,v10,v11,v12,v13,rfl⟩:∃v0 v1 v2 v3 v4 v5 v6 v7 v8 v9 v10 v11 v12 v13,cs'=[v0,v1,v2,v3,v4,v5,v6,v7,v8,v9,v10,v11,v12,v13]:=by
  match cs',h3 with
  | [a0,a1,a2,a3,a4,a5,a6,a7,a8,a9,a10,a11,a12,a13],_=>exact⟨_,_,_,_,_,_,_,_,_,_,_,_,_,_,rfl⟩
 have hy:=congrArg (·.1) hx
 simp only[List.map_cons,List.map_nil] at hy
 rw[hy] at hw
 have u2:WtB 32 x2.1:=wt_struct Tryz.underlying37 hw (i:=2) rfl rfl
 have u9:WtB 35 x9.1:=wt_struct Tryz.underlying37 hw (i:=9) rfl rfl
 have u10:WtB 32 x10.1:=wt_struct Tryz.underlying37 hw (i:=10) rfl rfl
 have u11:WtB 32 x11.1:=wt_struct Tryz.underlying37 hw (i:=11) rfl rfl
 have u12:WtB 32 x12.1:=wt_struct Tryz.underlying37 hw (i:=12) rfl rfl
 have f0:=hf 0 { name:= "Kind",type:=30,offset:=0,embedded:=false,tag:= "",pkgPath:= "",byteOffset:=0 } rfl
 have f1:=hf 1 { name:= "Tenant",type:=31,offset:=1,embedded:=false,tag:= "",pkgPath:= "",byteOffset:=8 } rfl
 have f2:=hf 2 { name:= "Secret",type:=32,offset:=2,embedded:=false,tag:= "",pkgPath:= "",byteOffset:=16 } rfl
 have f3:=hf 3 { name:= "Quota",type:=3,offset:=3,embedded:=false,tag:= "",pkgPath:= "",byteOffset:=40 } rfl
 have f4:=hf 4 { name:= "N",type:=3,offset:=4,embedded:=false,tag:= "",pkgPath:= "",byteOffset:=48 } rfl
 have f5:=hf 5 { name:= "Handle",type:=33,offset:=5,embedded:=false,tag:= "",pkgPath:= "",byteOffset:=56 } rfl
 have f6:=hf 6 { name:= "Other",type:=33,offset:=6,embedded:=false,tag:= "",pkgPath:= "",byteOffset:=64 } rfl
 have f7:=hf 7 { name:= "Snap",type:=33,offset:=7,embedded:=false,tag:= "",pkgPath:= "",byteOffset:=72 } rfl
 have f8:=hf 8 { name:= "Rights",type:=34,offset:=8,embedded:=false,tag:= "",pkgPath:= "",byteOffset:=80 } rfl
 have f9:=hf 9 { name:= "Ops",type:=35,offset:=9,embedded:=false,tag:= "",pkgPath:= "",byteOffset:=88 } rfl
 have f10:=hf 10 { name:= "Key",type:=32,offset:=10,embedded:=false,tag:= "",pkgPath:= "",byteOffset:=112 } rfl
 have f11:=hf 11 { name:= "From",type:=32,offset:=11,embedded:=false,tag:= "",pkgPath:= "",byteOffset:=136 } rfl
 have f12:=hf 12 { name:= "To",type:=32,offset:=12,embedded:=false,tag:= "",pkgPath:= "",byteOffset:=160 } rfl
 have f13:=hf 13 { name:= "Back",type:=4,offset:=13,embedded:=false,tag:= "",pkgPath:= "",byteOffset:=184 } rfl
 simp only[cI,c32,cb,ci,c64,cr,co,cl] at f0 f1 f2 f3 f4 f5 f6 f7 f8 f9 f10 f11 f12 f13
 obtain⟨z0,e0,w0⟩:=int_trodX (k:=.i64) Tryz.underlying30 f0
 obtain⟨z1,e1,w1⟩:=int_trodX (k:=.u32) Tryz.underlying31 f1
 obtain⟨A2,n2,k2,l2,e2,i2⟩:=isB_trod Tryz.underlying32 Tryz.underlying5 c8 f2 (hxl 2 _ rfl)
 obtain⟨z3,e3,w3⟩:=int_trodX (k:=.i64) Tryz.underlying3 f3
 obtain⟨z4,e4,w4⟩:=int_trodX (k:=.i64) Tryz.underlying3 f4
 obtain⟨z5,e5,w5⟩:=int_trodX (k:=.u64) Tryz.underlying33 f5
 obtain⟨z6,e6,w6⟩:=int_trodX (k:=.u64) Tryz.underlying33 f6
 obtain⟨z7,e7,w7⟩:=int_trodX (k:=.u64) Tryz.underlying33 f7
 obtain⟨z8,e8,w8⟩:=int_trodX (k:=.u8) Tryz.underlying34 f8
 obtain⟨A9,n9,k9,l9,e9,i9,s9,sc9⟩:=ops_trodW f9 (hxl 9 _ rfl) u9
 obtain⟨A10,n10,k10,l10,e10,i10⟩:=isB_trod Tryz.underlying32 Tryz.underlying5 c8 f10 (hxl 10 _ rfl)
 obtain⟨A11,n11,k11,l11,e11,i11⟩:=isB_trod Tryz.underlying32 Tryz.underlying5 c8 f11 (hxl 11 _ rfl)
 obtain⟨A12,n12,k12,l12,e12,i12⟩:=isB_trod Tryz.underlying32 Tryz.underlying5 c8 f12 (hxl 12 _ rfl)
 obtain⟨b,e13⟩:=bool_trodX Tryz.underlying4 f13
 rw[e2] at f2
 have s2:=wt_byt f2 u2
 rw[e10] at f10
 have s10:=wt_byt f10 u10
 rw[e11] at f11
 have s11:=wt_byt f11 u11
 rw[e12] at f12
 have s12:=wt_byt f12 u12
 simp only[List.drop_succ_cons,List.drop_zero,List.take_succ_cons,List.take_zero,List.cons.injEq,and_true] at e0 e1 e2 e3 e4 e5 e6 e7 e8 e9 e10 e11 e12 e13
 subst e0 e1 e2 e3 e4 e5 e6 e7 e8 e9 e10 e11 e12 e13
 obtain⟨t,rfl,ht⟩:=nat_intX (m:=4294967296) w1 rfl (by decide)
 obtain⟨hd,rfl,hhd⟩:=nat_intX (m:=18446744073709551616) w5 rfl (by decide)
 obtain⟨ot,rfl,hot⟩:=nat_intX (m:=18446744073709551616) w6 rfl (by decide)
 obtain⟨sn,rfl,hsn⟩:=nat_intX (m:=18446744073709551616) w7 rfl (by decide)
 obtain⟨rt,rfl,hrt⟩:=nat_intX (m:=256) w8 rfl (by decide)
 refine⟨⟨z0,t,⟨A2,n2,k2,l2⟩,z3,z4,hd,ot,sn,rt,A9,n9,k9,l9,⟨A10,n10,k10,l10⟩,⟨A11,n11,k11,l11⟩,⟨A12,n12,k12,l12⟩,b⟩,⟨fun i v hv=>?_,⟨⟨w0,ht,hhd,hot,hsn,hrt⟩,i2,i10,i11,i12,i9⟩⟩,⟨s2,s10,s11,s12,sc9,s9⟩⟩
 have hi:i<14:=(Array.getElem?_eq_some_iff.1 hv).1
 rw[h4 i hi,←hv]
 simp only[CallP.cs]
 rw[List.getElem?_toArray]
set_option maxRecDepth 100000 in
theorem step_trodW (n:Nat) (a:Addr) (cs':List Value) (y:DataW H×List MemPlace) (h3:cs'.length=16) (h4:∀i,i<16→W.cell? (a.add i)=cs'[i]?) (h:DataW.trod enc Tryz.prog W 0 (fun _=>true) true n 39 cs'=some y) (hlt:∀q∈y.2,q.block<W.heap.size) (hw:WtB 39 y.1):∃q:StepI,StepQ W a q∧CallS q.c:=by
 obtain⟨y0,y1,y2,m,hx,hl,h0,h1,h2⟩:=trod_struct3X Tryz.underlying39 h
 have cc:Tryz.prog.cellsOf 37=14:=by kernel_rfl
 have cl:Tryz.prog.cellsOf 4=1:=by kernel_rfl
 have hp:y.2=y0.2++(y1.2++y2.2):=by simpa using congrArg (·.2) hx
 simp only[cc,cl] at h0 h1 h2
 have hy:y.1 = .agg [y0.1,y1.1,y2.1]:=by simpa using congrArg (·.1) hx
 rw[hy] at hw
 have w0:WtB 37 y0.1:=wt_struct Tryz.underlying39 hw (i:=0) rfl rfl
 obtain⟨q,hq,hs⟩:=call_trodW m a _ y0 (by simp[h3]) (fun i hi=>by
  rw[h4 i (by omega)]
  simp[List.getElem?_take_of_lt hi]) h0 (fun q hq=>hlt q (by rw[hp];simp[hq])) w0
 obtain⟨b1,e1⟩:=bool_trodX Tryz.underlying4 h1
 obtain⟨b2,e2⟩:=bool_trodX Tryz.underlying4 h2
 refine⟨⟨q,b1,b2⟩,⟨hq,?_,?_⟩,hs⟩
 · rw[h4 14 (by decide)]
   have:=congrArg (·[0]?) e1
   simpa using this
 · rw[h4 15 (by decide)]
   have:=congrArg (·[0]?) e2
   simpa using this
set_option maxRecDepth 100000 in
theorem open_stepsW {base:Nat} {v:Value} {d:DataW H} {p:List MemPlace} (hk:Value.okWide Tryz.prog W .any base 22 v)
 (h:DataW.Trod enc Tryz.prog W 0 (fun _=>true) true 22 v d p) (hlt:∀x∈p,x.block<W.heap.size) (hw:WtB 22 d):∃A n c l,v = .slice A n c∧StepsB W A n c l∧∀q∈l,CallS q.c:=by
 obtain⟨A,n,c,rfl⟩:=okWide_slice Tryz.underlying22 hk
 obtain⟨fuel,hf⟩:=h
 obtain⟨A',n',c',l,e,h1,h2,h3,h4⟩:=sl_trodW (fun a q=>StepQ W a q∧CallS q.c) Tryz.underlying22 16 (by kernel_rfl) (by decide) hf hlt hw (fun n a cs' y g1 g2 g3 g4 g5=>step_trodW n a cs' y g1 g2 g3 g4 g5)
 simp[Value.cells] at e
 obtain⟨rfl,rfl,rfl⟩:=e
 refine⟨A,n,c,l,rfl,⟨h1,h2,h3,fun i b hb=>?_⟩,fun q hq=>?_⟩
 · obtain⟨a,q1,q2,q3,_⟩:=h4 i b hb
   exact⟨a,q1,q2,q3⟩
 · obtain⟨i,hi⟩:=List.getElem?_of_mem hq
   obtain⟨_,_,_,_,q4⟩:=h4 i q hi
   exact q4
end
open Go.RowKit
def SpB (k:IntKind) (w:World) (O:Tg) (A:Option Addr) (n:Nat):Prop:=n≤9223372036854775807∧∀i,i<n→∃g x,A=some ⟨g,0,none⟩∧O g=some (0,0)∧w.cell? ⟨g,i,none⟩=some (.int k x)∧w.frozen? ⟨g,i,none⟩=false
def PsB (w:World) (O:Tg) (A:Option Addr) (n:Nat):Prop:=n≤9223372036854775807∧∀i,i<n→∃g kA kn kc vA vn vc,A=some ⟨g,0,none⟩∧w.cell? ⟨g,i*2,none⟩=some (.slice kA kn kc)∧w.cell? ⟨g,i*2+1,none⟩=some (.slice vA vn vc)∧SpB .u8 w O kA kn∧SpB .u8 w O vA vn
theorem cell_keep {w:World} {p q:Addr} {k:IntKind} {x:Int} {A:Option Addr} {n c:Nat} (hp:w.cell? p=some (.int k x)) (hq:w.cell? q=some (.slice A n c)) (v:Value):(w.setCell p v).cell? q=some (.slice A n c):=by
 rw[World.cell?_setCell_other]
 · exact hq
 · intro e
   rw[e,hq] at hp
   cases hp
theorem SpB.set {k k':IntKind} {w:World} {O:Tg} {A:Option Addr} {n:Nat} {p:Addr} {x:Int} (h:SpB k w O A n) (hp:w.cell? p=some (.int k' x)) (y:Int):SpB k (w.setCell p (.int k' y)) O A n:=
 ⟨h.1,fun i hi=>by
  obtain⟨g,z,h1,h2,h3,h4⟩:=h.2 i hi
  by_cases e:p=⟨g,i,none⟩
  · subst e
    rw[hp] at h3
    injection h3 with h3
    injection h3 with h3 _
    subst h3
    exact⟨g,y,h1,h2,(by first | exact World.cell?_setCell_same _ hp | exact World.cell?_setCell_same _ _ hp | exact World.cell?_setCell_same _ _ _ hp),by rw[World.frozen?_setCell];exact h4⟩
  · exact⟨g,z,h1,h2,(by rw[World.cell?_setCell_other];exact h3;exact e),by rw[World.frozen?_setCell];exact h4⟩⟩
theorem PsB.set {k':IntKind} {w:World} {O:Tg} {A:Option Addr} {n:Nat} {p:Addr} {x:Int} (h:PsB w O A n) (hp:w.cell? p=some (.int k' x)) (y:Int):PsB (w.setCell p (.int k' y)) O A n:=
 ⟨h.1,fun i hi=>by
  obtain⟨g,kA,kn,kc,vA,vn,vc,h1,h2,h3,h4,h5⟩:=h.2 i hi
  exact⟨g,kA,kn,kc,vA,vn,vc,h1,cell_keep hp h2 _,cell_keep hp h3 _,h4.set hp y,h5.set hp y⟩⟩
theorem frozen_blk {w w':World} {a:Addr} (h:w'.heap[a.block]? = w.heap[a.block]?):w'.frozen? a=w.frozen? a:=by
 unfold World.frozen?
 rw[h]
theorem SpB.stp {P:Nat×Nat→Prop} {k:IntKind} {w w':World} {O O':Tg} {A:Option Addr} {n:Nat} (h:SpB k w O A n) (s:Stp P w O w' O') (hn:¬P (0,0)):SpB k w' O' A n:=
 ⟨h.1,fun i hi=>by
  obtain⟨g,z,h1,h2,h3,h4⟩:=h.2 i hi
  obtain⟨e1,e2⟩:=s.ot (cell_lt h3) h2 hn
  exact⟨g,z,h1,e2,(World.cell?_of_block e1).trans h3,(frozen_blk e1).trans h4⟩⟩
theorem SpB.ab {k:IntKind} {w w':World} {O:Tg} {A:Option Addr} {n:Nat} (h:SpB k w O A n) (hb:Below w.heap.size w w'):SpB k w' O A n:=h.stp (Stp.of hb (fun _=>False) fun _ _=>rfl) fun h=>h
theorem PsB.ab {w w':World} {O:Tg} {A:Option Addr} {n:Nat} (h:PsB w O A n) (hb:Below w.heap.size w w'):PsB w' O A n:=
 ⟨h.1,fun i hi=>by
  obtain⟨g,kA,kn,kc,vA,vn,vc,h1,h2,h3,h4,h5⟩:=h.2 i hi
  exact⟨g,kA,kn,kc,vA,vn,vc,h1,(World.cell?_of_block (hb.block g (cell_lt h2))).trans h2,(World.cell?_of_block (hb.block g (cell_lt h3))).trans h3,h4.ab hb,h5.ab hb⟩⟩
theorem setStp {w w1:World} {O:Tg} {g i:Nat} {v:Value} (h:Stp (fun τ=>τ=(0,0)) w O w1 O) (hg:O g=some (0,0)):Stp (fun τ=>τ=(0,0)) w O (w1.setCell ⟨g,i,none⟩ v) O:=
 h.tr ⟨(fr_set w1 g i v).imp fun k hk=>⟨_,hk▸hg,rfl⟩,fun _ _=>rfl⟩
structure SI (w:World) (O:Tg) (b:Nat) (A1:Option Addr) (n1 c1:Nat) (A2:Option Addr) (n2 c2:Nat) (A3:Option Addr) (n3 c3:Nat) (wr:World):Prop where
 h1:SpB .u8 wr O A1 n1
 h2:PsB wr O A2 n2
 h3:SpB .u32 wr O A3 n3
 b3:wr.cell? ⟨b,3,none⟩=some (.slice A1 n1 c1)
 b4:wr.cell? ⟨b,4,none⟩=some (.slice A2 n2 c2)
 b6:wr.cell? ⟨b,6,none⟩=some (.slice A3 n3 c3)
 st:Stp (fun τ=>τ=(0,0)) w O wr O
theorem SI.set {w wr:World} {O:Tg} {b:Nat} {A1 A2 A3:Option Addr} {n1 c1 n2 c2 n3 c3:Nat} {k:IntKind} {g i:Nat} {x:Int} (h:SI w O b A1 n1 c1 A2 n2 c2 A3 n3 c3 wr) (hp:wr.cell? ⟨g,i,none⟩=some (.int k x)) (hg:O g=some (0,0)) (y:Int):
 SI w O b A1 n1 c1 A2 n2 c2 A3 n3 c3 (wr.setCell ⟨g,i,none⟩ (.int k y)):=
 ⟨h.h1.set hp y,h.h2.set hp y,h.h3.set hp y,cell_keep hp h.b3 _,cell_keep hp h.b4 _,cell_keep hp h.b6 _,setStp h.st hg⟩
set_option maxRecDepth 100000 in
theorem spoilt_any {w:World} {O:Tg} {A1 A2 A3:Option Addr} {n1 c1 n2 c2 n3 c3:Nat} (h1:SpB .u8 w O A1 n1) (h2:PsB w O A2 n2) (h3:SpB .u32 w O A3 n3) (er hd sn ct:Int):
 Calls Tryz.prog 16 #[.agg #[.int .i64 er,.int .u64 hd,.int .u64 sn,.slice A1 n1 c1,.slice A2 n2 c2,.int .i64 ct,.slice A3 n3 c3]] w fun e w'=>∃v,e = .returned v∧Stp (fun τ=>τ=(0,0)) w O w' O:=by
 have ha:Below w.heap.size w (w.alloc (.cells #[.int .i64 er,.int .u64 hd,.int .u64 sn,.slice A1 n1 c1,.slice A2 n2 c2,.int .i64 ct,.slice A3 n3 c3] 44)):=alB
 have hb:=CbB.new w 44 #[.int .i64 er,.int .u64 hd,.int .u64 sn,.slice A1 n1 c1,.slice A2 n2 c2,.int .i64 ct,.slice A3 n3 c3]
 have S0:Hid (SI w O w.heap.size A1 n1 c1 A2 n2 c2 A3 n3 c3 (w.alloc (.cells #[.int .i64 er,.int .u64 hd,.int .u64 sn,.slice A1 n1 c1,.slice A2 n2 c2,.int .i64 ct,.slice A3 n3 c3] 44))):=zz
  ⟨h1.ab ha,h2.ab ha,h3.ab ha,hb.cell (k:=3) rfl,hb.cell (k:=4) rfl,hb.cell (k:=6) rfl,Stp.of ha _ fun _ _=>rfl⟩
 have m1:(n1:Int)≤9223372036854775807:=by have:=h1.1;omega
 have m2:(n2:Int)≤9223372036854775807:=by have:=h2.1;omega
 have m3:(n3:Int)≤9223372036854775807:=by have:=h3.1;omega
 clear ha hb h1 h2 h3
 go_enter Tryz.func16,Tryz.ntmps16
 go_upto_region 1 with (fail)
 obtain⟨w0,hw0⟩:∃w0,w.alloc (.cells #[.int .i64 er,.int .u64 hd,.int .u64 sn,.slice A1 n1 c1,.slice A2 n2 c2,.int .i64 ct,.slice A3 n3 c3] 44)=w0:=⟨_,rfl⟩
 obtain⟨b,hbx⟩:∃b,w.heap.size=b:=⟨_,rfl⟩
 rw[hw0] at S0⊢
 rw[hbx] at S0⊢
 clear hw0 hbx
 go_wp2_with fail
 go_loopw [2] (fun z wr=>∃i:Nat,i≤n1∧z = .int .i64 (i:Int)∧SI w O b A1 n1 c1 A2 n2 c2 A3 n3 c3 wr) (fun z _=>n1-(intOf z).toNat)
 case atStart=>exact⟨0,Nat.zero_le _,rfl,S0.out⟩
 case round=>
  obtain⟨i,hi,rfl,hs⟩:=hrel
  have SS:=zz hs
  have kb:=hs.b3
  by_cases hlt:i<n1
  · obtain⟨g,x,rfl,hg,hc,hf⟩:=hs.h1.2 i hlt
    have SN:=zz fun y=>SS.out.set hc hg y
    have hlti:(i:Int)<(n1:Int):=by omega
    have hi0:(0:Int)≤(i:Int):=by omega
    have KL:=zz hlt
    clear hs hlt hi hg
    go_wp2_with fail
    go_roundw
    case rel=>exact⟨i+1,KL.out,by go_num,SN.out _⟩
    case measure=>simp[intOf];have:=KL.out;omega
  · obtain rfl:n1=i:=by omega
    clear hs hlt hi
    go_wp2_with fail
    clear kb
    go_loopw [3] (fun z wr=>∃i:Nat,i≤n2∧z = .int .i64 (i:Int)∧SI w O b A1 n1 c1 A2 n2 c2 A3 n3 c3 wr) (fun z _=>n2-(intOf z).toNat)
    case atStart=>exact⟨0,Nat.zero_le _,rfl,SS.out⟩
    case round=>
     clear SS
     obtain⟨i,hi,rfl,hs⟩:=hrel
     have S1:=zz hs
     have kb:=hs.b4
     by_cases hlt:i<n2
     · obtain ⟨g,kA,kn,kc,vA0,vn0,vc0,hA,pc,_,hkk,_⟩:=hs.h2.2 i hlt
       have HA:=zz hA
       rw[hA] at kb
       have PK:=zz hkk
       have mk:(kn:Int)≤9223372036854775807:=by have:=hkk.1;omega
       have hlti:(i:Int)<(n2:Int):=by omega
       have hi0:(0:Int)≤(i:Int):=by omega
       have KL:=zz hlt
       clear hs hlt hi hkk hA
       go_wp2_with fail
       clear kb
       go_loopw [4] (fun z wr=>∃k:Nat,k≤kn∧z = .int .i64 (k:Int)∧SI w O b A1 n1 c1 A2 n2 c2 A3 n3 c3 wr∧wr.cell? ⟨g,i*2,none⟩=some (.slice kA kn kc)∧SpB .u8 wr O kA kn) (fun z _=>kn-(intOf z).toNat)
       case atStart=>exact⟨0,Nat.zero_le _,rfl,S1.out,pc,PK.out⟩
       case round=>
        obtain⟨k,hk,rfl,hs,hpc,hpk⟩:=hrel
        have SS:=zz hs
        have kb:=hs.b4
        rw[HA.out] at kb
        by_cases hlt2:k<kn
        · obtain⟨g2,x,rfl,hg,hc,hf⟩:=hpk.2 k hlt2
          have SN:=zz fun y=>SS.out.set hc hg y
          have PN:=zz fun y=>cell_keep hc hpc (.int .u8 y)
          have KN:=zz fun y=>hpk.set hc y
          have hltk:(k:Int)<(kn:Int):=by omega
          have hk0:(0:Int)≤(k:Int):=by omega
          have KL2:=zz hlt2
          clear hs hlt2 hk hg hpk
          go_wp2_with fail
          go_roundw
          case rel=>exact⟨k+1,KL2.out,by go_num,SN.out _,PN.out _,KN.out _⟩
          case measure=>simp[intOf];have:=KL2.out;omega
        · obtain rfl:kn=k:=by omega
          clear hlt2 hk hpk
          go_wp2_with fail
          have S1:=zz SS.out
          clear SS kb hs hpc
          obtain⟨g',kA',kn',kc',vA,vn,vc,hA2,_,pc,_,hvk⟩:=S1.out.h2.2 i KL.out
          obtain rfl:g=g':=by rw[HA.out] at hA2;injection hA2 with e;injection e
          have PK:=zz hvk
          have mv:(vn:Int)≤9223372036854775807:=by have:=hvk.1;omega
          clear hA2 hvk
          go_loopw [5] (fun z wr=>∃k:Nat,k≤vn∧z = .int .i64 (k:Int)∧SI w O b A1 n1 c1 A2 n2 c2 A3 n3 c3 wr∧wr.cell? ⟨g,i*2+1,none⟩=some (.slice vA vn vc)∧SpB .u8 wr O vA vn) (fun z _=>vn-(intOf z).toNat)
          case atStart=>exact⟨0,Nat.zero_le _,rfl,S1.out,pc,PK.out⟩
          case round=>
           obtain⟨k,hk,rfl,hs,hpc,hpk⟩:=hrel
           have SS:=zz hs
           have kb:=hs.b4
           rw[HA.out] at kb
           by_cases hlt2:k<vn
           · obtain⟨g2,x,rfl,hg,hc,hf⟩:=hpk.2 k hlt2
             have SN:=zz fun y=>SS.out.set hc hg y
             have PN:=zz fun y=>cell_keep hc hpc (.int .u8 y)
             have KN:=zz fun y=>hpk.set hc y
             have hltk:(k:Int)<(vn:Int):=by omega
             have hk0:(0:Int)≤(k:Int):=by omega
             have KL2:=zz hlt2
             clear hs hlt2 hk hg hpk
             go_wp2_with fail
             go_roundw
             case rel=>exact⟨k+1,KL2.out,by go_num,SN.out _,PN.out _,KN.out _⟩
             case measure=>simp[intOf];have:=KL2.out;omega
           · obtain rfl:vn=k:=by omega
             clear hlt2 hk hpk
             go_wp2_with fail
             go_roundw
             case rel=>exact⟨i+1,KL.out,by go_num,SS.out⟩
             case measure=>simp[intOf];have:=KL.out;omega
     · obtain rfl:n2=i:=by omega
       have SS:=zz hs
       clear hs hlt hi
       go_wp2_with fail
       clear kb
       go_loopw [6] (fun z wr=>∃i:Nat,i≤n3∧z = .int .i64 (i:Int)∧SI w O b A1 n1 c1 A2 n2 c2 A3 n3 c3 wr) (fun z _=>n3-(intOf z).toNat)
       case atStart=>exact⟨0,Nat.zero_le _,rfl,SS.out⟩
       case round=>
        obtain⟨i,hi,rfl,hs⟩:=hrel
        have SS:=zz hs
        have kb:=hs.b6
        by_cases hlt:i<n3
        · obtain⟨g,x,rfl,hg,hc,hf⟩:=hs.h3.2 i hlt
          have SN:=zz fun y=>SS.out.set hc hg y
          have hlti:(i:Int)<(n3:Int):=by omega
          have hi0:(0:Int)≤(i:Int):=by omega
          have KL:=zz hlt
          clear hs hlt hi hg
          go_wp2_with fail
          go_roundw
          case rel=>exact⟨i+1,KL.out,by go_num,SN.out _⟩
          case measure=>simp[intOf];have:=KL.out;omega
        · obtain rfl:n3=i:=by omega
          clear hs hlt hi
          go_wp2_with fail
          first
           | ((try simp only[Exit.inBlock,Exit.then]);refine bodyPost_ret (results_none rfl _ _ _) rfl ?_)
           | ((try simp only[Exit.inBlock,Exit.then]);refine bodyPost_end (results_none rfl _ _ _) rfl ?_)
          exact⟨_,rfl,SS.out.st⟩
theorem wpList_appRowW {rest:List Oper} {ops:Array Oper} {o:Oper} {a:Act} {w:World} {Q:Exit→Act→World→Prop} (hgd:o.guard=none) (s x:Operand) {T e:TypeId}
 (ho:o.op = .call { callee:=.builtin .append,args:=#[s,x],argTypes:=#[T,T] })
 (ht:Tryz.prog.underlying T=some (.slice e)) {z:Value} {sz by_:Nat} (hinf:(Tryz.prog.info? e).map (fun i=>(i.zero,i.size,i.bytes))=some (some z,sz,by_)) (hzs:z.cells.size=sz) (hsz:0<sz)
 {B n:Nat} {v:Value} {xs ys:List Value} (hown:w.ownsRow B e sz v n xs) (hs:a.eval s=v) {A:Option Addr} {m c:Nat} (hx:a.eval x = .slice A m c)
 (hA:A=none→m=0∧c=0) (hl:ys.length=m*sz) (hc:∀y,A=some y→∀j u,ys[j]? = some u→w.cell? (y.add j)=some u) (h1:∀u∈ys,u.oneCell'=true) (hb:n+m≤9223372036854775807) (hby:(n+m)*by_≤140737488355328) (hB:B≤w.heap.size)
 (h:∀v' w',w'.ownsRow B e sz v' (n+m) (xs++ys)→w.grownBy w' v.ownBlock→(v'.ownBlock=v.ownBlock∨v'.ownBlock=some w.heap.size)→wpList Tryz.prog ops Q rest (a.put o.dst v') w'):wpList Tryz.prog ops Q (o::rest) a w:=by
 obtain⟨i0,hi0,hz0,hz1,hz2⟩:=info_parts hinf
 have hap:∃v' w',(Builtin.append_ #[T,T] o.type #[v,.slice A m c]).run Tryz.prog w = .ok v' w'∧w'.ownsRow B e sz v' (n+m) (xs++ys)∧w.grownBy w' v.ownBlock∧(v'.ownBlock=v.ownBlock∨v'.ownBlock=some w.heap.size):=by
  cases A with
  | none=>
    obtain⟨rfl,rfl⟩:=hA rfl
    have hy:ys=[]:=List.eq_nil_of_length_eq_zero (by omega)
    subst hy
    exact⟨v,w,run_append_owned_none (P:=Tryz.prog) w B T o.type e i0 sz ht hi0 v _ _ hown,by simpa using hown,World.grownBy.refl w _,.inl rfl⟩
  | some y=>
    obtain⟨v1,W1,hrun,r1,r2,_,r3⟩:=run_append_own_at (P:=Tryz.prog) w B T o.type e i0 _ sz by_ ht hi0 hz0 hz1 hz2 hzs hsz v n xs hown y m c ys hl (hc y rfl) h1 (by simp only[maxLen];omega) hby hB
    exact⟨v1,W1,hrun,r1,r2,r3⟩
 obtain⟨v',w',hrun,h2,h3,h4⟩:=hap
 refine wpList_plain hgd fun K hK=>?_
 unfold Oper.wp execOp
 simp only[ho,resolve,invoke,builtin,Sem.run_bind,Sem.run_pure,Result.andThen_ok,List.map_toArray,List.map_cons,List.map_nil,hs,hx,hrun]
 exact hK _ _ (h v' w' h2 h3 h4)
theorem infoByt:(Tryz.prog.info? 32).map (fun i=>(i.zero,i.size,i.bytes))=some (some (.slice none 0 0),1,24):=by kernel_rfl
def slV (s:Option Addr×Nat×Nat):Value:=.slice s.1 s.2.1 s.2.2
def opSl (o:OpP):List (Option Addr×Nat×Nat):=[(o.k.A,o.k.n,o.k.c),(o.v.A,o.v.n,o.v.c)]
def spL (c:CallP) (i:Nat):List (Option Addr×Nat×Nat):=[(c.sec.A,c.sec.n,c.sec.c),(c.key.A,c.key.n,c.key.c),(c.frm.A,c.frm.n,c.frm.c),(c.upto.A,c.upto.n,c.upto.c)]++(c.ops.take i).flatMap opSl
theorem spL_len {c:CallP} {i:Nat} (h:i≤c.ops.length):(spL c i).length=4+2*i:=by
 have:∀l:List OpP,(l.flatMap opSl).length=2*l.length:=fun l=>by
  induction l with
  | nil=>rfl
  | cons o r ih=>rw[List.flatMap_cons,List.length_append,ih];simp[opSl];omega
 unfold spL
 rw[List.length_append,this,List.length_take,Nat.min_eq_left h]
 simp
theorem spL_step {c:CallP} {i:Nat} {o:OpP} (h:c.ops[i]? = some o):spL c (i+1)=spL c i++opSl o:=by
 unfold spL
 rw[List.take_add_one,h,List.flatMap_append,List.append_assoc]
 simp
structure SpC (w:World) (O:Tg) (c:CallP):Prop where
 sec:SpB .u8 w O c.sec.A c.sec.n
 key:SpB .u8 w O c.key.A c.key.n
 frm:SpB .u8 w O c.frm.A c.frm.n
 upto:SpB .u8 w O c.upto.A c.upto.n
 len:c.ops.length=c.oN
 cap:c.oN*56≤140737488351232
 ops:∀(i:Nat) (o:OpP),c.ops[i]? = some o→∃g,c.oA=some ⟨g,0,none⟩∧w.cell? ⟨g,i*3,none⟩=some (.slice o.k.A o.k.n o.k.c)∧w.cell? ⟨g,i*3+1,none⟩=some (.slice o.v.A o.v.n o.v.c)∧SpB .u8 w O o.k.A o.k.n∧SpB .u8 w O o.v.A o.v.n∧O g=some (0,0)
theorem SpC.all {w:World} {O:Tg} {c:CallP} (h:SpC w O c) (i:Nat):∀s∈spL c i,SpB .u8 w O s.1 s.2.1:=fun s hs=>by
 rcases List.mem_append.1 hs with hs | hs
 · simp only[List.mem_cons,List.not_mem_nil,or_false] at hs
   rcases hs with rfl | rfl | rfl | rfl
   · exact h.sec
   · exact h.key
   · exact h.frm
   · exact h.upto
 · obtain⟨o,ho,hs⟩:=List.mem_flatMap.1 hs
   obtain⟨j,hj⟩:=List.getElem?_of_mem (List.mem_of_mem_take ho)
   obtain⟨g,_,_,_,h4,h5,_⟩:=h.ops j o hj
   simp only[opSl,List.mem_cons,List.not_mem_nil,or_false] at hs
   rcases hs with rfl | rfl
   · exact h4
   · exact h5
theorem SpC.ab {w w':World} {O:Tg} {c:CallP} (h:SpC w O c) (hb:Below w.heap.size w w'):SpC w' O c:=
 ⟨h.sec.ab hb,h.key.ab hb,h.frm.ab hb,h.upto.ab hb,h.len,h.cap,fun i o ho=>by
  obtain⟨g,h1,h2,h3,h4,h5,h6⟩:=h.ops i o ho
  exact⟨g,h1,(World.cell?_of_block (hb.block g (cell_lt h2))).trans h2,(World.cell?_of_block (hb.block g (cell_lt h3))).trans h3,h4.ab hb,h5.ab hb,h6⟩⟩
theorem SpC.stp {P:Nat×Nat→Prop} {w w':World} {O O':Tg} {c:CallP} (h:SpC w O c) (s:Stp P w O w' O') (hn:¬P (0,0)):SpC w' O' c:=
 ⟨h.sec.stp s hn,h.key.stp s hn,h.frm.stp s hn,h.upto.stp s hn,h.len,h.cap,fun i o ho=>by
  obtain⟨g,h1,h2,h3,h4,h5,h6⟩:=h.ops i o ho
  obtain⟨e1,e2⟩:=s.ot (cell_lt h2) h6 hn
  exact⟨g,h1,(World.cell?_of_block e1).trans h2,(World.cell?_of_block e1).trans h3,h4.stp s hn,h5.stp s hn,e2⟩⟩
structure SJ (w:World) (O:Tg) (G LN:Nat) (L:List (Option Addr×Nat×Nat)) (wr:World):Prop where
 all:∀s∈L,SpB .u8 wr O s.1 s.2.1
 row:∀i,i<LN→∃A n c,(A,n,c)∈L∧wr.cell? ⟨G,i,none⟩=some (.slice A n c)
 st:Stp (fun τ=>τ=(0,0)) w O wr O
theorem SJ.set {w wr:World} {O:Tg} {G LN:Nat} {L:List (Option Addr×Nat×Nat)} {k:IntKind} {g i:Nat} {x:Int} (h:SJ w O G LN L wr) (hp:wr.cell? ⟨g,i,none⟩=some (.int k x)) (hg:O g=some (0,0)) (y:Int):
 SJ w O G LN L (wr.setCell ⟨g,i,none⟩ (.int k y)):=
 ⟨fun s hs=>(h.all s hs).set hp y,fun i hi=>by
  obtain⟨A,n,c,h1,h2⟩:=h.row i hi
  exact⟨A,n,c,h1,cell_keep hp h2 _⟩,setStp h.st hg⟩
set_option maxRecDepth 100000 in
theorem spoil_any {w:World} {O:Tg} {c:CallP} (h:SpC w O c):Calls Tryz.prog 13 #[.agg c.cs] w fun e w'=>∃v,e = .returned v∧Stp (fun τ=>τ=(0,0)) w O w' O:=by
 have ha:Below w.heap.size w (w.alloc (.cells #[.int .i64 c.kind,.int .u32 (c.ten:Int),.slice c.sec.A c.sec.n c.sec.c,.int .i64 c.quota,.int .i64 c.n,.int .u64 (c.hd:Int),.int .u64 (c.oth:Int),.int .u64 (c.sn:Int),.int .u8 (c.rt:Int),.slice c.oA c.oN c.oC,.slice c.key.A c.key.n c.key.c,.slice c.frm.A c.frm.n c.frm.c,.slice c.upto.A c.upto.n c.upto.c,.bool c.back] 37)):=alB
 have hcb:=CbB.new w 37 c.cs
 have HS:=zz (h.ab ha)
 have HL:=zz h.len
 have HC:=zz h.cap
 have n0:(c.oN:Int)≤2513169440000:=by have:=h.cap;omega
 clear h
 unfold CallP.cs at hcb⊢
 go_enter Tryz.func13,Tryz.ntmps13
 go_upto_region 1 with (fail)
 obtain⟨w0,hw0⟩:∃w0,w.alloc (.cells #[.int .i64 c.kind,.int .u32 (c.ten:Int),.slice c.sec.A c.sec.n c.sec.c,.int .i64 c.quota,.int .i64 c.n,.int .u64 (c.hd:Int),.int .u64 (c.oth:Int),.int .u64 (c.sn:Int),.int .u8 (c.rt:Int),.slice c.oA c.oN c.oC,.slice c.key.A c.key.n c.key.c,.slice c.frm.A c.frm.n c.frm.c,.slice c.upto.A c.upto.n c.upto.c,.bool c.back] 37)=w0:=⟨_,rfl⟩
 obtain⟨b,hbx⟩:∃b,w.heap.size=b:=⟨_,rfl⟩
 rw[hw0] at HS ha hcb⊢
 have HA:=zz ha
 rw[hbx] at hcb⊢
 have CBX:=zz hcb
 have c2:w0.cell? ⟨b,2,none⟩=some (.slice c.sec.A c.sec.n c.sec.c):=hcb.cell (k:=2) rfl
 have c10:w0.cell? ⟨b,10,none⟩=some (.slice c.key.A c.key.n c.key.c):=hcb.cell (k:=10) rfl
 have c11:w0.cell? ⟨b,11,none⟩=some (.slice c.frm.A c.frm.n c.frm.c):=hcb.cell (k:=11) rfl
 have c12:w0.cell? ⟨b,12,none⟩=some (.slice c.upto.A c.upto.n c.upto.c):=hcb.cell (k:=12) rfl
 have ROW:Hid ((w0.alloc (.cells #[.slice c.sec.A c.sec.n c.sec.c,.slice c.key.A c.key.n c.key.c,.slice c.frm.A c.frm.n c.frm.c,.slice c.upto.A c.upto.n c.upto.c] 32)).ownsRow w0.heap.size 32 1 (.slice (some ⟨w0.heap.size,0,none⟩) 4 4) (4+2*0) ((spL c 0).map slV)):=zz
  ⟨by simp[spL],.inr ⟨w0.heap.size,4,_,rfl,Nat.le_refl _,CbB.new _ _ _,Nat.le_refl _,by decide,rfl,rfl⟩⟩
 have B1:Hid (Below w0.heap.size w0 (w0.alloc (.cells #[.slice c.sec.A c.sec.n c.sec.c,.slice c.key.A c.key.n c.key.c,.slice c.frm.A c.frm.n c.frm.c,.slice c.upto.A c.upto.n c.upto.c] 32))):=zz (alB)
 clear hw0 hbx ha hcb
 go_wp2_with fail
 clear c2 c10 c11 c12
 go_loopw [2,3] (fun s z wr=>∃i:Nat,i≤c.oN∧z = .int .i64 (i:Int)∧wr.ownsRow w0.heap.size 32 1 s (4+2*i) ((spL c i).map slV)∧Below w0.heap.size w0 wr) (fun _ z _=>c.oN-(intOf z).toNat)
 case atStart=>exact⟨0,Nat.zero_le _,rfl,ROW.out,B1.out⟩
 case round=>
  clear ROW B1
  obtain⟨i,hi,rfl,hr,hb0⟩:=hrel
  have BW:=zz hb0
  have RR:=zz hr
  have CW:=zz (CBX.out.ab hb0)
  obtain⟨sA,sc,rfl⟩:=row_shape hr
  by_cases hlt:i<c.oN
  · obtain⟨o,ho⟩:∃o,c.ops[i]? = some o:=⟨_,List.getElem?_eq_getElem (by rw[HL.out];exact hlt)⟩
    obtain⟨g,hg,o1,o2,_,_⟩:=HS.out.ops i o ho
    have O1:Hid (wr.cell? ⟨g,i*3,none⟩=some (.slice o.k.A o.k.n o.k.c)):=zz ((World.cell?_of_block (hb0.block g (cell_lt o1))).trans o1)
    have O2:Hid (wr.cell? ⟨g,i*3+1,none⟩=some (.slice o.v.A o.v.n o.v.c)):=zz ((World.cell?_of_block (hb0.block g (cell_lt o2))).trans o2)
    rw[hg] at CW
    have k9:wr.cell? ⟨b,9,none⟩=some (.slice (some ⟨g,0,none⟩) c.oN c.oC):=CW.out.cell (k:=9) rfl
    have LTI:Hid ((i:Int)<(c.oN:Int)):=zz (by omega)
    have hlti:=LTI.out
    have KL:=zz hlt
    have ST:=zz (spL_step ho)
    clear hi hlt hb0 hr ho o1 o2 hg
    go_wp2_with fail
    clear k9 hlti
    refine wp_wide3 [⟨22,IsR (.slice sA (4+2*i) sc),[],false⟩,⟨23,IsR (.pointer (some ⟨b,9,none⟩)),[],false⟩,⟨24,IsR (.slice (some ⟨g,0,none⟩) c.oN c.oC),[1],false⟩,⟨25,IsR (.int .i64 (i:Int)),[],false⟩,⟨26,IsR (.pointer (some ⟨g,i*3,none⟩)),[2,3],false⟩,⟨27,IsR (.pointer (some ⟨g,i*3,none⟩)),[4],false⟩,⟨28,IsR (.slice o.k.A o.k.n o.k.c),[5],false⟩,⟨29,IsR (.pointer (some ⟨b,9,none⟩)),[],false⟩,⟨30,IsR (.slice (some ⟨g,0,none⟩) c.oN c.oC),[7],false⟩,⟨31,IsR (.int .i64 (i:Int)),[],false⟩,⟨32,IsR (.pointer (some ⟨g,i*3,none⟩)),[8,9],false⟩,⟨33,IsR (.pointer (some ⟨g,i*3+1,none⟩)),[10],false⟩,⟨34,IsR (.slice o.v.A o.v.n o.v.c),[11],false⟩,⟨35,(fun z W=>∃G,z = .slice (some ⟨G,0,none⟩) 2 2∧CbB W G 32 #[.slice o.k.A o.k.n o.k.c,.slice o.v.A o.v.n o.v.c]),[6,12],false⟩] (by kernel_rfl) (by kernel_rfl) rfl rfl rfl ⟨?_,?_,?_,?_,?_,?_,?_,?_,?_,?_,?_,?_,?_,?_,trivial⟩ ?_
    · refine okA rfl rfl fun a W hA hb hd=>?_
      have h2:a.tmps[2]?.getD undef = .slice sA (4+2*i) sc:=gt' hA (by simp) rfl
      go_simp
    · refine okA rfl rfl fun a W hA hb hd=>?_
      have h1:a.tmps[1]?.getD undef = .pointer (some ⟨b,0,none⟩):=gt' hA (by simp) rfl
      go_simp
    · refine okA rfl rfl fun a W hA hb hd=>?_
      have h23:a.tmps[23]?.getD undef = .pointer (some ⟨b,9,none⟩):=gh (hd 1 (by simp) _ rfl)
      have hcc:W.cell? ⟨b,9,none⟩=some (.slice (some ⟨g,0,none⟩) c.oN c.oC):=(CW.out.ab hb).cell (k:=9) rfl
      go_simp
    · refine okA rfl rfl fun a W hA hb hd=>?_
      have h3:a.tmps[3]?.getD undef = .int .i64 (i:Int):=gt' hA (by simp) rfl
      go_simp
    · refine okA rfl rfl fun a W hA hb hd=>?_
      have h24:a.tmps[24]?.getD undef = .slice (some ⟨g,0,none⟩) c.oN c.oC:=gh (hd 2 (by simp) _ rfl)
      have h25:a.tmps[25]?.getD undef = .int .i64 (i:Int):=gh (hd 3 (by simp) _ rfl)
      have hlti:=LTI.out
      have hi0:(0:Int)≤(i:Int):=by omega
      go_simp
    · refine okA rfl rfl fun a W hA hb hd=>?_
      have h26:a.tmps[26]?.getD undef = .pointer (some ⟨g,i*3,none⟩):=gh (hd 4 (by simp) _ rfl)
      go_simp
    · refine okA rfl rfl fun a W hA hb hd=>?_
      have h27:a.tmps[27]?.getD undef = .pointer (some ⟨g,i*3,none⟩):=gh (hd 5 (by simp) _ rfl)
      have hcc:W.cell? ⟨g,i*3,none⟩=some (.slice o.k.A o.k.n o.k.c):=(World.cell?_of_block (hb.block g (cell_lt O1.out))).trans O1.out
      go_simp
    · refine okA rfl rfl fun a W hA hb hd=>?_
      have h1:a.tmps[1]?.getD undef = .pointer (some ⟨b,0,none⟩):=gt' hA (by simp) rfl
      go_simp
    · refine okA rfl rfl fun a W hA hb hd=>?_
      have h29:a.tmps[29]?.getD undef = .pointer (some ⟨b,9,none⟩):=gh (hd 7 (by simp) _ rfl)
      have hcc:W.cell? ⟨b,9,none⟩=some (.slice (some ⟨g,0,none⟩) c.oN c.oC):=(CW.out.ab hb).cell (k:=9) rfl
      go_simp
    · refine okA rfl rfl fun a W hA hb hd=>?_
      have h3:a.tmps[3]?.getD undef = .int .i64 (i:Int):=gt' hA (by simp) rfl
      go_simp
    · refine okA rfl rfl fun a W hA hb hd=>?_
      have h30:a.tmps[30]?.getD undef = .slice (some ⟨g,0,none⟩) c.oN c.oC:=gh (hd 8 (by simp) _ rfl)
      have h31:a.tmps[31]?.getD undef = .int .i64 (i:Int):=gh (hd 9 (by simp) _ rfl)
      have hlti:=LTI.out
      have hi0:(0:Int)≤(i:Int):=by omega
      go_simp
    · refine okA rfl rfl fun a W hA hb hd=>?_
      have h32:a.tmps[32]?.getD undef = .pointer (some ⟨g,i*3,none⟩):=gh (hd 10 (by simp) _ rfl)
      go_simp
    · refine okA rfl rfl fun a W hA hb hd=>?_
      have h33:a.tmps[33]?.getD undef = .pointer (some ⟨g,i*3+1,none⟩):=gh (hd 11 (by simp) _ rfl)
      have hcc:W.cell? ⟨g,i*3+1,none⟩=some (.slice o.v.A o.v.n o.v.c):=(World.cell?_of_block (hb.block g (cell_lt O2.out))).trans O2.out
      go_simp
    · refine⟨rfl,(fun z W W1 ⟨G,h1,h2⟩ hb=>⟨G,h1,h2.ab hb⟩),fun a W hA hb hd=>takes_plain rfl ?_⟩
      have h28:a.tmps[28]?.getD undef = .slice o.k.A o.k.n o.k.c:=gh (hd 6 (by simp) _ rfl)
      have h34:a.tmps[34]?.getD undef = .slice o.v.A o.v.n o.v.c:=gh (hd 12 (by simp) _ rfl)
      refine .inl ⟨.slice (some ⟨W.heap.size,0,none⟩) 2 2,W.alloc (.cells #[.slice o.k.A o.k.n o.k.c,.slice o.v.A o.v.n o.v.c] 32),?_,⟨_,rfl,CbB.new _ _ _⟩,alB,fun h=>(by cases h)⟩
      go_simp
    intro vs w3 hR hF hb
    have e22:vs 22 = .slice sA (4+2*i) sc:=hR 0 _ rfl
    have e23:vs 23 = .pointer (some ⟨b,9,none⟩):=hR 1 _ rfl
    have e24:vs 24 = .slice (some ⟨g,0,none⟩) c.oN c.oC:=hR 2 _ rfl
    have e25:vs 25 = .int .i64 (i:Int):=hR 3 _ rfl
    have e26:vs 26 = .pointer (some ⟨g,i*3,none⟩):=hR 4 _ rfl
    have e27:vs 27 = .pointer (some ⟨g,i*3,none⟩):=hR 5 _ rfl
    have e28:vs 28 = .slice o.k.A o.k.n o.k.c:=hR 6 _ rfl
    have e29:vs 29 = .pointer (some ⟨b,9,none⟩):=hR 7 _ rfl
    have e30:vs 30 = .slice (some ⟨g,0,none⟩) c.oN c.oC:=hR 8 _ rfl
    have e31:vs 31 = .int .i64 (i:Int):=hR 9 _ rfl
    have e32:vs 32 = .pointer (some ⟨g,i*3,none⟩):=hR 10 _ rfl
    have e33:vs 33 = .pointer (some ⟨g,i*3+1,none⟩):=hR 11 _ rfl
    have e34:vs 34 = .slice o.v.A o.v.n o.v.c:=hR 12 _ rfl
    obtain⟨G2,e35,hG2⟩:=hR 13 _ rfl
    simp only[List.map_cons,List.map_nil,List.foldl_cons,List.foldl_nil,List.length_cons,List.length_nil,List.drop_succ_cons,List.drop_zero,Act.put,List.setIfInBounds_toArray,List.set_cons_zero,List.set_cons_succ,e22,e23,e24,e25,e26,e27,e28,e29,e30,e31,e32,e33,e34,e35]
    have GC:=zz hG2
    have R3:=zz (row_fr RR.out (Fr.of hb (fun _=>False)) (fun _ _ h=>h))
    have B3:=zz (below_tr BW.out hb BW.out.size)
    clear hR hF hb e35 hG2 e22 e23 e24 e25 e26 e27 e28 e29 e30 e31 e32 e33 e34
    have hlti:=LTI.out
    have LE:Hid (4+2*i+2≤5026338880100):=zz (by have:=KL.out;omega)
    go_wp2_with (first
     | (refine wpList_appRowW rfl (.tmp 22) (.tmp 35) rfl Tryz.underlying85 infoByt rfl (by decide) R3.out rfl (A:=some ⟨G2,0,none⟩) (m:=2) (c:=2) (ys:=[.slice o.k.A o.k.n o.k.c,.slice o.v.A o.v.n o.v.c]) rfl (fun e=>by cases e) rfl (fun y hy j u hj=>by injection hy with hy;subst hy;exact row_at GC.out j u hj) (fun u hu=>by simp only[List.mem_cons,List.not_mem_nil,or_false] at hu;rcases hu with rfl | rfl <;> rfl) (by have:=LE.out;omega) (by have:=LE.out;omega) B3.out.size ?_
        intro v8 w8 hp8 hg8 ho8
        have P8:Hid (w8.ownsRow w0.heap.size 32 1 v8 (4+2*(i+1)) ((spL c (i+1)).map slV)):=zz (by rw[ST.out,List.map_append];exact hp8)
        have B8:=zz (B3.out.grown hg8 B3.out.size (own_ge9 R3.out))
        clear hp8 hg8 ho8))
    go_roundw
    case rel=>exact⟨i+1,KL.out,by go_num,P8.out,B8.out⟩
    case measure=>simp[intOf];have:=KL.out;omega
  · have hio:i=c.oN:=by omega
    have k9:wr.cell? ⟨b,9,none⟩=some (.slice c.oA c.oN c.oC):=CW.out.cell (k:=9) rfl
    have hnl:¬(i:Int)<(c.oN:Int):=by omega
    have hnd:decide ((i:Int)<(c.oN:Int))=false:=decide_eq_false hnl
    have LEN:=spL_len (c:=c) (i:=i) (by rw[HL.out];omega)
    obtain⟨LN,hLN⟩:∃LN,4+2*i=LN:=⟨_,rfl⟩
    rw[hLN] at hr LEN⊢
    have L9:(LN:Int)≤5026338880100:=by omega
    obtain⟨G,hG,hcells⟩:=row_cells hr (by omega)
    subst hG
    have J0:Hid (SJ w O G LN (spL c i) wr):=zz ⟨fun s hs=>(HS.out.all i s hs).ab hb0,fun j hj=>by
     obtain⟨s,hs⟩:∃s,(spL c i)[j]? = some s:=⟨_,List.getElem?_eq_getElem (by omega)⟩
     exact⟨s.1,s.2.1,s.2.2,List.mem_of_getElem? hs,hcells j (slV s) (by rw[List.getElem?_map,hs];rfl)⟩,Stp.of (below_tr HA.out hb0 HA.out.size) _ fun _ _=>rfl⟩
    generalize spL c i=L at *
    clear hi hlt hb0 hr LEN hcells hio hLN RR BW CW
    go_wp2_with fail
    clear k9 hnl hnd
    go_loopw [4] (fun z w4=>∃j:Nat,j≤LN∧z = .int .i64 (j:Int)∧SJ w O G LN L w4) (fun z _=>LN-(intOf z).toNat)
    case atStart=>exact⟨0,Nat.zero_le _,rfl,J0.out⟩
    case round=>
     clear J0
     obtain⟨j,hj,rfl,hs⟩:=hrel
     by_cases hlt:j<LN
     · obtain⟨A,n,cc,hm,pc⟩:=hs.row j hlt
       have PK:=zz (hs.all _ hm)
       have S1:=zz hs
       have mk:(n:Int)≤9223372036854775807:=by have:=PK.out.1;simp only at this;omega
       have hltj:(j:Int)<(LN:Int):=by omega
       have hj0:(0:Int)≤(j:Int):=by omega
       have KL:=zz hlt
       clear hs hlt hj hm
       go_wp2_with fail
       go_loopw [5] (fun z w5=>∃k:Nat,k≤n∧z = .int .i64 (k:Int)∧SJ w O G LN L w5∧w5.cell? ⟨G,j,none⟩=some (.slice A n cc)∧SpB .u8 w5 O A n) (fun z _=>n-(intOf z).toNat)
       case atStart=>exact⟨0,Nat.zero_le _,rfl,S1.out,pc,PK.out⟩
       case round=>
        obtain⟨k,hk,rfl,hs,hpc,hpk⟩:=hrel
        have SS:=zz hs
        by_cases hlt2:k<n
        · obtain⟨g2,x,rfl,hg,hc,hf⟩:=hpk.2 k hlt2
          have SN:=zz fun y=>SS.out.set hc hg y
          have PN:=zz fun y=>cell_keep hc hpc (.int .u8 y)
          have KN:=zz fun y=>hpk.set hc y
          have hltk:(k:Int)<(n:Int):=by omega
          have hk0:(0:Int)≤(k:Int):=by omega
          have KL2:=zz hlt2
          clear hs hlt2 hk hg hpk
          go_wp2_with fail
          go_roundw
          case rel=>exact⟨k+1,KL2.out,by go_num,SN.out _,PN.out _,KN.out _⟩
          case measure=>simp[intOf];have:=KL2.out;omega
        · obtain rfl:n=k:=by omega
          clear hlt2 hk hpk hs
          go_wp2_with fail
          go_roundw
          case rel=>exact⟨j+1,KL.out,by go_num,SS.out⟩
          case measure=>simp[intOf];have:=KL.out;omega
     · obtain rfl:LN=j:=by omega
       have SS:=zz hs
       clear hs hlt hj
       go_wp2_with fail
       first
        | ((try simp only[Exit.inBlock,Exit.then]);refine bodyPost_ret (results_none rfl _ _ _) rfl ?_)
        | ((try simp only[Exit.inBlock,Exit.then]);refine bodyPost_end (results_none rfl _ _ _) rfl ?_)
       exact⟨_,rfl,SS.out.st⟩
end Go.Proofs.YtgdhinjhbjolgaaGreat
