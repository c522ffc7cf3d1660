/-
  Parts of the proof, joined.
-/
import Derived.Test.YtlobgddnlnffbaaGreatBdj
import Derived.Test.YtlobgddnlnffbaaGreatBdk
import Derived.Laws.CopyRow
import Derived.Great.BuildSlice
import Derived.Maps.AppendAt
import Derived.Test.YtlobgddnlnffbaaGreatBde
import Derived.Deep.QuietTactic
import Derived.BigQuiet
namespace Go.Proofs.YtlobgddnlnffbaaGreat
set_option maxHeartbeats 8000000
open Go.RowKit
set_option linter.unusedVariables false
set_option linter.unusedSimpArgs false
theorem isB_frD {w W:World} {A:Option Addr} {n c:Nat} {l:List Nat} {F:Nat→Prop} (h:IsB w A n c l) (hf:Fr w W F) (hn:0<n→∀x,A=some x→¬F x.block):IsB W A n c l:=by
 by_cases h0:0<n
 · exact h.fr hf (hn h0)
 · obtain rfl:n=0:=by omega
   have hl:=h.len
   obtain rfl:l=[]:=List.eq_nil_of_length_eq_zero hl
   obtain⟨⟨k1,k2,k3,k4,k5⟩,k6⟩:=h
   refine⟨⟨k1,k2,k3,k4,?_⟩,k6⟩
   rcases k5 with k5 | ⟨X,k5,k5l,_⟩
   · exact .inl k5
   · exact .inr ⟨X,k5,fun h=>Nat.lt_of_lt_of_le (k5l h) hf.size,fun i hi=>absurd hi (Nat.not_lt_zero i)⟩
theorem bts_toList (L:List Nat):(bts L).toList=L.map fun n:Nat=>Value.int .u8 (n:Int):=by simp[bts]
theorem bts_oneL (L:List Nat):∀v∈(bts L).toList,v.oneCell'=true:=by
 intro v hv
 rw[bts_toList] at hv
 obtain⟨n,_,rfl⟩:=List.mem_map.1 hv
 rfl
theorem bts_putD (L b:List Nat) (i:Nat):((bts L).toList.take (i*256)++(bts b).toList++(bts L).toList.drop (i*256+b.length)).toArray=bts (putD L b i):=by
 apply Array.toList_inj.1
 rw[bts_toList (putD L b i),List.toList_toArray,bts_toList,bts_toList]
 simp[putD,List.map_take,List.map_drop]
section
variable {P:Program}
theorem exec_loadSub {r:Operand→Value} {o:Oper} (ty:TypeId) (x:Operand) (ho:o.op = .load ty x) (w:World) (y:Addr) (hx:r x = .pointer (some y)) (cs:Array Value) (d:TypeDesc)
 (hc:∀j v,cs[j]? = some v→w.cell? (y.add j)=some v) (hu:P.underlying ty=some d) (hd:(match d with | .struct _ | .array _ _=>true | _=>false)=true) (hi:(P.info? ty).map (·.size)=some cs.size):
 (execOp r o).run P w = .ok (.value (.agg cs)) w:=by
 unfold execOp
 simp only[ho,hx,Instr.loadAt,Instr.sureAddr,Sem.run_bind,Sem.run_pure,Result.andThen_ok,run_loadSub w y ty cs d hc hu hd hi]
set_option maxRecDepth 100000 in
theorem wpList_storeSub {ops:Array Oper} {rest:List Oper} {o:Oper} {a:Act} {w:World} {Q:Exit→Act→World→Prop} (hgd:o.guard=none) (T:TypeId) (x y:Operand) (ho:o.op = .store T x y)
 (g i:Nat) (hx:a.eval x = .pointer (some ⟨g,i*256,none⟩)) (b L:List Nat) (hy:a.eval y = .agg (bts b)) {t:TypeId} (hg:Bk w g t L) (hi:(P.info? T).map (·.size)=some b.length) (hl:i*256+b.length≤L.length)
 (h:∀w2,Bk w2 g t (putD L b i)→Fr w w2 (fun q=>q=g)→wpList P ops Q rest (a.put o.dst undef) w2):wpList P ops Q (o::rest) a w:=by
 have hst:=run_storeCells_at P g (i*256) t (bts b).toList 0 (bts L) w hg (by have e1:(bts b).toList.length=b.length:=(by rw[Array.length_toList,bts_size]);have e2:(bts L).size=L.length:=bts_size L;omega) (bts_oneL b)
 rw[Nat.add_zero,Array.length_toList,bts_size,bts_putD] at hst
 have hrun:(storeVar T ⟨g,i*256,none⟩ (.agg (bts b))).run P w = .ok () (w.setRow g (bts (putD L b i))):=by
  cases hq:P.info? T with
  | none=>simp[hq] at hi
  | some k=>
    have hs:(bts b).size=k.size:=by rw[bts_size];simp[hq] at hi;omega
    simp[storeVar,sizeOf,typeInfo,hq,Value.cells,hs,hst]
 refine wpList_plain hgd fun K hK=>?_
 have hK:=hK _ _ (h _ (setRow_heap w g _ _ _ _ hg) ⟨rfl,rfl,rfl,by simp,fun k _ hk=>setRow_other w g k _ hk⟩)
 unfold Oper.wp execOp
 simp only[ho,hx,hy,Instr.storeAt,Instr.sureAddr,Sem.run_bind,Sem.run_pure,Result.andThen_ok,hrun]
 exact hK
theorem run_copy_blk (w:World) (dT sT ty elem:TypeId) (g g' n:Nat) (L L':List Nat) (t t':TypeId) (hu:P.underlying dT=some (.slice elem)) (hs:(P.info? elem).map (·.size)=some 256)
 (hg:Bk w g t L) (hg':Bk w g' t' L') (hL:L.length=n*256) (hL':L'.length=n*256):
 (Builtin.copy_ #[dT,sT] ty #[.slice (some ⟨g,0,none⟩) n n,.slice (some ⟨g',0,none⟩) n n]).run P w = .ok (goInt n) (w.setRow g (bts L')):=by
 have hl:=run_loadCells_list (P:=P) w ⟨g',0,none⟩ (bts L').toList (fun j v hv=>by
  have hj:j<L'.length:=by
   have:=(List.getElem?_eq_some_iff.1 hv).1
   rwa [Array.length_toList,bts_size] at this
  rw[Array.getElem?_toList] at hv
  have:=Bk.sub hg' 0 (j:=j) (v:=v)
  rw[show (⟨g',0,none⟩:Addr).add j=⟨g',j,none⟩ from by by_cases h:j=0 <;> simp[Addr.add,h],hg'.cell hj,←hv,bts_get _ _ hj])
 have hst:=run_storeCells_at P g 0 t (bts L').toList 0 (bts L) w hg (by rw[Array.length_toList,bts_size,bts_size];omega) (bts_oneL L')
 rw[Nat.add_zero,Nat.zero_add,Array.length_toList,bts_size] at hst
 have e:((bts L).toList.take 0++(bts L').toList++(bts L).toList.drop L'.length).toArray=bts L':=by
  rw[List.take_zero,List.nil_append,List.drop_eq_nil_of_le (by rw[Array.length_toList,bts_size];omega),List.append_nil,Array.toArray_toList]
 rw[e] at hst
 rw[Array.length_toList,bts_size,hL'] at hl
 cases hq:P.info? elem with
 | none=>simp[hq] at hs
 | some i=>
   have hi:i.size=256:=by simpa[hq] using hs
   simp[Builtin.copy_,run_underlying hu,Builtin.lenOf,Builtin.firstCells,sizeOf,typeInfo,hq,hi,hl,hst]
end
theorem foldl_put (off:Nat):∀(vs:List Value) (k:Nat) (cs:Array Value),off+k+vs.length≤cs.size→
 (vs.zipIdx k).foldl (fun (cs:Array Value) (x:Value×Nat)=>cs.setIfInBounds (off+x.2) x.1) cs=(cs.toList.take (off+k)++vs++cs.toList.drop (off+k+vs.length)).toArray
 | [],k,cs,_=>by simp
 | v::r,k,cs,h=>by
   simp only[List.zipIdx_cons,List.foldl_cons,List.length_cons] at h⊢
   rw[foldl_put off r (k+1) _ (by simp;omega)]
   have e:=list_seg_step cs.toList (off+k) v r (by simp;omega)
   simp only[Array.toList_setIfInBounds,show off+(k+1)=off+k+1 by omega]
   rw[e,show off+k+(r.length+1)=off+k+1+r.length by omega]
theorem put_cells (off:Nat) (vs cs:Array Value) (h:off+vs.size≤cs.size):
 vs.zipIdx.foldl (fun (cs:Array Value) (x:Value×Nat)=>cs.setIfInBounds (off+x.2) x.1) cs=(cs.toList.take off++vs.toList++cs.toList.drop (off+vs.size)).toArray:=by
 have:=foldl_put off vs.toList 0 cs (by simpa using h)
 simp only[Nat.add_zero,Array.length_toList] at this
 rw[←this,←Array.foldl_toList]
 simp[Array.toList_zipIdx]
def wrC (i:Nat) (b:List Nat):Array Value:=#[Value.int .i64 (i:Int)]++bts b
theorem fill_write (Z:Array Value) (hZ:Z.size=257) (i:Nat) (b:List Nat) (hb:b.length=256):
 Instr.fill (#[(0,1),(1,256)][·]?) Z [(0,.int .i64 (i:Int)),(1,.agg (bts b))]=some (wrC i b):=by
 have c0:(Value.int .i64 (i:Int)).cells = #[Value.int .i64 (i:Int)]:=rfl
 have c1:(Value.agg (bts b)).cells=bts b:=rfl
 have s1:(bts b).size=256:=by rw[bts_size,hb]
 have p0:=put_cells 0 #[Value.int .i64 (i:Int)] Z (by simp;omega)
 simp only[Instr.fill,c0,c1,s1]
 simp only[List.getElem?_toArray,List.getElem?_cons_zero,List.getElem?_cons_succ]
 have e0:(#[Value.int .i64 (i:Int)]:Array Value).size=1:=rfl
 simp only[e0,hZ]
 rw[if_neg (by decide)]
 have h0:(#[Value.int .i64 (i:Int)]:Array Value).zipIdx.foldl (fun (cs:Array Value) (x:Value×Nat)=>match x with | (c,j)=>cs.setIfInBounds (0+j) c) Z=(Z.toList.take 0++[Value.int .i64 (i:Int)]++Z.toList.drop 1).toArray:=p0
 rw[h0]
 have z1:(Z.toList.take 0++[Value.int .i64 (i:Int)]++Z.toList.drop 1).toArray.size=257:=by simp;omega
 rw[if_neg (by rw[z1];decide)]
 have p1:=put_cells 1 (bts b) (Z.toList.take 0++[Value.int .i64 (i:Int)]++Z.toList.drop 1).toArray (by rw[z1,s1];decide)
 have h1:(bts b).zipIdx.foldl (fun (cs:Array Value) (x:Value×Nat)=>match x with | (c,j)=>cs.setIfInBounds (1+j) c) (Z.toList.take 0++[Value.int .i64 (i:Int)]++Z.toList.drop 1).toArray=_:=p1
 rw[h1]
 congr 1
 unfold wrC
 apply Array.toList_inj.1
 rw[s1]
 simp
 omega
theorem places_write:(match Tryz.prog.underlying 174 with | some (.struct fields)=>fields.toList.mapM (fun f=>(Tryz.prog.info? f.type).map fun i=>(f.offset,i.size)) | _=>none)=some [(0,1),(1,256)]:=by kernel_rfl
theorem zero_write:((Tryz.prog.info? 174).bind (·.zero)).map (fun z=>z.cells.size)=some 257:=by kernel_rfl
theorem built_write (i:Nat) (b:List Nat) (hb:b.length=256):Tryz.prog.built 174 [(0,.int .i64 (i:Int)),(1,.agg (bts b))]=some (wrC i b):=by
 have hp:=places_write
 have hz:=zero_write
 unfold Program.built
 cases hi:Tryz.prog.info? 174 with
 | none=>rw[hi] at hz;simp at hz
 | some it=>
   cases hu:Tryz.prog.underlying 174 with
   | none=>rw[hu] at hp;simp at hp
   | some d=>
     rw[hu] at hp
     rw[hi] at hz
     simp only[Option.bind_some] at hz
     cases hzz:it.zero with
     | none=>rw[hzz] at hz;simp at hz
     | some z=>
       rw[hzz] at hz
       have hz':z.cells.size=257:=by simpa using hz
       cases d with
       | struct fields=>
         simp only at hp⊢
         simp only[hzz,hp]
         exact fill_write _ hz' i b hb
       | _=>simp at hp
theorem build_write (i:Nat) (b:List Nat) (hb:b.length=256) (W:World):(Instr.build 174 #[(0,.int .i64 (i:Int)),(1,.agg (bts b))]).run Tryz.prog W = .ok (.agg (wrC i b)) W:=run_build W _ _ _ (built_write i b hb)
theorem wrC_size (i:Nat) (b:List Nat) (hb:b.length=256):(wrC i b).size=257:=by unfold wrC;rw[Array.size_append,bts_size,hb];rfl
theorem infoWr:(Tryz.prog.info? 174).map (fun i=>(i.zero,i.size,i.bytes))=some (some (.agg (wrC 0 (zeros 256))),257,264):=by kernel_rfl
set_option maxRecDepth 100000 in
theorem one_write (i:Nat) (b:List Nat) (hb:b.length=256) (W:World):(Instr.buildSlice 139 1 #[(0,.agg (wrC i b))]).run Tryz.prog W = .ok (.slice (some ⟨W.heap.size,0,none⟩) 1 1) (W.alloc (.cells (wrC i b) 174)):=by
 obtain⟨i0,hi0,hz0,hz1,hz2⟩:=info_parts infoWr
 refine run_buildSlice W _ _ 1 _ (wrC i b) i0 _ Tryz.underlying139 hi0 hz0 (by rw[hz1];decide) (by rw[hz1];decide) ?_
 rw[hz1]
 have c1:(Value.agg (wrC i b)).cells=wrC i b:=rfl
 have s1:=wrC_size i b hb
 obtain⟨Z,hZ⟩:∃Z,(Array.range (1*257)).map (((Value.agg (wrC 0 (zeros 256))).cells)[· % ((Value.agg (wrC 0 (zeros 256))).cells).size]!)=Z:=⟨_,rfl⟩
 have sZ:Z.size=257:=by rw[←hZ];simp
 rw[hZ]
 simp only[Instr.fill,c1,s1,sZ]
 have p0:=put_cells (0*257) (wrC i b) Z (by rw[s1,sZ];decide)
 have h0:(wrC i b).zipIdx.foldl (fun (cs:Array Value) (x:Value×Nat)=>match x with | (c,j)=>cs.setIfInBounds (0*257+j) c) Z=_:=p0
 simp only[h0]
 rw[if_neg (by decide)]
 congr 1
 apply Array.toList_inj.1
 rw[s1]
 simp
 omega
theorem putD_lenN {L b:List Nat} {i n:Nat} (hL:L.length=n*256) (hi:i<n) (hb:b.length=256):(putD L b i).length=n*256:=by
 simp only[putD,List.length_append,List.length_take,List.length_drop]
 omega
theorem blkL_lenN {L:List Nat} {i n:Nat} (hL:L.length=n*256) (hi:i<n):(blkL L i).length=256:=by
 simp only[blkL,List.length_take,List.length_drop]
 omega
theorem zeroBlkD:(Tryz.prog.info? 148).map (·.zero)=some (some (.agg (bts (zeros 256)))):=by kernel_rfl
theorem szBlkD:(Tryz.prog.info? 148).map (·.size)=some 256:=by kernel_rfl
theorem isB_bts {w:World} {x:Addr} {n c:Nat} {l:List Nat} (h:IsB w (some x) n c l):∀(j:Nat) (v:Value),(bts l)[j]? = some v→w.cell? (x.add j)=some v:=fun j v hv=>by
 have hj:j<l.length:=by have:=(Array.getElem?_eq_some_iff.1 hv).1;rwa [bts_size] at this
 have hn:=h.len
 obtain⟨y,e,_,hc⟩:=h.cell (by omega)
 injection e with e
 subst e
 rw[hc j (by omega),←hv,bts_get _ _ hj]
 simp[at',List.getElem?_eq_getElem hj]
theorem wrC_list (i:Nat) (b:List Nat):(wrC i b).toList=wrV (i,b):=by simp[wrC,wrV]
theorem wrC_one (i:Nat) (b:List Nat):∀u∈(wrC i b).toList,u.oneCell'=true:=by
 intro u hu
 rw[wrC_list] at hu
 rcases List.mem_cons.1 hu with rfl | hu
 · rfl
 · exact bts_oneL b u hu
theorem row_ltD {w:World} {B n s:Nat} {e:TypeId} {v:Value} {xs:List Value} (h:w.ownsRow B e s v n xs):∀k,v.ownBlock=some k→k<w.heap.size:=fun k hk=>by
 rcases h.2 with ⟨rfl,_⟩ | ⟨g',cap,cur,rfl,_,hh,_⟩
 · cases hk
 · have:g'=k:=by injection hk
   subst this
   exact (Array.getElem?_eq_some_iff.1 hh).1
theorem row_ne9 {w:World} {B n s g:Nat} {e T:TypeId} {v:Value} {xs:List Value} {L:List Nat} (h:w.ownsRow B e s v n xs) (k:Bk w g T L) (hT:e≠T) {q:Nat} (hq:v.ownBlock=some q):q≠g:=fun eq=>by
 rcases h.2 with ⟨rfl,_⟩ | ⟨g',cap,cur,rfl,_,hh,_⟩
 · cases hq
 · have:g'=q:=by injection hq
   subst this
   unfold Bk at k
   rw[←eq,hh] at k
   injection k with k
   injection k with _ k
   exact hT k
theorem run_arr (x:Addr) (c:Nat) (W:World):(Instr.arrayAt 148 (.slice (some x) 256 c)).run Tryz.prog W = .ok (.pointer (some x)) W:=by
 simp[Instr.arrayAt,run_underlying Tryz.underlying148]
theorem wpList_copyBlk {ops:Array Oper} {rest:List Oper} {o:Oper} {a:Act} {w:World} {Q:Exit→Act→World→Prop} (hgd:o.guard=none) (x y:Operand)
 (ho:o.op = .call { callee:=.builtin .copy,args:=#[x,y],argTypes:=#[138,138] }) (g g' n:Nat) (hx:a.eval x = .slice (some ⟨g,0,none⟩) n n) (hy:a.eval y = .slice (some ⟨g',0,none⟩) n n)
 {L L':List Nat} (hg:Bk w g 148 L) (hg':Bk w g' 148 L') (hL:L.length=n*256) (hL':L'.length=n*256)
 (h:∀w2,Bk w2 g 148 L'→Fr w w2 (fun q=>q=g)→wpList Tryz.prog ops Q rest (a.put o.dst (goInt n)) w2):wpList Tryz.prog ops Q (o::rest) a w:=by
 have hrun:=run_copy_blk (P:=Tryz.prog) w 138 138 o.type 148 g g' n L L' _ _ Tryz.underlying138 szBlkD hg hg' hL hL'
 refine wpList_plain hgd fun K hK=>?_
 have hK:=hK _ _ (h _ (setRow_heap w g _ _ _ _ hg) ⟨rfl,rfl,rfl,by simp,fun k _ hk=>setRow_other w g k _ hk⟩)
 unfold Oper.wp execOp
 simp only[ho,resolve,invoke,builtin,Sem.run_bind,Sem.run_pure,Result.andThen_ok,List.map_toArray,List.map_cons,List.map_nil,hx,hy,hrun]
 exact hK
def writeD (D:DvS) (i:Nat) (b:List Nat):Nat×DvS:=match stepD D with
 | (0,D1)=>(0,{ D1 with now:=putD D1.now b i,ws:=D1.ws++[(i,b)] })
 | (e+1,D1)=>(e+1,D1)
def syncD (D:DvS):Nat×DvS:=match stepD D with
 | (0,D1)=>(0,{ D1 with firm:=D1.now,ws:=[] })
 | (e+1,D1)=>(e+1,D1)
theorem stepD_same (D:DvS):(stepD D).2.n=D.n∧(stepD D).2.now=D.now∧(stepD D).2.firm=D.firm∧(stepD D).2.ws=D.ws:=by
 unfold stepD
 cases D.down <;> cases decide (D.cut=0) <;> cases decide (0<D.fail) <;> cases decide (D.fail=1) <;> exact⟨rfl,rfl,rfl,rfl⟩
section
variable {w:World} {B d g1 g2:Nat} {wv:Value} {D:DvS}
set_option maxRecDepth 100000 in
theorem write_any (i bc:Nat) (bA:Option Addr) (b:List Nat) (h:DsB w B d g1 g2 wv D) (ok:D.Ok) (hst:D.st≤1000000000) (hB:B≤w.heap.size) (hws:D.ws.length≤100000) (hi:i<D.n) (ib:IsB w bA 256 bc b)
 (hfr:∀x,bA=some x→x.block≠d∧x.block≠g1∧wv.ownBlock≠some x.block):
 Calls Tryz.prog 112 #[.pointer (some ⟨d,0,none⟩),.int .i64 (i:Int),.slice bA 256 bc] w fun e w'=>e = .returned (.int .i64 ((writeD D i b).1:Int))∧(∃wv',DsB w' B d g1 g2 wv' (writeD D i b).2∧(wv'.ownBlock=wv.ownBlock∨∃k,wv'.ownBlock=some k∧w.heap.size≤k))∧Fr w w' (fun q=>q=d∨q=g1∨wv.ownBlock=some q):=by
 have HH:=Lib.hid (has_yes i hi h)
 have HS:=Lib.hid (step_any h ok hst)
 have HD:=Lib.hid h
 have OK:=Lib.hid ok
 have IB:=Lib.hid ib
 have FB:=Lib.hid hfr
 have HI:=Lib.hid hi
 have HBB:=Lib.hid hB
 have HWS:=Lib.hid hws
 have hbl:=ib.len
 have BL:=Lib.hid hbl
 obtain⟨x,hx,hxl,_⟩:=ib.cell (by decide)
 subst hx
 have XL:=Lib.hid hxl
 have SM:=Lib.hid (stepD_same D)
 clear h ok hst hi ib hfr hB hws hbl hxl
 go_enter Tryz.func112,Tryz.ntmps112
 go_wp2_with fail
 refine HH.out.mono ?_
 rintro e w1 ⟨rfl,rfl⟩
 clear HH
 go_wp2_with fail
 refine HS.out.mono ?_
 rintro e w1 ⟨rfl,hds,hf⟩
 obtain⟨er,D1,hsd⟩:∃er D1,stepD D=(er,D1):=⟨_,_,rfl⟩
 have SD:=Lib.hid hsd
 rw[hsd] at hds SM⊢
 have DS:=Lib.hid hds
 have F1:=Lib.hid hf
 clear hds hf HS
 cases er with
 | succ e=>
   have hne:((e+1:Nat):Int) != 0:=by simp;omega
   have hne2:¬((e+1:Nat):Int)=0:=by omega
   have WD:Hid (writeD D i b=(e+1,D1)):=Lib.hid (by unfold writeD;rw[hsd])
   clear hsd
   go_wp2_with fail
   go_ret
   rw[WD.out]
   exact⟨rfl,⟨wv,DS.out,.inl rfl⟩,F1.out.imp fun q hq=>.inl hq⟩
 | zero =>
   have WD:Hid (writeD D i b=(0,{ D1 with now:=putD D1.now b i,ws:=D1.ws++[(i,b)] })):=Lib.hid (by unfold writeD;rw[hsd])
   have N1:Hid (D1.n=D.n):=Lib.hid SM.out.1
   have I1:=Lib.hid (isB_frD IB.out F1.out fun _ y hy=>fun e=>(FB.out y hy).1 e)
   have LN:Hid (D1.now.length=D1.n*256):=Lib.hid (by rw[SM.out.2.1,SM.out.1];exact OK.out.now)
   have i1:(i:Int)<(D1.n:Int):=by have:=HI.out;have:=N1.out;omega
   have i0:(0:Int)≤(i:Int):=by omega
   clear hsd
   go_upto_region 8 with (fail)
   refine wp_wide3 [⟨24,IsR (.pointer (some ⟨d,0,none⟩)),[],false⟩,⟨25,IsR (.pointer (some ⟨d,0,none⟩)),[0],false⟩,⟨26,IsR (.pointer (some ⟨d,0,none⟩)),[1],false⟩,⟨27,IsR (.slice (some ⟨g1,0,none⟩) D1.n D1.n),[2],false⟩,⟨28,IsR (.int .i64 (i:Int)),[],false⟩,⟨29,IsR (.slice (some x) 256 bc),[],false⟩,⟨30,IsR (.pointer (some x)),[5],false⟩,⟨31,IsR (.agg (bts b)),[6],false⟩,⟨32,IsR (.pointer (some ⟨g1,i*256,none⟩)),[3,4],false⟩] (by kernel_rfl) (by kernel_rfl) rfl rfl rfl ⟨?_,?_,?_,?_,?_,?_,?_,?_,?_,trivial⟩ ?_
   · refine⟨rfl,IsR.mono _,fun a W hA hb hd=>takes_plain rfl (yields_value _ ?_ rfl)⟩
     have h0:a.tmps[0]?.getD undef = .pointer (some ⟨d,0,none⟩):=(eval_get a 0).trans ((hA.eval (by simp)).trans rfl)
     go_simp
   · refine⟨rfl,IsR.mono _,fun a W hA hb hd=>takes_plain rfl (yields_value _ ?_ rfl)⟩
     have h24:a.tmps[24]?.getD undef = .pointer (some ⟨d,0,none⟩):=(eval_get a 24).trans (hd 0 (by simp) _ rfl)
     go_simp
   · refine⟨rfl,IsR.mono _,fun a W hA hb hd=>takes_plain rfl (yields_value _ ?_ rfl)⟩
     have h25:a.tmps[25]?.getD undef = .pointer (some ⟨d,0,none⟩):=(eval_get a 25).trans (hd 1 (by simp) _ rfl)
     go_simp
   · refine⟨rfl,IsR.mono _,fun a W hA hb hd=>takes_plain rfl (yields_value _ ?_ rfl)⟩
     have h26:a.tmps[26]?.getD undef = .pointer (some ⟨d,0,none⟩):=(eval_get a 26).trans (hd 2 (by simp) _ rfl)
     have hc:W.cell? ⟨d,0,none⟩=some (.slice (some ⟨g1,0,none⟩) D1.n D1.n):=(DS.out.ab hb).box.cell (k:=0) rfl
     go_simp
   · refine⟨rfl,IsR.mono _,fun a W hA hb hd=>takes_plain rfl (yields_value _ ?_ rfl)⟩
     have h1:a.tmps[1]?.getD undef = .int .i64 (i:Int):=(eval_get a 1).trans ((hA.eval (by simp)).trans rfl)
     go_simp
   · refine⟨rfl,IsR.mono _,fun a W hA hb hd=>takes_plain rfl (yields_value _ ?_ rfl)⟩
     have h2:a.tmps[2]?.getD undef = .slice (some x) 256 bc:=(eval_get a 2).trans ((hA.eval (by simp)).trans rfl)
     go_simp
   · refine⟨rfl,IsR.mono _,fun a W hA hb hd=>takes_plain rfl (yields_value _ ?_ rfl)⟩
     have h29:a.tmps[29]?.getD undef = .slice (some x) 256 bc:=(eval_get a 29).trans (hd 5 (by simp) _ rfl)
     have har:=run_arr x bc W
     go_simp
   · refine⟨rfl,IsR.mono _,fun a W hA hb hd=>takes_plain rfl (yields_value _ ?_ rfl)⟩
     have hx:a.eval (.tmp 30) = .pointer (some x):=hd 6 (by simp) _ rfl
     exact exec_loadSub 148 (.tmp 30) rfl W x hx (bts b) (.array 256 5) (isB_bts (I1.out.ab hb)) Tryz.underlying148 rfl (by rw[bts_size,BL.out];exact szBlkD)
   · refine⟨rfl,IsR.mono _,fun a W hA hb hd=>takes_plain rfl (yields_value _ ?_ rfl)⟩
     have h27:a.tmps[27]?.getD undef = .slice (some ⟨g1,0,none⟩) D1.n D1.n:=(eval_get a 27).trans (hd 3 (by simp) _ rfl)
     have h28:a.tmps[28]?.getD undef = .int .i64 (i:Int):=(eval_get a 28).trans (hd 4 (by simp) _ rfl)
     go_simp
   intro vs w2 hR hF hb
   have e24:vs 24 = .pointer (some ⟨d,0,none⟩):=hR 0 _ rfl
   have e25:vs 25 = .pointer (some ⟨d,0,none⟩):=hR 1 _ rfl
   have e26:vs 26 = .pointer (some ⟨d,0,none⟩):=hR 2 _ rfl
   have e27:vs 27 = .slice (some ⟨g1,0,none⟩) D1.n D1.n:=hR 3 _ rfl
   have e28:vs 28 = .int .i64 (i:Int):=hR 4 _ rfl
   have e29:vs 29 = .slice (some x) 256 bc:=hR 5 _ rfl
   have e30:vs 30 = .pointer (some x):=hR 6 _ rfl
   have e31:vs 31 = .agg (bts b):=hR 7 _ rfl
   have e32:vs 32 = .pointer (some ⟨g1,i*256,none⟩):=hR 8 _ rfl
   simp only[List.map_cons,List.map_nil,List.foldl_cons,List.foldl_nil,List.length_cons,List.length_nil,List.drop_succ_cons,List.drop_zero,Act.put,List.setIfInBounds_toArray,List.set_cons_zero,List.set_cons_succ,e24,e25,e26,e27,e28,e29,e30,e31,e32]
   have D2:=Lib.hid (DS.out.ab hb)
   have B2:=Lib.hid hb
   clear hR hF hb e24 e25 e26 e27 e28 e29 e30 e31 e32
   go_wp2_with (first
    | (refine wpList_storeSub (o:=⟨none,.store _ (.tmp 32) (.tmp 31),_,_,_,_⟩) rfl 148 (.tmp 32) (.tmp 31) rfl g1 i rfl b D1.now rfl D2.out.now (by rw[BL.out];exact szBlkD) (by rw[LN.out,BL.out,N1.out];have:=HI.out;omega) ?_
       intro w3 hk3 hf3
       have K3:=Lib.hid hk3
       have F3:=Lib.hid hf3
       clear hk3 hf3))
   have I2:=Lib.hid (I1.out.ab B2.out)
   have I3:=Lib.hid (isB_frD I2.out F3.out fun _ y hy=>fun e=>(FB.out y hy).2.1 e)
   have X3:=Lib.hid (D2.out.box.fr F3.out (fun e=>bk_ne D2.out.box D2.out.now (by decide) e))
   have R3:Hid (w3.ownsRow B 174 257 wv D1.ws.length (D1.ws.flatMap wrV)):=Lib.hid (row_fr D2.out.row F3.out fun k hk e=>by
    have:=row_ne9 D2.out.row D2.out.now (by decide) hk
    exact this e)
   have M3:=Lib.hid (bk_fr D2.out.firm F3.out (fun e=>D2.out.ne e.symm))
   have HW3:Hid (B≤w3.heap.size):=Lib.hid (Nat.le_trans HBB.out (Nat.le_trans F1.out.size (Nat.le_trans B2.out.size F3.out.size)))
   have NB:Hid (∀k,wv.ownBlock=some k→k<w3.heap.size):=Lib.hid (row_ltD R3.out)
   have WN:Hid (D1.ws.length≤100000):=Lib.hid (by rw[SM.out.2.2.2];exact HWS.out)
   have ND:Hid (wv.ownBlock≠some d):=Lib.hid (row_ne R3.out X3.out (by decide))
   have NX:Hid (wv.ownBlock≠some x.block):=Lib.hid (FB.out x rfl).2.2
   obtain⟨i0',hi0,hz0,hz1,hz2⟩:=info_parts infoWr
   go_upto_region 9 with (fail)
   refine wp_wide5 (fun q k=>q=11∧wv.ownBlock=some k) [⟨33,IsR (.pointer (some ⟨d,0,none⟩)),[],false⟩,⟨34,IsR (.pointer (some ⟨d,0,none⟩)),[],false⟩,⟨35,IsR (.pointer (some ⟨d,0,none⟩)),[1],false⟩,⟨36,IsR (.pointer (some ⟨d,2,none⟩)),[2],false⟩,⟨37,IsR (wv),[3],false⟩,⟨38,IsR (.int .i64 (i:Int)),[],false⟩,⟨39,IsR (.slice (some x) 256 bc),[],false⟩,⟨40,IsR (.pointer (some x)),[6],false⟩,⟨41,IsR (.agg (bts b)),[7],false⟩,⟨42,IsR (.agg (wrC i b)),[5,8],false⟩,⟨43,(fun z W=>∃G,z = .slice (some ⟨G,0,none⟩) 1 1∧CbB W G 174 (wrC i b)∧w3.heap.size≤G),[9],false⟩,⟨44,(fun z W=>W.ownsRow B 174 257 z (D1.ws.length+1) (D1.ws.flatMap wrV++(wrC i b).toList)∧(z.ownBlock=wv.ownBlock∨∃k,z.ownBlock=some k∧w3.heap.size≤k)),[4,10],false⟩,⟨45,IsR (.pointer (some ⟨d,0,none⟩)),[0],false⟩,⟨46,IsR (.pointer (some ⟨d,2,none⟩)),[12],false⟩] (by kernel_rfl) (by kernel_rfl) rfl rfl rfl ⟨?_,?_,?_,?_,?_,?_,?_,?_,?_,?_,?_,?_,?_,?_,trivial⟩ ?_
   · refine⟨rfl,IsR.monoF _ _,fun a W hA hb hd=>Takes.to5 (takes_plain rfl (yields_value _ ?_ rfl)) _⟩
     have h0:a.tmps[0]?.getD undef = .pointer (some ⟨d,0,none⟩):=(eval_get a 0).trans ((hA.eval (by simp)).trans rfl)
     go_simp
   · refine⟨rfl,IsR.monoF _ _,fun a W hA hb hd=>Takes.to5 (takes_plain rfl (yields_value _ ?_ rfl)) _⟩
     have h0:a.tmps[0]?.getD undef = .pointer (some ⟨d,0,none⟩):=(eval_get a 0).trans ((hA.eval (by simp)).trans rfl)
     go_simp
   · refine⟨rfl,IsR.monoF _ _,fun a W hA hb hd=>Takes.to5 (takes_plain rfl (yields_value _ ?_ rfl)) _⟩
     have h34:a.tmps[34]?.getD undef = .pointer (some ⟨d,0,none⟩):=(eval_get a 34).trans (hd 1 (by simp) _ rfl)
     go_simp
   · refine⟨rfl,IsR.monoF _ _,fun a W hA hb hd=>Takes.to5 (takes_plain rfl (yields_value _ ?_ rfl)) _⟩
     have h35:a.tmps[35]?.getD undef = .pointer (some ⟨d,0,none⟩):=(eval_get a 35).trans (hd 2 (by simp) _ rfl)
     go_simp
   · refine⟨rfl,IsR.monoF _ _,fun a W hA hb hd=>Takes.to5 (takes_plain rfl (yields_value _ ?_ rfl)) _⟩
     have h36:a.tmps[36]?.getD undef = .pointer (some ⟨d,2,none⟩):=(eval_get a 36).trans (hd 3 (by simp) _ rfl)
     have hc:W.cell? ⟨d,2,none⟩=some wv:=(X3.out.fr hb (fun ⟨j,_,_,hj⟩=>ND.out hj)).cell (k:=2) rfl
     obtain⟨Au,cu,hu⟩:=row_shape R3.out
     subst hu
     go_simp
   · refine⟨rfl,IsR.monoF _ _,fun a W hA hb hd=>Takes.to5 (takes_plain rfl (yields_value _ ?_ rfl)) _⟩
     have h1:a.tmps[1]?.getD undef = .int .i64 (i:Int):=(eval_get a 1).trans ((hA.eval (by simp)).trans rfl)
     go_simp
   · refine⟨rfl,IsR.monoF _ _,fun a W hA hb hd=>Takes.to5 (takes_plain rfl (yields_value _ ?_ rfl)) _⟩
     have h2:a.tmps[2]?.getD undef = .slice (some x) 256 bc:=(eval_get a 2).trans ((hA.eval (by simp)).trans rfl)
     go_simp
   · refine⟨rfl,IsR.monoF _ _,fun a W hA hb hd=>Takes.to5 (takes_plain rfl (yields_value _ ?_ rfl)) _⟩
     have h39:a.tmps[39]?.getD undef = .slice (some x) 256 bc:=(eval_get a 39).trans (hd 6 (by simp) _ rfl)
     have har:=run_arr x bc W
     go_simp
   · refine⟨rfl,IsR.monoF _ _,fun a W hA hb hd=>Takes.to5 (takes_plain rfl (yields_value _ ?_ rfl)) _⟩
     have hx:a.eval (.tmp 40) = .pointer (some x):=hd 7 (by simp) _ rfl
     exact exec_loadSub 148 (.tmp 40) rfl W x hx (bts b) (.array 256 5) (isB_bts (I3.out.fr hb (fun y hy ⟨j,_,_,hj⟩=>NX.out (by injection hy with hy;subst hy;exact hj)))) Tryz.underlying148 rfl (by rw[bts_size,BL.out];exact szBlkD)
   · refine⟨rfl,IsR.monoF _ _,fun a W hA hb hd=>Takes.to5 (takes_plain rfl (yields_value _ ?_ rfl)) _⟩
     have h38:a.eval (.tmp 38) = .int .i64 (i:Int):=hd 5 (by simp) _ rfl
     have h41:a.eval (.tmp 41) = .agg (bts b):=hd 8 (by simp) _ rfl
     have hbw:=build_write i b BL.out W
     unfold execOp
     simp only[List.map_toArray,List.map_cons,List.map_nil,h38,h41,hbw,Sem.run_bind,Sem.run_pure,Result.andThen_ok]
   · refine⟨rfl,fun z W W1 ⟨G1,h1,h2,h3⟩ hf=>⟨G1,h1,h2.fr hf (fun ⟨j,_,_,hj⟩=>by have:=NB.out _ hj;omega),h3⟩,fun a W hA hb hd=>takes5_plain rfl ?_⟩
     have h42:a.eval (.tmp 42) = .agg (wrC i b):=hd 9 (by simp) _ rfl
     have how:=one_write i b BL.out W
     refine .inl ⟨.slice (some ⟨W.heap.size,0,none⟩) 1 1,W.alloc (.cells (wrC i b) 174),?_,⟨_,rfl,CbB.new _ _ _,hb.size⟩,Fr.of ((Below.refl _ _).alloc (Nat.le_refl _) _) _⟩
     unfold execOp
     simp only[List.map_toArray,List.map_cons,List.map_nil,h42,how,Sem.run_bind,Sem.run_pure,Result.andThen_ok]
   · refine⟨rfl,fun z W W1 ⟨h2,h9⟩ hf=>⟨row_fr h2 hf (fun k hk ⟨j,hj,hj2,_⟩=>hj hj2),h9⟩,fun a W hA hb hd=>takes5_plain rfl ?_⟩
     have hs:a.eval (.tmp 37)=wv:=hd 4 (by simp) _ rfl
     obtain⟨GG2,he,hcb,hG⟩:=hd 10 (by simp) _ rfl
     have hx:a.eval (.tmp 43) = .slice (some ⟨GG2,0,none⟩) 1 1:=he
     have hown:=row_fr R3.out hb (fun k hk ⟨j,hj,hj2,_⟩=>hj hj2)
     have hone:∀u∈(wrC i b).toList,u.oneCell'=true:=wrC_one i b
     obtain⟨v1,W1,hrun,r1,r2,_,r3⟩:=run_append_own_at (P:=Tryz.prog) W B 139 139 174 i0' _ 257 264 Tryz.underlying139 hi0 hz0 hz1 hz2 (wrC_size 0 _ (zeros_len 256)) (by decide) wv D1.ws.length (D1.ws.flatMap wrV) hown ⟨GG2,0,none⟩ 1 1 (wrC i b).toList (by rw[Array.length_toList,wrC_size i b BL.out]) (row_at hcb) hone (by have:=WN.out;simp only[maxLen];omega) (by have:=WN.out;omega) (Nat.le_trans HW3.out hb.size)
     refine .inl ⟨v1,W1,?_,⟨r1,r3.imp id fun e=>⟨_,e,hb.size⟩⟩,(Fr.grown r2).imp fun k hk=>⟨rfl,hk⟩⟩
     unfold execOp
     simp only[resolve,invoke,builtin,Sem.run_bind,Sem.run_pure,Result.andThen_ok,List.map_toArray,List.map_cons,List.map_nil,hs,hx,hrun]
   · refine⟨rfl,IsR.monoF _ _,fun a W hA hb hd=>Takes.to5 (takes_plain rfl (yields_value _ ?_ rfl)) _⟩
     have h33:a.tmps[33]?.getD undef = .pointer (some ⟨d,0,none⟩):=(eval_get a 33).trans (hd 0 (by simp) _ rfl)
     go_simp
   · refine⟨rfl,IsR.monoF _ _,fun a W hA hb hd=>Takes.to5 (takes_plain rfl (yields_value _ ?_ rfl)) _⟩
     have h45:a.tmps[45]?.getD undef = .pointer (some ⟨d,0,none⟩):=(eval_get a 45).trans (hd 12 (by simp) _ rfl)
     go_simp
   intro vs w4 hR hb
   have RW:Hid (w4.ownsRow B 174 257 (vs 44) (D1.ws.length+1) (D1.ws.flatMap wrV++(wrC i b).toList)):=Lib.hid (hR 11 _ rfl).1
   have OW:Hid ((vs 44).ownBlock=wv.ownBlock∨∃k,(vs 44).ownBlock=some k∧w3.heap.size≤k):=Lib.hid (hR 11 _ rfl).2
   have e33:vs 33 = .pointer (some ⟨d,0,none⟩):=hR 0 _ rfl
   have e34:vs 34 = .pointer (some ⟨d,0,none⟩):=hR 1 _ rfl
   have e35:vs 35 = .pointer (some ⟨d,0,none⟩):=hR 2 _ rfl
   have e36:vs 36 = .pointer (some ⟨d,2,none⟩):=hR 3 _ rfl
   have e37:vs 37=wv:=hR 4 _ rfl
   have e38:vs 38 = .int .i64 (i:Int):=hR 5 _ rfl
   have e39:vs 39 = .slice (some x) 256 bc:=hR 6 _ rfl
   have e40:vs 40 = .pointer (some x):=hR 7 _ rfl
   have e41:vs 41 = .agg (bts b):=hR 8 _ rfl
   have e42:vs 42 = .agg (wrC i b):=hR 9 _ rfl
   have e45:vs 45 = .pointer (some ⟨d,0,none⟩):=hR 12 _ rfl
   have e46:vs 46 = .pointer (some ⟨d,2,none⟩):=hR 13 _ rfl
   simp only[List.map_cons,List.map_nil,List.foldl_cons,List.foldl_nil,List.length_cons,List.length_nil,List.drop_succ_cons,List.drop_zero,Act.put,List.setIfInBounds_toArray,List.set_cons_zero,List.set_cons_succ,e33,e34,e35,e36,e37,e38,e39,e40,e41,e42,e45,e46]
   have FR:Hid (Fr w3 w4 (fun k=>wv.ownBlock=some k)):=Lib.hid (hb.imp fun k ⟨j,_,hj⟩=>hj)
   clear hR hb e33 e34 e35 e36 e37 e38 e39 e40 e41 e42 e45 e46
   generalize vs 43=q43 at *
   generalize vs 44=q44 at *
   have X4:=Lib.hid (X3.out.fr FR.out ND.out)
   have hc:w4.cell? ⟨d,2,none⟩=some wv:=X4.out.cell (k:=2) rfl
   have hf:=X4.out.free 2
   obtain⟨A7,c7,rfl⟩:=row_shape RW.out
   obtain⟨Au,cu,rfl⟩:=row_shape R3.out
   go_wp2_with fail
   go_ret
   rw[WD.out]
   have hfg:=fr_setD w4 d 2 (.slice A7 (D1.ws.length+1) c7)
   have N4:∀k,(Value.slice A7 (D1.ws.length+1) c7).ownBlock=some k→¬k=d:=fun k hk e=>row_ne RW.out X4.out (by decide) (by rw[hk,e])
   refine⟨rfl,⟨.slice A7 (D1.ws.length+1) c7,⟨X4.out.set 2 _,?_,?_,?_,D2.out.ne,D2.out.low⟩,?_⟩,?_⟩
   · exact bk_fr (bk_fr K3.out FR.out (fun e=>row_ne9 R3.out K3.out (by decide) e rfl)) hfg (fun e=>bk_ne X3.out K3.out (by decide) e.symm)
   · exact bk_fr (bk_fr M3.out FR.out (fun e=>row_ne9 R3.out M3.out (by decide) e rfl)) hfg (fun e=>bk_ne X3.out M3.out (by decide) e.symm)
   · have:=row_fr RW.out hfg (fun k hk e=>N4 k hk e)
     have e1:(D1.ws++[(i,b)]).flatMap wrV=D1.ws.flatMap wrV++(wrC i b).toList:=by rw[List.flatMap_append,wrC_list];simp
     show (w4.setCell ⟨d,2,none⟩ (.slice A7 (D1.ws.length+1) c7)).ownsRow B 174 257 _ (D1.ws++[(i,b)]).length ((D1.ws++[(i,b)]).flatMap wrV)
     rw[e1,List.length_append,List.length_singleton]
     exact this
   · exact OW.out.imp id fun ⟨k,h1,h2⟩=>⟨k,h1,Nat.le_trans (Nat.le_trans F1.out.size (Nat.le_trans B2.out.size F3.out.size)) h2⟩
   · exact (F1.out.imp fun q hq=>.inl hq).trW (((Fr.of B2.out _).trW (F3.out.imp fun q hq=>.inr (.inl hq))).trW ((FR.out.imp fun q hq=>.inr (.inr hq)).trW (hfg.imp fun q hq=>.inl hq)))
set_option maxRecDepth 100000 in
theorem sync_any (h:DsB w B d g1 g2 wv D) (ok:D.Ok) (hst:D.st≤1000000000):
 Calls Tryz.prog 113 #[.pointer (some ⟨d,0,none⟩)] w fun e w'=>e = .returned (.int .i64 ((syncD D).1:Int))∧(∃wv',DsB w' B d g1 g2 wv' (syncD D).2∧(wv'.ownBlock=wv.ownBlock∨wv'.ownBlock=none))∧Fr w w' (fun q=>q=d∨q=g2):=by
 have HS:=Lib.hid (step_any h ok hst)
 have OK:=Lib.hid ok
 have SM:=Lib.hid (stepD_same D)
 clear h ok hst
 go_enter Tryz.func113,Tryz.ntmps113
 go_wp2_with fail
 refine HS.out.mono ?_
 rintro e w1 ⟨rfl,hds,hf⟩
 obtain⟨er,D1,hsd⟩:∃er D1,stepD D=(er,D1):=⟨_,_,rfl⟩
 rw[hsd] at hds SM⊢
 have DS:=Lib.hid hds
 have F1:=Lib.hid hf
 clear hds hf HS
 cases er with
 | succ e=>
   have hne:((e+1:Nat):Int) != 0:=by simp;omega
   have hne2:¬((e+1:Nat):Int)=0:=by omega
   have WD:Hid (syncD D=(e+1,D1)):=Lib.hid (by unfold syncD;rw[hsd])
   clear hsd
   go_wp2_with fail
   go_ret
   rw[WD.out]
   exact⟨rfl,⟨wv,DS.out,.inl rfl⟩,F1.out.imp fun q hq=>.inl hq⟩
 | zero =>
   have WD:Hid (syncD D=(0,{ D1 with firm:=D1.now,ws:=[] })):=Lib.hid (by unfold syncD;rw[hsd])
   have LN:Hid (D1.now.length=D1.n*256):=Lib.hid (by rw[SM.out.2.1,SM.out.1];exact OK.out.now)
   have LF:Hid (D1.firm.length=D1.n*256):=Lib.hid (by rw[SM.out.2.2.1,SM.out.1];exact OK.out.firm)
   clear hsd
   go_upto_region 6 with (fail)
   refine wp_wide3 [⟨11,IsR (.pointer (some ⟨d,0,none⟩)),[],false⟩,⟨12,IsR (.pointer (some ⟨d,0,none⟩)),[0],false⟩,⟨13,IsR (.pointer (some ⟨d,1,none⟩)),[1],false⟩,⟨14,IsR (.slice (some ⟨g2,0,none⟩) D1.n D1.n),[2],false⟩,⟨15,IsR (.pointer (some ⟨d,0,none⟩)),[],false⟩,⟨16,IsR (.pointer (some ⟨d,0,none⟩)),[4],false⟩,⟨17,IsR (.pointer (some ⟨d,0,none⟩)),[5],false⟩,⟨18,IsR (.slice (some ⟨g1,0,none⟩) D1.n D1.n),[6],false⟩] (by kernel_rfl) (by kernel_rfl) rfl rfl rfl ⟨?_,?_,?_,?_,?_,?_,?_,?_,trivial⟩ ?_
   · refine⟨rfl,IsR.mono _,fun a W hA hb hd=>takes_plain rfl (yields_value _ ?_ rfl)⟩
     have h0:a.tmps[0]?.getD undef = .pointer (some ⟨d,0,none⟩):=(eval_get a 0).trans ((hA.eval (by simp)).trans rfl)
     go_simp
   · refine⟨rfl,IsR.mono _,fun a W hA hb hd=>takes_plain rfl (yields_value _ ?_ rfl)⟩
     have h11:a.tmps[11]?.getD undef = .pointer (some ⟨d,0,none⟩):=(eval_get a 11).trans (hd 0 (by simp) _ rfl)
     go_simp
   · refine⟨rfl,IsR.mono _,fun a W hA hb hd=>takes_plain rfl (yields_value _ ?_ rfl)⟩
     have h12:a.tmps[12]?.getD undef = .pointer (some ⟨d,0,none⟩):=(eval_get a 12).trans (hd 1 (by simp) _ rfl)
     go_simp
   · refine⟨rfl,IsR.mono _,fun a W hA hb hd=>takes_plain rfl (yields_value _ ?_ rfl)⟩
     have h13:a.tmps[13]?.getD undef = .pointer (some ⟨d,1,none⟩):=(eval_get a 13).trans (hd 2 (by simp) _ rfl)
     have hc:W.cell? ⟨d,1,none⟩=some (.slice (some ⟨g2,0,none⟩) D1.n D1.n):=(DS.out.ab hb).box.cell (k:=1) rfl
     go_simp
   · refine⟨rfl,IsR.mono _,fun a W hA hb hd=>takes_plain rfl (yields_value _ ?_ rfl)⟩
     have h0:a.tmps[0]?.getD undef = .pointer (some ⟨d,0,none⟩):=(eval_get a 0).trans ((hA.eval (by simp)).trans rfl)
     go_simp
   · refine⟨rfl,IsR.mono _,fun a W hA hb hd=>takes_plain rfl (yields_value _ ?_ rfl)⟩
     have h15:a.tmps[15]?.getD undef = .pointer (some ⟨d,0,none⟩):=(eval_get a 15).trans (hd 4 (by simp) _ rfl)
     go_simp
   · refine⟨rfl,IsR.mono _,fun a W hA hb hd=>takes_plain rfl (yields_value _ ?_ rfl)⟩
     have h16:a.tmps[16]?.getD undef = .pointer (some ⟨d,0,none⟩):=(eval_get a 16).trans (hd 5 (by simp) _ rfl)
     go_simp
   · refine⟨rfl,IsR.mono _,fun a W hA hb hd=>takes_plain rfl (yields_value _ ?_ rfl)⟩
     have h17:a.tmps[17]?.getD undef = .pointer (some ⟨d,0,none⟩):=(eval_get a 17).trans (hd 6 (by simp) _ rfl)
     have hc:W.cell? ⟨d,0,none⟩=some (.slice (some ⟨g1,0,none⟩) D1.n D1.n):=(DS.out.ab hb).box.cell (k:=0) rfl
     go_simp
   intro vs w2 hR hF hb
   have e11:vs 11 = .pointer (some ⟨d,0,none⟩):=hR 0 _ rfl
   have e12:vs 12 = .pointer (some ⟨d,0,none⟩):=hR 1 _ rfl
   have e13:vs 13 = .pointer (some ⟨d,1,none⟩):=hR 2 _ rfl
   have e14:vs 14 = .slice (some ⟨g2,0,none⟩) D1.n D1.n:=hR 3 _ rfl
   have e15:vs 15 = .pointer (some ⟨d,0,none⟩):=hR 4 _ rfl
   have e16:vs 16 = .pointer (some ⟨d,0,none⟩):=hR 5 _ rfl
   have e17:vs 17 = .pointer (some ⟨d,0,none⟩):=hR 6 _ rfl
   have e18:vs 18 = .slice (some ⟨g1,0,none⟩) D1.n D1.n:=hR 7 _ rfl
   simp only[List.map_cons,List.map_nil,List.foldl_cons,List.foldl_nil,List.length_cons,List.length_nil,List.drop_succ_cons,List.drop_zero,Act.put,List.setIfInBounds_toArray,List.set_cons_zero,List.set_cons_succ,e11,e12,e13,e14,e15,e16,e17,e18]
   have D2:=Lib.hid (DS.out.ab hb)
   have B2:=Lib.hid hb
   clear hR hF hb e11 e12 e13 e14 e15 e16 e17 e18
   go_wp2_with (first
    | (refine wpList_copyBlk (o:=⟨some 19,.call { callee:=.builtin .copy,args:=#[.tmp 14,.tmp 18],argTypes:=_ },_,_,_,_⟩) rfl (.tmp 14) (.tmp 18) rfl g2 g1 D1.n rfl rfl D2.out.firm D2.out.now LF.out LN.out ?_
       intro w3 hk3 hf3
       have K3:=Lib.hid hk3
       have F3:=Lib.hid hf3
       have N2:=Lib.hid (bk_ne D2.out.box D2.out.firm (by decide))
       have X3:=D2.out.box.fr hf3 (fun e=>N2.out e)
       have c2:w3.cell? ⟨d,2,none⟩=some wv:=X3.cell (k:=2) rfl
       have f2:=X3.free 2
       have B3:=Lib.hid X3
       clear hk3 hf3 X3))
   go_wp2_with fail
   go_ret
   rw[WD.out]
   have hfg:=fr_setD w3 d 2 (.slice none 0 0)
   refine⟨rfl,⟨.slice none 0 0,⟨B3.out.set 2 _,?_,?_,World.ownsRow_nil _ _ _ _,D2.out.ne,D2.out.low⟩,.inr rfl⟩,?_⟩
   · exact bk_fr (bk_fr D2.out.now F3.out (fun e=>D2.out.ne e)) hfg (fun e=>bk_ne D2.out.box D2.out.now (by decide) e.symm)
   · exact bk_fr K3.out hfg (fun e=>N2.out e.symm)
   · exact (F1.out.imp fun q hq=>.inl hq).trW (((Fr.of B2.out _).trW (F3.out.imp fun q hq=>.inr hq)).trW (hfg.imp fun q hq=>.inl hq))
end
theorem exec_allocD {P:Program} {r:Operand→Value} {o:Oper} (T:TypeId) (ho:o.op = .alloc T) (i:TypeInfo) (z:Value) (hi:P.info? T=some i) (hz:i.zero=some z) (W:World):
 (execOp r o).run P W = .ok (.value (.pointer (some ⟨W.heap.size,0,none⟩))) (W.alloc (.cells z.cells T)):=by
 unfold execOp
 simp[ho,Instr.alloc,zeroValue,typeInfo,hi,hz,newVar,go_sem]
theorem wpList_allocD {ops:Array Oper} {rest:List Oper} {o:Oper} {a:Act} {w:World} {Q:Exit→Act→World→Prop} (hgd:o.guard=none) (T:TypeId) (ho:o.op = .alloc T) (n:Nat)
 (hz:(Tryz.prog.info? T).map (·.zero)=some (some (.agg (bts (zeros n)))))
 (h:wpList Tryz.prog ops Q rest (a.put o.dst (.pointer (some ⟨w.heap.size,0,none⟩))) (w.alloc (.cells (bts (zeros n)) T))):wpList Tryz.prog ops Q (o::rest) a w:=by
 refine wpList_plain hgd fun K hK=>?_
 cases hi:Tryz.prog.info? T with
 | none=>rw[hi] at hz;cases hz
 | some i=>
   rw[hi] at hz
   have hz':i.zero=some (.agg (bts (zeros n))):=by simpa using hz
   have hrun:=exec_allocD (r:=a.eval) T ho i _ hi hz' w
   unfold Oper.wp
   rw[hrun]
   exact hK _ _ h
section
variable {w:World} {B d g1 g2:Nat} {wv:Value} {D:DvS}
set_option maxRecDepth 100000 in
theorem read_any (i:Nat) (hi:i<D.n) (hd:D.down=false) (ok:D.Ok) (h:DsB w B d g1 g2 wv D):
 Calls Tryz.prog 31 #[.pointer (some ⟨d,0,none⟩),.int .i64 (i:Int)] w fun e w'=>∃g,e = .returned (.tuple #[.slice (some ⟨g,0,none⟩) 256 256,.int .i64 0])∧w.heap.size≤g∧IsB w' (some ⟨g,0,none⟩) 256 256 (blkL D.now i)∧Below w.heap.size w w':=by
 have HH:=Lib.hid (has_yes i hi h)
 have c6:w.cell? ⟨d,6,none⟩=some (.bool D.down):=h.box.cell (k:=6) rfl
 rw[hd] at c6
 have c0:w.cell? ⟨d,0,none⟩=some (.slice (some ⟨g1,0,none⟩) D.n D.n):=h.box.cell (k:=0) rfl
 have i0:(0:Int)≤(i:Int):=by omega
 have i1:(i:Int)<(D.n:Int):=by omega
 have HD:=Lib.hid h
 have OK:=Lib.hid ok
 have BL:=Lib.hid (blkL_lenN ok.now hi)
 clear h ok hd
 go_enter Tryz.func31,Tryz.ntmps31
 go_wp2_with fail
 refine HH.out.mono ?_
 rintro e w1 ⟨rfl,rfl⟩
 clear HH
 go_wp2_with (first
  | (with_reducible refine wpList_loadSub (o:=⟨some 26,.load _ _,_,_,_,_⟩) ?_ 148 (.tmp 25) ?_ ⟨g1,i*256,none⟩ ?_ (bts (blkL D.now i)) (.array 256 5) (HD.out.now.sub i) Tryz.underlying148 ?_ ?_ ?_
     · rfl
     · rfl
     · rfl
     · rfl
     · rw[bts_size,BL.out];exact szBlkD)
  | (with_reducible refine wpList_allocD (o:=⟨some 6,.alloc _,_,_,_,_⟩) ?_ 148 ?_ 256 zeroBlkD ?_
     · rfl
     · rfl)
  | (with_reducible refine wpList_storeN (o:=⟨none,.store _ (.tmp 6) (.tmp 26),_,_,_,_⟩) ?_ 148 (.tmp 6) (.tmp 26) ?_ w.heap.size ?_ (blkL D.now i) ?_ (Bk.new w 148 (zeros 256)) ?_ ?_ ?_
     · rfl
     · rfl
     · rfl
     · rfl
     · rw[BL.out];exact szBlkD
     · rw[BL.out];rfl
     intro w2 hw2))
 go_ret2
 exact⟨_,rfl,Nat.le_refl _,isB_whole ((Bk.new _ _ _).row _) (blkL_byt OK.out.bnow) BL.out (by decide),Below.row ((Below.refl _ _).alloc (Nat.le_refl _) _) (Nat.le_refl _) _⟩
end
theorem set_fill19 (f:Nat):∀(j n:Nat),j<n→(List.replicate j f++List.replicate (n-j) 0).set j f=List.replicate (j+1) f++List.replicate (n-(j+1)) 0:=fun j n h=>by
 rw[List.set_append_right _ _ (by simp)]
 simp only[List.length_replicate,Nat.sub_self]
 obtain⟨m,hm⟩:∃m,n-j=m+1:=⟨n-j-1,by omega⟩
 rw[hm,show n-(j+1)=m by omega,List.replicate_succ,List.set_cons_zero,List.replicate_succ',List.append_assoc]
 rfl
theorem wpList_makeB19 {rest:List Oper} {ops:Array Oper} {o:Oper} {a:Act} {w:World} {Q:Exit→Act→World→Prop} (hgd:o.guard=none) (n:Nat) (hn:n≤281474976710656) (ho:o.op = .makeSlice 41 (.const (.int .i64 (n:Int))) (.const (.int .i64 (n:Int))))
 (h:∀w',Bk w' w.heap.size 5 (zeros n)→Below w.heap.size w w'→wpList Tryz.prog ops Q rest (a.put o.dst (.slice (some ⟨w.heap.size,0,none⟩) n n)) w'):wpList Tryz.prog ops Q (o::rest) a w:=by
 refine wpList_plain hgd fun K hK=>?_
 have:=make_u8 n n (Nat.le_refl _) hn w
 unfold Oper.wp execOp
 simp only[ho,Act.eval,this,Sem.run_bind,Result.andThen_ok,Sem.run_pure]
 exact hK _ _ (h _ (Bk.newAt _ (zeros n) rfl) ((Below.refl _ _).alloc (Nat.le_refl _) _))
def u32Vp (n:Nat):Value:=.int .u32 (n:Int)
def u32Okp (n:Nat):Prop:=n<4294967296
theorem u32p_wf {n:Nat} (h:u32Okp n):(Lit.int .u32 (n:Int)).wf=true:=by
 unfold u32Okp at h
 have e3:IntKind.u32.min=0:=rfl
 have e4:IntKind.u32.max=4294967295:=rfl
 simp only[Lit.wf,Bool.and_eq_true,decide_eq_true_eq]
 omega
theorem u32p_K:KeyK Tryz.prog 31 u32Vp u32Okp where
 keyed:=Maps.int_keyed Tryz.underlying31
 of:=fun h=>⟨_,Maps.keyOf_int_mk Tryz.underlying31 (u32p_wf h)⟩
 inj:=fun {x y} h=>by
  unfold u32Vp at h
  injection h with _ h
  omega
structure PcS where
 d:Nat
 rg:Nat
 lg:Nat
 fv:Value
 kn:Nat
 mw:Nat
 pv:Value
 dv:Value
 mi:Nat
 cm:Nat
 la:Nat
 fl:Bool
 fa:Bool
def PcS.cells (S:PcS):Array Value:=#[.pointer (some ⟨S.d,0,none⟩),.pointer (some ⟨S.rg,0,none⟩),.pointer (some ⟨S.lg,0,none⟩),S.fv,.map (some S.kn),.map (some S.mw),S.pv,S.dv,.map (some S.mi),.int .u64 (S.cm:Int),.int .u64 (S.la:Int),.bool S.fl,.bool S.fa]
def PcB (w:World) (p:Nat) (S:PcS):Prop:=CbB w p 137 S.cells
def mayP (S:PcS):Nat:=bif S.fa then 190 else 0
def openB (S:PcS):Bool:=!decide (S.cm=0) && !S.fl
section
variable {w:World} {p:Nat} {S:PcS}
set_option maxRecDepth 100000 in
theorem may_any (h:PcB w p S):Calls Tryz.prog 66 #[.pointer (some ⟨p,0,none⟩)] w fun e w'=>e = .returned (.int .i64 (mayP S:Int))∧w=w':=by
 have c12:w.cell? ⟨p,12,none⟩=some (.bool S.fa):=CbB.cell h (k:=12) rfl
 clear h
 obtain⟨d,rg,lg,fv,kn,mw,pv,dv,mi,cm,la,fl,fa⟩:=S
 cases fa
 · go_enter Tryz.func66,Tryz.ntmps66
   go_wp2_with fail
   go_ret
   exact⟨rfl,rfl⟩
 · go_enter Tryz.func66,Tryz.ntmps66
   go_wp2_with fail
   go_ret
   exact⟨rfl,rfl⟩
set_option maxRecDepth 100000 in
theorem open_any (h:PcB w p S):Calls Tryz.prog 67 #[.pointer (some ⟨p,0,none⟩)] w fun e w'=>e = .returned (.bool (openB S))∧w=w':=by
 have c9:w.cell? ⟨p,9,none⟩=some (.int .u64 (S.cm:Int)):=CbB.cell h (k:=9) rfl
 have c11:w.cell? ⟨p,11,none⟩=some (.bool S.fl):=CbB.cell h (k:=11) rfl
 clear h
 obtain⟨d,rg,lg,fv,kn,mw,pv,dv,mi,cm,la,fl,fa⟩:=S
 simp only at c9 c11
 by_cases h0:cm=0
 · subst h0
   go_enter Tryz.func67,Tryz.ntmps67
   go_wp2_with fail
   go_ret
   exact⟨rfl,rfl⟩
 · have e0:decide (cm=0)=false:=by simp;omega
   have e1:((cm:Int) != 0)=true:=by simp;omega
   have e2:¬(cm:Int)=0:=by omega
   go_enter Tryz.func67,Tryz.ntmps67
   go_wp2_with fail
   go_ret
   refine⟨?_,rfl⟩
   unfold openB
   simp only[e0]
   cases fl <;> rfl
set_option maxRecDepth 100000 in
theorem failed_any (h:PcB w p S):Calls Tryz.prog 14 #[.pointer (some ⟨p,0,none⟩)] w fun e w'=>e = .returned (.bool S.fa)∧w=w':=by
 have c12:w.cell? ⟨p,12,none⟩=some (.bool S.fa):=CbB.cell h (k:=12) rfl
 clear h
 go_enter Tryz.func14,Tryz.ntmps14
 go_wp2_with fail
 go_ret
 exact⟨rfl,rfl⟩
set_option maxRecDepth 100000 in
theorem last_any (h:PcB w p S):Calls Tryz.prog 23 #[.pointer (some ⟨p,0,none⟩)] w fun e w'=>e = .returned (.int .u64 (S.la:Int))∧w=w':=by
 have c10:w.cell? ⟨p,10,none⟩=some (.int .u64 (S.la:Int)):=CbB.cell h (k:=10) rfl
 clear h
 go_enter Tryz.func23,Tryz.ntmps23
 go_wp2_with fail
 go_ret
 exact⟨rfl,rfl⟩
set_option maxRecDepth 100000 in
theorem phas_any {B g1 g2:Nat} {wv:Value} {D:DvS} (n:Nat) (hn:n<4294967296) (h:PcB w p S) (hd:DsB w B S.d g1 g2 wv D):
 Calls Tryz.prog 68 #[.pointer (some ⟨p,0,none⟩),.int .u32 (n:Int)] w fun e w'=>e = .returned (.bool (decide (1<n)&&decide (n<D.n)))∧w=w':=by
 have HB:=Lib.hid (blocks_any hd)
 have c0:w.cell? ⟨p,0,none⟩=some (.pointer (some ⟨S.d,0,none⟩)):=CbB.cell h (k:=0) rfl
 clear h hd
 by_cases h1:1<n
 · have e1:(1:Int)<(n:Int):=by omega
   have n0:(0:Int)≤(n:Int):=by omega
   have n1:(n:Int)<4294967296:=by omega
   have E:=decide_eq_true h1
   clear h1
   go_enter Tryz.func68,Tryz.ntmps68
   go_wp2_with fail
   refine HB.out.mono ?_
   rintro e w1 ⟨rfl,rfl⟩
   go_wp2_with fail
   go_ret
   refine⟨?_,rfl⟩
   rw[E]
   simp
 · have e1:¬(1:Int)<(n:Int):=by omega
   have E:=decide_eq_false h1
   clear h1
   go_enter Tryz.func68,Tryz.ntmps68
   go_wp2_with fail
   go_ret
   exact⟨rfl,rfl⟩
theorem bel_drewN9 {B:Nat} {a b:World} (h:Below B a b) (n:Nat):Below B a (b.drewN n):=⟨h.os,h.tape,h.output,h.size,h.block⟩
set_option maxRecDepth 100000 in
theorem commit_any (h:PcB w p S):Calls Tryz.prog 62 #[.pointer (some ⟨p,0,none⟩)] w fun e w'=>e = .returned (.tuple #[.int .u64 (S.cm:Int),.bool (!decide (S.cm=0)&&S.fl)])∧Below w.heap.size w w':=by
 have c9:w.cell? ⟨p,9,none⟩=some (.int .u64 (S.cm:Int)):=CbB.cell h (k:=9) rfl
 have c11:w.cell? ⟨p,11,none⟩=some (.bool S.fl):=CbB.cell h (k:=11) rfl
 clear h
 obtain⟨d,rg,lg,fv,kn,mw,pv,dv,mi,cm,la,fl,fa⟩:=S
 simp only at c9 c11
 by_cases h0:cm=0
 · subst h0
   go_enter Tryz.func62,Tryz.ntmps62
   go_wp2_with fail
   go_ret2
   exact⟨rfl,Below.refl _ _⟩
 · have e0:decide (cm=0)=false:=by simp;omega
   have e1:((cm:Int)==0)=false:=by simp;omega
   have e2:¬(cm:Int)=0:=by omega
   go_enter Tryz.func62,Tryz.ntmps62
   go_wp2_with fail
   go_quiet (fail)
   go_wp2_with fail
   go_ret2
   refine⟨?_,bel_drewN9 (Below.refl _ _) _⟩
   simp only[e0]
   cases fl <;> rfl
set_option maxRecDepth 100000 in
theorem fail_any (h:PcB w p S):Calls Tryz.prog 64 #[.pointer (some ⟨p,0,none⟩)] w fun e w'=>(∃v,e = .returned v)∧PcB w' p { S with fa:=true }∧Fr w w' (fun q=>q=p):=by
 have c12:w.cell? ⟨p,12,none⟩=some (.bool S.fa):=CbB.cell h (k:=12) rfl
 have f12:=CbB.free h 12
 have H:=Lib.hid (CbB.set h 12 (.bool true))
 clear h
 go_enter Tryz.func64,Tryz.ntmps64
 go_wp2_with fail
 first
  | ((try simp only[Exit.inBlock,Exit.then]);refine bodyPost_ret (results_none rfl _ _ _) rfl ?_)
  | ((try simp only[Exit.inBlock,Exit.then]);refine bodyPost_end (results_none rfl _ _ _) rfl ?_)
 exact⟨⟨_,rfl⟩,H.out,fr_setD _ _ _ _⟩
def beginS (S:PcS) (n a b:Nat):PcS:={ S with cm:=n,la:=n,fl:=false,pv:=.map (some a),dv:=.map (some b) }
set_option maxRecDepth 100000 in
theorem begin_ok (n:Nat) (hn:n<18446744073709551616) (h:PcB w p S) (hf:S.fa=false) (h0:S.cm=0) (hl:S.la<n):
 Calls Tryz.prog 54 #[.pointer (some ⟨p,0,none⟩),.int .u64 (n:Int)] w fun e w'=>∃a b,e = .returned (.int .i64 0)∧PcB w' p (beginS S n a b)∧MapB u32Vp u32Okp w' a []∧MapB u32Vp u32Okp w' b []∧w.heap.size≤a∧w.heap.size≤b∧a≠b∧Fr w w' (fun q=>q=p):=by
 have HM:=Lib.hid (may_any h)
 rw[show mayP S=0 from by unfold mayP;rw[hf];rfl] at HM
 have H0:=Lib.hid h
 have c9:w.cell? ⟨p,9,none⟩=some (.int .u64 (S.cm:Int)):=CbB.cell h (k:=9) rfl
 rw[h0] at c9
 have c10:w.cell? ⟨p,10,none⟩=some (.int .u64 (S.la:Int)):=CbB.cell h (k:=10) rfl
 have f9:=CbB.free h 9
 have l1:¬(n:Int)≤(S.la:Int):=by omega
 have X1:=CbB.set h 9 (.int .u64 (n:Int))
 have k10:(w.setCell ⟨p,9,none⟩ (.int .u64 (n:Int))).cell? ⟨p,10,none⟩=some (.int .u64 (S.la:Int)):=X1.cell (k:=10) rfl
 have f10:=X1.free 10
 have X2:=X1.set 10 (.int .u64 (n:Int))
 have k11:((w.setCell ⟨p,9,none⟩ (.int .u64 (n:Int))).setCell ⟨p,10,none⟩ (.int .u64 (n:Int))).cell? ⟨p,11,none⟩=some (.bool S.fl):=X2.cell (k:=11) rfl
 have f11:=X2.free 11
 have X3:=Lib.hid (X2.set 11 (.bool false))
 have F3:Hid (Fr w (((w.setCell ⟨p,9,none⟩ (.int .u64 (n:Int))).setCell ⟨p,10,none⟩ (.int .u64 (n:Int))).setCell ⟨p,11,none⟩ (.bool false)) (fun q=>q=p)):=Lib.hid (((fr_setD w p 9 _).trW (fr_setD _ p 10 _)).trW (fr_setD _ p 11 _))
 have hmm:∀W:World,(Instr.makeMap 134 none).run Tryz.prog W = .ok (.map (some W.heap.size)) (W.alloc (.map #[] 0)):=fun _=>rfl
 clear h hf h0 hl X1 X2
 go_enter Tryz.func54,Tryz.ntmps54
 go_wp2_with fail
 refine HM.out.mono ?_
 rintro e w1 ⟨rfl,rfl⟩
 clear HM
 go_upto_region 7 with (fail)
 obtain⟨w3,hw3⟩:∃w3,((w.setCell ⟨p,9,none⟩ (.int .u64 (n:Int))).setCell ⟨p,10,none⟩ (.int .u64 (n:Int))).setCell ⟨p,11,none⟩ (.bool false)=w3:=⟨_,rfl⟩
 rw[hw3] at X3 F3⊢
 clear hw3 c9 c10 f9 k10 f10 k11 f11 l1
 have ba:Below w3.heap.size w3 ((w3.alloc (.map #[] 0)).alloc (.map #[] 0)):=((Below.refl _ _).alloc (Nat.le_refl _) _).alloc (by simp) _
 have X5:=X3.out.ab ba
 have M1:MapB u32Vp u32Okp ((w3.alloc (.map #[] 0)).alloc (.map #[] 0)) w3.heap.size []:=(MapB.new u32Vp u32Okp w3).same (((Below.refl _ _).alloc (by simp) _:Below (w3.alloc (.map #[] 0)).heap.size (w3.alloc (.map #[] 0)) ((w3.alloc (.map #[] 0)).alloc (.map #[] 0))).block _ (by simp))
 have M2:MapB u32Vp u32Okp ((w3.alloc (.map #[] 0)).alloc (.map #[] 0)) (w3.alloc (.map #[] 0)).heap.size []:=MapB.new u32Vp u32Okp (w3.alloc (.map #[] 0))
 have hsz:(w3.alloc (.map #[] 0)).heap.size=w3.heap.size+1:=by simp
 rw[hsz] at M2
 have k6:((w3.alloc (.map #[] 0)).alloc (.map #[] 0)).cell? ⟨p,6,none⟩=some S.pv:=X5.cell (k:=6) rfl
 have f6:=X5.free 6
 have X6:=X5.set 6 (.map (some w3.heap.size))
 have k7:(((w3.alloc (.map #[] 0)).alloc (.map #[] 0)).setCell ⟨p,6,none⟩ (.map (some w3.heap.size))).cell? ⟨p,7,none⟩=some S.dv:=X6.cell (k:=7) rfl
 have f7:=X6.free 7
 have X7:=Lib.hid (X6.set 7 (.map (some (w3.heap.size+1))))
 have BA:=Lib.hid ba
 have MM1:=Lib.hid M1
 have MM2:=Lib.hid M2
 clear X5 X6 ba M1 M2 hsz
 go_wp2_with fail
 go_ret
 have fz:=(fr_setD ((w3.alloc (.map #[] 0)).alloc (.map #[] 0)) p 6 (.map (some w3.heap.size))).trW (fr_setD _ p 7 (.map (some (w3.heap.size+1))))
 have hp:=X3.out.lt
 refine⟨w3.heap.size,w3.heap.size+1,rfl,X7.out,MM1.out.same (fz.block _ MM1.out.lt (by omega)),MM2.out.same (fz.block _ MM2.out.lt (by omega)),F3.out.size,Nat.le_succ_of_le F3.out.size,by omega,(F3.out.trW (Fr.of BA.out _)).trW fz⟩
end
abbrev Tgm:=Nat→Nat×Nat
structure Wr (P:Nat×Nat→Prop) (w:World) (O:Tgm) (w':World) (O':Tgm):Prop where
 fr:Fr w w' (fun k=>P (O k))
 tg:∀k,k<w.heap.size→O' k=O k
section
variable {P Q:Nat×Nat→Prop} {w w1 w':World} {O O1 O':Tgm}
theorem Wr.size (h:Wr P w O w' O'):w.heap.size≤w'.heap.size:=h.fr.size
theorem Wr.refl (P:Nat×Nat→Prop) (w:World) (O:Tgm):Wr P w O w O:=⟨Fr.of (Below.refl _ _) _,fun _ _=>rfl⟩
theorem Wr.tr (h:Wr P w O w1 O1) (k:Wr P w1 O1 w' O'):Wr P w O w' O':=
 ⟨⟨k.fr.os.trans h.fr.os,k.fr.tape.trans h.fr.tape,k.fr.output.trans h.fr.output,Nat.le_trans h.size k.size,fun i hi hn=>
   (k.fr.block i (Nat.lt_of_lt_of_le hi h.size) (fun e=>hn (by rw[←h.tg i hi];exact e))).trans (h.fr.block i hi hn)⟩,
  fun i hi=>(k.tg i (Nat.lt_of_lt_of_le hi h.size)).trans (h.tg i hi)⟩
theorem Wr.imp (h:Wr P w O w' O') (hi:∀t,P t→Q t):Wr Q w O w' O':=⟨h.fr.imp fun k=>hi _,h.tg⟩
theorem Wr.of (hb:Below w.heap.size w w') (P:Nat×Nat→Prop) (hO:∀k,k<w.heap.size→O' k=O k):Wr P w O w' O':=⟨Fr.of hb _,hO⟩
theorem Wr.below {B:Nat} {a:World} (h:Wr P w O w' O') (hb:Below B a w) (hs:B≤w.heap.size) (hO:∀k,k<B→¬P (O k)):Below B a w':=
 Fr.below h.fr (fun k e=>Nat.le_of_not_lt fun hk=>hO k hk e) hb hs
def cutO (O:Tgm) (N:Nat):Tgm:=fun k=>if k<N then O k else (0,0)
def markO (O:Tgm) (N:Nat) (r:Option Nat) (t:Nat×Nat):Tgm:=fun k=>if k<N then O k else if r=some k then t else (0,0)
theorem cutO_at {N k:Nat} (h:N≤k):cutO O N k=(0,0):=by unfold cutO;rw[if_neg (by omega)]
theorem cutO_old {N k:Nat} (h:k<N):cutO O N k=O k:=by unfold cutO;rw[if_pos h]
theorem markO_old {N k:Nat} {r:Option Nat} {t:Nat×Nat} (h:k<N):markO O N r t k=O k:=by unfold markO;rw[if_pos h]
theorem markO_new {N k:Nat} {t:Nat×Nat} (h:N≤k):markO O N (some k) t k=t:=by unfold markO;rw[if_neg (by omega),if_pos rfl]
theorem Wr.cut (hb:Below w.heap.size w w') (P:Nat×Nat→Prop):Wr P w O w' (cutO O w.heap.size):=Wr.of hb P fun k hk=>cutO_old hk
theorem Wr.mk' {F:Nat→Prop} (hf:Fr w w' F) (hF:∀k,F k→P (O k)) (hO:∀k,k<w.heap.size→O' k=O k):Wr P w O w' O':=⟨hf.imp hF,hO⟩
end
def StB (w:World) (O:Tgm) (v:Value) (l:List Nat):Prop:=∃A n c,v = .slice A n c∧IsB w A n c l∧(0<n→∀x,A=some x→x.block<w.heap.size∧O x.block=(0,0))
section
variable {P:Nat×Nat→Prop} {w w':World} {O O':Tgm}
theorem StB.wr {v:Value} {l:List Nat} (h:StB w O v l) (s:Wr P w O w' O') (hn:¬P (0,0)):StB w' O' v l:=by
 obtain⟨A,n,c,rfl,h1,h2⟩:=h
 refine⟨A,n,c,rfl,isB_frD h1 s.fr (fun h0 x hx e=>?_),fun h0 x hx=>?_⟩
 · rw[(h2 h0 x hx).2] at e;exact hn e
 · obtain⟨k1,k2⟩:=h2 h0 x hx
   exact⟨Nat.lt_of_lt_of_le k1 s.size,(s.tg _ k1).trans k2⟩
theorem StB.own {B:Nat} {v:Value} {l:List Nat} (h:OwB w B v l) (ht:∀k,v.ownBlock=some k→O k=(0,0)):StB w O v l:=by
 obtain⟨A,c,rfl,_,_⟩:=h.shape
 refine⟨A,_,c,rfl,h.isB rfl,fun h0 x hx=>?_⟩
 subst hx
 have hlt:=row_ltD h.own
 rcases h.own.2 with ⟨e,_⟩ | ⟨g,cap,cur,e,_⟩
 · cases e
 · injection e with e _ _
   injection e with e
   subst e
   exact⟨hlt _ rfl,ht _ rfl⟩
def DvM (w:World) (O:Tgm) (d:Nat) (D:DvS):Prop:=∃g1 g2 wv,DsB w 0 d g1 g2 wv D∧O d=(0,1)∧O g1=(0,1)∧O g2=(0,1)∧∀k,wv.ownBlock=some k→O k=(0,1)
theorem DvM.wr {d:Nat} {D:DvS} (h:DvM w O d D) (s:Wr P w O w' O') (hn:¬P (0,1)):DvM w' O' d D:=by
 obtain⟨g1,g2,wv,h1,t1,t2,t3,t4⟩:=h
 obtain⟨l1,l2,l3⟩:=h1.lt
 refine⟨g1,g2,wv,h1.fr s.fr (fun k hk=>⟨?_,?_,?_,?_⟩),(s.tg _ l1).trans t1,(s.tg _ l2).trans t2,(s.tg _ l3).trans t3,fun k hk=>(s.tg _ (row_ltD h1.row k hk)).trans (t4 k hk)⟩
 · rintro rfl;rw[t1] at hk;exact hn hk
 · rintro rfl;rw[t2] at hk;exact hn hk
 · rintro rfl;rw[t3] at hk;exact hn hk
 · intro e;rw[t4 k e] at hk;exact hn hk
def LgM (w:World) (O:Tgm) (g:Nat) (all:List Sl):Prop:=∃v,CbB w g 157 #[v]∧w.ownsRow 0 159 9 v all.length (slvs all)∧O g=(0,2)∧∀k,v.ownBlock=some k→O k=(0,2)
theorem LgM.wr {g:Nat} {all:List Sl} (h:LgM w O g all) (s:Wr P w O w' O') (hn:¬P (0,2)):LgM w' O' g all:=by
 obtain⟨v,h1,h2,t1,t2⟩:=h
 refine⟨v,h1.fr s.fr (fun e=>hn (by rw[←t1];exact e)),row_fr h2 s.fr (fun k hk e=>hn (by rw[←t2 k hk];exact e)),(s.tg _ h1.lt).trans t1,fun k hk=>(s.tg _ (row_ltD h2 k hk)).trans (t2 k hk)⟩
def RgM (w:World) (O:Tgm) (g:Nat) (l:RgL):Prop:=∃m vs,w.heap[g]? = some (.cells #[.map (some m)] 191 (0,0))∧MapB whV whOk w m vs∧RgV w 0 vs l∧(∀p∈l,KeyOk p.2)∧O g=(0,3)∧O m=(0,3)∧∀p∈vs,∀k,p.2.ownBlock=some k→O k=(0,0)
theorem RgV.impM {w w':World} {B:Nat}:∀{vs:List ((Nat×Nat)×Value)} {l:RgL},RgV w B vs l→(∀p∈vs,∀k,OwB w B p.2 k→OwB w' B p.2 k)→RgV w' B vs l
 | [],[],_,_=>trivial
 | p::ps,q::qs,h,hi=>⟨⟨h.1.1,hi _ (List.mem_cons_self ..) _ h.1.2⟩,RgV.impM h.2 fun r hr=>hi r (List.mem_cons_of_mem _ hr)⟩
 | [],_::_,h,_=>h.elim
 | _::_,[],h,_=>h.elim
theorem RgV.mem {w:World} {B:Nat}:∀{vs:List ((Nat×Nat)×Value)} {l:RgL},RgV w B vs l→∀p∈vs,∃k,OwB w B p.2 k
 | [],[],_,_,hp=>by cases hp
 | p::ps,q::qs,h,r,hr=>by
   rcases List.mem_cons.1 hr with rfl | hr
   · exact⟨_,h.1.2⟩
   · exact RgV.mem h.2 r hr
 | [],_::_,h,_,_=>h.elim
 | _::_,[],h,_,_=>h.elim
theorem RgM.wr {g:Nat} {l:RgL} (h:RgM w O g l) (s:Wr P w O w' O') (hn:¬P (0,3)) (h0:¬P (0,0)):RgM w' O' g l:=by
 obtain⟨m,vs,h1,h2,h3,h4,t1,t2,t3⟩:=h
 have lg:g<w.heap.size:=lt_of_block h1
 refine⟨m,vs,(s.fr.block g lg (fun e=>hn (by rw[←t1];exact e))).trans h1,h2.same (s.fr.block m h2.lt (fun e=>hn (by rw[←t2];exact e))),h3.impM (fun p hp k hk=>hk.fr s.fr fun q hq e=>h0 (by rw[←t3 p hp q hq];exact e)),h4,(s.tg _ lg).trans t1,(s.tg _ h2.lt).trans t2,fun p hp k hk=>?_⟩
 obtain⟨k',hk'⟩:=h3.mem p hp
 exact (s.tg _ (row_ltD hk'.own k hk)).trans (t3 p hp k hk)
theorem RgM.rg {g:Nat} {l:RgL} (h:RgM w O g l):∃m,RgB w 0 g m l:=by
 obtain⟨m,vs,h1,h2,h3,h4,_⟩:=h
 exact⟨m,h1,Nat.zero_le _,⟨vs,h2,h3⟩,h4⟩
structure PgP where
 fr:RnL
 kn:List (Nat×(Lb×List Nat))
 wa:List (Nat×Value)
 pu:List (Nat×Value)
 dr:List (Nat×Value)
 pi:List (Nat×Value)
 cm:Nat
 la:Nat
 fl:Bool
 fa:Bool
structure PgK where
 d:Nat
 rg:Nat
 lg:Nat
 fv:Value
 kn:Nat
 mw:Nat
 pv:Value
 dv:Value
 mi:Nat
def pcS (b:PgK) (T:PgP):PcS:=⟨b.d,b.rg,b.lg,b.fv,b.kn,b.mw,b.pv,b.dv,b.mi,T.cm,T.la,T.fl,T.fa⟩
def PgV (w:World) (O:Tgm) (v:Value) (l:Lb) (t:List Nat):Prop:=∃x,v = .agg #[.int .u32 (l.ten:Int),.int .u8 (l.k:Int),.int .u8 (l.lv:Int),.int .u32 (l.pg:Int),.int .u64 (l.cm:Int),.int .u16 (l.gn:Int),x]∧StB w O x t∧l.Ok
def KnV (w:World) (O:Tgm):List (Nat×Value)→List (Nat×(Lb×List Nat))→Prop
 | [],[]=>True
 | p::ps,q::qs=>(p.1=q.1∧PgV w O p.2 q.2.1 q.2.2)∧KnV w O ps qs
 | [],_::_=>False
 | _::_,[]=>False
theorem KnV.imp:∀{vs:List (Nat×Value)} {l:List (Nat×(Lb×List Nat))},KnV w O vs l→(∀v a t,PgV w O v a t→PgV w' O' v a t)→KnV w' O' vs l
 | [],[],_,_=>trivial
 | p::ps,q::qs,h,hi=>⟨⟨h.1.1,hi _ _ _ h.1.2⟩,KnV.imp h.2 hi⟩
 | [],_::_,h,_=>h.elim
 | _::_,[],h,_=>h.elim
theorem PgV.wr {v:Value} {a:Lb} {t:List Nat} (h:PgV w O v a t) (s:Wr P w O w' O') (hn:¬P (0,0)):PgV w' O' v a t:=by
 obtain⟨x,h1,h2,h3⟩:=h
 exact⟨x,h1,h2.wr s hn,h3⟩
def MpT (w:World) (O:Tgm) (v:Value) (t:Nat×Nat) (l:List (Nat×Value)):Prop:=(v = .map none∧l=[])∨∃a,v = .map (some a)∧MapB u32Vp u32Okp w a l∧O a=t
theorem MpT.wr {v:Value} {t:Nat×Nat} {l:List (Nat×Value)} (h:MpT w O v t l) (s:Wr P w O w' O') (hn:¬P t):MpT w' O' v t l:=by
 rcases h with h | ⟨a,h1,h2,h3⟩
 · exact .inl h
 · exact .inr ⟨a,h1,h2.same (s.fr.block a h2.lt (fun e=>hn (by rw[←h3];exact e))),(s.tg _ h2.lt).trans h3⟩
structure PgN (w:World) (O:Tgm) (p:Nat) (b:PgK) (T:PgP):Prop where
 box:PcB w p (pcS b T)
 pos:0<p
 tb:O p=(p,1)
 free:RuB w 0 b.fv T.fr
 tf:∀k,b.fv.ownBlock=some k→O k=(0,0)
 kn:∃vs,MapB u32Vp u32Okp w b.kn vs∧KnV w O vs T.kn
 tk:O b.kn=(p,2)
 wa:MapB u32Vp u32Okp w b.mw T.wa
 tw:O b.mw=(p,3)
 pu:MpT w O b.pv (p,4) T.pu
 dr:MpT w O b.dv (p,5) T.dr
 pi:MapB u32Vp u32Okp w b.mi T.pi
 ti:O b.mi=(p,6)
 rgt:rightR T.fr=true
 okr:∀r∈T.fr,1<r.1∧r.2≤4096
 num:T.fr.length≤4096
 cmo:T.cm<18446744073709551616∧T.la<18446744073709551616
 opn:T.cm≠0→(∃a,b.pv = .map (some a))∧∃a,b.dv = .map (some a)
theorem PgN.wr {p:Nat} {b:PgK} {T:PgP} (h:PgN w O p b T) (s:Wr P w O w' O') (hn:∀i,¬P (p,i)) (h0:¬P (0,0)):PgN w' O' p b T:=by
 obtain⟨vs,k1,k2⟩:=h.kn
 have fz:=fun (k:Nat) (i:Nat) (e:O k=(p,i)) (q:P (O k))=>hn i (by rw[←e];exact q)
 exact {
  box:=CbB.fr h.box s.fr (fz p 1 h.tb)
  pos:=h.pos
  tb:=(s.tg _ (CbB.lt h.box)).trans h.tb
  free:=row_fr h.free s.fr (fun k hk e=>h0 (by rw[←h.tf k hk];exact e))
  tf:=fun k hk=>(s.tg _ (row_ltD h.free k hk)).trans (h.tf k hk)
  kn:=⟨vs,k1.same (s.fr.block _ k1.lt (fz _ 2 h.tk)),k2.imp fun v a t hv=>hv.wr s h0⟩
  tk:=(s.tg _ k1.lt).trans h.tk
  wa:=h.wa.same (s.fr.block _ h.wa.lt (fz _ 3 h.tw))
  tw:=(s.tg _ h.wa.lt).trans h.tw
  pu:=h.pu.wr s (hn 4)
  dr:=h.dr.wr s (hn 5)
  pi:=h.pi.same (s.fr.block _ h.pi.lt (fz _ 6 h.ti))
  ti:=(s.tg _ h.pi.lt).trans h.ti
  rgt:=h.rgt
  okr:=h.okr
  num:=h.num
  cmo:=h.cmo
  opn:=h.opn }
def PgM (w:World) (O:Tgm) (p d rg lg:Nat) (T:PgP):Prop:=∃b,PgN w O p b T∧b.d=d∧b.rg=rg∧b.lg=lg
theorem PgM.wr {p d rg lg:Nat} {T:PgP} (h:PgM w O p d rg lg T) (s:Wr P w O w' O') (hn:∀i,¬P (p,i)) (h0:¬P (0,0)):PgM w' O' p d rg lg T:=by
 obtain⟨b,h1,h2⟩:=h
 exact⟨b,h1.wr s hn h0,h2⟩
end
end Go.Proofs.YtlobgddnlnffbaaGreat
