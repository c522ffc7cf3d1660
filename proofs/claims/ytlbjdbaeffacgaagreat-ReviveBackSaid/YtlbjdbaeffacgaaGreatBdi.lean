/-
  Parts of the proof, joined.
-/
import Derived.Test.YtlbjdbaeffacgaaGreatBdh
import Derived.Test.YtlbjdbaeffacgaaGreatBdf
namespace Go.Proofs.YtlbjdbaeffacgaaGreat
set_option maxHeartbeats 2000000
open Go.RowKit
set_option linter.unusedVariables false
structure Mp where
 cm:Nat
 pg:Nat
 rc:Nat
 rg:Nat
 lv:Nat
 gn:Nat
 tn:Nat
deriving DecidableEq
structure Mp.Ok (m:Mp):Prop where
 cm:m.cm<18446744073709551616
 pg:m.pg<4294967296
 rc:m.rc<18446744073709551616
 rg:m.rg<65536
 lv:m.lv<256
 gn:m.gn<65536
 tn:m.tn<4294967296
def mpv (m:Mp):Array Value:=#[.int .u64 (m.cm:Int),.int .u32 (m.pg:Int),.int .u64 (m.rc:Int),.int .u16 (m.rg:Int),.int .u8 (m.lv:Int),.int .u16 (m.gn:Int),.int .u32 (m.tn:Int)]
def CbB (w:World) (g:Nat) (T:TypeId) (cs:Array Value):Prop:=w.heap[g]? = some (.cells cs T (0,0))
section
variable {w w':World} {g:Nat} {T:TypeId} {cs:Array Value}
theorem CbB.lt (h:CbB w g T cs):g<w.heap.size:=lt_of_block h
theorem CbB.ab (h:CbB w g T cs) (hb:Below w.heap.size w w'):CbB w' g T cs:=(hb.block g h.lt).trans h
theorem CbB.grown {r:Nat} (h:CbB w g T cs) (hg:w.grownBy w' (some r)) (hr:g≠r):CbB w' g T cs:=(hg.block g h.lt (by simp[hr])).trans h
theorem CbB.new (w:World) (T:TypeId) (cs:Array Value):CbB (w.alloc (.cells cs T)) w.heap.size T cs:=heap_alloc_new w _
theorem CbB.cell (h:CbB w g T cs) {k:Nat} {v:Value} (hk:cs[k]? = some v):w.cell? ⟨g,k,none⟩=some v:=by rw[cell_of_row w g k _ _ (0,0) h];exact hk
theorem CbB.free (h:CbB w g T cs) (k:Nat):w.frozen? ⟨g,k,none⟩=false:=frozen_of_row w g k _ _ h
theorem CbB.set (h:CbB w g T cs) (k:Nat) (v:Value):CbB (w.setCell ⟨g,k,none⟩ v) g T (cs.setIfInBounds k v):=heap_setCell_same w g k _ _ v h
theorem CbB.far (h:CbB w g T cs) {c k:Nat} (hne:g≠c) (u:Value):CbB (w.setCell ⟨c,k,none⟩ u) g T cs:=(Below.heap_setCell w ⟨c,k,none⟩ u g hne).trans h
end
def MpB (w:World) (g:Nat) (m:Mp):Prop:=w.heap[g]? = some (.cells (mpv m) 56 (0,0))
theorem MpB.lt {w:World} {g:Nat} {m:Mp} (h:MpB w g m):g<w.heap.size:=lt_of_block h
theorem MpB.ab {w w':World} {g:Nat} {m:Mp} (h:MpB w g m) (hb:Below w.heap.size w w'):MpB w' g m:=(hb.block g h.lt).trans h
theorem MpB.new (w:World) (m:Mp):MpB (w.alloc (.cells (mpv m) 56)) w.heap.size m:=heap_alloc_new w _
theorem MpB.cells {w:World} {g:Nat} {m:Mp} (h:MpB w g m):w.cell? ⟨g,0,none⟩=some (.int .u64 (m.cm:Int))∧w.cell? ⟨g,1,none⟩=some (.int .u32 (m.pg:Int))∧w.cell? ⟨g,2,none⟩=some (.int .u64 (m.rc:Int))∧w.cell? ⟨g,3,none⟩=some (.int .u16 (m.rg:Int))∧
 w.cell? ⟨g,4,none⟩=some (.int .u8 (m.lv:Int))∧w.cell? ⟨g,5,none⟩=some (.int .u16 (m.gn:Int))∧w.cell? ⟨g,6,none⟩=some (.int .u32 (m.tn:Int)):=by
 refine⟨?_,?_,?_,?_,?_,?_,?_⟩ <;> (rw[cell_of_row w g _ _ _ (0,0) h];rfl)
def mp0:Mp:=⟨0,0,0,0,0,0,0⟩
theorem wpList_storeC {P:Program} {ops:Array Oper} {rest:List Oper} {o:Oper} {a:Act} {w:World} {Q:Exit→Act→World→Prop} (hgd:o.guard=none) (T:TypeId) (x y:Operand) (ho:o.op = .store T x y)
 (g:Nat) (hx:a.eval x = .pointer (some ⟨g,0,none⟩)) (cs':Array Value) (hy:a.eval y = .agg cs') {cs:Array Value} {t:TypeId} (hg:CbB w g t cs) (hi:(P.info? T).map (·.size)=some cs'.size) (h0:cs.size=cs'.size) (h1:cs'.all (·.oneCell')=true)
 (h:∀w2,w2=w.setRow g cs'→wpList P ops Q rest (a.put o.dst undef) w2):wpList P ops Q (o::rest) a w:=by
 have hrun:=run_storeVar_row (P:=P) w g t T cs cs' hg hi h0 h1
 refine wpList_plain hgd fun K hK=>?_
 have hK:=hK _ _ (h _ rfl)
 unfold Oper.wp execOp
 simp only[ho,hx,hy,Instr.storeAt,Instr.sureAddr,Sem.run_bind,Sem.run_pure,Result.andThen_ok,hrun]
 exact hK
theorem CbB.row {w:World} {g:Nat} {T:TypeId} {cs:Array Value} (h:CbB w g T cs) (cs':Array Value):CbB (w.setRow g cs') g T cs':=setRow_heap w g _ _ _ _ h
theorem CbB.rowFar {w:World} {g c:Nat} {T:TypeId} {cs:Array Value} (h:CbB w g T cs) (hne:g≠c) (cs':Array Value):CbB (w.setRow c cs') g T cs:=(setRow_other w c g cs' hne).trans h
theorem mpv_one (m:Mp):(mpv m).all (·.oneCell')=true:=by simp[mpv,Value.oneCell']
theorem szMp (m:Mp):(Tryz.prog.info? 56).map (·.size)=some (mpv m).size:=by
 have:(Tryz.prog.info? 56).map (·.size)=some 7:=by kernel_rfl
 exact this
def noRefB (m:Mp):Bool:=decide (m.pg=0)&&decide (m.rc=0)&&decide (m.rg=0)
def rightB (m:Mp):Bool:=!(decide (m.cm=0)||decide (30<m.lv)||(noRefB m && !decide (m.lv=0)))
def rightE (m:Mp):Nat:=bif rightB m then 0 else 2
def labM (m:Mp):Lb:=⟨0,4,0,m.cm%2,m.cm,m.gn⟩
theorem labM_ok {m:Mp} (h:m.Ok):(labM m).Ok:=⟨by simp[labM],by simp[labM],by simp[labM],by have:=h.cm;simp only[labM];omega,h.cm,h.gn⟩
set_option maxRecDepth 100000 in
theorem eq_ref0 (p c g:Nat) (W:World):(Op.equalIn 10000 52 (.agg #[.int .u32 (p:Int),.int .u64 (c:Int),.int .u16 (g:Int)]) (.agg #[.int .u32 0,.int .u64 0,.int .u16 0])).run Tryz.prog W = .ok (decide (p=0)&&decide (c=0)&&decide (g=0)) W:=by
 go_simp
 by_cases h1:p=0
 · by_cases h2:c=0
   · by_cases h3:g=0
     · simp[h1,h2,h3]
     · simp[h1,h2,h3]
   · simp[h1,h2]
 · simp[h1]
set_option maxRecDepth 100000 in
theorem right_any (m:Mp) (w:World):
 Calls Tryz.prog 41 #[.agg (mpv m)] w fun e w'=>e = .returned (.int .i64 (rightE m:Int))∧Below w.heap.size w w':=by
 obtain⟨cm,pg,rc,rg,lv,gn,tn⟩:=m
 simp only[rightE,rightB,noRefB,mpv]
 have he:=fun W=>eq_ref0 pg rc rg W
 have h1:((cm:Int)==0)=decide (cm=0):=by by_cases h:cm=0 <;> simp[h]
 have h2:decide ((30:Int)<(lv:Int))=decide (30<lv):=by by_cases h:30<lv <;> simp[h] <;> omega
 have h3:((lv:Int) != 0) = !decide (lv=0):=by by_cases h:lv=0 <;> simp[h]
 generalize decide (cm=0)=b1 at *
 generalize decide (30<lv)=b2 at *
 generalize decide (lv=0)=b3 at *
 generalize (decide (pg=0)&&decide (rc=0)&&decide (rg=0))=b4 at *
 cases b1 <;> cases b2 <;> cases b4 <;> cases b3
 all_goals
  go_enter Tryz.func41,Tryz.ntmps41
  go_wp2_with fail
  go_ret
  exact⟨rfl,((Below.refl _ _).alloc (Nat.le_refl _) _).alloc (by simp) _⟩
theorem lab_cells (l:Lb):lab l = #[.int .u32 (l.ten:Int),.int .u8 (l.k:Int),.int .u8 (l.lv:Int),.int .u32 (l.pg:Int),.int .u64 (l.cm:Int),.int .u16 (l.gn:Int)]:=rfl
set_option maxRecDepth 100000 in
theorem labelOf_any (m:Mp) (w:World):
 Calls Tryz.prog 62 #[.agg (mpv m)] w fun e w'=>e = .returned (.agg (lab (labM m)))∧Below w.heap.size w w':=by
 have hw:IntKind.u32.wrap ((m.cm:Int)%2)=((m.cm%2:Nat):Int):=by
  show ((m.cm:Int)%2)%4294967296=_
  omega
 rw[lab_cells]
 simp only[labM,mpv]
 obtain⟨cm,pg,rc,rg,lv,gn,tn⟩:=m
 go_enter Tryz.func62,Tryz.ntmps62
 go_wp2_with fail
 refine bodyPost_ret (v:=.agg #[.int .u32 0,.int .u8 4,.int .u8 0,.int .u32 ((cm%2:Nat):Int),.int .u64 (cm:Int),.int .u16 (gn:Int)]) (by simp[results,Tryz.results62,go_sem]) rfl ⟨rfl,((Below.refl _ _).alloc (Nat.le_refl _) _).alloc (by simp) _⟩
structure Sl where
 l:Lb
 key:List Nat
 pay:List Nat
 blk:List Nat
def slv (s:Sl):List Value:=(lab s.l).toList++[.string (strOf s.key),.string (strOf s.pay),.string (strOf s.blk)]
def slvs:List Sl→List Value
 | []=>[]
 | s::r=>slv s++slvs r
structure LgB (w:World) (B g:Nat) (all:List Sl):Prop where
 low:B≤w.heap.size
 box:∃v,CbB w g 106 #[v]∧w.ownsRow B 184 9 v all.length (slvs all)
theorem grown_of {w w':World} (hb:Below w.heap.size w w') (row:Option Nat):w.grownBy w' row:=⟨hb.os,hb.tape,hb.output,hb.size,fun i hi _=>hb.block i hi⟩
theorem grown_cell (w:World) (g k:Nat) (v:Value):w.grownBy (w.setCell ⟨g,k,none⟩ v) (some g):=⟨rfl,rfl,rfl,by simp,fun i hi hn=>Below.heap_setCell w ⟨g,k,none⟩ v i (fun e=>hn (by rw[e]))⟩
set_option maxRecDepth 100000 in
theorem newLog_any (w:World):Calls Tryz.prog 10 #[] w fun e w'=>∃g,e = .returned (.pointer (some ⟨g,0,none⟩))∧w.heap.size≤g∧CbB w' g 106 #[.slice none 0 0]∧Below w.heap.size w w':=by
 go_enter Tryz.func10,Tryz.ntmps10
 go_wp2_with fail
 go_ret
 exact⟨w.heap.size,rfl,Nat.le_refl _,CbB.new w _ _,(Below.refl _ _).alloc (Nat.le_refl _) _⟩
theorem LgB.empty {w:World} {B g:Nat} (h:CbB w g 106 #[.slice none 0 0]) (hB:B≤w.heap.size):LgB w B g []:=⟨hB,_,h,World.ownsRow_nil _ _ _ _⟩
theorem infoSl:(Tryz.prog.info? 184).map (fun i=>(i.zero,i.size,i.bytes))=some (some (.agg #[.int .u32 0,.int .u8 0,.int .u8 0,.int .u32 0,.int .u64 0,.int .u16 0,.string ByteArray.empty,.string ByteArray.empty,.string ByteArray.empty]),9,80):=by kernel_rfl
theorem conv_str {w W:World} {A:Option Addr} {n c:Nat} {l:List Nat} (h:IsB w A n c l) (hb:Below w.heap.size w W):(convert 22 9 (.slice A n c)).run Tryz.prog W = .ok (.string (strOf l)) W:=
 run_str (h.ab hb) _ _ _ Tryz.underlying22 Tryz.underlying5 Tryz.underlying9
theorem row_at {W:World} {G:Nat} {T:TypeId} {cs:List Value} (h:CbB W G T cs.toArray):∀(j:Nat) u,cs[j]? = some u→W.cell? ((⟨G,0,none⟩:Addr).add j)=some u:=fun j u hj=>by
 rw[Addr.add_mid,Nat.zero_add]
 exact h.cell (by simpa using hj)
theorem own_ge9 {w:World} {B n s:Nat} {e:TypeId} {v:Value} {xs:List Value} (h:w.ownsRow B e s v n xs):∀g,v.ownBlock=some g→B≤g:=by
 rcases h.2 with ⟨rfl,_⟩ | ⟨g,cap,cur,rfl,hg,_⟩
 · intro g hg;cases hg
 · intro g' hg'
   have:g=g':=by injection hg'
   omega
theorem row_shape {w:World} {B n s:Nat} {e:TypeId} {v:Value} {xs:List Value} (h:w.ownsRow B e s v n xs):∃A c,v = .slice A n c:=by
 rcases h.2 with ⟨rfl,h0⟩ | ⟨g,cap,cur,rfl,_⟩
 · subst h0
   exact⟨_,_,rfl⟩
 · exact⟨_,_,rfl⟩
theorem row_low {w:World} {B B' n s:Nat} {e:TypeId} {v:Value} {xs:List Value} (h:w.ownsRow B e s v n xs) (hB:B'≤B):w.ownsRow B' e s v n xs:=by
 refine⟨h.1,?_⟩
 rcases h.2 with hn | ⟨g,cap,cur,e1,hb',rest⟩
 · exact .inl hn
 · exact .inr ⟨g,cap,cur,e1,by omega,rest⟩
section
variable {P:Program} {Q:Exit→Act→World→Prop}
structure Fr (w w':World) (F:Nat→Prop):Prop where
 os:w'.os=w.os
 tape:w'.tape=w.tape
 output:w'.output=w.output
 size:w.heap.size≤w'.heap.size
 block:∀k,k<w.heap.size→¬F k→w'.heap[k]? = w.heap[k]?
theorem Fr.of {w w':World} (hb:Below w.heap.size w w') (F:Nat→Prop):Fr w w' F:=⟨hb.os,hb.tape,hb.output,hb.size,fun i hi _=>hb.block i hi⟩
theorem Fr.tr {a b c:World} {F:Nat→Prop} (h:Fr a b F) (k:Fr b c F):Fr a c F:=⟨k.os.trans h.os,k.tape.trans h.tape,k.output.trans h.output,Nat.le_trans h.size k.size,fun i hi hn=>(k.block i (Nat.lt_of_lt_of_le hi h.size) hn).trans (h.block i hi hn)⟩
theorem Fr.imp {w w':World} {F G:Nat→Prop} (h:Fr w w' F) (hi:∀k,F k→G k):Fr w w' G:=⟨h.os,h.tape,h.output,h.size,fun k hk hn=>h.block k hk fun hf=>hn (hi k hf)⟩
theorem Fr.grown {w w':World} {row:Option Nat} (h:w.grownBy w' row):Fr w w' (fun k=>row=some k):=⟨h.os,h.tape,h.output,h.size,fun k hk hn=>h.block k hk fun e=>hn e.symm⟩
theorem Fr.below {w w':World} {F:Nat→Prop} {B:Nat} {a:World} (h:Fr w w' F) (hF:∀k,F k→B≤k) (hb:Below B a w) (hs:B≤w.heap.size):Below B a w':=
 hb.trans ⟨h.os,h.tape,h.output,h.size,fun k hk=>h.block k (by omega) fun hf=>by have:=hF k hf;omega⟩
def othF (F:Nat→Nat→Prop) (i k:Nat):Prop:=∃j,j≠i∧F j k
def allF (F:Nat→Nat→Prop) (k:Nat):Prop:=∃j,F j k
def Inv5 (hs:List Head) (a0:Act) (w0:World) (F:Nat→Nat→Prop) (listed:Array Bool) (a:Act) (W:World):Prop:=
 Agree (hs.map (·.dst)) a0 a∧Fr w0 W (allF F)∧(∀j,listed.getD j false=false→Fr w0 W (othF F j))∧∀(i:Nat) (h:Head),hs[i]? = some h→listed.getD i false=true→h.R (a.eval (.tmp h.dst)) W
def Yields5 (P:Program) (o:Oper) (a:Act) (W:World) (F:Nat→Prop) (R:Value→World→Prop):Prop:=
 (∃v W',(execOp a.eval o).run P W = .ok (.value v) W'∧R v W'∧Fr W W' F)∨(∃f args,(execOp a.eval o).run P W = .ok (.enter f args) W∧Calls P f args W fun e W'=>∃v,e = .returned v∧R v W'∧Fr W W' F)
theorem Yields.to5 {o:Oper} {a:Act} {W:World} {fr:Bool} {R:Value→World→Prop} (h:Yields P o a W fr R) (F:Nat→Prop):Yields5 P o a W F R:=by
 rcases h with ⟨v,W',h1,h2,h3,_⟩ | ⟨f,args,h1,h2⟩
 · exact .inl ⟨v,W',h1,h2,Fr.of h3 F⟩
 · exact .inr ⟨f,args,h1,h2.mono fun e W' ⟨v,he,hR,hb,_⟩=>⟨v,he,hR,Fr.of hb F⟩⟩
def Takes5 (P:Program) (ops:Array Oper) (o:Oper) (a:Act) (W:World) (F:Nat→Prop) (R:Value→World→Prop):Prop:=
 (Region.wanted o (yielded ops a.tmps)=true∧Yields5 P o a W F R)∨(Region.wanted o (yielded ops a.tmps)=false∧R undef W)
theorem Takes.to5 {ops:Array Oper} {o:Oper} {a:Act} {W:World} {fr:Bool} {R:Value→World→Prop} (h:Takes P ops o a W fr R) (F:Nat→Prop):Takes5 P ops o a W F R:=by
 rcases h with ⟨h1,h2⟩ | ⟨h1,h2,_⟩
 · exact .inl ⟨h1,h2.to5 F⟩
 · exact .inr ⟨h1,h2⟩
theorem takes5_plain {ops:Array Oper} {o:Oper} {a:Act} {W:World} {F:Nat→Prop} {R:Value→World→Prop} (hg:o.guard=none) (h:Yields5 P o a W F R):Takes5 P ops o a W F R:=.inl ⟨by simp[Region.wanted,hg],h⟩
def MonoF (F:Nat→Prop) (R:Value→World→Prop):Prop:=∀v W W',R v W→Fr W W' F→R v W'
theorem IsR.monoF (F:Nat→Prop) (u:Value):MonoF F (IsR u):=fun v W W' h _=>h
theorem wide5_any {l:List Oper} {hs:List Head} {a0:Act} {w0:World} {g:Nat} {F:Nat→Nat→Prop} (hW:wideB l.toArray hs.length (hs.map (·.deps)).toArray=true) (hg:(l.drop hs.length).length=g)
 (hdst:∀(i:Nat) (h:Head) (o:Oper),hs[i]? = some h→l[i]? = some o→o.dst=some h.dst) (hlen:hs.length≤l.length) (hin:∀h∈hs,h.dst<a0.tmps.size) (hdis:(hs.map (·.dst)).Nodup)
 (hm:∀(i:Nat) (h:Head),hs[i]? = some h→MonoF (othF F i) h.R)
 (hy:∀(i:Nat) (h:Head) (o:Oper),hs[i]? = some h→l[i]? = some o→∀a W,Agree (hs.map (·.dst)) a0 a→Fr w0 W (othF F i)→(∀j∈h.deps,∀(hj:Head),hs[j]? = some hj→hj.R (a.eval (.tmp hj.dst)) W)→Takes5 P l.toArray o a W (F i) h.R)
 (hk:∀a W,Agree (hs.map (·.dst)) a0 a→Fr w0 W (allF F)→(∀(i:Nat) (h:Head),hs[i]? = some h→h.R (a.eval (.tmp h.dst)) W)→wpList P l.toArray Q (l.drop hs.length) a W):
 ∀(f:Nat) (listed:Array Bool) (a:Act) (W:World),HeadInv .any l.toArray hs.length listed→unl listed hs.length=f→Inv5 hs a0 w0 F listed a W→wpAny P .any l.toArray Q (f+g) listed a W
 | 0,listed,a,W,inv,hu,hI=>by
   have hWd:=wide_of hW
   have hall:=unl_zero _ hu
   rw[Nat.zero_add]
   have hsq:=hWd.seq
   rw[←all_listed inv hWd.lt hall,show l.toArray.size-hs.length=g by rw[←hg];simp] at hsq
   have:=wpAny_of_seq (md:=.any) (Q':=Q) (P:=P) (l.drop hs.length) hs.length listed a W (fun j=>by simp[List.getElem?_drop]) (by rw[hg];exact hsq) (hk a W hI.1 hI.2.1 (fun i h hi=>hI.2.2.2 i h hi (hall i (lt_of_some hi))))
   rwa [hg] at this
 | f + 1,listed,a,W,inv,hu,hI=>by
   have hWd:=wide_of hW
   obtain⟨i0,hi0,hun0,hlow0⟩:=unl_pos (listed:=listed) hs.length (by omega)
   have hsz:=inv.size
   have hun0':listed.getD i0 true=false:=getD_in (by have:=hWd.lt;omega) hun0
   rw[show f+1+g=(f+g)+1 by omega]
   have hne:i0∈Region.ready .any l.toArray listed:=by
    obtain⟨o,ho,hb⟩:=hWd.low i0 hi0
    exact mem_ready.2 ⟨hun0',o,ho,fun e he hbd=>hlow0 _ (hb e he hbd)⟩
   refine⟨fun e=>(by rw[e] at hne;cases hne),fun i hi=>?_⟩
   have hin2:i<hs.length:=by
    rcases Nat.lt_or_ge i hs.length with h | h
    · exact h
    · exact absurd hi (tail_waits hWd.sink hWd.chain hWd.lt inv _ i0 rfl hi0 hun0' i h)
   have hdep:∀d∈((hs.map (·.deps)).toArray.getD i []),listed.getD d false=true:=fun d hd=>by
    obtain⟨_,oi,hoi,hall⟩:=mem_ready.1 hi
    obtain⟨oj,hoj,e,he,hb,hon⟩:=Region.waitsFor_spec (hWd.dep i hin2 d hd).2
    have:oj=oi:=Option.some.inj (hoj.symm.trans hoi)
    subst this
    rw[←hon]
    exact hall e he hb
   have hrec:unl (listed.setIfInBounds i true) hs.length=f:=by
    have:=unl_set (listed:=listed) (i:=i) (by have:=hWd.lt;omega) (getD_both (mem_ready.1 hi).1) hs.length hin2
    omega
   have hiun:listed.getD i false=false:=getD_both (mem_ready.1 hi).1
   have hil:i<l.length:=by omega
   obtain⟨h,hh⟩:∃h,hs[i]? = some h:=⟨_,List.getElem?_eq_getElem hin2⟩
   obtain⟨o,ho⟩:∃o,l[i]? = some o:=⟨_,List.getElem?_eq_getElem hil⟩
   have hd:=hdst i h o hh ho
   have hmem:h∈hs:=List.mem_of_getElem? hh
   have hdep2:∀j∈h.deps,∀(hj:Head),hs[j]? = some hj→hj.R (a.eval (.tmp hj.dst)) W:=fun j hj hj' hjj=>by
    have hd1:((hs.map (·.deps)).toArray.getD i [])=h.deps:=by simp[hh]
    exact hI.2.2.2 j hj' hjj (hdep j (by rw[hd1];exact hj))
   have hself:∀v,(a.put (some h.dst) v).eval (.tmp h.dst)=v:=fun v=>by
    have hs1:h.dst<a.tmps.size:=by rw[hI.1.2.1];exact hin h hmem
    simp[Act.put,Act.eval,hs1]
   have hoth:∀v (j:Nat) (hj:Head),hs[j]? = some hj→j≠i→(a.put (some h.dst) v).eval (.tmp hj.dst)=a.eval (.tmp hj.dst):=fun v j hj hjj hij=>by
    refine eval_put_ne (fun e=>hij ?_) _ _
    have hjl:=lt_of_some hjj
    have e1:(hs.map (·.dst))[j]'(by simpa using hjl)=(hs.map (·.dst))[i]'(by simpa using hin2):=by
     rw[List.getElem?_eq_getElem hjl] at hjj
     rw[List.getElem?_eq_getElem hin2] at hh
     injection hjj with hjj
     injection hh with hh
     simp only[List.getElem_map,hjj,hh]
     exact e.symm
    exact (List.getElem_inj hdis).1 e1
   have hlis:∀(j:Nat),j≠i→(listed.setIfInBounds i true).getD j false=listed.getD j false:=fun j hij=>by
    rw[Array.getD_eq_getD_getElem?,Array.getElem?_setIfInBounds_ne (Ne.symm hij),Array.getD_eq_getD_getElem?]
   have key:∀v W',h.R v W'→Fr W W' (F i)→wpAny P .any l.toArray Q (f+g) (listed.setIfInBounds i true) (a.put (some h.dst) v) W':=fun v W' hR hfr=>by
    refine wide5_any hW hg hdst hlen hin hdis hm hy hk f _ _ _ (inv.set hi hin2) hrec ⟨hI.1.put (List.mem_map.2 ⟨h,hmem,rfl⟩) v,hI.2.1.tr (hfr.imp fun k hk=>⟨i,hk⟩),fun j hj=>?_,fun j hj hjj hlj=>?_⟩
    · have hji:j≠i:=fun e=>by
       subst e
       rw[Array.getD_eq_getD_getElem?,Array.getElem?_setIfInBounds_self_of_lt (by have:=hWd.lt;omega)] at hj
       cases hj
      rw[hlis j hji] at hj
      exact (hI.2.2.1 j hj).tr (hfr.imp fun k hk=>⟨i,Ne.symm hji,hk⟩)
    · by_cases hij:j=i
      · subst hij
        rw[hh] at hjj
        injection hjj with hjj
        subst hjj
        rw[hself]
        exact hR
      · rw[hoth v j hj hjj hij]
        rw[hlis j hij] at hlj
        exact hm j hj hjj _ _ _ (hI.2.2.2 j hj hjj hlj) (hfr.imp fun k hk=>⟨i,Ne.symm hij,hk⟩)
   unfold wpOp
   rw[show l.toArray[i]? = some o by simpa using ho]
   simp only
   rcases hy i h o hh ho a W hI.1 (hI.2.2.1 i hiun) hdep2 with ⟨hwt,hyl⟩ | ⟨hwt,hR⟩
   · rw[if_pos hwt]
     refine .inl ?_
     unfold Oper.wp
     rcases hyl with ⟨v,W',hr,hR,hb⟩ | ⟨fn,args,hr,hc⟩
     · rw[hr]
       simp only[Oper.upon,hd]
       exact key v W' hR hb
     · rw[hr]
       simp only[Oper.upon,hd]
       exact hc.mono fun e W' ⟨v,he,hR,hb⟩=>by subst he;exact key v W' hR hb
   · rw[if_neg (by rw[hwt];exact Bool.false_ne_true)]
     rw[hd]
     exact key undef W hR (Fr.of (Below.refl _ _) _)
def Head.ok5 (P:Program) (ops:Array Oper) (hs:List Head) (a0:Act) (w0:World) (F:Nat→Nat→Prop) (i:Nat) (h:Head) (o:Oper):Prop:=
 o.dst=some h.dst∧MonoF (othF F i) h.R∧∀a W,Agree (hs.map (·.dst)) a0 a→Fr w0 W (othF F i)→(∀j∈h.deps,∀(hj:Head),hs[j]? = some hj→hj.R (a.eval (.tmp hj.dst)) W)→Takes5 P ops o a W (F i) h.R
def All5 (q:Nat→Head→Oper→Prop):Nat→List Head→List Oper→Prop
 | _,[],_=>True
 | k,h::hs,o::l=>q k h o∧All5 q (k+1) hs l
 | _,_::_,[]=>False
theorem All5.at {q:Nat→Head→Oper→Prop}:∀{k:Nat} {hs:List Head} {l:List Oper},All5 q k hs l→∀(i:Nat) (h:Head) (o:Oper),hs[i]? = some h→l[i]? = some o→q (k+i) h o
 | k,h::hs,o::l,hA,0,h',o',e1,e2=>by
   simp only[List.getElem?_cons_zero,Option.some.injEq] at e1 e2
   subst e1 e2
   exact hA.1
 | k,h::hs,o::l,hA,i+1,h',o',e1,e2=>by
   have:=All5.at hA.2 i h' o' (by simpa using e1) (by simpa using e2)
   rw[show k+(i+1)=k+1+i by omega]
   exact this
 | _,[],_,_,i,_,_,e1,_=>by simp at e1
 | _,_::_,[],hA,_,_,_,_,_=>hA.elim
theorem wp_wide5 {id:Nat} {a0:Act} {w0:World} {l:List Oper} (F:Nat→Nat→Prop) (hs:List Head) (hmx:P.follows .mixedOrders=true)
 (hB:wideB l.toArray hs.length (hs.map (·.deps)).toArray=true)
 (hlen:decide (hs.length≤l.length)=true) (hin:(hs.map (·.dst)).all (fun d=>decide (d<a0.tmps.size))=true) (hdis:decide ((hs.map (·.dst)).Nodup)=true)
 (hok:All5 (Head.ok5 P l.toArray hs a0 w0 F) 0 hs l)
 (hk:∀(vs:Tmp→Value) W,(∀(i:Nat) (h:Head),hs[i]? = some h→h.R (vs h.dst) W)→Fr w0 W (allF F)→wpList P l.toArray Q (l.drop hs.length) ((hs.map (·.dst)).foldl (fun x d=>x.put (some d) (vs d)) a0) W):
 (Code.region id l.toArray true).wp P Q a0 w0:=by
 have hlen':=of_decide_eq_true hlen
 have hat:∀(i:Nat) (h:Head) (o:Oper),hs[i]? = some h→l[i]? = some o→Head.ok5 P l.toArray hs a0 w0 F i h o:=fun i h o hi ho=>by
  have:=hok.at i h o hi ho
  rwa [Nat.zero_add] at this
 have hunl:∀n,unl (Array.replicate l.toArray.size false) n=n:=fun n=>by
  induction n with
  | zero=>rfl
  | succ n ih=>rw[unl,ih,getD_replicate_false];simp
 refine wp_region_any hmx ?_
 have hinv:HeadInv .any l.toArray hs.length (Array.replicate l.toArray.size false):=⟨by simp,fun j oj hj hl=>(by rw[getD_replicate_false] at hl;cases hl),fun t ht ht'=>getD_in (by simpa using ht') (getD_replicate_false _ _)⟩
 have h1:=wide5_any (P:=P) (Q:=Q) (l:=l) (hs:=hs) (a0:=a0) (w0:=w0) (g:=l.length-hs.length) (F:=F) hB (by simp)
  (fun i h o hi ho=>(hat i h o hi ho).1) hlen'
  (fun h hh=>by
    have:=List.all_eq_true.1 hin h.dst (List.mem_map.2 ⟨h,hh,rfl⟩)
    exact of_decide_eq_true this) (of_decide_eq_true hdis)
  (fun i h hi=>by
    have hil:=lt_of_some hi
    exact (hat i h _ hi (List.getElem?_eq_getElem (by omega))).2.1)
  (fun i h o hi ho=>(hat i h o hi ho).2.2)
  (fun a W hA hgr hR=>by
    have:=hk (fun d=>a.eval (.tmp d)) W hR hgr
    rw[←Agree.rebuild _ _ hA] at this
    exact this) hs.length (Array.replicate l.toArray.size false) a0 { w0 with drawn:=w0.drawn+1 } hinv (hunl _)
  ⟨Agree.refl _ _,Fr.of (Below.refl _ w0).drew _,fun j _=>Fr.of (Below.refl _ w0).drew _,fun i h hi hl=>(by rw[getD_replicate_false] at hl;cases hl)⟩
 have hsz:l.toArray.size=hs.length+(l.length-hs.length):=by rw[List.size_toArray];omega
 have e:wpAny P .any l.toArray Q l.toArray.size=wpAny P .any l.toArray Q (hs.length+(l.length-hs.length)):=congrArg _ hsz
 rw[e]
 exact h1
end
section
variable {w w':World} {F:Nat→Prop}
theorem CbB.fr {g:Nat} {T:TypeId} {cs:Array Value} (h:CbB w g T cs) (hf:Fr w w' F) (hn:¬F g):CbB w' g T cs:=(hf.block g h.lt hn).trans h
theorem IsB.fr {A:Option Addr} {n c:Nat} {l:List Nat} (h:IsB w A n c l) (hf:Fr w w' F) (hn:∀x,A=Option.some x→¬F x.block):IsB w' A n c l:=
 ⟨h.1.keep hf.size fun x i e hi=>World.cell?_of_block (by
  rw[add_block]
  obtain⟨y,e',hy,_⟩:=h.1.at (by omega)
  rw[e] at e'
  injection e' with e'
  exact hf.block _ (by rw[e'];exact hy) (hn x e)),h.2⟩
theorem OwB.fr {B:Nat} {v:Value} {l:List Nat} (h:OwB w B v l) (hf:Fr w w' F) (hn:∀g,v.ownBlock=some g→¬F g):OwB w' B v l:=by
 refine⟨⟨h.own.1,?_⟩,h.byt⟩
 rcases h.own.2 with hx | ⟨g,cap,cur,rfl,hb,hh,rest⟩
 · exact .inl hx
 · have hg:g<w.heap.size:=(Array.getElem?_eq_some_iff.1 hh).1
   exact .inr ⟨g,cap,cur,rfl,hb,(hf.block g hg (hn g rfl)).trans hh,rest⟩
theorem row_fr {B n s:Nat} {e:TypeId} {v:Value} {xs:List Value} (h:w.ownsRow B e s v n xs) (hf:Fr w w' F) (hn:∀g,v.ownBlock=some g→¬F g):w'.ownsRow B e s v n xs:=by
 refine⟨h.1,?_⟩
 rcases h.2 with hx | ⟨g,cap,cur,rfl,hb,hh,rest⟩
 · exact .inl hx
 · have hg:g<w.heap.size:=(Array.getElem?_eq_some_iff.1 hh).1
   exact .inr ⟨g,cap,cur,rfl,hb,(hf.block g hg (hn g rfl)).trans hh,rest⟩
theorem row_ne {B n s g:Nat} {e T:TypeId} {v:Value} {xs:List Value} {cs:Array Value} (h:w.ownsRow B e s v n xs) (hc:CbB w g T cs) (hT:T≠e):v.ownBlock≠some g:=by
 intro he
 rcases h.2 with ⟨rfl,_⟩ | ⟨g',cap,cur,rfl,_,hh,_⟩
 · cases he
 · have:g'=g:=by injection he
   subst this
   unfold CbB at hc
   rw[hc] at hh
   injection hh with hh
   injection hh with h1 h2
   exact hT h2
theorem row_own_ne {B B' n s:Nat} {e:TypeId} {v u:Value} {xs:List Value} {k:List Nat} (h:w.ownsRow B e s v n xs) (ho:OwB w B' u k) (hT:e≠5):∀g,u.ownBlock=some g→v.ownBlock≠some g:=by
 intro g hg he
 rcases h.2 with ⟨rfl,_⟩ | ⟨g',cap,cur,rfl,_,hh,_⟩
 · cases he
 · have e1:g'=g:=by injection he
   rcases ho.own.2 with ⟨rfl,_⟩ | ⟨g2,cap2,cur2,rfl,_,hh2,_⟩
   · cases hg
   · have e2:g2=g:=by injection hg
     subst e1
     subst e2
     rw[hh2] at hh
     injection hh with hh
     injection hh with h1 h2
     exact hT h2.symm
end
theorem own_ne' {w:World} {B lg:Nat} {T:TypeId} {cs:Array Value} {v:Value} {k:List Nat} (hT:T≠5) (hl:CbB w lg T cs) (ho:OwB w B v k):v.ownBlock≠some lg:=by
 intro e
 rcases ho.own.2 with ⟨rfl,_⟩ | ⟨g,cap,cur,rfl,_,hh,_⟩
 · cases e
 · have:g=lg:=by injection e
   subst this
   unfold CbB at hl
   rw[hl] at hh
   injection hh with hh
   injection hh with h1 h2
   exact hT h2
section
variable {P:Program} {Q:Exit→Act→World→Prop}
theorem Fr.trW {w w1 w2:World} {F:Nat→Prop} (h:Fr w w1 F) (k:Fr w1 w2 F):Fr w w2 F:=⟨k.os.trans h.os,k.tape.trans h.tape,k.output.trans h.output,Nat.le_trans h.size k.size,fun i hi hn=>(k.block i (Nat.lt_of_lt_of_le hi h.size) hn).trans (h.block i hi hn)⟩
end
set_option linter.unusedSimpArgs false
structure DvS where
 n:Nat
 now:List Nat
 firm:List Nat
 ws:List (Nat×List Nat)
 st:Nat
 fail:Nat
 cut:Int
 down:Bool
def wrV (x:Nat×List Nat):List Value:=.int .i64 (x.1:Int)::(bts x.2).toList
structure DvS.Ok (D:DvS):Prop where
 n8:8≤D.n
 n4:D.n≤4096
 now:D.now.length=D.n*256
 firm:D.firm.length=D.n*256
 bnow:Byt D.now
 bfirm:Byt D.firm
 ws:∀x∈D.ws,x.1<D.n∧x.2.length=256∧Byt x.2
 cut:-1≤D.cut∧D.cut≤1000000000
 fail:D.fail≤1000000000
def DvS.cells (D:DvS) (g1 g2:Nat) (wv:Value):Array Value:=#[.slice (some ⟨g1,0,none⟩) D.n D.n,.slice (some ⟨g2,0,none⟩) D.n D.n,wv,.int .u64 (D.st:Int),.int .i64 (D.fail:Int),.int .i64 D.cut,.bool D.down]
structure DsB (w:World) (B d g1 g2:Nat) (wv:Value) (D:DvS):Prop where
 box:CbB w d 91 (D.cells g1 g2 wv)
 now:Bk w g1 122 D.now
 firm:Bk w g2 122 D.firm
 row:w.ownsRow B 141 257 wv D.ws.length (D.ws.flatMap wrV)
 ne:g1≠g2
 low:B≤d∧B≤g1∧B≤g2
theorem bk_ne {w:World} {d g:Nat} {T T':TypeId} {cs:Array Value} {L:List Nat} (h:CbB w d T cs) (k:Bk w g T' L) (hT:T≠T'):d≠g:=fun e=>by
 unfold CbB at h
 unfold Bk at k
 rw[←e,h] at k
 injection k with k
 injection k with _ k
 exact hT k
theorem bk_fr {w w':World} {g:Nat} {T:TypeId} {l:List Nat} {F:Nat→Prop} (h:Bk w g T l) (hf:Fr w w' F) (hn:¬F g):Bk w' g T l:=(hf.block g h.lt hn).trans h
section
variable {w w':World} {B d g1 g2:Nat} {wv:Value} {D D':DvS}
theorem DsB.lt (h:DsB w B d g1 g2 wv D):d<w.heap.size∧g1<w.heap.size∧g2<w.heap.size:=⟨h.box.lt,h.now.lt,h.firm.lt⟩
theorem DsB.fr {F:Nat→Prop} (h:DsB w B d g1 g2 wv D) (hf:Fr w w' F) (hn:∀k,F k→k≠d∧k≠g1∧k≠g2∧wv.ownBlock≠some k):DsB w' B d g1 g2 wv D:=
 ⟨h.box.fr hf (fun e=>(hn _ e).1 rfl),bk_fr h.now hf (fun e=>(hn _ e).2.1 rfl),bk_fr h.firm hf (fun e=>(hn _ e).2.2.1 rfl),row_fr h.row hf (fun g hg e=>(hn _ e).2.2.2 hg),h.ne,h.low⟩
theorem DsB.ab (h:DsB w B d g1 g2 wv D) (hb:Below w.heap.size w w'):DsB w' B d g1 g2 wv D:=h.fr (Fr.of hb (fun _=>False)) fun k hk=>hk.elim
theorem DsB.upd (h:DsB w B d g1 g2 wv D) (hf:Fr w w' (fun q=>q=d)) (hb:CbB w' d 91 (D'.cells g1 g2 wv)) (e1:D'.now=D.now) (e2:D'.firm=D.firm) (e3:D'.ws=D.ws):DsB w' B d g1 g2 wv D':=
 ⟨hb,by rw[e1];exact bk_fr h.now hf (bk_ne h.box h.now (by decide)).symm,by rw[e2];exact bk_fr h.firm hf (bk_ne h.box h.firm (by decide)).symm,by rw[e3];exact row_fr h.row hf (fun g hg e=>row_ne h.row h.box (by decide) (by rw[hg,e])),h.ne,h.low⟩
def stepD (D:DvS):Nat×DvS:=
 bif D.down then (81,D) else
 bif decide (D.cut=0) then (81,{ D with down:=true }) else
 bif decide (0<D.fail) then (bif decide (D.fail=1) then 80 else 0,{ D with cut:=bif decide (0<D.cut) then D.cut-1 else D.cut,st:=D.st+1,fail:=D.fail-1 })
 else (0,{ D with cut:=bif decide (0<D.cut) then D.cut-1 else D.cut,st:=D.st+1 })
set_option maxRecDepth 100000 in
theorem blocks_any (h:DsB w B d g1 g2 wv D):Calls Tryz.prog 32 #[.pointer (some ⟨d,0,none⟩)] w fun e w'=>e = .returned (.int .i64 (D.n:Int))∧w=w':=by
 have c0:w.cell? ⟨d,0,none⟩=some (.slice (some ⟨g1,0,none⟩) D.n D.n):=h.box.cell (k:=0) rfl
 clear h
 go_enter Tryz.func32,Tryz.ntmps32
 go_wp2_with fail
 go_ret
 exact⟨rfl,rfl⟩
set_option maxRecDepth 100000 in
theorem has_yes (i:Nat) (hi:i<D.n) (h:DsB w B d g1 g2 wv D):
 Calls Tryz.prog 48 #[.pointer (some ⟨d,0,none⟩),.int .i64 (i:Int)] w fun e w'=>e = .returned (.bool true)∧w=w':=by
 have c0:w.cell? ⟨d,0,none⟩=some (.slice (some ⟨g1,0,none⟩) D.n D.n):=h.box.cell (k:=0) rfl
 have h0:(0:Int)≤(i:Int):=by omega
 have h1:(i:Int)<(D.n:Int):=by omega
 clear h hi
 go_enter Tryz.func48,Tryz.ntmps48
 go_wp2_with fail
 go_ret
 exact⟨rfl,rfl⟩
theorem fr_setD (w:World) (g k:Nat) (v:Value):Fr w (w.setCell ⟨g,k,none⟩ v) (fun q=>q=g):=(Fr.grown (grown_cell w g k v)).imp fun q hq=>by injection hq with hq;exact hq.symm
set_option maxRecDepth 100000 in
theorem step_any (h:DsB w B d g1 g2 wv D) (ok:D.Ok) (hst:D.st≤1000000000):
 Calls Tryz.prog 90 #[.pointer (some ⟨d,0,none⟩)] w fun e w'=>e = .returned (.int .i64 ((stepD D).1:Int))∧DsB w' B d g1 g2 wv (stepD D).2∧Fr w w' (fun q=>q=d):=by
 have HB:=Lib.hid h
 have c3:w.cell? ⟨d,3,none⟩=some (.int .u64 (D.st:Int)):=h.box.cell (k:=3) rfl
 have c4:w.cell? ⟨d,4,none⟩=some (.int .i64 (D.fail:Int)):=h.box.cell (k:=4) rfl
 have c5:w.cell? ⟨d,5,none⟩=some (.int .i64 D.cut):=h.box.cell (k:=5) rfl
 have c6:w.cell? ⟨d,6,none⟩=some (.bool D.down):=h.box.cell (k:=6) rfl
 have F3:=h.box.free 3
 have F4:=h.box.free 4
 have F5:=h.box.free 5
 have F6:=h.box.free 6
 have b0:=ok.cut.1
 have b1:=ok.cut.2
 have b2:(D.fail:Int)≤1000000000:=by have:=ok.fail;omega
 have b3:(D.st:Int)≤1000000000:=by omega
 have b4:(0:Int)≤(D.st:Int):=by omega
 have b5:(0:Int)≤(D.fail:Int):=by omega
 obtain⟨n,now,firm,ws,st,fail,cut,down⟩:=D
 simp only at c3 c4 c5 c6 b0 b1 b2 b3 b4 b5
 clear h ok hst
 cases down with
 | true=>
   go_enter Tryz.func90,Tryz.ntmps90
   go_wp2_with fail
   go_ret
   exact⟨rfl,HB.out,Fr.of (Below.refl _ _) _⟩
 | false =>
   by_cases q0:cut=0
   · subst q0
     go_enter Tryz.func90,Tryz.ntmps90
     go_wp2_with fail
     have k6:(w.setCell ⟨d,6,none⟩ (.bool true)).cell? ⟨d,6,none⟩=some (.bool true):=(HB.out.box.set 6 (.bool true)).cell (k:=6) rfl
     go_wp2_with fail
     go_ret
     exact⟨rfl,HB.out.upd (fr_setD _ _ _ _) (HB.out.box.set 6 (.bool true)) rfl rfl rfl,fr_setD _ _ _ _⟩
   · by_cases q1:0<cut
     · have e1:decide (cut=0)=false:=by simp;omega
       have e2:decide (0<cut)=true:=by simp;omega
       by_cases q2:fail=0
       · have q3:¬(0:Int)<(fail:Int):=by omega
         have e3:decide (0<fail)=false:=by simp;omega
         clear q2
         have X1:=HB.out.box.set 5 (.int .i64 (cut-1))
         have c31:(w.setCell ⟨d,5,none⟩ (.int .i64 (cut-1))).cell? ⟨d,3,none⟩=some (.int .u64 (st:Int)):=X1.cell (k:=3) rfl
         have f31:=X1.free 3
         have X2:=X1.set 3 (.int .u64 ((st:Int)+1))
         have c42:((w.setCell ⟨d,5,none⟩ (.int .i64 (cut-1))).setCell ⟨d,3,none⟩ (.int .u64 ((st:Int)+1))).cell? ⟨d,4,none⟩=some (.int .i64 (fail:Int)):=X2.cell (k:=4) rfl
         have f42:=X2.free 4
         have XL:=Lib.hid X2
         clear X1 X2
         go_enter Tryz.func90,Tryz.ntmps90
         go_wp2_with fail
         go_ret
         have ED:stepD ⟨n,now,firm,ws,st,fail,cut,false⟩=(0,⟨n,now,firm,ws,st+1,fail,cut-1,false⟩):=by unfold stepD;simp[e1,e2,e3]
         rw[ED]
         have FF:=((fr_setD w d 5 (.int .i64 (cut-1))).trW (fr_setD _ d 3 (.int .u64 ((st:Int)+1))))
         exact⟨rfl,HB.out.upd FF (by have:=XL.out;exact this) rfl rfl rfl,FF⟩
       · have q3:(0:Int)<(fail:Int):=by omega
         have e3:decide (0<fail)=true:=by simp;omega
         by_cases q4:fail=1
         · have q5:(fail:Int)-1=0:=by omega
           have e4:decide (fail=1)=true:=by simp;omega
           have q6:(((fail:Int)-1)==0)=true:=by simp;omega
           have q7:decide ((fail:Int)-1=0)=true:=by simp;omega
           clear q4 q5
           have X1:=HB.out.box.set 5 (.int .i64 (cut-1))
           have c31:(w.setCell ⟨d,5,none⟩ (.int .i64 (cut-1))).cell? ⟨d,3,none⟩=some (.int .u64 (st:Int)):=X1.cell (k:=3) rfl
           have f31:=X1.free 3
           have X2:=X1.set 3 (.int .u64 ((st:Int)+1))
           have c42:((w.setCell ⟨d,5,none⟩ (.int .i64 (cut-1))).setCell ⟨d,3,none⟩ (.int .u64 ((st:Int)+1))).cell? ⟨d,4,none⟩=some (.int .i64 (fail:Int)):=X2.cell (k:=4) rfl
           have f42:=X2.free 4
           have X3:=X2.set 4 (.int .i64 ((fail:Int)-1))
           have c43:(((w.setCell ⟨d,5,none⟩ (.int .i64 (cut-1))).setCell ⟨d,3,none⟩ (.int .u64 ((st:Int)+1))).setCell ⟨d,4,none⟩ (.int .i64 ((fail:Int)-1))).cell? ⟨d,4,none⟩=some (.int .i64 ((fail:Int)-1)):=X3.cell (k:=4) rfl
           have XL:=Lib.hid X3
           clear X1 X2 X3
           go_enter Tryz.func90,Tryz.ntmps90
           go_wp2_with fail
           go_ret
           have ED:stepD ⟨n,now,firm,ws,st,fail,cut,false⟩=(80,⟨n,now,firm,ws,st+1,fail-1,cut-1,false⟩):=by unfold stepD;simp[e1,e2,e3,e4]
           rw[ED]
           have FF:=(((fr_setD w d 5 (.int .i64 (cut-1))).trW (fr_setD _ d 3 (.int .u64 ((st:Int)+1)))).trW (fr_setD _ d 4 (.int .i64 ((fail:Int)-1))))
           exact⟨rfl,HB.out.upd FF (by have:=XL.out;have e:((fail-1:Nat):Int)=(fail:Int)-1:=(by omega);simp only[DvS.cells,e];exact this) rfl rfl rfl,FF⟩
         · have q5:¬(fail:Int)-1=0:=by omega
           have e4:decide (fail=1)=false:=by simp;omega
           have X1:=HB.out.box.set 5 (.int .i64 (cut-1))
           have c31:(w.setCell ⟨d,5,none⟩ (.int .i64 (cut-1))).cell? ⟨d,3,none⟩=some (.int .u64 (st:Int)):=X1.cell (k:=3) rfl
           have f31:=X1.free 3
           have X2:=X1.set 3 (.int .u64 ((st:Int)+1))
           have c42:((w.setCell ⟨d,5,none⟩ (.int .i64 (cut-1))).setCell ⟨d,3,none⟩ (.int .u64 ((st:Int)+1))).cell? ⟨d,4,none⟩=some (.int .i64 (fail:Int)):=X2.cell (k:=4) rfl
           have f42:=X2.free 4
           have X3:=X2.set 4 (.int .i64 ((fail:Int)-1))
           have c43:(((w.setCell ⟨d,5,none⟩ (.int .i64 (cut-1))).setCell ⟨d,3,none⟩ (.int .u64 ((st:Int)+1))).setCell ⟨d,4,none⟩ (.int .i64 ((fail:Int)-1))).cell? ⟨d,4,none⟩=some (.int .i64 ((fail:Int)-1)):=X3.cell (k:=4) rfl
           have XL:=Lib.hid X3
           clear X1 X2 X3
           go_enter Tryz.func90,Tryz.ntmps90
           go_wp2_with fail
           go_ret
           have ED:stepD ⟨n,now,firm,ws,st,fail,cut,false⟩=(0,⟨n,now,firm,ws,st+1,fail-1,cut-1,false⟩):=by unfold stepD;simp[e1,e2,e3,e4]
           rw[ED]
           have FF:=(((fr_setD w d 5 (.int .i64 (cut-1))).trW (fr_setD _ d 3 (.int .u64 ((st:Int)+1)))).trW (fr_setD _ d 4 (.int .i64 ((fail:Int)-1))))
           exact⟨rfl,HB.out.upd FF (by have:=XL.out;have e:((fail-1:Nat):Int)=(fail:Int)-1:=(by omega);simp only[DvS.cells,e];exact this) rfl rfl rfl,FF⟩
     · have e1:decide (cut=0)=false:=by simp;omega
       have e2:decide (0<cut)=false:=by simp;omega
       by_cases q2:fail=0
       · have q3:¬(0:Int)<(fail:Int):=by omega
         have e3:decide (0<fail)=false:=by simp;omega
         clear q2
         have X2:=HB.out.box.set 3 (.int .u64 ((st:Int)+1))
         have c42:(w.setCell ⟨d,3,none⟩ (.int .u64 ((st:Int)+1))).cell? ⟨d,4,none⟩=some (.int .i64 (fail:Int)):=X2.cell (k:=4) rfl
         have f42:=X2.free 4
         have XL:=Lib.hid X2
         clear X2
         go_enter Tryz.func90,Tryz.ntmps90
         go_wp2_with fail
         go_ret
         have ED:stepD ⟨n,now,firm,ws,st,fail,cut,false⟩=(0,⟨n,now,firm,ws,st+1,fail,cut,false⟩):=by unfold stepD;simp[e1,e2,e3]
         rw[ED]
         have FF:=(fr_setD w d 3 (.int .u64 ((st:Int)+1)))
         exact⟨rfl,HB.out.upd FF (by have:=XL.out;exact this) rfl rfl rfl,FF⟩
       · have q3:(0:Int)<(fail:Int):=by omega
         have e3:decide (0<fail)=true:=by simp;omega
         by_cases q4:fail=1
         · have q5:(fail:Int)-1=0:=by omega
           have e4:decide (fail=1)=true:=by simp;omega
           have q6:(((fail:Int)-1)==0)=true:=by simp;omega
           have q7:decide ((fail:Int)-1=0)=true:=by simp;omega
           clear q4 q5
           have X2:=HB.out.box.set 3 (.int .u64 ((st:Int)+1))
           have c42:(w.setCell ⟨d,3,none⟩ (.int .u64 ((st:Int)+1))).cell? ⟨d,4,none⟩=some (.int .i64 (fail:Int)):=X2.cell (k:=4) rfl
           have f42:=X2.free 4
           have X3:=X2.set 4 (.int .i64 ((fail:Int)-1))
           have c43:((w.setCell ⟨d,3,none⟩ (.int .u64 ((st:Int)+1))).setCell ⟨d,4,none⟩ (.int .i64 ((fail:Int)-1))).cell? ⟨d,4,none⟩=some (.int .i64 ((fail:Int)-1)):=X3.cell (k:=4) rfl
           have XL:=Lib.hid X3
           clear X2 X3
           go_enter Tryz.func90,Tryz.ntmps90
           go_wp2_with fail
           go_ret
           have ED:stepD ⟨n,now,firm,ws,st,fail,cut,false⟩=(80,⟨n,now,firm,ws,st+1,fail-1,cut,false⟩):=by unfold stepD;simp[e1,e2,e3,e4]
           rw[ED]
           have FF:=((fr_setD w d 3 (.int .u64 ((st:Int)+1))).trW (fr_setD _ d 4 (.int .i64 ((fail:Int)-1))))
           exact⟨rfl,HB.out.upd FF (by have:=XL.out;have e:((fail-1:Nat):Int)=(fail:Int)-1:=(by omega);simp only[DvS.cells,e];exact this) rfl rfl rfl,FF⟩
         · have q5:¬(fail:Int)-1=0:=by omega
           have e4:decide (fail=1)=false:=by simp;omega
           have X2:=HB.out.box.set 3 (.int .u64 ((st:Int)+1))
           have c42:(w.setCell ⟨d,3,none⟩ (.int .u64 ((st:Int)+1))).cell? ⟨d,4,none⟩=some (.int .i64 (fail:Int)):=X2.cell (k:=4) rfl
           have f42:=X2.free 4
           have X3:=X2.set 4 (.int .i64 ((fail:Int)-1))
           have c43:((w.setCell ⟨d,3,none⟩ (.int .u64 ((st:Int)+1))).setCell ⟨d,4,none⟩ (.int .i64 ((fail:Int)-1))).cell? ⟨d,4,none⟩=some (.int .i64 ((fail:Int)-1)):=X3.cell (k:=4) rfl
           have XL:=Lib.hid X3
           clear X2 X3
           go_enter Tryz.func90,Tryz.ntmps90
           go_wp2_with fail
           go_ret
           have ED:stepD ⟨n,now,firm,ws,st,fail,cut,false⟩=(0,⟨n,now,firm,ws,st+1,fail-1,cut,false⟩):=by unfold stepD;simp[e1,e2,e3,e4]
           rw[ED]
           have FF:=((fr_setD w d 3 (.int .u64 ((st:Int)+1))).trW (fr_setD _ d 4 (.int .i64 ((fail:Int)-1))))
           exact⟨rfl,HB.out.upd FF (by have:=XL.out;have e:((fail-1:Nat):Int)=(fail:Int)-1:=(by omega);simp only[DvS.cells,e];exact this) rfl rfl rfl,FF⟩
end
end Go.Proofs.YtlbjdbaeffacgaaGreat
