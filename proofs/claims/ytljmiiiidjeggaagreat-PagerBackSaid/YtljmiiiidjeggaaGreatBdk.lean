/-
  Parts of the proof, joined.
-/
import Derived.Test.YtljmiiiidjeggaaGreatBdj
import Derived.Test.YtljmiiiidjeggaaGreatBdi
import Derived.Deep.Slices
import Derived.Laws.CopyRow
import Derived.Great.BuildSlice
import Derived.Maps.AppendAt
import Derived.Test.YtljmiiiidjeggaaGreatBde
namespace Go.Proofs.YtljmiiiidjeggaaGreat
set_option maxHeartbeats 8000000
open Go.RowKit Go.ChangeShapes Go.WideShapes
set_option linter.unusedVariables false
theorem infoDb:(Tryz.prog.info? 121).map (fun i=>(i.zero,i.size,i.bytes))=some (some (.agg (bts (zeros 256))),256,256):=by kernel_rfl
theorem made_z (n m:Nat) (hm:0<m):madeCells (bts (zeros m)) n=bts (zeros n):=by
 apply Array.ext
 · simp[madeCells,bts,zeros]
 · intro i h1 h2
   have:i%m<m:=Nat.mod_lt _ hm
   simp[madeCells,bts,zeros,this]
theorem make_db (n:Nat) (hc:n≤5000) (W:World):
 (Instr.makeSlice 122 (.int .i64 (n:Int)) (.int .i64 (n:Int))).run Tryz.prog W = .ok (.slice (some ⟨W.heap.size,0,none⟩) n n) (W.alloc (.cells (bts (zeros (n*256))) 121)):=by
 obtain⟨i0,hi0,h0,h1,h2⟩:=info_parts infoDb
 have:=run_make (P:=Tryz.prog) W 122 121 i0 _ Tryz.underlying122 hi0 h0 .i64 .i64 n n (by omega) (by omega) (by rw[h2];omega) (by omega)
 rw[this,h1]
 simp only[Int.toNat_natCast,Value.cells]
 rw[made_z _ 256 (by decide)]
def DzB (w:World) (g n:Nat):Prop:=Bk w g 121 (zeros (n*256))
def DzR (S n:Nat) (v:Value) (W:World):Prop:=∃g,v = .slice (some ⟨g,0,none⟩) n n∧DzB W g n∧S≤g
theorem DzR.mono (S n:Nat):Mono (DzR S n):=fun v W W' ⟨g,h1,h2,h3⟩ hb=>⟨g,h1,h2.below hb h2.lt,h3⟩
structure DkN (w:World) (B d b:Nat) (g1 g2:Nat):Prop where
 box:CbB w d 125 #[.slice (some ⟨g1,0,none⟩) b b,.slice (some ⟨g2,0,none⟩) b b,.slice none 0 0,.int .u64 0,.int .i64 0,.int .i64 (-1),.bool false]
 now:DzB w g1 b
 firm:DzB w g2 b
 low:B≤d∧B≤g1∧B≤g2
 ne:g1≠g2
set_option maxRecDepth 100000 in
theorem diskNew_any (b:Nat) (w:World) (hb8:8≤b) (hb4:b≤4096):
 Calls Tryz.prog 25 #[.int .i64 (b:Int)] w fun e w'=>∃d g1 g2,e = .returned (.tuple #[.pointer (some ⟨d,0,none⟩),.int .i64 0])∧DkN w' w.heap.size d b g1 g2∧Below w.heap.size w w':=by
 have h1:¬(b:Int)<8:=by omega
 have h2:¬(4096:Int)<(b:Int):=by omega
 have HB:Hid (b≤5000):=Lib.hid (by omega)
 clear hb8 hb4
 go_enter Tryz.func25,Tryz.ntmps25
 go_wp2_with fail
 refine wp_wide3 [⟨10,IsR (.int .i64 (b:Int)),[],false⟩,⟨11,DzR w.heap.size b,[0],true⟩,⟨12,IsR (.int .i64 (b:Int)),[],false⟩,⟨13,DzR w.heap.size b,[2],true⟩] (by kernel_rfl) (by kernel_rfl) rfl rfl rfl ⟨?_,?_,?_,?_,trivial⟩ ?_
 · refine⟨rfl,IsR.mono _,fun a W hA hb hd=>takes_plain rfl (yields_value _ ?_ rfl)⟩
   have h0:a.tmps[0]?.getD undef = .int .i64 (b:Int):=(eval_get a 0).trans ((hA.eval (by simp)).trans rfl)
   go_simp
 · refine⟨rfl,DzR.mono _ _,fun a W hA hb hd=>takes_plain rfl ?_⟩
   refine .inl ⟨.slice (some ⟨W.heap.size,0,none⟩) b b,W.alloc (.cells (bts (zeros (b*256))) 121),?_,⟨_,rfl,Bk.new _ _ _,hb.size⟩,(Below.refl _ _).alloc (Nat.le_refl _) _,fun _=>⟨W.heap.size,rfl,Nat.le_refl _,by simp⟩⟩
   have hx:a.eval (.tmp 10) = .int .i64 (b:Int):=hd 0 (by simp) _ rfl
   have hmk:=make_db b HB.out W
   unfold execOp
   simp only[hx,hmk,Sem.run_bind,Result.andThen_ok,Sem.run_pure]
 · refine⟨rfl,IsR.mono _,fun a W hA hb hd=>takes_plain rfl (yields_value _ ?_ rfl)⟩
   have h0:a.tmps[0]?.getD undef = .int .i64 (b:Int):=(eval_get a 0).trans ((hA.eval (by simp)).trans rfl)
   go_simp
 · refine⟨rfl,DzR.mono _ _,fun a W hA hb hd=>takes_plain rfl ?_⟩
   refine .inl ⟨.slice (some ⟨W.heap.size,0,none⟩) b b,W.alloc (.cells (bts (zeros (b*256))) 121),?_,⟨_,rfl,Bk.new _ _ _,hb.size⟩,(Below.refl _ _).alloc (Nat.le_refl _) _,fun _=>⟨W.heap.size,rfl,Nat.le_refl _,by simp⟩⟩
   have hx:a.eval (.tmp 12) = .int .i64 (b:Int):=hd 2 (by simp) _ rfl
   have hmk:=make_db b HB.out W
   unfold execOp
   simp only[hx,hmk,Sem.run_bind,Result.andThen_ok,Sem.run_pure]
 intro vs w4 hR hF hb
 obtain⟨g1,hg1,hz1,hl1⟩:DzR w.heap.size b (vs 11) w4:=hR 1 _ rfl
 obtain⟨g2,hg2,hz2,hl2⟩:DzR w.heap.size b (vs 13) w4:=hR 3 _ rfl
 have HNE:Hid (g1≠g2):=Lib.hid fun e=>hF 1 3 _ _ rfl rfl (by decide) rfl rfl (by show blk (vs 11)=blk (vs 13);rw[hg1,hg2,e])
 have e10:vs 10 = .int .i64 (b:Int):=hR 0 _ rfl
 have e12:vs 12 = .int .i64 (b:Int):=hR 2 _ rfl
 simp only[List.map_cons,List.map_nil,List.foldl_cons,List.foldl_nil,List.length_cons,List.length_nil,List.drop_succ_cons,List.drop_zero,Act.put,List.setIfInBounds_toArray,List.set_cons_zero,List.set_cons_succ,e10,e12,hg1,hg2]
 have Z1:=Lib.hid hz1
 have Z2:=Lib.hid hz2
 have L1:=Lib.hid hl1
 have L2:=Lib.hid hl2
 have B4:=Lib.hid hb
 clear hR hF hb hz1 hz2 hl1 hl2 hg1 hg2 e10 e12
 go_wp2_with fail
 go_ret2
 have ha:Below w4.heap.size w4 (w4.alloc (.cells #[.slice (some ⟨g1,0,none⟩) b b,.slice (some ⟨g2,0,none⟩) b b,.slice none 0 0,.int .u64 0,.int .i64 0,.int .i64 (-1),.bool false] 125)):=(Below.refl _ _).alloc (Nat.le_refl _) _
 exact⟨w4.heap.size,g1,g2,rfl,⟨CbB.new _ _ _,Z1.out.below ha Z1.out.lt,Z2.out.below ha Z2.out.lt,⟨B4.out.size,L1.out,L2.out⟩,HNE.out⟩,below_tr B4.out ha B4.out.size⟩
structure KArg where
 t:Nat
 g:Nat
 a:Option Addr
 n:Nat
 c:Nat
 k:List Nat
structure KsB (w:World) (A:Option Addr) (n c:Nat) (ks:List KArg):Prop where
 len:ks.length=n
 cap:n≤c
 max:c≤maxLen
 cel:∀(i:Nat) (q:KArg),ks[i]? = some q→∃x,A=some x∧x.block<w.heap.size∧w.cell? (x.add (i*3))=some (.int .u32 (q.t:Int))∧w.cell? (x.add (i*3+1))=some (.int .u16 (q.g:Int))∧w.cell? (x.add (i*3+2))=some (.slice q.a q.n q.c)∧q.t<4294967296∧q.g<65536∧IsB w q.a q.n q.c q.k
theorem KsB.below {w w':World} {A:Option Addr} {n c:Nat} {ks:List KArg} (h:KsB w A n c ks) (hb:Below w.heap.size w w'):KsB w' A n c ks:=
 ⟨h.len,h.cap,h.max,fun i q hq=>by
  obtain⟨x,hx,hl,h0,h1,h2,ht,hg,hk⟩:=h.cel i q hq
  have hc:∀j v,w.cell? (x.add j)=some v→w'.cell? (x.add j)=some v:=fun j v hv=>by
   rw[←hv]
   exact World.cell?_of_block (hb.block _ (by rw[add_block];exact hl))
  exact⟨x,hx,Nat.lt_of_lt_of_le hl hb.size,hc _ _ h0,hc _ _ h1,hc _ _ h2,ht,hg,hk.below hb⟩⟩
theorem RkB.grownM {w w':World} {B g m:Nat} {v:Value} {vs:List ((Nat×Nat)×Value)} {l:RgL} {B' g':Nat} {l':RgL} (h:RkB w B g v vs l) (hr:RgB w B' g' m l') (hg:w.grownBy w' (some m)):RkB w' B g v vs l:=by
 obtain⟨us,hm,_⟩:=hr.map
 have hf:=Fr.grown hg
 have hgm:g≠m:=fun e=>by
  obtain⟨es,c,h1,_⟩:=hm
  have:=h.box
  unfold CbB at this
  rw[e,h1] at this
  cases this
 refine⟨h.box.fr hf (fun e=>hgm (by injection e with e;exact e.symm)),row_fr h.own hf (fun k hk e=>?_),h.vals.imp fun z k hz=>hz.fr hf (fun q hq e=>notMap hz hm (by rw[hq,e])),Nat.le_trans h.low hg.size,h.ne⟩
 injection e with e
 subst e
 rcases h.own.2 with ⟨rfl,_⟩ | ⟨gb,cap,cur,rfl,_,hh,_⟩
 · cases hk
 · obtain⟨es,c,h1,_⟩:=hm
   have:gb=m:=by injection hk
   subst this
   rw[h1] at hh
   cases hh
theorem RgB.frK {w w':World} {B g m:Nat} {l:RgL} {B' g':Nat} {v:Value} {vs:List ((Nat×Nat)×Value)} {l':RgL} (h:RgB w B g m l) (hr:RkB w B' g' v vs l') (hf:Fr w w' (fun k=>k=g'∨v.ownBlock=some k)):RgB w' B g m l:=by
 obtain⟨us,hm,hv⟩:=h.map
 have hcb:CbB w g 145 #[.map (some m)]:=h.box
 obtain⟨es,c,hme,_⟩:=id hm
 have nb:∀k,v.ownBlock=some k→∃cs T x,w.heap[k]? = some (.cells cs T x):=fun k hk=>by
  rcases hr.own.2 with ⟨rfl,_⟩ | ⟨gb,cap,cur,rfl,_,hh,_⟩
  · cases hk
  · have:gb=k:=by injection hk
    subst this
    exact⟨_,_,_,hh⟩
 refine⟨(hcb.fr hf ?_:CbB w' g _ _),h.low,⟨us,hm.same (hf.block m h.mlt ?_),hv.imp fun z k hz=>hz.fr hf ?_⟩,h.ne⟩
 · rintro (e | e)
   · subst e
     have h1:=hr.box
     unfold CbB at h1
     rw[h.box] at h1
     injection h1 with h1
     injection h1 with h1 h2
     exact absurd h2 (by decide)
   · exact row_ne hr.own hcb (by decide) e
 · rintro (e | e)
   · subst e
     have h1:=hr.box
     unfold CbB at h1
     rw[hme] at h1
     cases h1
   · obtain⟨cs,T,x,h1⟩:=nb _ e
     rw[hme] at h1
     cases h1
 · rintro q hq (e | e)
   · subst e
     exact own_ne' (by decide) hr.box hz hq
   · exact row_own_ne hr.own hz (by decide) q hq e
open Go.RowKit
def foldK (l:RgL):List KArg→RgL
 | []=>l
 | q::r=>foldK (addP (q.t,q.g) q.k l).2 r
theorem foldK_snoc (q:KArg):∀(ks:List KArg) (l:RgL),foldK l (ks++[q])=(addP (q.t,q.g) q.k (foldK l ks)).2
 | [],l=>rfl
 | p::r,l=>foldK_snoc q r _
theorem addP_len (x:Nat×Nat) (k:List Nat) (l:RgL):(addP x k l).2.length≤l.length+1:=by
 unfold addP
 split
 · split <;> simp
 · simp
theorem foldK_len:∀(ks:List KArg) (l:RgL),(foldK l ks).length≤l.length+ks.length
 | [],l=>by simp[foldK]
 | q::r,l=>by
   have h1:=foldK_len r (addP (q.t,q.g) q.k l).2
   have h2:=addP_len (q.t,q.g) q.k l
   rw[foldK,List.length_cons]
   omega
theorem keep_cell {w W:World} {x:Addr} {j:Nat} {v:Value} (h:w.cell? (x.add j)=some v) (hx:x.block<w.heap.size) (hb:Below w.heap.size w W):W.cell? (x.add j)=some v:=by
 rw[←h]
 exact World.cell?_of_block (hb.block _ (by rw[add_block];exact hx))
theorem keep_cell2 {w W:World} {x:Addr} {j k:Nat} {v:Value} (h:w.cell? (x.add (j+(k+1)))=some v) (hx:x.block<w.heap.size) (hb:Below w.heap.size w W):W.cell? ⟨(x.add j).block,(x.add j).off+(k+1),none⟩=some v:=by
 have h2:=keep_cell h hx hb
 rw[←Go.Deep.add_add] at h2
 exact h2
def Two (B g m g2:Nat) (l:RgL) (W:World):Prop:=RgB W B g m l∧∃v vs,RkB W B g2 v vs l
theorem rkAdd_far (B g t gn:Nat) (v:Value) (vs:List ((Nat×Nat)×Value)) (l:RgL) (kA:Option Addr) (kn kc:Nat) (key:List Nat) (w0 w:World) (h:RkB w B g v vs l) (hB:w0.heap.size≤B) (ht:t<4294967296) (hg:gn<65536) (h200:l.length≤1000) (ik0:IsB w0 kA kn kc key) (ik:IsB w kA kn kc key):
 Calls Tryz.prog 29 #[.pointer (some ⟨g,0,none⟩),.int .u32 (t:Int),.int .u16 (gn:Int),.slice kA kn kc] w fun e w'=>∃v' vs',e = .returned (.int .i64 ((addP (t,gn) key l).1:Int))∧RkB w' B g v' vs' (addP (t,gn) key l).2∧Fr w w' (fun k=>k=g∨v.ownBlock=some k):=by
 by_cases hk:kn=16∨kn=32
 · refine rkAdd_any B g t gn v vs l kA kn kc key w h ht hg h200 ik fun x hx hv=>?_
   obtain⟨y,hy,hl,_⟩:=ik0.cell (by omega)
   rw[hx] at hy
   injection hy with hy
   subst hy
   have:=own_ge9 h.own _ hv
   omega
 · have hlen:=ik.len
   refine (rkAdd_arg g _ _ kA kn kc w hk).mono ?_
   rintro e w' ⟨rfl,rfl⟩
   have e1:addP (t,gn) key l=(2,l):=by unfold addP;rw[if_neg (by omega)]
   rw[e1]
   exact⟨v,vs,rfl,h,Fr.of (Below.refl _ _) _⟩
def blkL (L:List Nat) (i:Nat):List Nat:=(L.drop (i*256)).take 256
def putD (L b:List Nat) (i:Nat):List Nat:=L.take (i*256)++(b++L.drop (i*256+b.length))
theorem blkL_byt {L:List Nat} {i:Nat} (hL:Byt L):Byt (blkL L i):=fun x hx=>hL x (List.mem_of_mem_drop (List.mem_of_mem_take hx))
theorem blkL_put {L b:List Nat} {i:Nat} (hL:L.length=2048) (hi:i<8) (hb:b.length≤256):blkL (putD L b i) i=b++(blkL L i).drop b.length:=by
 apply List.ext_getElem?
 intro j
 have h1:(L.take (i*256)).length=i*256:=by rw[List.length_take];omega
 simp only[blkL,putD,List.getElem?_take,List.getElem?_drop,List.getElem?_append,h1]
 by_cases hj:j<256
 · rw[if_pos hj,if_neg (by omega)]
   have e:i*256+j-i*256=j:=by omega
   rw[e]
   by_cases hjb:j<b.length
   · rw[if_pos hjb,if_pos hjb]
   · rw[if_neg hjb,if_neg hjb,if_pos (by omega)]
     exact congrArg (fun t=>L[t]?) (by omega)
 · rw[if_neg hj,if_neg (by omega),if_neg (by omega)]
section
variable {P:Program}
theorem run_loadSub (w:World) (x:Addr) (ty:TypeId) (cs:Array Value) (d:TypeDesc) (hc:∀j v,cs[j]? = some v→w.cell? (x.add j)=some v)
 (hu:P.underlying ty=some d) (hd:(match d with | .struct _ | .array _ _=>true | _=>false)=true) (hi:(P.info? ty).map (·.size)=some cs.size):
 (loadVar ty x).run P w = .ok (.agg cs) w:=by
 have hl:(loadCells x cs.toList.length).run P w = .ok cs.toList.toArray w:=
  run_loadCells_list (P:=P) w x cs.toList (fun j v hv=>hc j v (by simpa using hv))
 cases hq:P.info? ty with
 | none=>simp[hq] at hi
 | some i=>
   have hs:i.size=cs.size:=by simpa[hq] using hi
   have hagg:(isAgg ty).run P w = .ok true w:=by
    unfold isAgg
    rw[Sem.run_bind,run_underlying hu w]
    cases d <;> simp_all
   simp only[Array.length_toList,Array.toArray_toList] at hl
   simp[loadVar,Sem.run_bind,hagg,sizeOf,typeInfo,hq,hs,hl]
theorem wpList_loadSub {ops:Array Oper} {rest:List Oper} {o:Oper} {a:Act} {w:World} {Q:Exit→Act→World→Prop} (hgd:o.guard=none) (ty:TypeId) (x:Operand) (ho:o.op = .load ty x)
 (y:Addr) (hx:a.eval x = .pointer (some y)) (cs:Array Value) (d:TypeDesc) (hc:∀j v,cs[j]? = some v→w.cell? (y.add j)=some v)
 (hu:P.underlying ty=some d) (hd:(match d with | .struct _ | .array _ _=>true | _=>false)=true) (hi:(P.info? ty).map (·.size)=some cs.size)
 (h:wpList P ops Q rest (a.put o.dst (.agg cs)) w):wpList P ops Q (o::rest) a w:=by
 refine wpList_plain hgd fun _ hK=>?_
 unfold Oper.wp execOp
 simp only[ho,hx,Instr.loadAt,Instr.sureAddr,Sem.run_bind,Sem.run_pure,Result.andThen_ok,run_loadSub w y ty cs d hc hu hd hi]
 exact hK _ _ h
end
theorem Bk.sub {w:World} {g:Nat} {T:TypeId} {L:List Nat} (h:Bk w g T L) (i:Nat):∀(j:Nat) (v:Value),(bts (blkL L i))[j]? = some v→w.cell? ((⟨g,i*256,none⟩:Addr).add j)=some v:=fun j v hv=>by
 have hj:j<(blkL L i).length:=by rw[←bts_size];exact (Array.getElem?_eq_some_iff.1 hv).1
 rw[bts_get _ _ hj] at hv
 have h1:i*256+j<L.length:=by
  simp only[blkL,List.length_take,List.length_drop] at hj
  omega
 have h2:(blkL L i)[j]? = L[i*256+j]?:=by
  have h3:j<256:=by simp only[blkL,List.length_take] at hj;omega
  simp only[blkL,List.getElem?_take,List.getElem?_drop,if_pos h3]
 rw[Addr.add_mid,h.cell h1,←h2]
 exact hv
theorem Bk.fr {w w':World} {g:Nat} {T:TypeId} {l:List Nat} {F:Nat→Prop} (h:Bk w g T l) (hf:Fr w w' F) (hn:¬F g):Bk w' g T l:=(hf.block g h.lt hn).trans h
structure RdB (w:World) (B g:Nat) (v1 v2:Value) (b1 b2:List Nat) (st cut:Int) (down:Bool) (L:List Nat):Prop where
 box:CbB w g 156 #[v1,v2,.slice none 0 0,.int .u64 st,.int .i64 0,.int .i64 cut,.bool down]
 own1:w.ownsRow B 22 1 v1 b1.length (b1.map fun b=>.slice (some ⟨b,0,none⟩) 256 256)
 own2:w.ownsRow B 22 1 v2 b2.length (b2.map fun b=>.slice (some ⟨b,0,none⟩) 256 256)
 ne12:∀k,v1.ownBlock=some k→v2.ownBlock≠some k
 at1:∀(i b:Nat),b1[i]? = some b→B≤b∧Bk w b 5 (blkL L i)
 at2:∀(i b:Nat),b2[i]? = some b→B≤b∧∃l,Bk w b 5 l∧l.length=256
 nd:(b1++b2).Nodup
 low:B≤g
theorem RdB.fr {w w':World} {B g:Nat} {v1 v2:Value} {b1 b2:List Nat} {st cut:Int} {down:Bool} {L:List Nat} {F:Nat→Prop} (h:RdB w B g v1 v2 b1 b2 st cut down L) (hf:Fr w w' F) (hn:∀k,F k→k<B):RdB w' B g v1 v2 b1 b2 st cut down L:=by
 have hF:∀k,B≤k→¬F k:=fun k hk e=>by have:=hn k e;omega
 refine⟨h.box.fr hf (hF _ h.low),row_fr h.own1 hf (fun k hk=>hF k (own_ge9 h.own1 k hk)),row_fr h.own2 hf (fun k hk=>hF k (own_ge9 h.own2 k hk)),h.ne12,fun i b hi=>?_,fun i b hi=>?_,h.nd,h.low⟩
 · obtain⟨k1,k2⟩:=h.at1 i b hi
   exact⟨k1,k2.fr hf (hF b k1)⟩
 · obtain⟨k1,l,k2,k3⟩:=h.at2 i b hi
   exact⟨k1,l,k2.fr hf (hF b k1),k3⟩
theorem RdB.ab {w w':World} {B g:Nat} {v1 v2:Value} {b1 b2:List Nat} {st cut:Int} {down:Bool} {L:List Nat} (h:RdB w B g v1 v2 b1 b2 st cut down L) (hb:Below w.heap.size w w'):RdB w' B g v1 v2 b1 b2 st cut down L:=
 h.fr (Fr.of hb (fun _=>False)) (fun k hk=>hk.elim)
set_option linter.unusedSimpArgs false
theorem fr_cell (w:World) (g k:Nat) (v:Value):Fr w (w.setCell ⟨g,k,none⟩ v) (fun q=>q=g):=(Fr.grown (grown_cell w g k v)).imp fun q hq=>by injection hq with hq;exact hq.symm
theorem isB_frD {w W:World} {A:Option Addr} {n c:Nat} {l:List Nat} {F:Nat→Prop} (h:IsB w A n c l) (hf:Fr w W F) (hn:0<n→∀x,A=some x→¬F x.block):IsB W A n c l:=by
 by_cases h0:0<n
 · exact h.fr hf (hn h0)
 · obtain rfl:n=0:=by omega
   have hl:=h.len
   obtain rfl:l=[]:=List.eq_nil_of_length_eq_zero hl
   obtain⟨⟨k1,k2,k3,k4,k5⟩,k6⟩:=h
   refine⟨⟨k1,k2,k3,k4,?_⟩,k6⟩
   rcases k5 with k5 | ⟨X,k5,k5l,_⟩
   · exact .inl k5
   · exact .inr ⟨X,k5,fun h=>Nat.lt_of_lt_of_le (k5l h) hf.size,fun i hi=>absurd hi (Nat.not_lt_zero i)⟩
theorem bts_toList (L:List Nat):(bts L).toList=L.map fun n:Nat=>Value.int .u8 (n:Int):=by simp[bts]
theorem bts_oneL (L:List Nat):∀v∈(bts L).toList,v.oneCell'=true:=by
 intro v hv
 rw[bts_toList] at hv
 obtain⟨n,_,rfl⟩:=List.mem_map.1 hv
 rfl
theorem bts_putD (L b:List Nat) (i:Nat):((bts L).toList.take (i*256)++(bts b).toList++(bts L).toList.drop (i*256+b.length)).toArray=bts (putD L b i):=by
 apply Array.toList_inj.1
 rw[bts_toList (putD L b i),List.toList_toArray,bts_toList,bts_toList]
 simp[putD,List.map_take,List.map_drop]
section
variable {P:Program}
theorem exec_loadSub {r:Operand→Value} {o:Oper} (ty:TypeId) (x:Operand) (ho:o.op = .load ty x) (w:World) (y:Addr) (hx:r x = .pointer (some y)) (cs:Array Value) (d:TypeDesc)
 (hc:∀j v,cs[j]? = some v→w.cell? (y.add j)=some v) (hu:P.underlying ty=some d) (hd:(match d with | .struct _ | .array _ _=>true | _=>false)=true) (hi:(P.info? ty).map (·.size)=some cs.size):
 (execOp r o).run P w = .ok (.value (.agg cs)) w:=by
 unfold execOp
 simp only[ho,hx,Instr.loadAt,Instr.sureAddr,Sem.run_bind,Sem.run_pure,Result.andThen_ok,run_loadSub w y ty cs d hc hu hd hi]
set_option maxRecDepth 100000 in
theorem wpList_storeSub {ops:Array Oper} {rest:List Oper} {o:Oper} {a:Act} {w:World} {Q:Exit→Act→World→Prop} (hgd:o.guard=none) (T:TypeId) (x y:Operand) (ho:o.op = .store T x y)
 (g i:Nat) (hx:a.eval x = .pointer (some ⟨g,i*256,none⟩)) (b L:List Nat) (hy:a.eval y = .agg (bts b)) {t:TypeId} (hg:Bk w g t L) (hi:(P.info? T).map (·.size)=some b.length) (hl:i*256+b.length≤L.length)
 (h:∀w2,Bk w2 g t (putD L b i)→Fr w w2 (fun q=>q=g)→wpList P ops Q rest (a.put o.dst undef) w2):wpList P ops Q (o::rest) a w:=by
 have hst:=run_storeCells_at P g (i*256) t (bts b).toList 0 (bts L) w hg (by have e1:(bts b).toList.length=b.length:=(by rw[Array.length_toList,bts_size]);have e2:(bts L).size=L.length:=bts_size L;omega) (bts_oneL b)
 rw[Nat.add_zero,Array.length_toList,bts_size,bts_putD] at hst
 have hrun:(storeVar T ⟨g,i*256,none⟩ (.agg (bts b))).run P w = .ok () (w.setRow g (bts (putD L b i))):=by
  cases hq:P.info? T with
  | none=>simp[hq] at hi
  | some k=>
    have hs:(bts b).size=k.size:=by rw[bts_size];simp[hq] at hi;omega
    simp[storeVar,sizeOf,typeInfo,hq,Value.cells,hs,hst]
 refine wpList_plain hgd fun K hK=>?_
 have hK:=hK _ _ (h _ (setRow_heap w g _ _ _ _ hg) ⟨rfl,rfl,rfl,by simp,fun k _ hk=>setRow_other w g k _ hk⟩)
 unfold Oper.wp execOp
 simp only[ho,hx,hy,Instr.storeAt,Instr.sureAddr,Sem.run_bind,Sem.run_pure,Result.andThen_ok,hrun]
 exact hK
theorem run_copy_blk (w:World) (dT sT ty elem:TypeId) (g g' n:Nat) (L L':List Nat) (t t':TypeId) (hu:P.underlying dT=some (.slice elem)) (hs:(P.info? elem).map (·.size)=some 256)
 (hg:Bk w g t L) (hg':Bk w g' t' L') (hL:L.length=n*256) (hL':L'.length=n*256):
 (Builtin.copy_ #[dT,sT] ty #[.slice (some ⟨g,0,none⟩) n n,.slice (some ⟨g',0,none⟩) n n]).run P w = .ok (goInt n) (w.setRow g (bts L')):=by
 have hl:=run_loadCells_list (P:=P) w ⟨g',0,none⟩ (bts L').toList (fun j v hv=>by
  have hj:j<L'.length:=by
   have:=(List.getElem?_eq_some_iff.1 hv).1
   rwa [Array.length_toList,bts_size] at this
  rw[Array.getElem?_toList] at hv
  have:=Bk.sub hg' 0 (j:=j) (v:=v)
  rw[show (⟨g',0,none⟩:Addr).add j=⟨g',j,none⟩ from by by_cases h:j=0 <;> simp[Addr.add,h],hg'.cell hj,←hv,bts_get _ _ hj])
 have hst:=run_storeCells_at P g 0 t (bts L').toList 0 (bts L) w hg (by rw[Array.length_toList,bts_size,bts_size];omega) (bts_oneL L')
 rw[Nat.add_zero,Nat.zero_add,Array.length_toList,bts_size] at hst
 have e:((bts L).toList.take 0++(bts L').toList++(bts L).toList.drop L'.length).toArray=bts L':=by
  rw[List.take_zero,List.nil_append,List.drop_eq_nil_of_le (by rw[Array.length_toList,bts_size];omega),List.append_nil,Array.toArray_toList]
 rw[e] at hst
 rw[Array.length_toList,bts_size,hL'] at hl
 cases hq:P.info? elem with
 | none=>simp[hq] at hs
 | some i=>
   have hi:i.size=256:=by simpa[hq] using hs
   simp[Builtin.copy_,run_underlying hu,Builtin.lenOf,Builtin.firstCells,sizeOf,typeInfo,hq,hi,hl,hst]
end
theorem foldl_put (off:Nat):∀(vs:List Value) (k:Nat) (cs:Array Value),off+k+vs.length≤cs.size→
 (vs.zipIdx k).foldl (fun (cs:Array Value) (x:Value×Nat)=>cs.setIfInBounds (off+x.2) x.1) cs=(cs.toList.take (off+k)++vs++cs.toList.drop (off+k+vs.length)).toArray
 | [],k,cs,_=>by simp
 | v::r,k,cs,h=>by
   simp only[List.zipIdx_cons,List.foldl_cons,List.length_cons] at h⊢
   rw[foldl_put off r (k+1) _ (by simp;omega)]
   have e:=list_seg_step cs.toList (off+k) v r (by simp;omega)
   simp only[Array.toList_setIfInBounds,show off+(k+1)=off+k+1 by omega]
   rw[e,show off+k+(r.length+1)=off+k+1+r.length by omega]
theorem put_cells (off:Nat) (vs cs:Array Value) (h:off+vs.size≤cs.size):
 vs.zipIdx.foldl (fun (cs:Array Value) (x:Value×Nat)=>cs.setIfInBounds (off+x.2) x.1) cs=(cs.toList.take off++vs.toList++cs.toList.drop (off+vs.size)).toArray:=by
 have:=foldl_put off vs.toList 0 cs (by simpa using h)
 simp only[Nat.add_zero,Array.length_toList] at this
 rw[←this,←Array.foldl_toList]
 simp[Array.toList_zipIdx]
def wrC (i:Nat) (b:List Nat):Array Value:=#[Value.int .i64 (i:Int)]++bts b
theorem fill_write (Z:Array Value) (hZ:Z.size=257) (i:Nat) (b:List Nat) (hb:b.length=256):
 Instr.fill (#[(0,1),(1,256)][·]?) Z [(0,.int .i64 (i:Int)),(1,.agg (bts b))]=some (wrC i b):=by
 have c0:(Value.int .i64 (i:Int)).cells = #[Value.int .i64 (i:Int)]:=rfl
 have c1:(Value.agg (bts b)).cells=bts b:=rfl
 have s1:(bts b).size=256:=by rw[bts_size,hb]
 have p0:=put_cells 0 #[Value.int .i64 (i:Int)] Z (by simp;omega)
 simp only[Instr.fill,c0,c1,s1]
 simp only[List.getElem?_toArray,List.getElem?_cons_zero,List.getElem?_cons_succ]
 have e0:(#[Value.int .i64 (i:Int)]:Array Value).size=1:=rfl
 simp only[e0,hZ]
 rw[if_neg (by decide)]
 have h0:(#[Value.int .i64 (i:Int)]:Array Value).zipIdx.foldl (fun (cs:Array Value) (x:Value×Nat)=>match x with | (c,j)=>cs.setIfInBounds (0+j) c) Z=(Z.toList.take 0++[Value.int .i64 (i:Int)]++Z.toList.drop 1).toArray:=p0
 rw[h0]
 have z1:(Z.toList.take 0++[Value.int .i64 (i:Int)]++Z.toList.drop 1).toArray.size=257:=by simp;omega
 rw[if_neg (by rw[z1];decide)]
 have p1:=put_cells 1 (bts b) (Z.toList.take 0++[Value.int .i64 (i:Int)]++Z.toList.drop 1).toArray (by rw[z1,s1];decide)
 have h1:(bts b).zipIdx.foldl (fun (cs:Array Value) (x:Value×Nat)=>match x with | (c,j)=>cs.setIfInBounds (1+j) c) (Z.toList.take 0++[Value.int .i64 (i:Int)]++Z.toList.drop 1).toArray=_:=p1
 rw[h1]
 congr 1
 unfold wrC
 apply Array.toList_inj.1
 rw[s1]
 simp
 omega
theorem places_write:(match Tryz.prog.underlying 170 with | some (.struct fields)=>fields.toList.mapM (fun f=>(Tryz.prog.info? f.type).map fun i=>(f.offset,i.size)) | _=>none)=some [(0,1),(1,256)]:=by kernel_rfl
theorem zero_write:((Tryz.prog.info? 170).bind (·.zero)).map (fun z=>z.cells.size)=some 257:=by kernel_rfl
theorem built_write (i:Nat) (b:List Nat) (hb:b.length=256):Tryz.prog.built 170 [(0,.int .i64 (i:Int)),(1,.agg (bts b))]=some (wrC i b):=by
 have hp:=places_write
 have hz:=zero_write
 unfold Program.built
 cases hi:Tryz.prog.info? 170 with
 | none=>rw[hi] at hz;simp at hz
 | some it=>
   cases hu:Tryz.prog.underlying 170 with
   | none=>rw[hu] at hp;simp at hp
   | some d=>
     rw[hu] at hp
     rw[hi] at hz
     simp only[Option.bind_some] at hz
     cases hzz:it.zero with
     | none=>rw[hzz] at hz;simp at hz
     | some z=>
       rw[hzz] at hz
       have hz':z.cells.size=257:=by simpa using hz
       cases d with
       | struct fields=>
         simp only at hp⊢
         simp only[hzz,hp]
         exact fill_write _ hz' i b hb
       | _=>simp at hp
theorem build_write (i:Nat) (b:List Nat) (hb:b.length=256) (W:World):(Instr.build 170 #[(0,.int .i64 (i:Int)),(1,.agg (bts b))]).run Tryz.prog W = .ok (.agg (wrC i b)) W:=run_build W _ _ _ (built_write i b hb)
theorem wrC_size (i:Nat) (b:List Nat) (hb:b.length=256):(wrC i b).size=257:=by unfold wrC;rw[Array.size_append,bts_size,hb];rfl
theorem infoWr:(Tryz.prog.info? 170).map (fun i=>(i.zero,i.size,i.bytes))=some (some (.agg (wrC 0 (zeros 256))),257,264):=by kernel_rfl
set_option maxRecDepth 100000 in
theorem one_write (i:Nat) (b:List Nat) (hb:b.length=256) (W:World):(Instr.buildSlice 123 1 #[(0,.agg (wrC i b))]).run Tryz.prog W = .ok (.slice (some ⟨W.heap.size,0,none⟩) 1 1) (W.alloc (.cells (wrC i b) 170)):=by
 obtain⟨i0,hi0,hz0,hz1,hz2⟩:=info_parts infoWr
 refine run_buildSlice W _ _ 1 _ (wrC i b) i0 _ Tryz.underlying123 hi0 hz0 (by rw[hz1];decide) (by rw[hz1];decide) ?_
 rw[hz1]
 have c1:(Value.agg (wrC i b)).cells=wrC i b:=rfl
 have s1:=wrC_size i b hb
 obtain⟨Z,hZ⟩:∃Z,(Array.range (1*257)).map (((Value.agg (wrC 0 (zeros 256))).cells)[· % ((Value.agg (wrC 0 (zeros 256))).cells).size]!)=Z:=⟨_,rfl⟩
 have sZ:Z.size=257:=by rw[←hZ];simp
 rw[hZ]
 simp only[Instr.fill,c1,s1,sZ]
 have p0:=put_cells (0*257) (wrC i b) Z (by rw[s1,sZ];decide)
 have h0:(wrC i b).zipIdx.foldl (fun (cs:Array Value) (x:Value×Nat)=>match x with | (c,j)=>cs.setIfInBounds (0*257+j) c) Z=_:=p0
 simp only[h0]
 rw[if_neg (by decide)]
 congr 1
 apply Array.toList_inj.1
 rw[s1]
 simp
 omega
theorem putD_lenN {L b:List Nat} {i n:Nat} (hL:L.length=n*256) (hi:i<n) (hb:b.length=256):(putD L b i).length=n*256:=by
 simp only[putD,List.length_append,List.length_take,List.length_drop]
 omega
theorem blkL_lenN {L:List Nat} {i n:Nat} (hL:L.length=n*256) (hi:i<n):(blkL L i).length=256:=by
 simp only[blkL,List.length_take,List.length_drop]
 omega
theorem zeroBlkD:(Tryz.prog.info? 121).map (·.zero)=some (some (.agg (bts (zeros 256)))):=by kernel_rfl
theorem szBlkD:(Tryz.prog.info? 121).map (·.size)=some 256:=by kernel_rfl
theorem isB_bts {w:World} {x:Addr} {n c:Nat} {l:List Nat} (h:IsB w (some x) n c l):∀(j:Nat) (v:Value),(bts l)[j]? = some v→w.cell? (x.add j)=some v:=fun j v hv=>by
 have hj:j<l.length:=by have:=(Array.getElem?_eq_some_iff.1 hv).1;rwa [bts_size] at this
 have hn:=h.len
 obtain⟨y,e,_,hc⟩:=h.cell (by omega)
 injection e with e
 subst e
 rw[hc j (by omega),←hv,bts_get _ _ hj]
 simp[at',List.getElem?_eq_getElem hj]
theorem wrC_list (i:Nat) (b:List Nat):(wrC i b).toList=wrV (i,b):=by simp[wrC,wrV]
theorem wrC_one (i:Nat) (b:List Nat):∀u∈(wrC i b).toList,u.oneCell'=true:=by
 intro u hu
 rw[wrC_list] at hu
 rcases List.mem_cons.1 hu with rfl | hu
 · rfl
 · exact bts_oneL b u hu
theorem row_ltD {w:World} {B n s:Nat} {e:TypeId} {v:Value} {xs:List Value} (h:w.ownsRow B e s v n xs):∀k,v.ownBlock=some k→k<w.heap.size:=fun k hk=>by
 rcases h.2 with ⟨rfl,_⟩ | ⟨g',cap,cur,rfl,_,hh,_⟩
 · cases hk
 · have:g'=k:=by injection hk
   subst this
   exact (Array.getElem?_eq_some_iff.1 hh).1
theorem row_ne9 {w:World} {B n s g:Nat} {e T:TypeId} {v:Value} {xs:List Value} {L:List Nat} (h:w.ownsRow B e s v n xs) (k:Bk w g T L) (hT:e≠T) {q:Nat} (hq:v.ownBlock=some q):q≠g:=fun eq=>by
 rcases h.2 with ⟨rfl,_⟩ | ⟨g',cap,cur,rfl,_,hh,_⟩
 · cases hq
 · have:g'=q:=by injection hq
   subst this
   unfold Bk at k
   rw[←eq,hh] at k
   injection k with k
   injection k with _ k
   exact hT k
theorem run_arr (x:Addr) (c:Nat) (W:World):(Instr.arrayAt 121 (.slice (some x) 256 c)).run Tryz.prog W = .ok (.pointer (some x)) W:=by
 simp[Instr.arrayAt,run_underlying Tryz.underlying121]
theorem wpList_copyBlk {ops:Array Oper} {rest:List Oper} {o:Oper} {a:Act} {w:World} {Q:Exit→Act→World→Prop} (hgd:o.guard=none) (x y:Operand)
 (ho:o.op = .call { callee:=.builtin .copy,args:=#[x,y],argTypes:=#[122,122] }) (g g' n:Nat) (hx:a.eval x = .slice (some ⟨g,0,none⟩) n n) (hy:a.eval y = .slice (some ⟨g',0,none⟩) n n)
 {L L':List Nat} (hg:Bk w g 121 L) (hg':Bk w g' 121 L') (hL:L.length=n*256) (hL':L'.length=n*256)
 (h:∀w2,Bk w2 g 121 L'→Fr w w2 (fun q=>q=g)→wpList Tryz.prog ops Q rest (a.put o.dst (goInt n)) w2):wpList Tryz.prog ops Q (o::rest) a w:=by
 have hrun:=run_copy_blk (P:=Tryz.prog) w 122 122 o.type 121 g g' n L L' _ _ Tryz.underlying122 szBlkD hg hg' hL hL'
 refine wpList_plain hgd fun K hK=>?_
 have hK:=hK _ _ (h _ (setRow_heap w g _ _ _ _ hg) ⟨rfl,rfl,rfl,by simp,fun k _ hk=>setRow_other w g k _ hk⟩)
 unfold Oper.wp execOp
 simp only[ho,resolve,invoke,builtin,Sem.run_bind,Sem.run_pure,Result.andThen_ok,List.map_toArray,List.map_cons,List.map_nil,hx,hy,hrun]
 exact hK
def writeD (D:DvS) (i:Nat) (b:List Nat):Nat×DvS:=match stepD D with
 | (0,D1)=>(0,{ D1 with now:=putD D1.now b i,ws:=D1.ws++[(i,b)] })
 | (e+1,D1)=>(e+1,D1)
def syncD (D:DvS):Nat×DvS:=match stepD D with
 | (0,D1)=>(0,{ D1 with firm:=D1.now,ws:=[] })
 | (e+1,D1)=>(e+1,D1)
theorem stepD_same (D:DvS):(stepD D).2.n=D.n∧(stepD D).2.now=D.now∧(stepD D).2.firm=D.firm∧(stepD D).2.ws=D.ws:=by
 unfold stepD
 cases D.down <;> cases decide (D.cut=0) <;> cases decide (0<D.fail) <;> cases decide (D.fail=1) <;> exact⟨rfl,rfl,rfl,rfl⟩
section
variable {w:World} {B d g1 g2:Nat} {wv:Value} {D:DvS}
set_option maxRecDepth 100000 in
theorem write_any (i bc:Nat) (bA:Option Addr) (b:List Nat) (h:DsB w B d g1 g2 wv D) (ok:D.Ok) (hst:D.st≤1000000000) (hB:B≤w.heap.size) (hws:D.ws.length≤100000) (hi:i<D.n) (ib:IsB w bA 256 bc b)
 (hfr:∀x,bA=some x→x.block≠d∧x.block≠g1∧wv.ownBlock≠some x.block):
 Calls Tryz.prog 44 #[.pointer (some ⟨d,0,none⟩),.int .i64 (i:Int),.slice bA 256 bc] w fun e w'=>e = .returned (.int .i64 ((writeD D i b).1:Int))∧(∃wv',DsB w' B d g1 g2 wv' (writeD D i b).2∧(wv'.ownBlock=wv.ownBlock∨∃k,wv'.ownBlock=some k∧w.heap.size≤k))∧Fr w w' (fun q=>q=d∨q=g1∨wv.ownBlock=some q):=by
 have HH:=Lib.hid (has_yes i hi h)
 have HS:=Lib.hid (step_any h ok hst)
 have HD:=Lib.hid h
 have OK:=Lib.hid ok
 have IB:=Lib.hid ib
 have FB:=Lib.hid hfr
 have HI:=Lib.hid hi
 have HBB:=Lib.hid hB
 have HWS:=Lib.hid hws
 have hbl:=ib.len
 have BL:=Lib.hid hbl
 obtain⟨x,hx,hxl,_⟩:=ib.cell (by decide)
 subst hx
 have XL:=Lib.hid hxl
 have SM:=Lib.hid (stepD_same D)
 clear h ok hst hi ib hfr hB hws hbl hxl
 go_enter Tryz.func44,Tryz.ntmps44
 go_wp2_with fail
 refine HH.out.mono ?_
 rintro e w1 ⟨rfl,rfl⟩
 clear HH
 go_wp2_with fail
 refine HS.out.mono ?_
 rintro e w1 ⟨rfl,hds,hf⟩
 obtain⟨er,D1,hsd⟩:∃er D1,stepD D=(er,D1):=⟨_,_,rfl⟩
 have SD:=Lib.hid hsd
 rw[hsd] at hds SM⊢
 have DS:=Lib.hid hds
 have F1:=Lib.hid hf
 clear hds hf HS
 cases er with
 | succ e=>
   have hne:((e+1:Nat):Int) != 0:=by simp;omega
   have hne2:¬((e+1:Nat):Int)=0:=by omega
   have WD:Hid (writeD D i b=(e+1,D1)):=Lib.hid (by unfold writeD;rw[hsd])
   clear hsd
   go_wp2_with fail
   go_ret
   rw[WD.out]
   exact⟨rfl,⟨wv,DS.out,.inl rfl⟩,F1.out.imp fun q hq=>.inl hq⟩
 | zero =>
   have WD:Hid (writeD D i b=(0,{ D1 with now:=putD D1.now b i,ws:=D1.ws++[(i,b)] })):=Lib.hid (by unfold writeD;rw[hsd])
   have N1:Hid (D1.n=D.n):=Lib.hid SM.out.1
   have I1:=Lib.hid (isB_frD IB.out F1.out fun _ y hy=>fun e=>(FB.out y hy).1 e)
   have LN:Hid (D1.now.length=D1.n*256):=Lib.hid (by rw[SM.out.2.1,SM.out.1];exact OK.out.now)
   have i1:(i:Int)<(D1.n:Int):=by have:=HI.out;have:=N1.out;omega
   have i0:(0:Int)≤(i:Int):=by omega
   clear hsd
   go_upto_region 8 with (fail)
   refine wp_wide3 [⟨24,IsR (.pointer (some ⟨d,0,none⟩)),[],false⟩,⟨25,IsR (.pointer (some ⟨d,0,none⟩)),[0],false⟩,⟨26,IsR (.pointer (some ⟨d,0,none⟩)),[1],false⟩,⟨27,IsR (.slice (some ⟨g1,0,none⟩) D1.n D1.n),[2],false⟩,⟨28,IsR (.int .i64 (i:Int)),[],false⟩,⟨29,IsR (.slice (some x) 256 bc),[],false⟩,⟨30,IsR (.pointer (some x)),[5],false⟩,⟨31,IsR (.agg (bts b)),[6],false⟩,⟨32,IsR (.pointer (some ⟨g1,i*256,none⟩)),[3,4],false⟩] (by kernel_rfl) (by kernel_rfl) rfl rfl rfl ⟨?_,?_,?_,?_,?_,?_,?_,?_,?_,trivial⟩ ?_
   · refine⟨rfl,IsR.mono _,fun a W hA hb hd=>takes_plain rfl (yields_value _ ?_ rfl)⟩
     have h0:a.tmps[0]?.getD undef = .pointer (some ⟨d,0,none⟩):=(eval_get a 0).trans ((hA.eval (by simp)).trans rfl)
     go_simp
   · refine⟨rfl,IsR.mono _,fun a W hA hb hd=>takes_plain rfl (yields_value _ ?_ rfl)⟩
     have h24:a.tmps[24]?.getD undef = .pointer (some ⟨d,0,none⟩):=(eval_get a 24).trans (hd 0 (by simp) _ rfl)
     go_simp
   · refine⟨rfl,IsR.mono _,fun a W hA hb hd=>takes_plain rfl (yields_value _ ?_ rfl)⟩
     have h25:a.tmps[25]?.getD undef = .pointer (some ⟨d,0,none⟩):=(eval_get a 25).trans (hd 1 (by simp) _ rfl)
     go_simp
   · refine⟨rfl,IsR.mono _,fun a W hA hb hd=>takes_plain rfl (yields_value _ ?_ rfl)⟩
     have h26:a.tmps[26]?.getD undef = .pointer (some ⟨d,0,none⟩):=(eval_get a 26).trans (hd 2 (by simp) _ rfl)
     have hc:W.cell? ⟨d,0,none⟩=some (.slice (some ⟨g1,0,none⟩) D1.n D1.n):=(DS.out.ab hb).box.cell (k:=0) rfl
     go_simp
   · refine⟨rfl,IsR.mono _,fun a W hA hb hd=>takes_plain rfl (yields_value _ ?_ rfl)⟩
     have h1:a.tmps[1]?.getD undef = .int .i64 (i:Int):=(eval_get a 1).trans ((hA.eval (by simp)).trans rfl)
     go_simp
   · refine⟨rfl,IsR.mono _,fun a W hA hb hd=>takes_plain rfl (yields_value _ ?_ rfl)⟩
     have h2:a.tmps[2]?.getD undef = .slice (some x) 256 bc:=(eval_get a 2).trans ((hA.eval (by simp)).trans rfl)
     go_simp
   · refine⟨rfl,IsR.mono _,fun a W hA hb hd=>takes_plain rfl (yields_value _ ?_ rfl)⟩
     have h29:a.tmps[29]?.getD undef = .slice (some x) 256 bc:=(eval_get a 29).trans (hd 5 (by simp) _ rfl)
     have har:=run_arr x bc W
     go_simp
   · refine⟨rfl,IsR.mono _,fun a W hA hb hd=>takes_plain rfl (yields_value _ ?_ rfl)⟩
     have hx:a.eval (.tmp 30) = .pointer (some x):=hd 6 (by simp) _ rfl
     exact exec_loadSub 121 (.tmp 30) rfl W x hx (bts b) (.array 256 5) (isB_bts (I1.out.ab hb)) Tryz.underlying121 rfl (by rw[bts_size,BL.out];exact szBlkD)
   · refine⟨rfl,IsR.mono _,fun a W hA hb hd=>takes_plain rfl (yields_value _ ?_ rfl)⟩
     have h27:a.tmps[27]?.getD undef = .slice (some ⟨g1,0,none⟩) D1.n D1.n:=(eval_get a 27).trans (hd 3 (by simp) _ rfl)
     have h28:a.tmps[28]?.getD undef = .int .i64 (i:Int):=(eval_get a 28).trans (hd 4 (by simp) _ rfl)
     go_simp
   intro vs w2 hR hF hb
   have e24:vs 24 = .pointer (some ⟨d,0,none⟩):=hR 0 _ rfl
   have e25:vs 25 = .pointer (some ⟨d,0,none⟩):=hR 1 _ rfl
   have e26:vs 26 = .pointer (some ⟨d,0,none⟩):=hR 2 _ rfl
   have e27:vs 27 = .slice (some ⟨g1,0,none⟩) D1.n D1.n:=hR 3 _ rfl
   have e28:vs 28 = .int .i64 (i:Int):=hR 4 _ rfl
   have e29:vs 29 = .slice (some x) 256 bc:=hR 5 _ rfl
   have e30:vs 30 = .pointer (some x):=hR 6 _ rfl
   have e31:vs 31 = .agg (bts b):=hR 7 _ rfl
   have e32:vs 32 = .pointer (some ⟨g1,i*256,none⟩):=hR 8 _ rfl
   simp only[List.map_cons,List.map_nil,List.foldl_cons,List.foldl_nil,List.length_cons,List.length_nil,List.drop_succ_cons,List.drop_zero,Act.put,List.setIfInBounds_toArray,List.set_cons_zero,List.set_cons_succ,e24,e25,e26,e27,e28,e29,e30,e31,e32]
   have D2:=Lib.hid (DS.out.ab hb)
   have B2:=Lib.hid hb
   clear hR hF hb e24 e25 e26 e27 e28 e29 e30 e31 e32
   go_wp2_with (first
    | (refine wpList_storeSub (o:=⟨none,.store _ (.tmp 32) (.tmp 31),_,_,_,_⟩) rfl 121 (.tmp 32) (.tmp 31) rfl g1 i rfl b D1.now rfl D2.out.now (by rw[BL.out];exact szBlkD) (by rw[LN.out,BL.out,N1.out];have:=HI.out;omega) ?_
       intro w3 hk3 hf3
       have K3:=Lib.hid hk3
       have F3:=Lib.hid hf3
       clear hk3 hf3))
   have I2:=Lib.hid (I1.out.ab B2.out)
   have I3:=Lib.hid (isB_frD I2.out F3.out fun _ y hy=>fun e=>(FB.out y hy).2.1 e)
   have X3:=Lib.hid (D2.out.box.fr F3.out (fun e=>bk_ne D2.out.box D2.out.now (by decide) e))
   have R3:Hid (w3.ownsRow B 170 257 wv D1.ws.length (D1.ws.flatMap wrV)):=Lib.hid (row_fr D2.out.row F3.out fun k hk e=>by
    have:=row_ne9 D2.out.row D2.out.now (by decide) hk
    exact this e)
   have M3:=Lib.hid (bk_fr D2.out.firm F3.out (fun e=>D2.out.ne e.symm))
   have HW3:Hid (B≤w3.heap.size):=Lib.hid (Nat.le_trans HBB.out (Nat.le_trans F1.out.size (Nat.le_trans B2.out.size F3.out.size)))
   have NB:Hid (∀k,wv.ownBlock=some k→k<w3.heap.size):=Lib.hid (row_ltD R3.out)
   have WN:Hid (D1.ws.length≤100000):=Lib.hid (by rw[SM.out.2.2.2];exact HWS.out)
   have ND:Hid (wv.ownBlock≠some d):=Lib.hid (row_ne R3.out X3.out (by decide))
   have NX:Hid (wv.ownBlock≠some x.block):=Lib.hid (FB.out x rfl).2.2
   obtain⟨i0',hi0,hz0,hz1,hz2⟩:=info_parts infoWr
   go_upto_region 9 with (fail)
   refine wp_wide5 (fun q k=>q=11∧wv.ownBlock=some k) [⟨33,IsR (.pointer (some ⟨d,0,none⟩)),[],false⟩,⟨34,IsR (.pointer (some ⟨d,0,none⟩)),[],false⟩,⟨35,IsR (.pointer (some ⟨d,0,none⟩)),[1],false⟩,⟨36,IsR (.pointer (some ⟨d,2,none⟩)),[2],false⟩,⟨37,IsR (wv),[3],false⟩,⟨38,IsR (.int .i64 (i:Int)),[],false⟩,⟨39,IsR (.slice (some x) 256 bc),[],false⟩,⟨40,IsR (.pointer (some x)),[6],false⟩,⟨41,IsR (.agg (bts b)),[7],false⟩,⟨42,IsR (.agg (wrC i b)),[5,8],false⟩,⟨43,(fun z W=>∃G,z = .slice (some ⟨G,0,none⟩) 1 1∧CbB W G 170 (wrC i b)∧w3.heap.size≤G),[9],false⟩,⟨44,(fun z W=>W.ownsRow B 170 257 z (D1.ws.length+1) (D1.ws.flatMap wrV++(wrC i b).toList)∧(z.ownBlock=wv.ownBlock∨∃k,z.ownBlock=some k∧w3.heap.size≤k)),[4,10],false⟩,⟨45,IsR (.pointer (some ⟨d,0,none⟩)),[0],false⟩,⟨46,IsR (.pointer (some ⟨d,2,none⟩)),[12],false⟩] (by kernel_rfl) (by kernel_rfl) rfl rfl rfl ⟨?_,?_,?_,?_,?_,?_,?_,?_,?_,?_,?_,?_,?_,?_,trivial⟩ ?_
   · refine⟨rfl,IsR.monoF _ _,fun a W hA hb hd=>Takes.to5 (takes_plain rfl (yields_value _ ?_ rfl)) _⟩
     have h0:a.tmps[0]?.getD undef = .pointer (some ⟨d,0,none⟩):=(eval_get a 0).trans ((hA.eval (by simp)).trans rfl)
     go_simp
   · refine⟨rfl,IsR.monoF _ _,fun a W hA hb hd=>Takes.to5 (takes_plain rfl (yields_value _ ?_ rfl)) _⟩
     have h0:a.tmps[0]?.getD undef = .pointer (some ⟨d,0,none⟩):=(eval_get a 0).trans ((hA.eval (by simp)).trans rfl)
     go_simp
   · refine⟨rfl,IsR.monoF _ _,fun a W hA hb hd=>Takes.to5 (takes_plain rfl (yields_value _ ?_ rfl)) _⟩
     have h34:a.tmps[34]?.getD undef = .pointer (some ⟨d,0,none⟩):=(eval_get a 34).trans (hd 1 (by simp) _ rfl)
     go_simp
   · refine⟨rfl,IsR.monoF _ _,fun a W hA hb hd=>Takes.to5 (takes_plain rfl (yields_value _ ?_ rfl)) _⟩
     have h35:a.tmps[35]?.getD undef = .pointer (some ⟨d,0,none⟩):=(eval_get a 35).trans (hd 2 (by simp) _ rfl)
     go_simp
   · refine⟨rfl,IsR.monoF _ _,fun a W hA hb hd=>Takes.to5 (takes_plain rfl (yields_value _ ?_ rfl)) _⟩
     have h36:a.tmps[36]?.getD undef = .pointer (some ⟨d,2,none⟩):=(eval_get a 36).trans (hd 3 (by simp) _ rfl)
     have hc:W.cell? ⟨d,2,none⟩=some wv:=(X3.out.fr hb (fun ⟨j,_,_,hj⟩=>ND.out hj)).cell (k:=2) rfl
     obtain⟨Au,cu,hu⟩:=row_shape R3.out
     subst hu
     go_simp
   · refine⟨rfl,IsR.monoF _ _,fun a W hA hb hd=>Takes.to5 (takes_plain rfl (yields_value _ ?_ rfl)) _⟩
     have h1:a.tmps[1]?.getD undef = .int .i64 (i:Int):=(eval_get a 1).trans ((hA.eval (by simp)).trans rfl)
     go_simp
   · refine⟨rfl,IsR.monoF _ _,fun a W hA hb hd=>Takes.to5 (takes_plain rfl (yields_value _ ?_ rfl)) _⟩
     have h2:a.tmps[2]?.getD undef = .slice (some x) 256 bc:=(eval_get a 2).trans ((hA.eval (by simp)).trans rfl)
     go_simp
   · refine⟨rfl,IsR.monoF _ _,fun a W hA hb hd=>Takes.to5 (takes_plain rfl (yields_value _ ?_ rfl)) _⟩
     have h39:a.tmps[39]?.getD undef = .slice (some x) 256 bc:=(eval_get a 39).trans (hd 6 (by simp) _ rfl)
     have har:=run_arr x bc W
     go_simp
   · refine⟨rfl,IsR.monoF _ _,fun a W hA hb hd=>Takes.to5 (takes_plain rfl (yields_value _ ?_ rfl)) _⟩
     have hx:a.eval (.tmp 40) = .pointer (some x):=hd 7 (by simp) _ rfl
     exact exec_loadSub 121 (.tmp 40) rfl W x hx (bts b) (.array 256 5) (isB_bts (I3.out.fr hb (fun y hy ⟨j,_,_,hj⟩=>NX.out (by injection hy with hy;subst hy;exact hj)))) Tryz.underlying121 rfl (by rw[bts_size,BL.out];exact szBlkD)
   · refine⟨rfl,IsR.monoF _ _,fun a W hA hb hd=>Takes.to5 (takes_plain rfl (yields_value _ ?_ rfl)) _⟩
     have h38:a.eval (.tmp 38) = .int .i64 (i:Int):=hd 5 (by simp) _ rfl
     have h41:a.eval (.tmp 41) = .agg (bts b):=hd 8 (by simp) _ rfl
     have hbw:=build_write i b BL.out W
     unfold execOp
     simp only[List.map_toArray,List.map_cons,List.map_nil,h38,h41,hbw,Sem.run_bind,Sem.run_pure,Result.andThen_ok]
   · refine⟨rfl,fun z W W1 ⟨G1,h1,h2,h3⟩ hf=>⟨G1,h1,h2.fr hf (fun ⟨j,_,_,hj⟩=>by have:=NB.out _ hj;omega),h3⟩,fun a W hA hb hd=>takes5_plain rfl ?_⟩
     have h42:a.eval (.tmp 42) = .agg (wrC i b):=hd 9 (by simp) _ rfl
     have how:=one_write i b BL.out W
     refine .inl ⟨.slice (some ⟨W.heap.size,0,none⟩) 1 1,W.alloc (.cells (wrC i b) 170),?_,⟨_,rfl,CbB.new _ _ _,hb.size⟩,Fr.of ((Below.refl _ _).alloc (Nat.le_refl _) _) _⟩
     unfold execOp
     simp only[List.map_toArray,List.map_cons,List.map_nil,h42,how,Sem.run_bind,Sem.run_pure,Result.andThen_ok]
   · refine⟨rfl,fun z W W1 ⟨h2,h9⟩ hf=>⟨row_fr h2 hf (fun k hk ⟨j,hj,hj2,_⟩=>hj hj2),h9⟩,fun a W hA hb hd=>takes5_plain rfl ?_⟩
     have hs:a.eval (.tmp 37)=wv:=hd 4 (by simp) _ rfl
     obtain⟨GG2,he,hcb,hG⟩:=hd 10 (by simp) _ rfl
     have hx:a.eval (.tmp 43) = .slice (some ⟨GG2,0,none⟩) 1 1:=he
     have hown:=row_fr R3.out hb (fun k hk ⟨j,hj,hj2,_⟩=>hj hj2)
     have hone:∀u∈(wrC i b).toList,u.oneCell'=true:=wrC_one i b
     obtain⟨v1,W1,hrun,r1,r2,_,r3⟩:=run_append_own_at (P:=Tryz.prog) W B 123 123 170 i0' _ 257 264 Tryz.underlying123 hi0 hz0 hz1 hz2 (wrC_size 0 _ (zeros_len 256)) (by decide) wv D1.ws.length (D1.ws.flatMap wrV) hown ⟨GG2,0,none⟩ 1 1 (wrC i b).toList (by rw[Array.length_toList,wrC_size i b BL.out]) (row_at hcb) hone (by have:=WN.out;simp only[maxLen];omega) (by have:=WN.out;omega) (Nat.le_trans HW3.out hb.size)
     refine .inl ⟨v1,W1,?_,⟨r1,r3.imp id fun e=>⟨_,e,hb.size⟩⟩,(Fr.grown r2).imp fun k hk=>⟨rfl,hk⟩⟩
     unfold execOp
     simp only[resolve,invoke,builtin,Sem.run_bind,Sem.run_pure,Result.andThen_ok,List.map_toArray,List.map_cons,List.map_nil,hs,hx,hrun]
   · refine⟨rfl,IsR.monoF _ _,fun a W hA hb hd=>Takes.to5 (takes_plain rfl (yields_value _ ?_ rfl)) _⟩
     have h33:a.tmps[33]?.getD undef = .pointer (some ⟨d,0,none⟩):=(eval_get a 33).trans (hd 0 (by simp) _ rfl)
     go_simp
   · refine⟨rfl,IsR.monoF _ _,fun a W hA hb hd=>Takes.to5 (takes_plain rfl (yields_value _ ?_ rfl)) _⟩
     have h45:a.tmps[45]?.getD undef = .pointer (some ⟨d,0,none⟩):=(eval_get a 45).trans (hd 12 (by simp) _ rfl)
     go_simp
   intro vs w4 hR hb
   have RW:Hid (w4.ownsRow B 170 257 (vs 44) (D1.ws.length+1) (D1.ws.flatMap wrV++(wrC i b).toList)):=Lib.hid (hR 11 _ rfl).1
   have OW:Hid ((vs 44).ownBlock=wv.ownBlock∨∃k,(vs 44).ownBlock=some k∧w3.heap.size≤k):=Lib.hid (hR 11 _ rfl).2
   have e33:vs 33 = .pointer (some ⟨d,0,none⟩):=hR 0 _ rfl
   have e34:vs 34 = .pointer (some ⟨d,0,none⟩):=hR 1 _ rfl
   have e35:vs 35 = .pointer (some ⟨d,0,none⟩):=hR 2 _ rfl
   have e36:vs 36 = .pointer (some ⟨d,2,none⟩):=hR 3 _ rfl
   have e37:vs 37=wv:=hR 4 _ rfl
   have e38:vs 38 = .int .i64 (i:Int):=hR 5 _ rfl
   have e39:vs 39 = .slice (some x) 256 bc:=hR 6 _ rfl
   have e40:vs 40 = .pointer (some x):=hR 7 _ rfl
   have e41:vs 41 = .agg (bts b):=hR 8 _ rfl
   have e42:vs 42 = .agg (wrC i b):=hR 9 _ rfl
   have e45:vs 45 = .pointer (some ⟨d,0,none⟩):=hR 12 _ rfl
   have e46:vs 46 = .pointer (some ⟨d,2,none⟩):=hR 13 _ rfl
   simp only[List.map_cons,List.map_nil,List.foldl_cons,List.foldl_nil,List.length_cons,List.length_nil,List.drop_succ_cons,List.drop_zero,Act.put,List.setIfInBounds_toArray,List.set_cons_zero,List.set_cons_succ,e33,e34,e35,e36,e37,e38,e39,e40,e41,e42,e45,e46]
   have FR:Hid (Fr w3 w4 (fun k=>wv.ownBlock=some k)):=Lib.hid (hb.imp fun k ⟨j,_,hj⟩=>hj)
   clear hR hb e33 e34 e35 e36 e37 e38 e39 e40 e41 e42 e45 e46
   generalize vs 43=q43 at *
   generalize vs 44=q44 at *
   have X4:=Lib.hid (X3.out.fr FR.out ND.out)
   have hc:w4.cell? ⟨d,2,none⟩=some wv:=X4.out.cell (k:=2) rfl
   have hf:=X4.out.free 2
   obtain⟨A7,c7,rfl⟩:=row_shape RW.out
   obtain⟨Au,cu,rfl⟩:=row_shape R3.out
   go_wp2_with fail
   go_ret
   rw[WD.out]
   have hfg:=fr_setD w4 d 2 (.slice A7 (D1.ws.length+1) c7)
   have N4:∀k,(Value.slice A7 (D1.ws.length+1) c7).ownBlock=some k→¬k=d:=fun k hk e=>row_ne RW.out X4.out (by decide) (by rw[hk,e])
   refine⟨rfl,⟨.slice A7 (D1.ws.length+1) c7,⟨X4.out.set 2 _,?_,?_,?_,D2.out.ne,D2.out.low⟩,?_⟩,?_⟩
   · exact bk_fr (bk_fr K3.out FR.out (fun e=>row_ne9 R3.out K3.out (by decide) e rfl)) hfg (fun e=>bk_ne X3.out K3.out (by decide) e.symm)
   · exact bk_fr (bk_fr M3.out FR.out (fun e=>row_ne9 R3.out M3.out (by decide) e rfl)) hfg (fun e=>bk_ne X3.out M3.out (by decide) e.symm)
   · have:=row_fr RW.out hfg (fun k hk e=>N4 k hk e)
     have e1:(D1.ws++[(i,b)]).flatMap wrV=D1.ws.flatMap wrV++(wrC i b).toList:=by rw[List.flatMap_append,wrC_list];simp
     show (w4.setCell ⟨d,2,none⟩ (.slice A7 (D1.ws.length+1) c7)).ownsRow B 170 257 _ (D1.ws++[(i,b)]).length ((D1.ws++[(i,b)]).flatMap wrV)
     rw[e1,List.length_append,List.length_singleton]
     exact this
   · exact OW.out.imp id fun ⟨k,h1,h2⟩=>⟨k,h1,Nat.le_trans (Nat.le_trans F1.out.size (Nat.le_trans B2.out.size F3.out.size)) h2⟩
   · exact (F1.out.imp fun q hq=>.inl hq).trW (((Fr.of B2.out _).trW (F3.out.imp fun q hq=>.inr (.inl hq))).trW ((FR.out.imp fun q hq=>.inr (.inr hq)).trW (hfg.imp fun q hq=>.inl hq)))
set_option maxRecDepth 100000 in
theorem sync_any (h:DsB w B d g1 g2 wv D) (ok:D.Ok) (hst:D.st≤1000000000):
 Calls Tryz.prog 45 #[.pointer (some ⟨d,0,none⟩)] w fun e w'=>e = .returned (.int .i64 ((syncD D).1:Int))∧(∃wv',DsB w' B d g1 g2 wv' (syncD D).2∧(wv'.ownBlock=wv.ownBlock∨wv'.ownBlock=none))∧Fr w w' (fun q=>q=d∨q=g2):=by
 have HS:=Lib.hid (step_any h ok hst)
 have OK:=Lib.hid ok
 have SM:=Lib.hid (stepD_same D)
 clear h ok hst
 go_enter Tryz.func45,Tryz.ntmps45
 go_wp2_with fail
 refine HS.out.mono ?_
 rintro e w1 ⟨rfl,hds,hf⟩
 obtain⟨er,D1,hsd⟩:∃er D1,stepD D=(er,D1):=⟨_,_,rfl⟩
 rw[hsd] at hds SM⊢
 have DS:=Lib.hid hds
 have F1:=Lib.hid hf
 clear hds hf HS
 cases er with
 | succ e=>
   have hne:((e+1:Nat):Int) != 0:=by simp;omega
   have hne2:¬((e+1:Nat):Int)=0:=by omega
   have WD:Hid (syncD D=(e+1,D1)):=Lib.hid (by unfold syncD;rw[hsd])
   clear hsd
   go_wp2_with fail
   go_ret
   rw[WD.out]
   exact⟨rfl,⟨wv,DS.out,.inl rfl⟩,F1.out.imp fun q hq=>.inl hq⟩
 | zero =>
   have WD:Hid (syncD D=(0,{ D1 with firm:=D1.now,ws:=[] })):=Lib.hid (by unfold syncD;rw[hsd])
   have LN:Hid (D1.now.length=D1.n*256):=Lib.hid (by rw[SM.out.2.1,SM.out.1];exact OK.out.now)
   have LF:Hid (D1.firm.length=D1.n*256):=Lib.hid (by rw[SM.out.2.2.1,SM.out.1];exact OK.out.firm)
   clear hsd
   go_upto_region 6 with (fail)
   refine wp_wide3 [⟨11,IsR (.pointer (some ⟨d,0,none⟩)),[],false⟩,⟨12,IsR (.pointer (some ⟨d,0,none⟩)),[0],false⟩,⟨13,IsR (.pointer (some ⟨d,1,none⟩)),[1],false⟩,⟨14,IsR (.slice (some ⟨g2,0,none⟩) D1.n D1.n),[2],false⟩,⟨15,IsR (.pointer (some ⟨d,0,none⟩)),[],false⟩,⟨16,IsR (.pointer (some ⟨d,0,none⟩)),[4],false⟩,⟨17,IsR (.pointer (some ⟨d,0,none⟩)),[5],false⟩,⟨18,IsR (.slice (some ⟨g1,0,none⟩) D1.n D1.n),[6],false⟩] (by kernel_rfl) (by kernel_rfl) rfl rfl rfl ⟨?_,?_,?_,?_,?_,?_,?_,?_,trivial⟩ ?_
   · refine⟨rfl,IsR.mono _,fun a W hA hb hd=>takes_plain rfl (yields_value _ ?_ rfl)⟩
     have h0:a.tmps[0]?.getD undef = .pointer (some ⟨d,0,none⟩):=(eval_get a 0).trans ((hA.eval (by simp)).trans rfl)
     go_simp
   · refine⟨rfl,IsR.mono _,fun a W hA hb hd=>takes_plain rfl (yields_value _ ?_ rfl)⟩
     have h11:a.tmps[11]?.getD undef = .pointer (some ⟨d,0,none⟩):=(eval_get a 11).trans (hd 0 (by simp) _ rfl)
     go_simp
   · refine⟨rfl,IsR.mono _,fun a W hA hb hd=>takes_plain rfl (yields_value _ ?_ rfl)⟩
     have h12:a.tmps[12]?.getD undef = .pointer (some ⟨d,0,none⟩):=(eval_get a 12).trans (hd 1 (by simp) _ rfl)
     go_simp
   · refine⟨rfl,IsR.mono _,fun a W hA hb hd=>takes_plain rfl (yields_value _ ?_ rfl)⟩
     have h13:a.tmps[13]?.getD undef = .pointer (some ⟨d,1,none⟩):=(eval_get a 13).trans (hd 2 (by simp) _ rfl)
     have hc:W.cell? ⟨d,1,none⟩=some (.slice (some ⟨g2,0,none⟩) D1.n D1.n):=(DS.out.ab hb).box.cell (k:=1) rfl
     go_simp
   · refine⟨rfl,IsR.mono _,fun a W hA hb hd=>takes_plain rfl (yields_value _ ?_ rfl)⟩
     have h0:a.tmps[0]?.getD undef = .pointer (some ⟨d,0,none⟩):=(eval_get a 0).trans ((hA.eval (by simp)).trans rfl)
     go_simp
   · refine⟨rfl,IsR.mono _,fun a W hA hb hd=>takes_plain rfl (yields_value _ ?_ rfl)⟩
     have h15:a.tmps[15]?.getD undef = .pointer (some ⟨d,0,none⟩):=(eval_get a 15).trans (hd 4 (by simp) _ rfl)
     go_simp
   · refine⟨rfl,IsR.mono _,fun a W hA hb hd=>takes_plain rfl (yields_value _ ?_ rfl)⟩
     have h16:a.tmps[16]?.getD undef = .pointer (some ⟨d,0,none⟩):=(eval_get a 16).trans (hd 5 (by simp) _ rfl)
     go_simp
   · refine⟨rfl,IsR.mono _,fun a W hA hb hd=>takes_plain rfl (yields_value _ ?_ rfl)⟩
     have h17:a.tmps[17]?.getD undef = .pointer (some ⟨d,0,none⟩):=(eval_get a 17).trans (hd 6 (by simp) _ rfl)
     have hc:W.cell? ⟨d,0,none⟩=some (.slice (some ⟨g1,0,none⟩) D1.n D1.n):=(DS.out.ab hb).box.cell (k:=0) rfl
     go_simp
   intro vs w2 hR hF hb
   have e11:vs 11 = .pointer (some ⟨d,0,none⟩):=hR 0 _ rfl
   have e12:vs 12 = .pointer (some ⟨d,0,none⟩):=hR 1 _ rfl
   have e13:vs 13 = .pointer (some ⟨d,1,none⟩):=hR 2 _ rfl
   have e14:vs 14 = .slice (some ⟨g2,0,none⟩) D1.n D1.n:=hR 3 _ rfl
   have e15:vs 15 = .pointer (some ⟨d,0,none⟩):=hR 4 _ rfl
   have e16:vs 16 = .pointer (some ⟨d,0,none⟩):=hR 5 _ rfl
   have e17:vs 17 = .pointer (some ⟨d,0,none⟩):=hR 6 _ rfl
   have e18:vs 18 = .slice (some ⟨g1,0,none⟩) D1.n D1.n:=hR 7 _ rfl
   simp only[List.map_cons,List.map_nil,List.foldl_cons,List.foldl_nil,List.length_cons,List.length_nil,List.drop_succ_cons,List.drop_zero,Act.put,List.setIfInBounds_toArray,List.set_cons_zero,List.set_cons_succ,e11,e12,e13,e14,e15,e16,e17,e18]
   have D2:=Lib.hid (DS.out.ab hb)
   have B2:=Lib.hid hb
   clear hR hF hb e11 e12 e13 e14 e15 e16 e17 e18
   go_wp2_with (first
    | (refine wpList_copyBlk (o:=⟨some 19,.call { callee:=.builtin .copy,args:=#[.tmp 14,.tmp 18],argTypes:=_ },_,_,_,_⟩) rfl (.tmp 14) (.tmp 18) rfl g2 g1 D1.n rfl rfl D2.out.firm D2.out.now LF.out LN.out ?_
       intro w3 hk3 hf3
       have K3:=Lib.hid hk3
       have F3:=Lib.hid hf3
       have N2:=Lib.hid (bk_ne D2.out.box D2.out.firm (by decide))
       have X3:=D2.out.box.fr hf3 (fun e=>N2.out e)
       have c2:w3.cell? ⟨d,2,none⟩=some wv:=X3.cell (k:=2) rfl
       have f2:=X3.free 2
       have B3:=Lib.hid X3
       clear hk3 hf3 X3))
   go_wp2_with fail
   go_ret
   rw[WD.out]
   have hfg:=fr_setD w3 d 2 (.slice none 0 0)
   refine⟨rfl,⟨.slice none 0 0,⟨B3.out.set 2 _,?_,?_,World.ownsRow_nil _ _ _ _,D2.out.ne,D2.out.low⟩,.inr rfl⟩,?_⟩
   · exact bk_fr (bk_fr D2.out.now F3.out (fun e=>D2.out.ne e)) hfg (fun e=>bk_ne D2.out.box D2.out.now (by decide) e.symm)
   · exact bk_fr K3.out hfg (fun e=>N2.out e.symm)
   · exact (F1.out.imp fun q hq=>.inl hq).trW (((Fr.of B2.out _).trW (F3.out.imp fun q hq=>.inr hq)).trW (hfg.imp fun q hq=>.inl hq))
end
theorem exec_allocD {P:Program} {r:Operand→Value} {o:Oper} (T:TypeId) (ho:o.op = .alloc T) (i:TypeInfo) (z:Value) (hi:P.info? T=some i) (hz:i.zero=some z) (W:World):
 (execOp r o).run P W = .ok (.value (.pointer (some ⟨W.heap.size,0,none⟩))) (W.alloc (.cells z.cells T)):=by
 unfold execOp
 simp[ho,Instr.alloc,zeroValue,typeInfo,hi,hz,newVar,go_sem]
theorem wpList_allocD {ops:Array Oper} {rest:List Oper} {o:Oper} {a:Act} {w:World} {Q:Exit→Act→World→Prop} (hgd:o.guard=none) (T:TypeId) (ho:o.op = .alloc T) (n:Nat)
 (hz:(Tryz.prog.info? T).map (·.zero)=some (some (.agg (bts (zeros n)))))
 (h:wpList Tryz.prog ops Q rest (a.put o.dst (.pointer (some ⟨w.heap.size,0,none⟩))) (w.alloc (.cells (bts (zeros n)) T))):wpList Tryz.prog ops Q (o::rest) a w:=by
 refine wpList_plain hgd fun K hK=>?_
 cases hi:Tryz.prog.info? T with
 | none=>rw[hi] at hz;cases hz
 | some i=>
   rw[hi] at hz
   have hz':i.zero=some (.agg (bts (zeros n))):=by simpa using hz
   have hrun:=exec_allocD (r:=a.eval) T ho i _ hi hz' w
   unfold Oper.wp
   rw[hrun]
   exact hK _ _ h
section
variable {w:World} {B d g1 g2:Nat} {wv:Value} {D:DvS}
set_option maxRecDepth 100000 in
theorem read_down (i:Nat) (hi:i<D.n) (hd:D.down=true) (h:DsB w B d g1 g2 wv D):
 Calls Tryz.prog 22 #[.pointer (some ⟨d,0,none⟩),.int .i64 (i:Int)] w fun e w'=>e = .returned (.tuple #[.slice none 0 0,.int .i64 81])∧w=w':=by
 have HH:=Lib.hid (has_yes i hi h)
 have c6:w.cell? ⟨d,6,none⟩=some (.bool D.down):=h.box.cell (k:=6) rfl
 rw[hd] at c6
 clear h hi hd
 go_enter Tryz.func22,Tryz.ntmps22
 go_wp2_with fail
 refine HH.out.mono ?_
 rintro e w1 ⟨rfl,rfl⟩
 go_wp2_with fail
 go_ret2
 exact⟨rfl,rfl⟩
set_option maxRecDepth 100000 in
theorem read_any (i:Nat) (hi:i<D.n) (hd:D.down=false) (ok:D.Ok) (h:DsB w B d g1 g2 wv D):
 Calls Tryz.prog 22 #[.pointer (some ⟨d,0,none⟩),.int .i64 (i:Int)] w fun e w'=>∃g,e = .returned (.tuple #[.slice (some ⟨g,0,none⟩) 256 256,.int .i64 0])∧w.heap.size≤g∧IsB w' (some ⟨g,0,none⟩) 256 256 (blkL D.now i)∧Below w.heap.size w w':=by
 have HH:=Lib.hid (has_yes i hi h)
 have c6:w.cell? ⟨d,6,none⟩=some (.bool D.down):=h.box.cell (k:=6) rfl
 rw[hd] at c6
 have c0:w.cell? ⟨d,0,none⟩=some (.slice (some ⟨g1,0,none⟩) D.n D.n):=h.box.cell (k:=0) rfl
 have i0:(0:Int)≤(i:Int):=by omega
 have i1:(i:Int)<(D.n:Int):=by omega
 have HD:=Lib.hid h
 have OK:=Lib.hid ok
 have BL:=Lib.hid (blkL_lenN ok.now hi)
 clear h ok hd
 go_enter Tryz.func22,Tryz.ntmps22
 go_wp2_with fail
 refine HH.out.mono ?_
 rintro e w1 ⟨rfl,rfl⟩
 clear HH
 go_wp2_with (first
  | (with_reducible refine wpList_loadSub (o:=⟨some 26,.load _ _,_,_,_,_⟩) ?_ 121 (.tmp 25) ?_ ⟨g1,i*256,none⟩ ?_ (bts (blkL D.now i)) (.array 256 5) (HD.out.now.sub i) Tryz.underlying121 ?_ ?_ ?_
     · rfl
     · rfl
     · rfl
     · rfl
     · rw[bts_size,BL.out];exact szBlkD)
  | (with_reducible refine wpList_allocD (o:=⟨some 6,.alloc _,_,_,_,_⟩) ?_ 121 ?_ 256 zeroBlkD ?_
     · rfl
     · rfl)
  | (with_reducible refine wpList_storeN (o:=⟨none,.store _ (.tmp 6) (.tmp 26),_,_,_,_⟩) ?_ 121 (.tmp 6) (.tmp 26) ?_ w.heap.size ?_ (blkL D.now i) ?_ (Bk.new w 121 (zeros 256)) ?_ ?_ ?_
     · rfl
     · rfl
     · rfl
     · rfl
     · rw[BL.out];exact szBlkD
     · rw[BL.out];rfl
     intro w2 hw2))
 go_ret2
 exact⟨_,rfl,Nat.le_refl _,isB_whole ((Bk.new _ _ _).row _) (blkL_byt OK.out.bnow) BL.out (by decide),Below.row ((Below.refl _ _).alloc (Nat.le_refl _) _) (Nat.le_refl _) _⟩
end
theorem set_fill19 (f:Nat):∀(j n:Nat),j<n→(List.replicate j f++List.replicate (n-j) 0).set j f=List.replicate (j+1) f++List.replicate (n-(j+1)) 0:=fun j n h=>by
 rw[List.set_append_right _ _ (by simp)]
 simp only[List.length_replicate,Nat.sub_self]
 obtain⟨m,hm⟩:∃m,n-j=m+1:=⟨n-j-1,by omega⟩
 rw[hm,show n-(j+1)=m by omega,List.replicate_succ,List.set_cons_zero,List.replicate_succ',List.append_assoc]
 rfl
theorem wpList_makeB19 {rest:List Oper} {ops:Array Oper} {o:Oper} {a:Act} {w:World} {Q:Exit→Act→World→Prop} (hgd:o.guard=none) (n:Nat) (hn:n≤281474976710656) (ho:o.op = .makeSlice 22 (.const (.int .i64 (n:Int))) (.const (.int .i64 (n:Int))))
 (h:∀w',Bk w' w.heap.size 5 (zeros n)→Below w.heap.size w w'→wpList Tryz.prog ops Q rest (a.put o.dst (.slice (some ⟨w.heap.size,0,none⟩) n n)) w'):wpList Tryz.prog ops Q (o::rest) a w:=by
 refine wpList_plain hgd fun K hK=>?_
 have:=make_u8 n n (Nat.le_refl _) hn w
 unfold Oper.wp execOp
 simp only[ho,Act.eval,this,Sem.run_bind,Result.andThen_ok,Sem.run_pure]
 exact hK _ _ (h _ (Bk.newAt _ (zeros n) rfl) ((Below.refl _ _).alloc (Nat.le_refl _) _))
set_option maxRecDepth 100000 in
theorem fill_any (x:Nat) (hx:x<256) (w:World):Calls Tryz.prog 9 #[.int .u8 (x:Int)] w fun e w'=>∃g,e = .returned (.slice (some ⟨g,0,none⟩) 224 224)∧w.heap.size≤g∧Bk w' g 5 (List.replicate 224 x)∧Below w.heap.size w w':=by
 have hx0:(0:Int)≤(x:Int):=by omega
 have hx1:(x:Int)<256:=by omega
 go_enter Tryz.func9,Tryz.ntmps9
 go_wp2_with (refine wpList_makeB19 rfl 224 (by decide) rfl ?_;intro w3 hk3 hb3;have P3:=Lib.hid hk3;have D3:=Lib.hid hb3;clear hk3 hb3)
 obtain⟨gp,hgp⟩:∃gp,w.heap.size=gp:=⟨_,rfl⟩
 rw[hgp] at P3 D3⊢
 have HG:=Lib.hid hgp
 clear hgp
 go_loopw [8] (fun z wx=>∃j:Nat,j≤224∧z = .int .i64 (j:Int)∧Bk wx gp 5 (List.replicate j x++List.replicate (224-j) 0)∧Below gp w wx) (fun z _=>224-(intOf z).toNat)
 case atStart=>exact⟨0,Nat.zero_le _,rfl,P3.out,D3.out⟩
 case round=>
  obtain⟨j,hj,rfl,hbk,hbx⟩:=hrel
  by_cases hjl:j<224
  · have hjlt:(j:Int)<224:=by omega
    have hj0:(0:Int)≤(j:Int):=by omega
    have hc0:=hbk.cell (k:=j) (by simp;omega)
    have hf0:=hbk.free j
    have HK:=Lib.hid (hbk.set j x)
    have HX:=Lib.hid hbx
    have HJ:=Lib.hid hjl
    clear hbk hbx hjl hj
    go_wp2_with fail
    go_roundw
    case rel=>exact⟨j+1,HJ.out,by go_num,by rw[←set_fill19 x j 224 HJ.out];exact HK.out,HX.out.setCell (show gp≤(⟨gp,j,none⟩:Addr).block from Nat.le_refl _) _⟩
    case measure=>simp[intOf];have:=HJ.out;omega
  · obtain rfl:j=224:=by omega
    rw[Nat.sub_self,List.replicate_zero,List.append_nil] at hbk
    have P4:=Lib.hid hbk
    have D4:=Lib.hid hbx
    clear hbk hbx hjl hj
    go_wp2_with fail
    go_ret
    exact⟨gp,rfl,by rw[HG.out];exact Nat.le_refl _,P4.out,by rw[HG.out];exact D4.out⟩
end Go.Proofs.YtljmiiiidjeggaaGreat
