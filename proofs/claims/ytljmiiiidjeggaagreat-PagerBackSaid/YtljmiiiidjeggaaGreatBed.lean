/-
  Parts of the proof, joined.
-/
import Derived.Test.YtljmiiiidjeggaaGreatBdy
import Derived.Test.YtljmiiiidjeggaaGreatBec
import Derived.Deep.QuietTactic
import Derived.BigQuiet
namespace Go.Proofs.YtljmiiiidjeggaaGreat
set_option maxHeartbeats 4000000
open Go.RowKit
set_option linter.unusedVariables false
set_option linter.unusedSimpArgs false
theorem one_key {w:World} {kA:Option Addr} {kn kc:Nat} {key:List Nat} (h:IsB w kA kn kc key):KsB (w.alloc (.cells #[.int .u32 1,.int .u16 3,.slice kA kn kc] 30)) (some ⟨w.heap.size,0,none⟩) 1 1 [⟨1,3,kA,kn,kc,key⟩] where
 len:=rfl
 cap:=Nat.le_refl _
 max:=by decide
 cel :=fun i q hq=>by
  have hi:i=0:=by
   have:=(List.getElem?_eq_some_iff.1 hq).1
   simp at this
   exact this
  subst hi
  simp only[List.getElem?_cons_zero,Option.some.injEq] at hq
  subst hq
  have hn:=CbB.new w 30 #[.int .u32 1,.int .u16 3,.slice kA kn kc]
  refine⟨⟨w.heap.size,0,none⟩,rfl,by simp,?_,?_,?_,by show 1<4294967296;decide,by show 3<65536;decide,h.ab ((Below.refl _ _).alloc (Nat.le_refl _) _)⟩
  · exact hn.cell (k:=0) rfl
  · exact hn.cell (k:=1) rfl
  · exact hn.cell (k:=2) rfl
theorem one_run {w:World}:RnB (w.alloc (.cells #[.int .u32 2,.int .u32 40] 33)) (some ⟨w.heap.size,0,none⟩) 1 1 [(2,40)]:=by
 obtain⟨A,c,h1,h2,_⟩:=(RuB.one w 2 40).rn
 injection h1 with e1 e2 e3
 subst e1 e3
 exact h2
theorem szRef9:(Tryz.prog.info? 37).map (·.size)=some (#[.int .u32 0,.int .u64 0,.int .u16 0]:Array Value).size:=by kernel_rfl
def RefR9 (N:Nat) (v:Value) (W:World):Prop:=∃G,v = .pointer (some ⟨G,0,none⟩)∧CbB W G 37 #[.int .u32 0,.int .u64 0,.int .u16 0]∧N≤G
theorem RefR9.mono {N:Nat}:Mono (RefR9 N):=fun _ _ _ ⟨G,h1,h2,h3⟩ hb=>⟨G,h1,h2.ab hb,h3⟩
def ShR9 (v:Value) (W:World):Prop:=∃(g:Nat),v = .slice (some ⟨g,0,none⟩) 224 224
theorem ShR9.mono:Mono ShR9:=fun _ _ _ h _=>h
def FilB (N b:Nat) (v:Value) (W:World):Prop:=∃g,v = .slice (some ⟨g,0,none⟩) 224 224∧IsB W (some ⟨g,0,none⟩) 224 224 (payB b)∧N≤g
def PutW (N:Nat) (O:Tgm) (p d rg lg:Nat) (T:PgP) (u v:Value) (W:World):Prop:=v=u∧∃O',PgM W O' p d rg lg T∧∀k,k<N→O' k=O k
theorem PutW.ab {N p d rg lg:Nat} {O:Tgm} {T:PgP} {u v:Value} {W W':World} (h:PutW N O p d rg lg T u v W) (hb:Below W.heap.size W W'):PutW N O p d rg lg T u v W':=by
 obtain⟨h1,O',h2,h3⟩:=h
 exact⟨h1,O',h2.wr (Wr.of hb (fun _=>False) (fun _ _=>rfl)) (fun _=>id) id,h3⟩
theorem new_one (key:List Nat):newP 1 [((1,3),key)]=(3,0):=by
 have h:U16.srt (gensK 1 ([((1,3),key)].map (·.1)))=[3]:=(show U16.srt [3]=[3] from List.mergeSort_singleton _)
 unfold newP
 rw[h]
 rfl
theorem szRefI (n:Nat):(Tryz.prog.info? 37).map (·.size)=some (#[.int .u32 (n:Int),.int .u64 7,.int .u16 3]:Array Value).size:=by kernel_rfl
def GetW (N:Nat) (O:Tgm) (p d rg lg:Nat) (T:PgP) (pay:List Nat) (v:Value) (W:World):Prop:=(∃x,v = .tuple #[x,.int .i64 0]∧OwB W N x pay)∧∃O',PgM W O' p d rg lg T∧∀k,k<N→O' k=O k
theorem FilB.mono {N b:Nat}:Mono (FilB N b):=fun _ _ _ ⟨g,h1,h2,h3⟩ hb=>⟨g,h1,h2.ab hb,h3⟩
theorem GetW.ab {N p d rg lg:Nat} {O:Tgm} {T:PgP} {pay:List Nat} {v:Value} {W W':World} (h:GetW N O p d rg lg T pay v W) (hb:Below W.heap.size W W'):GetW N O p d rg lg T pay v W':=by
 obtain⟨⟨x,h1,h2⟩,O',h3,h4⟩:=h
 exact⟨⟨x,h1,h2.ab hb⟩,O',h3.wr (Wr.of hb (fun _=>False) (fun _ _=>rfl)) (fun _=>id) id,h4⟩
def TupW (N:Nat) (pay:List Nat) (v:Value) (W:World):Prop:=∃x,v = .tuple #[x,.int .i64 0]∧OwB W N x pay
theorem knS_lens {fs:List Nat} {i:Nat}:∀q∈knS fs i,q.2.2.length≤65552:=fun q hq=>by
 unfold knS at hq
 obtain⟨k,_,rfl⟩:=List.mem_map.1 hq
 show (payB _).length≤65552
 rw[payB_len]
 decide
theorem infoRef9:(Tryz.prog.info? 37).map (fun i=>(i.zero,i.size,i.bytes))=some (some (.agg #[.int .u32 0,.int .u64 0,.int .u16 0]),3,24):=by kernel_rfl
theorem wpList_appF {rest:List Oper} {ops:Array Oper} {o:Oper} {a:Act} {w:World} {Q:Exit→Act→World→Prop} (hgd:o.guard=none) (s x:Operand)
 (ho:o.op = .call { callee:=.builtin .append,args:=#[s,x],argTypes:=#[45,45] })
 {B G i:Nat} {v:Value} (hown:RefsB w B v i) (hs:a.eval s=v) (hx:a.eval x = .slice (some ⟨G,0,none⟩) 1 1) (hG:CbB w G 37 #[.int .u32 ((2+i:Nat):Int),.int .u64 7,.int .u16 3]) (hl:i≤1000) (hB:B≤w.heap.size)
 (h:∀v' w',RefsB w' B v' (i+1)→w.grownBy w' v.ownBlock→(v'.ownBlock=v.ownBlock∨∃k,v'.ownBlock=some k∧w.heap.size≤k)→wpList Tryz.prog ops Q rest (a.put o.dst v') w'):wpList Tryz.prog ops Q (o::rest) a w:=by
 obtain⟨i0,hi0,hz0,hz1,hz2⟩:=info_parts infoRef9
 obtain⟨v1,W1,hrun,r1,r2,_,r4⟩:=run_append_own_at (P:=Tryz.prog) w B 45 o.type 37 i0 _ 3 24 Tryz.underlying45 hi0 hz0 hz1 hz2 rfl (by decide) v i _ hown ⟨G,0,none⟩ 1 1 [.int .u32 ((2+i:Nat):Int),.int .u64 7,.int .u16 3] rfl (row_at hG) (by simp[Value.oneCell']) (by simp only[maxLen];omega) (by omega) hB
 refine wpList_plain hgd fun K hK=>?_
 unfold Oper.wp
 simp[execOp,ho,resolve,invoke,builtin,hs,hx,hrun,Result.andThen]
 refine hK _ _ (h v1 W1 ?_ r2 ?_)
 · unfold RefsB
   rw[refsS_succ,refVs_app]
   exact r1
 · rcases r4 with r4 | r4
   · exact .inl r4
   · exact .inr ⟨_,r4,Nat.le_refl _⟩
theorem PlM.tag6 {w w':World} {O O':Tgm} {x p d rg lg:Nat} {cs:Array Value} {T:PgP} {D:DvS} {R:RgL} {al:List Sl} (h:PlM w O x p d rg lg cs T D R al) (s:Wr (fun τ=>τ=(0,6)) w O w' O'):PlM w' O' x p d rg lg cs T D R al:=
 have h0:=h.pos
 ⟨CbB.fr h.box s.fr (fun e=>by rw[h.tx] at e;cases e),(s.tg _ h.box.lt).trans h.tx,h.pg.wr s (fun i e=>by injection e with e;omega) (fun e=>by cases e),h.dv.wr s (fun e=>by cases e),h.ri.wr s (fun e=>by cases e) (fun e=>by cases e),h.lo.wr s (fun e=>by cases e)⟩
theorem pu_ok9 {fs:List Nat} {n:Nat} (h:n≤30):PuOk 40 (bkT fs n):=fun x hx=>by
 change x∈puS n at hx
 unfold puS at hx
 obtain⟨j,hj,rfl⟩:=List.mem_map.1 hx
 have hj':=List.mem_range.1 hj
 refine⟨by show 2+j<40;omega,(lbJ j,payB (fs.getD j 0)),getK_knS hj',payB_len _,by show 1≤1;decide,by show 1≤3;decide⟩
def NewQ (N:Nat) (O:Tgm) (d rg lg:Nat) (T:PgP) (f:Nat→Value) (v:Value) (W:World):Prop:=∃q O',v=f q∧N≤q∧PgM W O' q d rg lg T∧∀k,k<N→O' k=O k
theorem NewQ.mono {N d rg lg:Nat} {O:Tgm} {T:PgP} {f:Nat→Value}:Mono (NewQ N O d rg lg T f):=fun v W W' ⟨q,O',h1,h2,h3,h4⟩ hb=>⟨q,O',h1,h2,h3.wr (Wr.of hb (fun _=>False) (fun _ _=>rfl)) (fun _=>id) id,h4⟩
def RunW (N:Nat) (l:RnL) (v:Value) (W:World):Prop:=RuB W N v l
theorem RunW.mono {N:Nat} {l:RnL}:Mono (RunW N l):=fun v W W' h hb=>RuB.ab h hb
theorem frNew_sd {n:Nat} (h:n≤30):frNew 40 (mkR (2+n) 40)=true:=by
 unfold mkR
 rw[if_pos (by omega)]
 unfold frNew
 simp
 omega
theorem foldK_yes {t g:Nat} {A:Option Addr} {n c:Nat} {k:List Nat} (h:KeyOk k):foldK [] [⟨t,g,A,n,c,k⟩]=[((t,g),k)]:=by
 unfold KeyOk at h
 unfold foldK foldK addP
 rw[if_pos h]
 rfl
theorem foldK_no {t g:Nat} {A:Option Addr} {n c:Nat} {k:List Nat} (h:¬KeyOk k):foldK [] [⟨t,g,A,n,c,k⟩]=[]:=by
 unfold KeyOk at h
 unfold foldK foldK addP
 rw[if_neg h]
theorem add_at9 (g j:Nat):(⟨g,0,none⟩:Addr).add j=⟨g,j,none⟩:=by unfold Addr.add;split <;> simp_all
theorem row_cells9 {W:World} {B n s:Nat} {e:TypeId} {A:Option Addr} {m c:Nat} {xs:List Value} (h:W.ownsRow B e s (.slice A m c) n xs) (hn:0<n):∃g,A=some ⟨g,0,none⟩∧∀(j:Nat) (u:Value),xs[j]? = some u→W.cell? ⟨g,j,none⟩=some u:=by
 rcases h.2 with ⟨_,h0⟩ | ⟨g,cap,cur,e1,hb,hg,h3,h4,h5,h6⟩
 · omega
 · simp only[Value.slice.injEq] at e1
   refine⟨g,e1.1,fun j u hj=>?_⟩
   have hjl:j<n*s:=by have:=(List.getElem?_eq_some_iff.1 hj).1;rw[h.1] at this;exact this
   have h7:(cur.toList.take (n*s))[j]? = some u:=by rw[h6];exact hj
   rw[List.getElem?_take_of_lt hjl] at h7
   rw[cell_of_row W g j _ _ (0,0) hg]
   simpa using h7
theorem refs_at {w:World} {B i c k:Nat} {A:Option Addr} (h:RefsB w B (.slice A i c) i) (hk:k<i):∃x,A=some x∧x.block<w.heap.size∧w.cell? (x.add (k*3))=some (.int .u32 ((2+k:Nat):Int))∧w.cell? ⟨(x.add (k*3)).block,(x.add (k*3)).off+1,none⟩=some (.int .u64 7)∧w.cell? ⟨(x.add (k*3)).block,(x.add (k*3)).off+2,none⟩=some (.int .u16 3):=by
 obtain⟨g,rfl,hc⟩:=row_cells9 h (by omega)
 obtain⟨a,b,c⟩:=refVs_at (refsS i) k _ (refsS_at hk)
 refine⟨_,rfl,row_ltD h g rfl,?_,?_,?_⟩ <;> rw[add_at9]
 · exact hc _ _ a
 · exact hc _ _ b
 · exact hc _ _ c
structure LpB (w wr:World) (O:Tgm) (x q d rg lg:Nat) (cs:Array Value) (T:PgP) (D:DvS) (R:RgL) (al:List Sl) (v:Value) (i:Nat):Prop where
 rf:RefsB wr w.heap.size v i
 tg:∀j,v.ownBlock=some j→O j=(0,6)
 pl:PlM wr O x q d rg lg cs T D R al
 bl:Below w.heap.size w wr
 ol:∀j,j<w.heap.size→O j=(0,9)
section
variable {w wr w':World} {O O':Tgm} {x q d rg lg i:Nat} {cs:Array Value} {T T':PgP} {D:DvS} {R:RgL} {al:List Sl} {v:Value} {P:Nat×Nat→Prop}
theorem LpB.ab (h:LpB w wr O x q d rg lg cs T D R al v i) (hb:Below wr.heap.size wr w'):LpB w w' (cutO O wr.heap.size) x q d rg lg cs T D R al v i:=
 ⟨row_fr h.rf (Fr.of hb (fun _=>False)) (fun _ _ h=>h),fun k hk=>(cutO_old (row_ltD h.rf k hk)).trans (h.tg k hk),h.pl.ab hb,below_tr h.bl hb h.bl.size,fun k hk=>(cutO_old (Nat.lt_of_lt_of_le hk h.bl.size)).trans (h.ol k hk)⟩
theorem LpB.pgs (h:LpB w wr O x q d rg lg cs T D R al v i) (s:Wr P wr O w' O') (hP:∀τ,P τ→τ.1=q) (hp:PgM w' O' q d rg lg T'):LpB w w' O' x q d rg lg cs T' D R al v i:=
 have h0:=h.pl.pos
 have hn:∀i,¬P (0,i):=fun i e=>by have e':(0:Nat)=q:=hP _ e;omega
 ⟨row_fr h.rf s.fr (fun k hk e=>hn 6 (by rw[←h.tg k hk];exact e)),fun k hk=>(s.tg k (row_ltD h.rf k hk)).trans (h.tg k hk),h.pl.pgs s hP hp,s.below h.bl h.bl.size (fun k hk e=>hn 9 (by rw[←h.ol k hk];exact e)),fun k hk=>(s.tg k (Nat.lt_of_lt_of_le hk h.bl.size)).trans (h.ol k hk)⟩
end
theorem puS_bd {i:Nat} (h:i≤30):∀x∈puS i,1<x.1∧x.1<40:=fun x hx=>by
 unfold puS at hx
 obtain⟨j,hj,rfl⟩:=List.mem_map.1 hx
 have:=List.mem_range.1 hj
 exact⟨by show 1<2+j;omega,by show 2+j<40;omega⟩
theorem not_fl {q i:Nat} (h0:0<q) (h1:i≠1) (h2:i≠2):¬(((0,i):Nat×Nat)=(0,1)∨((0,i):Nat×Nat)=(0,2)∨((0,i):Nat×Nat)=(q,1)):=fun e=>by
 rcases e with e | e | e <;> (injection e with e1 e2;omega)
theorem not_sc {q i:Nat} (h0:0<q) (h1:i≠1):¬(((0,i):Nat×Nat)=(0,1)∨((0,i):Nat×Nat).1=q):=fun e=>by
 rcases e with e | e
 · injection e with e1 e2;omega
 · have e':(0:Nat)=q:=e;omega
theorem far9 (fs:List Nat) {n k m:Nat} (h:k<n):hasR (drT fs n m).fr (2+k)=false:=has_far (Rgt.mk (2+n) 40).right fun r hr=>by
 rw[(mkR_mem hr).1];left;show 2+k<2+n;omega
theorem drop_two {w W:World} {O:Tgm} {x q d rg lg i k n cm gn:Nat} {cs:Array Value} {fs key:List Nat} {D:DvS} {R:RgL} {al:List Sl} {v:Value} (hk:k<i) (h30:i≤30) (hD:Dv9 key fs i D) (h:LpB w W O x q d rg lg cs (drT fs i k) D R al v i) (hG:CbB W n 37 #[.int .u32 ((2+k:Nat):Int),.int .u64 (cm:Int),.int .u16 (gn:Int)]) (ht:O n=(0,0)):
 Calls Tryz.prog 17 #[.pointer (some ⟨q,0,none⟩),.agg #[.int .u32 ((2+k:Nat):Int),.int .u64 (cm:Int),.int .u16 (gn:Int)]] W fun e W1=>∃O1,e = .returned (.int .i64 0)∧LpB w W1 O1 x q d rg lg cs (drT fs i (k+1)) D R al v i∧CbB W1 n 37 #[.int .u32 ((2+k:Nat):Int),.int .u64 (cm:Int),.int .u16 (gn:Int)]∧
  Calls Tryz.prog 17 #[.pointer (some ⟨q,0,none⟩),.agg #[.int .u32 ((2+k:Nat):Int),.int .u64 (cm:Int),.int .u16 (gn:Int)]] W1 fun e W2=>e = .returned (.int .i64 7)∧LpB w W2 (cutO O1 W1.heap.size) x q d rg lg cs (drT fs i (k+1)) D R al v i:=by
 have hn:1<2+k∧2+k<D.n∧2+k<4096:=by rw[hD.n40];omega
 have hp:=h.pl.pos
 refine (drop_new (2+k) cm gn h.pl.pg h.pl.dv rfl ⟨by show ¬8=0;decide,rfl⟩ hn (lookL_puS_none (Nat.le_refl k)) (far9 fs hk) rfl).mono ?_
 rintro e W1 ⟨O1,rfl,h1,h2⟩
 rw[drop_step] at h1
 have h3:=h.pgs h2 (fun τ h=>h) h1
 refine⟨O1,rfl,h3,CbB.fr hG h2.fr (fun e=>by rw[ht] at e;have e':(0:Nat)=q:=e;omega),?_⟩
 refine (drop_wait (2+k) cm gn h3.pl.pg h3.pl.dv rfl ⟨by show ¬8=0;decide,rfl⟩ hn (lookL_puS (Nat.lt_succ_self k))).mono ?_
 rintro e W2 ⟨rfl,h4⟩
 exact⟨rfl,h3.ab h4⟩
set_option maxRecDepth 100000 in
theorem pback_walk (kA:Option Addr) (kn kc:Nat) (zk:List Int) (fA:Option Addr) (fn fc:Nat) (zf:List Int) (w:World) (hk0:IsRow .u8 w kA kn kc zk) (_:kc*1≤140737488351232) (hf0:IsRow .u8 w fA fn fc zf) (_:fc*1≤140737488351232):
 Calls Tryz.prog 3 #[.slice kA kn kc,.slice fA fn fc] w fun e w'=>e = .returned (.bool true)∧Below w.heap.size w w':=by
 obtain⟨key,rfl,hkb⟩:=byt_of_row hk0
 obtain⟨fs,rfl,hfb⟩:=byt_of_row hf0
 have IK:Hid (IsB w kA kn kc key):=Lib.hid ⟨hk0,hkb⟩
 have IF:Hid (IsB w fA fn fc fs):=Lib.hid ⟨hf0,hfb⟩
 have BY:=Lib.hid (And.intro hkb hfb)
 clear hk0 hf0 hkb hfb
 by_cases h30:30<fn
 · have h30i:(30:Int)<(fn:Int):=by omega
   clear h30
   go_enter Tryz.func3,Tryz.ntmps3
   go_wp2_with fail
   refine (known19_any w).mono ?_
   rintro e w1 ⟨rfl,hb⟩
   go_wp2_with fail
   go_ret
   exact⟨rfl,hb⟩
 have h30i:¬(30:Int)<(fn:Int):=by omega
 have H30:=Lib.hid h30
 clear h30
 have A1:Hid (Below w.heap.size w (w.alloc (.cells #[.int .u32 1,.int .u16 3,.slice kA kn kc] 30))):=Lib.hid ((Below.refl _ _).alloc (Nat.le_refl _) _)
 have K1:=Lib.hid (one_key IK.out)
 have A2:Hid (Below (w.alloc (.cells #[.int .u32 1,.int .u16 3,.slice kA kn kc] 30)).heap.size (w.alloc (.cells #[.int .u32 1,.int .u16 3,.slice kA kn kc] 30)) ((w.alloc (.cells #[.int .u32 1,.int .u16 3,.slice kA kn kc] 30)).alloc (.cells #[.int .u32 2,.int .u32 40] 33))):=Lib.hid ((Below.refl _ _).alloc (Nat.le_refl _) _)
 have R2:=Lib.hid (one_run (w:=w.alloc (.cells #[.int .u32 1,.int .u16 3,.slice kA kn kc] 30)))
 have es:(w.alloc (.cells #[.int .u32 1,.int .u16 3,.slice kA kn kc] 30)).heap.size=w.heap.size+1:=by simp
 rw[es] at R2
 have K2:=Lib.hid (K1.out.below A2.out)
 have B2:=Lib.hid (below_tr A1.out A2.out A1.out.size)
 clear A1 A2 K1 es
 go_enter Tryz.func3,Tryz.ntmps3
 go_wp2_with fail
 obtain⟨w2,hw2⟩:∃w2,(w.alloc (.cells #[.int .u32 1,.int .u16 3,.slice kA kn kc] 30)).alloc (.cells #[.int .u32 2,.int .u32 40] 33)=w2:=⟨_,rfl⟩
 rw[hw2] at R2 K2 B2⊢
 clear hw2
 have HB:=Lib.hid (began19_any (nb:=40) K2.out R2.out (fun r hr=>by rw[List.mem_singleton.1 hr];decide) (by decide) (by decide) (by decide) (by decide) (by decide))
 refine HB.out.mono ?_
 rintro e w3 (⟨rfl,_,hb3⟩ | ⟨h64,hbg⟩)
 · have B3:=Lib.hid (below_tr B2.out hb3 B2.out.size)
   clear hb3 R2 K2
   go_wp2_with fail
   refine (known19_any w3).mono ?_
   rintro e w4 ⟨rfl,hb⟩
   have B4:=Lib.hid (below_tr B3.out hb B3.out.size)
   clear hb
   go_wp2_with fail
   go_ret
   exact⟨rfl,B4.out⟩
 obtain⟨x,p,d,rg,lg,gw,O3,rfl,hx,hp,hd,hr,hl,hxt,hlo,hb3⟩:=hbg
 have B3:=Lib.hid (below_tr B2.out hb3 B2.out.size)
 have OL:Hid (∀k,k<w.heap.size→O3 k=(0,9)):=Lib.hid fun k hk=>hlo k (Nat.lt_of_lt_of_le hk B2.out.size)
 have LN:Hid (key.length=kn):=Lib.hid IK.out.len
 by_cases hko:KeyOk key
 · rw [foldK_yes hko] at hr
   have P3:Hid (PlM w3 O3 x p d rg lg _ _ _ _ _):=Lib.hid ⟨hx,hxt,hp,hd,hr,hl⟩
   have KO:=Lib.hid hko
   clear hx hp hd hr hl hxt hlo hb3 R2 K2 h64 B2
   have k16:kn=16∨kn=32:=by have:=LN.out;unfold KeyOk at hko;omega
   have c3:w3.cell? ⟨x,3,none⟩=some (.pointer (some ⟨p,0,none⟩)):=P3.out.box.cell (k:=3) rfl
   have HBG:=Lib.hid (beginM (n:=7) P3.out.pg (by decide) rfl rfl (by show 0<7;decide))
   clear hko
   rcases k16 with rfl | rfl
   all_goals
    go_wp2_with fail
    refine HBG.out.mono ?_
    rintro e w4 ⟨O4,rfl,hp4,hw4⟩
    have P4:=Lib.hid (P3.out.pgs hw4 (fun τ hτ=>by rw[hτ]) hp4)
    have OL4:Hid (∀k,k<w.heap.size→O4 k=(0,9)):=Lib.hid fun k hk=>(hw4.tg k (Nat.lt_of_lt_of_le hk B3.out.size)).trans (OL.out k hk)
    have B4:Hid (Below w.heap.size w w4):=Lib.hid (hw4.below B3.out B3.out.size (fun k hk h=>by rw[OL.out k hk] at h;injection h with _ h;cases h))
    clear hp4 hw4 HBG c3
    go_wp2_with fail
    go_loopw [9,74] (fun v z wr=>∃(i:Nat) (O1:Tgm),i≤fn∧z = .int .i64 (i:Int)∧RefsB wr w.heap.size v i∧(∀k,v.ownBlock=some k→O1 k=(0,6))∧PlM wr O1 x p d rg lg #[.pointer (some ⟨d,0,none⟩),.pointer (some ⟨rg,0,none⟩),.pointer (some ⟨lg,0,none⟩),.pointer (some ⟨p,0,none⟩),.pointer (some ⟨gw,0,none⟩),.slice none 0 0,.slice none 0 0] (bkT fs i) (newD 40) [((1,3),key)] []∧Below w.heap.size w wr∧∀k,k<w.heap.size→O1 k=(0,9)) (fun _ z _=>fn-(intOf z).toNat)
    case atStart=>exact⟨0,O4,Nat.zero_le _,rfl,World.ownsRow_nil _ _ _ _,(fun k hk=>by cases hk),P4.out,B4.out,OL4.out⟩
    case round =>
     obtain⟨i,O1,hi,rfl,hv,hvt,hP,hb,hol⟩:=hrel
     obtain⟨v9,hv9⟩:∃v9,u9=v9:=⟨_,rfl⟩
     rw[hv9] at hv hvt⊢
     have PI:=Lib.hid hP
     have HV:=Lib.hid (And.intro hv hvt)
     have BI:=Lib.hid hb
     have OI:=Lib.hid hol
     clear hP hv hvt hv9 hol P4 B4 OL4
     by_cases hlt:i<fn
     · have hlti:(i:Int)<(fn:Int):=by omega
       obtain⟨y,rfl,_,hcy⟩:=(IF.out.ab hb).cell (by omega)
       have hcell:=hcy i hlt
       obtain⟨b,hbb⟩:∃b,at' fs i=b:=⟨_,rfl⟩
       rw[hbb] at hcell
       have HBB:Hid (b<256):=Lib.hid (by
        rw[←hbb]
        have hl:=IF.out.len
        unfold at'
        rw[List.getElem?_eq_getElem (by omega)]
        exact BY.out.2 _ (List.getElem_mem (by omega)))
       have HBF:=Lib.hid hbb
       have HLT:=Lib.hid hlt
       clear hlt hi hb hcy hbb
       go_upto_region 15 with (fail)
       clear hcell
       have CX:Hid (∀W (F:Nat→Prop),Fr wr W F→(∀q,F q→q<wr.heap.size∧(O1 q).1=p)→W.cell? ⟨x,3,none⟩=some (.pointer (some ⟨p,0,none⟩))):=Lib.hid fun W F hW hF=>
        (CbB.fr PI.out.box hW (fun e=>by have h9:=(hF _ e).2;rw[PI.out.tx] at h9;have:=PI.out.pos;have h8:(0:Nat)=p:=h9;omega)).cell (k:=3) rfl
       have PU:Hid (∀W (g:Nat),Below wr.heap.size wr W→IsB W (some ⟨g,0,none⟩) 224 224 (payB b)→wr.heap.size≤g→Calls Tryz.prog 8 #[.pointer (some ⟨p,0,none⟩),.int .u32 1,.int .u8 1,.int .u8 0,.slice (some ⟨g,0,none⟩) 224 224] W fun e W1=>e = .returned (.tuple #[.agg #[.int .u32 ((2+i:Nat):Int),.int .u64 7,.int .u16 3],.int .i64 0])∧PutW wr.heap.size O1 p d rg lg (bkT fs (i+1)) (.tuple #[.agg #[.int .u32 ((2+i:Nat):Int),.int .u64 7,.int .u16 3],.int .i64 0]) (.tuple #[.agg #[.int .u32 ((2+i:Nat):Int),.int .u64 7,.int .u16 3],.int .i64 0]) W1∧Fr W W1 (fun q=>q<wr.heap.size∧(O1 q).1=p)):=Lib.hid fun W g hW hib hg=>by
        have PW:=PI.out.ab hW
        have i30:i<30:=by have:=HLT.out;have:=H30.out;omega
        refine (put_ok (t:=1) (k:=1) (lv:=0) (gen:=3) (r:=(2+i,40)) (rest:=[]) (pay:=payB b) PW.pg PW.ri rfl ⟨by show ¬7=0;decide,rfl⟩ ⟨by decide,by decide⟩ (by decide) (by decide) (by show 1≤1000;decide) (new_one key) (by decide) (by show mkR (2+i) 40=_;unfold mkR;rw[if_pos (by omega)]) hib (by rw[cutO_at hg];have:=PI.out.pos;show (0:Nat)≠p;omega)).mono ?_
        rintro e W1 ⟨O',rfl,h1,h2⟩
        have hst:=put_step fs i
        rw[show fs.getD i 0=b from (List.getD_eq_getElem?_getD ..).trans HBF.out] at hst
        refine⟨rfl,⟨rfl,O',by rw[←hst];exact h1,fun k hk=>(h2.tg k (Nat.lt_of_lt_of_le hk hW.size)).trans (cutO_old hk)⟩,h2.fr.imp fun q hq=>?_⟩
        by_cases hlt:q<wr.heap.size
        · rw[cutO_old hlt] at hq;exact⟨hlt,hq⟩
        · rw[cutO_at (by omega)] at hq;have:=PI.out.pos;have h8:(0:Nat)=p:=hq;omega
       refine wp_wide5L (fun i q=>i=6∧q<wr.heap.size∧(O1 q).1=p) [⟨79,IsR (.pointer (some ⟨x,0,none⟩)),[],false⟩,⟨80,IsR (.pointer (some ⟨x,0,none⟩)),[0],false⟩,⟨81,IsR (.pointer (some ⟨x,3,none⟩)),[1],false⟩,⟨82,IsR (.pointer (some ⟨p,0,none⟩)),[2],false⟩,⟨83,IsR (.int .u8 (b:Int)),[],false⟩,⟨84,FilB wr.heap.size b,[4],false⟩,⟨85,PutW wr.heap.size O1 p d rg lg (bkT fs (i+1)) (.tuple #[.agg #[.int .u32 ((2+i:Nat):Int),.int .u64 7,.int .u16 3],.int .i64 0]),[3,5],false⟩,⟨78,IsR (.tuple #[.agg #[.int .u32 ((2+i:Nat):Int),.int .u64 7,.int .u16 3],.int .i64 0]),[6],false⟩,⟨86,IsR (.agg #[.int .u32 ((2+i:Nat):Int),.int .u64 7,.int .u16 3]),[7],false⟩,⟨87,IsR (.int .i64 0),[7],false⟩,⟨12,RefR9 wr.heap.size,[],false⟩] [9] (fun _ _ _ d _ h=>by cases d <;> exact h) ?_ (by kernel_rfl) (by kernel_rfl) rfl rfl rfl ⟨?_,?_,?_,?_,?_,?_,?_,?_,?_,?_,?_,trivial⟩ ?_
       · intro li hli hl0 ol e1 e2
         simp only[List.mem_cons,List.mem_nil_iff,or_false] at hli
         subst hli
         injection e1 with e1
         injection e2 with e2
         subst e1 e2
         refine⟨rfl,fun a W hA hb hd=>⟨.int .i64 0,fun w'=>?_,rfl⟩⟩
         have h78:a.tmps[78]?.getD undef = .tuple #[.agg #[.int .u32 ((2+i:Nat):Int),.int .u64 7,.int .u16 3],.int .i64 0]:=(eval_get a 78).trans (hd 7 (by simp) _ rfl)
         go_simp
       · refine⟨rfl,IsR.monoF _ _,fun a W hA hb hd=>Takes.to5 (takes_plain rfl (yields_value _ ?_ rfl)) _⟩
         have h5:a.tmps[5]?.getD undef = .pointer (some ⟨x,0,none⟩):=(eval_get a 5).trans ((hA.eval (by simp)).trans rfl)
         go_simp
       · refine⟨rfl,IsR.monoF _ _,fun a W hA hb hd=>Takes.to5 (takes_plain rfl (yields_value _ ?_ rfl)) _⟩
         have h79:a.tmps[79]?.getD undef = .pointer (some ⟨x,0,none⟩):=(eval_get a 79).trans (hd 0 (by simp) _ rfl)
         go_simp
       · refine⟨rfl,IsR.monoF _ _,fun a W hA hb hd=>Takes.to5 (takes_plain rfl (yields_value _ ?_ rfl)) _⟩
         have h80:a.tmps[80]?.getD undef = .pointer (some ⟨x,0,none⟩):=(eval_get a 80).trans (hd 1 (by simp) _ rfl)
         go_simp
       · refine⟨rfl,IsR.monoF _ _,fun a W hA hb hd=>Takes.to5 (takes_plain rfl (yields_value _ ?_ rfl)) _⟩
         have h81:a.tmps[81]?.getD undef = .pointer (some ⟨x,3,none⟩):=(eval_get a 81).trans (hd 2 (by simp) _ rfl)
         have hc:=CX.out W _ hb (fun q ⟨j,_,hj⟩=>hj.2)
         go_simp
       · refine⟨rfl,IsR.monoF _ _,fun a W hA hb hd=>Takes.to5 (takes_plain rfl (yields_value _ ?_ rfl)) _⟩
         have h11:a.tmps[11]?.getD undef = .int .u8 (b:Int):=(eval_get a 11).trans ((hA.eval (by simp)).trans rfl)
         go_simp
       · refine⟨rfl,fun v W W1 ⟨g,h1,h2,h3⟩ hf=>⟨g,h1,h2.fr hf (fun x hx ⟨j,_,_,hj,_⟩=>by injection hx with hx;subst hx;simp only at *;omega),h3⟩,fun a W hA hb hd=>takes5_plain rfl ?_⟩
         have h83:a.tmps[83]?.getD undef = .int .u8 (b:Int):=(eval_get a 83).trans (hd 4 (by simp) _ rfl)
         refine .inr ⟨9,#[.int .u8 (b:Int)],by go_simp,(fill_any b HBB.out W).mono ?_⟩
         rintro e W1 ⟨g,rfl,h1,h2,h3⟩
         exact⟨_,rfl,⟨g,rfl,isB_whole h2 (payB_byt HBB.out) (payB_len b) (by decide),Nat.le_trans hb.size h1⟩,Fr.of h3 _⟩
       · refine⟨rfl,fun v W W1 h hf=>PutW.ab h (hf.none fun q ⟨j,hj,hj2,_⟩=>hj hj2),fun a W hA hb hd=>takes5_plain rfl ?_⟩
         have h82:a.tmps[82]?.getD undef = .pointer (some ⟨p,0,none⟩):=(eval_get a 82).trans (hd 3 (by simp) _ rfl)
         obtain⟨g,e0,hib,hge⟩:=hd 5 (by simp) _ rfl
         have h84:a.tmps[84]?.getD undef = .slice (some ⟨g,0,none⟩) 224 224:=(eval_get a 84).trans e0
         refine .inr ⟨8,#[.pointer (some ⟨p,0,none⟩),.int .u32 1,.int .u8 1,.int .u8 0,.slice (some ⟨g,0,none⟩) 224 224],by go_simp,(PU.out W g (hb.none fun q ⟨j,hj,hj2,_⟩=>hj hj2) hib hge).mono ?_⟩
         rintro e W1 ⟨rfl,h1,h2⟩
         exact⟨_,rfl,h1,h2.imp fun q hq=>⟨rfl,hq⟩⟩
       · refine⟨rfl,IsR.monoF _ _,fun a W hA hb hd=>takes5_plain rfl ?_⟩
         have h85:a.tmps[85]?.getD undef = .tuple #[.agg #[.int .u32 ((2+i:Nat):Int),.int .u64 7,.int .u16 3],.int .i64 0]:=(eval_get a 85).trans (hd 6 (by simp) _ rfl).1
         refine Yields.to5 (yields_value _ ?_ rfl) _
         go_simp
       · refine⟨rfl,IsR.monoF _ _,fun a W hA hb hd=>Takes.to5 (takes_plain rfl (yields_value _ ?_ rfl)) _⟩
         have h78:a.tmps[78]?.getD undef = .tuple #[.agg #[.int .u32 ((2+i:Nat):Int),.int .u64 7,.int .u16 3],.int .i64 0]:=(eval_get a 78).trans (hd 7 (by simp) _ rfl)
         go_simp
       · refine⟨rfl,IsR.monoF _ _,fun a W hA hb hd=>Takes.to5 (takes_plain rfl (yields_value _ ?_ rfl)) _⟩
         have h78:a.tmps[78]?.getD undef = .tuple #[.agg #[.int .u32 ((2+i:Nat):Int),.int .u64 7,.int .u16 3],.int .i64 0]:=(eval_get a 78).trans (hd 7 (by simp) _ rfl)
         go_simp
       · refine⟨rfl,fun v W W1 ⟨g,h1,h2,h3⟩ hf=>⟨g,h1,CbB.fr h2 hf (fun ⟨j,_,_,hj,_⟩=>by omega),h3⟩,fun a W hA hb hd=>takes5_plain rfl ?_⟩
         refine .inl ⟨.pointer (some ⟨W.heap.size,0,none⟩),W.alloc (.cells #[.int .u32 0,.int .u64 0,.int .u16 0] 37),?_,⟨_,rfl,CbB.new _ _ _,hb.size⟩,Fr.of ((Below.refl _ _).alloc (Nat.le_refl _) _) _⟩
         go_simp
       intro vs w5 hR hb
       obtain⟨e85,O5,hp5,ht5⟩:PutW wr.heap.size O1 p d rg lg (bkT fs (i+1)) (.tuple #[.agg #[.int .u32 ((2+i:Nat):Int),.int .u64 7,.int .u16 3],.int .i64 0]) (vs 85) w5:=hR 6 _ rfl
       obtain⟨G,e12,hG1,hG2⟩:RefR9 wr.heap.size (vs 12) w5:=hR 10 _ rfl
       have e79:vs 79 = .pointer (some ⟨x,0,none⟩):=hR 0 _ rfl
       have e80:vs 80 = .pointer (some ⟨x,0,none⟩):=hR 1 _ rfl
       have e81:vs 81 = .pointer (some ⟨x,3,none⟩):=hR 2 _ rfl
       have e82:vs 82 = .pointer (some ⟨p,0,none⟩):=hR 3 _ rfl
       have e83:vs 83 = .int .u8 (b:Int):=hR 4 _ rfl
       have e78:vs 78 = .tuple #[.agg #[.int .u32 ((2+i:Nat):Int),.int .u64 7,.int .u16 3],.int .i64 0]:=hR 7 _ rfl
       have e86:vs 86 = .agg #[.int .u32 ((2+i:Nat):Int),.int .u64 7,.int .u16 3]:=hR 8 _ rfl
       have e87:vs 87 = .int .i64 0:=hR 9 _ rfl
       simp only[List.map_cons,List.map_nil,List.foldl_cons,List.foldl_nil,List.length_cons,List.length_nil,List.drop_succ_cons,List.drop_zero,Act.put,List.setIfInBounds_toArray,List.set_cons_zero,List.set_cons_succ,e79,e80,e81,e82,e83,e78,e86,e87,e85,e12]
       have s5:Wr (fun τ=>τ.1=p) wr O1 w5 O5:=Wr.mk' hb (fun q ⟨j,_,hj⟩=>hj.2) ht5
       have S5:=Lib.hid s5
       have P5:=Lib.hid (hp5.retag (τ:=(0,7)) (a:=0) (b:=0) (c:=0) hG1)
       have GC:=Lib.hid hG1
       have GL:=Lib.hid hG2
       clear hR hb e85 e12 hp5 ht5 s5 hG1 hG2 e79 e80 e81 e82 e83 e78 e86 e87
       generalize vs 84=q84 at *
       go_wp2_with (first
        | (with_reducible refine wpList_storeC (o:=⟨none,.store _ (.tmp 12) (.tmp 86),_,_,_,_⟩) ?_ 37 (.tmp 12) (.tmp 86) ?_ G ?_ #[.int .u32 ((2+i:Nat):Int),.int .u64 7,.int .u16 3] ?_ (t:=37) GC.out ?_ ?_ ?_ ?_
           · rfl
           · rfl
           · rfl
           · rfl
           · exact szRefI _
           · rfl
           · simp[Value.oneCell']
           intro w6 hw6
           have G6:Hid (CbB w6 G 37 #[.int .u32 ((2+i:Nat):Int),.int .u64 7,.int .u16 3]):=Lib.hid (by rw[hw6];exact CbB.row GC.out _)
           have g56:w5.grownBy w6 (some G):=by rw[hw6];exact fr_row9 w5 G _
           have s6:Wr (fun τ=>τ=(0,7)) w5 (tagO O5 G (0,7)) w6 (tagO O5 G (0,7)):=Wr.grown g56 tagO_at
           have p6:=P5.out.wr s6 (fun j e=>by have:=PI.out.pos;injection e with e;omega) (fun e=>by cases e)
           have s7:Wr (fun τ=>τ.1=p) wr O1 w6 (tagO O5 G (0,7)):=⟨(S5.out.fresh ((Fr.grown g56).imp fun k hk=>by injection hk with hk;rw[←hk];exact GL.out)).fr,fun k hk=>(tagO_ne (by have:=GL.out;omega)).trans (S5.out.tg k hk)⟩
           have P6:=Lib.hid (PI.out.pgs s7 (fun τ h=>h) p6)
           have V6:Hid (RefsB w6 w.heap.size v9 i∧∀k,v9.ownBlock=some k→tagO O5 G (0,7) k=(0,6)):=Lib.hid ⟨row_fr HV.out.1 s7.fr (fun k hk e=>by rw[HV.out.2 k hk] at e;have:=PI.out.pos;have h8:(0:Nat)=p:=e;omega),fun k hk=>(s7.tg k (row_ltD HV.out.1 k hk)).trans (HV.out.2 k hk)⟩
           have TG:Hid (tagO O5 G (0,7) G=(0,7)):=Lib.hid tagO_at
           have B6:Hid (Below w.heap.size w w6):=Lib.hid (s7.below BI.out BI.out.size (fun k hk h=>by rw[OI.out k hk] at h;have:=PI.out.pos;have h8:(0:Nat)=p:=h;omega))
           have O6L:Hid (∀k,k<w.heap.size→tagO O5 G (0,7) k=(0,9)):=Lib.hid fun k hk=>(s7.tg k (Nat.lt_of_lt_of_le hk BI.out.size)).trans (OI.out k hk)
           clear hw6 g56 s6 p6 s7))
       obtain⟨O6,hO6⟩:∃O6,tagO O5 G (0,7)=O6:=⟨_,rfl⟩
       rw[hO6] at P6 V6 TG O6L
       clear hO6 GC P5 S5 PI HV BI OI CX PU
       have CX:Hid (∀W (F:Nat→Prop),Fr w6 W F→(∀q,F q→q<w6.heap.size∧O6 q=(p,2))→W.cell? ⟨x,3,none⟩=some (.pointer (some ⟨p,0,none⟩))):=Lib.hid fun W F hW hF=>
        (CbB.fr P6.out.box hW (fun e=>by have h9:=(hF _ e).2;rw[P6.out.tx] at h9;have:=P6.out.pos;injection h9 with h9;omega)).cell (k:=3) rfl
       have CG:Hid (∀W (F:Nat→Prop),Fr w6 W F→(∀q,F q→q<w6.heap.size∧O6 q=(p,2))→W.cell? ⟨G,0,none⟩=some (.int .u32 ((2+i:Nat):Int))∧W.cell? ⟨G,1,none⟩=some (.int .u64 7)∧W.cell? ⟨G,2,none⟩=some (.int .u16 3)):=Lib.hid fun W F hW hF=>by
        have hg:=CbB.fr G6.out hW (fun e=>by have h9:=(hF _ e).2;rw[TG.out] at h9;have:=P6.out.pos;injection h9 with h9;omega)
        exact⟨hg.cell (k:=0) rfl,hg.cell (k:=1) rfl,hg.cell (k:=2) rfl⟩
       have GE:Hid (∀W,Below w6.heap.size w6 W→Calls Tryz.prog 11 #[.pointer (some ⟨p,0,none⟩),.int .u32 1,.int .u8 1,.int .u8 0,.agg #[.int .u32 ((2+i:Nat):Int),.int .u64 7,.int .u16 3]] W fun e W1=>∃v,e = .returned v∧GetW w6.heap.size O6 p d rg lg (bkT fs (i+1)) (payB b) v W1∧Fr W W1 (fun q=>q<w6.heap.size∧O6 q=(p,2))):=Lib.hid fun W hW=>by
        have PW:=P6.out.ab hW
        have i30:i+1≤30:=by have:=HLT.out;have:=H30.out;omega
        refine (pget_any (l:=lbJ i) PW.pg PW.dv PW.ri (newD_ok (by decide) (by decide)) (lbJ_ok (by omega)) knS_lens).mono ?_
        rw[get_hit9 rfl (Nat.lt_succ_self i) i30,show fs.getD i 0=b from (List.getD_eq_getElem?_getD ..).trans HBF.out]
        rintro e W1 ⟨v,O',rfl,h1,h2,h3⟩
        refine⟨_,rfl,⟨⟨v,rfl,h1.lower hW.size⟩,O',h2,fun k hk=>(h3.tg k (Nat.lt_of_lt_of_le hk hW.size)).trans (cutO_old hk)⟩,h3.fr.imp fun q hq=>?_⟩
        by_cases hlt:q<w6.heap.size
        · rw[cutO_old hlt] at hq;exact⟨hlt,hq⟩
        · rw[cutO_at (by omega)] at hq;have:=P6.out.pos;injection hq with hq;omega
       refine wp_wide5 (fun i q=>i=5∧q<w6.heap.size∧O6 q=(p,2)) [⟨89,IsR (.pointer (some ⟨x,0,none⟩)),[],false⟩,⟨90,IsR (.pointer (some ⟨x,0,none⟩)),[0],false⟩,⟨91,IsR (.pointer (some ⟨x,3,none⟩)),[1],false⟩,⟨92,IsR (.pointer (some ⟨p,0,none⟩)),[2],false⟩,⟨93,IsR (.agg #[.int .u32 ((2+i:Nat):Int),.int .u64 7,.int .u16 3]),[],false⟩,⟨94,GetW w6.heap.size O6 p d rg lg (bkT fs (i+1)) (payB b),[3,4],false⟩,⟨88,TupW w6.heap.size (payB b),[5],false⟩,⟨95,OwR w6.heap.size (payB b),[6],false⟩,⟨96,IsR (.int .i64 0),[6],false⟩,⟨14,OwR w6.heap.size (payB b),[7],false⟩] (by kernel_rfl) (by kernel_rfl) rfl rfl rfl ⟨?_,?_,?_,?_,?_,?_,?_,?_,?_,?_,trivial⟩ ?_
       · refine⟨rfl,IsR.monoF _ _,fun a W hA hb hd=>Takes.to5 (takes_plain rfl (yields_value _ ?_ rfl)) _⟩
         have h5:a.tmps[5]?.getD undef = .pointer (some ⟨x,0,none⟩):=(eval_get a 5).trans ((hA.eval (by simp)).trans rfl)
         go_simp
       · refine⟨rfl,IsR.monoF _ _,fun a W hA hb hd=>Takes.to5 (takes_plain rfl (yields_value _ ?_ rfl)) _⟩
         have h89:a.tmps[89]?.getD undef = .pointer (some ⟨x,0,none⟩):=(eval_get a 89).trans (hd 0 (by simp) _ rfl)
         go_simp
       · refine⟨rfl,IsR.monoF _ _,fun a W hA hb hd=>Takes.to5 (takes_plain rfl (yields_value _ ?_ rfl)) _⟩
         have h90:a.tmps[90]?.getD undef = .pointer (some ⟨x,0,none⟩):=(eval_get a 90).trans (hd 1 (by simp) _ rfl)
         go_simp
       · refine⟨rfl,IsR.monoF _ _,fun a W hA hb hd=>Takes.to5 (takes_plain rfl (yields_value _ ?_ rfl)) _⟩
         have h91:a.tmps[91]?.getD undef = .pointer (some ⟨x,3,none⟩):=(eval_get a 91).trans (hd 2 (by simp) _ rfl)
         have hc:=CX.out W _ hb (fun q ⟨j,_,hj⟩=>hj.2)
         go_simp
       · refine⟨rfl,IsR.monoF _ _,fun a W hA hb hd=>Takes.to5 (takes_plain rfl (yields_value _ ?_ rfl)) _⟩
         have h12:a.tmps[12]?.getD undef = .pointer (some ⟨G,0,none⟩):=(eval_get a 12).trans ((hA.eval (by simp)).trans rfl)
         obtain⟨hc0,hc1,hc2⟩:=CG.out W _ hb (fun q ⟨j,_,hj⟩=>hj.2)
         go_simp
       · refine⟨rfl,fun v W W1 h hf=>GetW.ab h (hf.none fun q ⟨j,hj,hj2,_⟩=>hj hj2),fun a W hA hb hd=>takes5_plain rfl ?_⟩
         have h92:a.tmps[92]?.getD undef = .pointer (some ⟨p,0,none⟩):=(eval_get a 92).trans (hd 3 (by simp) _ rfl)
         have h93:a.tmps[93]?.getD undef = .agg #[.int .u32 ((2+i:Nat):Int),.int .u64 7,.int .u16 3]:=(eval_get a 93).trans (hd 4 (by simp) _ rfl)
         refine .inr ⟨11,#[.pointer (some ⟨p,0,none⟩),.int .u32 1,.int .u8 1,.int .u8 0,.agg #[.int .u32 ((2+i:Nat):Int),.int .u64 7,.int .u16 3]],by go_simp,(GE.out W (hb.none fun q ⟨j,hj,hj2,_⟩=>hj hj2)).mono ?_⟩
         rintro e W1 ⟨v,rfl,h1,h2⟩
         exact⟨v,rfl,h1,h2.imp fun q hq=>⟨rfl,hq⟩⟩
       · refine⟨rfl,fun v W W1 h hf=>by obtain⟨v0,h1,h2⟩:=h;exact⟨v0,h1,h2.fr hf (fun q hq ⟨j,_,_,hj,_⟩=>by have:=own_ge9 h2.own q hq;omega)⟩,fun a W hA hb hd=>takes5_plain rfl ?_⟩
         obtain⟨v0,e0,ho⟩:=(hd 5 (by simp) _ rfl).1
         have h0:a.tmps[94]?.getD undef = .tuple #[v0,.int .i64 0]:=(eval_get a 94).trans e0
         refine Yields.to5 (yields_value (.tuple #[v0,.int .i64 0]) ?_ ⟨v0,rfl,ho⟩) _
         go_simp
       · refine⟨rfl,fun v W W1 h hf=>OwB.fr h hf (fun q hq ⟨j,_,_,hj,_⟩=>by have:=own_ge9 (OwB.own h) q hq;omega),fun a W hA hb hd=>takes5_plain rfl ?_⟩
         obtain⟨v0,e0,ho⟩:=hd 6 (by simp) _ rfl
         have h0:a.tmps[88]?.getD undef = .tuple #[v0,.int .i64 0]:=(eval_get a 88).trans e0
         refine Yields.to5 (yields_value v0 ?_ ho) _
         go_simp
       · refine⟨rfl,IsR.monoF _ _,fun a W hA hb hd=>takes5_plain rfl ?_⟩
         obtain⟨v0,e0,ho⟩:=hd 6 (by simp) _ rfl
         have h0:a.tmps[88]?.getD undef = .tuple #[v0,.int .i64 0]:=(eval_get a 88).trans e0
         refine Yields.to5 (yields_value (.int .i64 0) ?_ rfl) _
         go_simp
       · refine⟨rfl,fun v W W1 h hf=>OwB.fr h hf (fun q hq ⟨j,_,_,hj,_⟩=>by have:=own_ge9 (OwB.own h) q hq;omega),fun a W hA hb hd=>takes5_plain rfl ?_⟩
         have ho:OwB W w6.heap.size (a.eval (.tmp 95)) (payB b):=hd 7 (by simp) _ rfl
         exact Yields.to5 (yields_value (a.eval (.tmp 95)) (exec_assign (.tmp 95) rfl W) ho) _
       intro vt w7 hR hb
       obtain⟨_,O7,hp7,ht7⟩:GetW w6.heap.size O6 p d rg lg (bkT fs (i+1)) (payB b) (vt 94) w7:=hR 5 _ rfl
       have W14:Hid (OwB w7 w6.heap.size (vt 14) (payB b)):=Lib.hid (hR 9 _ rfl)
       have e89:vt 89 = .pointer (some ⟨x,0,none⟩):=hR 0 _ rfl
       have e90:vt 90 = .pointer (some ⟨x,0,none⟩):=hR 1 _ rfl
       have e91:vt 91 = .pointer (some ⟨x,3,none⟩):=hR 2 _ rfl
       have e92:vt 92 = .pointer (some ⟨p,0,none⟩):=hR 3 _ rfl
       have e93:vt 93 = .agg #[.int .u32 ((2+i:Nat):Int),.int .u64 7,.int .u16 3]:=hR 4 _ rfl
       have e96:vt 96 = .int .i64 0:=hR 8 _ rfl
       simp only[List.map_cons,List.map_nil,List.foldl_cons,List.foldl_nil,List.length_cons,List.length_nil,List.drop_succ_cons,List.drop_zero,Act.put,List.setIfInBounds_toArray,List.set_cons_zero,List.set_cons_succ,e89,e90,e91,e92,e93,e96]
       have s7:Wr (fun τ=>τ=(p,2)) w6 O6 w7 O7:=Wr.mk' hb (fun q ⟨j,_,hj⟩=>hj.2) ht7
       have P7:=Lib.hid (P6.out.pgs s7 (fun τ h=>by rw[h]) hp7)
       have V7:Hid (RefsB w7 w.heap.size v9 i∧∀k,v9.ownBlock=some k→O7 k=(0,6)):=Lib.hid ⟨row_fr V6.out.1 s7.fr (fun k hk e=>by rw[V6.out.2 k hk] at e;have:=P6.out.pos;injection e with e;omega),fun k hk=>(s7.tg k (row_ltD V6.out.1 k hk)).trans (V6.out.2 k hk)⟩
       have G7:Hid (CbB w7 G 37 #[.int .u32 ((2+i:Nat):Int),.int .u64 7,.int .u16 3]):=Lib.hid (CbB.fr G6.out s7.fr (fun e=>by rw[TG.out] at e;have:=P6.out.pos;injection e with e;omega))
       have B7:Hid (Below w.heap.size w w7):=Lib.hid (s7.below B6.out B6.out.size (fun k hk h=>by rw[O6L.out k hk] at h;injection h with _ h;cases h))
       have O7L:Hid (∀k,k<w.heap.size→O7 k=(0,9)):=Lib.hid fun k hk=>(s7.tg k (Nat.lt_of_lt_of_le hk B6.out.size)).trans (O6L.out k hk)
       clear hR hb hp7 ht7 s7 e89 e90 e91 e92 e93 e96 P6 V6 G6 B6 O6L TG CX CG GE
       generalize vt 94=q94 at *
       generalize vt 88=q88 at *
       generalize vt 95=q95 at *
       generalize vt 14=v14 at *
       obtain⟨A14,c14,rfl,_,_⟩:=W14.out.shape
       have i14:=W14.out.isB rfl
       rw[payB_len] at i14⊢
       have I14:Hid (IsB w7 A14 224 c14 (payB b)):=Lib.hid i14
       clear i14 W14
       go_upto_region 17 with (fail)
       refine wp_wide3 [⟨97,IsR (.int .i64 0),[],false⟩,⟨98,IsR (.bool false),[0],false⟩,⟨99,IsR (.bool false),[1],false⟩,⟨100,IsR (.int .i64 0),[2],false⟩,⟨101,IsR (.bool false),[2,3],false⟩,⟨102,IsR (.bool false),[2,4],false⟩,⟨103,IsR (.bool false),[5],false⟩,⟨104,IsR (.slice A14 224 c14),[6],false⟩,⟨105,IsR (.string (strOf (payB b))),[6,7],false⟩,⟨106,IsR (.int .u8 (b:Int)),[6],false⟩,⟨107,FilB w7.heap.size b,[6,9],false⟩,⟨108,IsR (.string (strOf (payB b))),[6,10],false⟩,⟨109,IsR (.bool false),[6,8,11],false⟩] (by kernel_rfl) (by kernel_rfl) rfl rfl rfl ⟨?_,?_,?_,?_,?_,?_,?_,?_,?_,?_,?_,?_,?_,trivial⟩ ?_
       · refine⟨rfl,IsR.mono _,fun a W hA hb hd=>takes_plain rfl (yields_value _ ?_ rfl)⟩
         have h13:a.tmps[13]?.getD undef = .int .i64 0:=(eval_get a 13).trans ((hA.eval (by simp)).trans rfl)
         go_simp
       · refine⟨rfl,IsR.mono _,fun a W hA hb hd=>takes_plain rfl (yields_value _ ?_ rfl)⟩
         have h97:a.tmps[97]?.getD undef = .int .i64 0:=(eval_get a 97).trans (hd 0 (by simp) _ rfl)
         go_simp
       · refine⟨rfl,IsR.mono _,fun a W hA hb hd=>takes_plain rfl (yields_value _ ?_ rfl)⟩
         have h98:a.tmps[98]?.getD undef = .bool false:=(eval_get a 98).trans (hd 1 (by simp) _ rfl)
         go_simp
       · refine⟨rfl,IsR.mono _,fun a W hA hb hd=>takes_on (i:=2) (d:=99) (b:=false) rfl rfl rfl (hd 2 (by simp) _ rfl) (yields_value _ ?_ rfl)⟩
         have h15:a.tmps[15]?.getD undef = .int .i64 0:=(eval_get a 15).trans ((hA.eval (by simp)).trans rfl)
         go_simp
       · refine⟨rfl,IsR.mono _,fun a W hA hb hd=>takes_on (i:=2) (d:=99) (b:=false) rfl rfl rfl (hd 2 (by simp) _ rfl) (yields_value _ ?_ rfl)⟩
         have h100:a.tmps[100]?.getD undef = .int .i64 0:=(eval_get a 100).trans (hd 3 (by simp) _ rfl)
         go_simp
       · refine⟨rfl,IsR.mono _,fun a W hA hb hd=>takes_plain rfl (yields_value _ ?_ rfl)⟩
         have h99:a.tmps[99]?.getD undef = .bool false:=(eval_get a 99).trans (hd 2 (by simp) _ rfl)
         have h101:a.tmps[101]?.getD undef = .bool false:=(eval_get a 101).trans (hd 4 (by simp) _ rfl)
         go_simp
       · refine⟨rfl,IsR.mono _,fun a W hA hb hd=>takes_plain rfl (yields_value _ ?_ rfl)⟩
         have h102:a.tmps[102]?.getD undef = .bool false:=(eval_get a 102).trans (hd 5 (by simp) _ rfl)
         go_simp
       · refine⟨rfl,IsR.mono _,fun a W hA hb hd=>takes_on (i:=6) (d:=103) (b:=false) rfl rfl rfl (hd 6 (by simp) _ rfl) (yields_value _ ?_ rfl)⟩
         have h14:a.tmps[14]?.getD undef = .slice A14 224 c14:=(eval_get a 14).trans ((hA.eval (by simp)).trans rfl)
         go_simp
       · refine⟨rfl,IsR.mono _,fun a W hA hb hd=>takes_on (i:=6) (d:=103) (b:=false) rfl rfl rfl (hd 6 (by simp) _ rfl) (yields_value _ ?_ rfl)⟩
         have h104:a.tmps[104]?.getD undef = .slice A14 224 c14:=(eval_get a 104).trans (hd 7 (by simp) _ rfl)
         have hc:=run_str (I14.out.ab hb) 22 5 9 Tryz.underlying22 Tryz.underlying5 Tryz.underlying9
         go_simp
       · refine⟨rfl,IsR.mono _,fun a W hA hb hd=>takes_on (i:=6) (d:=103) (b:=false) rfl rfl rfl (hd 6 (by simp) _ rfl) (yields_value _ ?_ rfl)⟩
         have h11:a.tmps[11]?.getD undef = .int .u8 (b:Int):=(eval_get a 11).trans ((hA.eval (by simp)).trans rfl)
         go_simp
       · refine⟨rfl,FilB.mono,fun a W hA hb hd=>takes_on (i:=6) (d:=103) (b:=false) rfl rfl rfl (hd 6 (by simp) _ rfl) ?_⟩
         have h106:a.tmps[106]?.getD undef = .int .u8 (b:Int):=(eval_get a 106).trans (hd 9 (by simp) _ rfl)
         refine yields_call 9 #[.int .u8 (b:Int)] (by go_simp) ((fill_any b HBB.out W).mono ?_)
         rintro e W1 ⟨g,rfl,h1,h2,h3⟩
         exact⟨_,rfl,⟨g,rfl,isB_whole h2 (payB_byt HBB.out) (payB_len b) (by decide),Nat.le_trans hb.size h1⟩,h3⟩
       · refine⟨rfl,IsR.mono _,fun a W hA hb hd=>takes_on (i:=6) (d:=103) (b:=false) rfl rfl rfl (hd 6 (by simp) _ rfl) ?_⟩
         obtain⟨g,e0,h1,h2⟩:=hd 10 (by simp) _ rfl
         have h0:a.tmps[107]?.getD undef = .slice (some ⟨g,0,none⟩) 224 224:=(eval_get a 107).trans e0
         have hc:=run_str h1 22 5 9 Tryz.underlying22 Tryz.underlying5 Tryz.underlying9
         refine yields_value (.string (strOf (payB b))) ?_ rfl
         go_simp
       · refine⟨rfl,IsR.mono _,fun a W hA hb hd=>takes_on (i:=6) (d:=103) (b:=false) rfl rfl rfl (hd 6 (by simp) _ rfl) (yields_value _ ?_ rfl)⟩
         have h105:a.tmps[105]?.getD undef = .string (strOf (payB b)):=(eval_get a 105).trans (hd 8 (by simp) _ rfl)
         have h108:a.tmps[108]?.getD undef = .string (strOf (payB b)):=(eval_get a 108).trans (hd 11 (by simp) _ rfl)
         go_simp
       intro vs w8 hR hF hb
       have e97:vs 97 = .int .i64 0:=hR 0 _ rfl
       have e98:vs 98 = .bool false:=hR 1 _ rfl
       have e99:vs 99 = .bool false:=hR 2 _ rfl
       have e100:vs 100 = .int .i64 0:=hR 3 _ rfl
       have e101:vs 101 = .bool false:=hR 4 _ rfl
       have e102:vs 102 = .bool false:=hR 5 _ rfl
       have e103:vs 103 = .bool false:=hR 6 _ rfl
       have e104:vs 104 = .slice A14 224 c14:=hR 7 _ rfl
       have e105:vs 105 = .string (strOf (payB b)):=hR 8 _ rfl
       have e106:vs 106 = .int .u8 (b:Int):=hR 9 _ rfl
       have e108:vs 108 = .string (strOf (payB b)):=hR 11 _ rfl
       have e109:vs 109 = .bool false:=hR 12 _ rfl
       simp only[List.map_cons,List.map_nil,List.foldl_cons,List.foldl_nil,List.length_cons,List.length_nil,List.drop_succ_cons,List.drop_zero,Act.put,List.setIfInBounds_toArray,List.set_cons_zero,List.set_cons_succ,e97,e98,e99,e100,e101,e102,e103,e104,e105,e106,e108,e109]
       generalize vs 107=q107 at *
       have B78:=Lib.hid hb
       clear hR hF hb e97 e98 e99 e100 e101 e102 e103 e104 e105 e106 e108 e109
       have P8:=Lib.hid (P7.out.ab B78.out)
       have V8:Hid (RefsB w8 w.heap.size v9 i∧∀k,v9.ownBlock=some k→cutO O7 w7.heap.size k=(0,6)):=Lib.hid ⟨row_fr V7.out.1 (Fr.of B78.out (fun _=>False)) (fun _ _ h=>h),fun k hk=>(cutO_old (row_ltD V7.out.1 k hk)).trans (V7.out.2 k hk)⟩
       have G8:=Lib.hid (G7.out.ab B78.out)
       have B8:=Lib.hid (below_tr B7.out B78.out B7.out.size)
       have O8L:Hid (∀k,k<w.heap.size→cutO O7 w7.heap.size k=(0,9)):=Lib.hid fun k hk=>(cutO_old (Nat.lt_of_lt_of_le hk B7.out.size)).trans (O7L.out k hk)
       obtain⟨O8,hO8⟩:∃O8,cutO O7 w7.heap.size=O8:=⟨_,rfl⟩
       rw[hO8] at P8 V8 O8L
       clear hO8 P7 V7 G7 B7 O7L B78 I14
       have d0:w8.cell? ⟨G,0,none⟩=some (.int .u32 ((2+i:Nat):Int)):=G8.out.cell (k:=0) rfl
       have d1:w8.cell? ⟨G,1,none⟩=some (.int .u64 7):=G8.out.cell (k:=1) rfl
       have d2:w8.cell? ⟨G,2,none⟩=some (.int .u16 3):=G8.out.cell (k:=2) rfl
       have A9:Hid (Below w8.heap.size w8 (w8.alloc (.cells #[.int .u32 ((2+i:Nat):Int),.int .u64 7,.int .u16 3] 37))):=Lib.hid ((Below.refl _ _).alloc (Nat.le_refl _) _)
       have N9:Hid (CbB (w8.alloc (.cells #[.int .u32 ((2+i:Nat):Int),.int .u64 7,.int .u16 3] 37)) w8.heap.size 37 #[.int .u32 ((2+i:Nat):Int),.int .u64 7,.int .u16 3]):=Lib.hid (CbB.new _ _ _)
       go_wp2_with (first
        | (refine wpList_appF rfl (.tmp 111) (.tmp 113) rfl (B:=w.heap.size) (G:=w8.heap.size) (row_fr V8.out.1 (Fr.of A9.out (fun _=>False)) (fun _ _ h=>h)) rfl rfl N9.out (by have:=HLT.out;have:=H30.out;omega) (Nat.le_trans B8.out.size A9.out.size) ?_
           intro va wa hva hga hoa
           have fa:Fr w8 wa (fun k=>v9.ownBlock=some k):=(Fr.of A9.out _).tr (Fr.grown hga)
           have sa:Wr (fun τ=>τ=(0,6)) w8 O8 wa (markO O8 w8.heap.size va.ownBlock (0,6)):=⟨fa.imp fun k hk=>V8.out.2 k hk,fun k hk=>markO_old hk⟩
           have VA:Hid (RefsB wa w.heap.size va (i+1)):=Lib.hid hva
           have TA:Hid (∀k,va.ownBlock=some k→markO O8 w8.heap.size va.ownBlock (0,6) k=(0,6)):=Lib.hid fun k hk=>by
            by_cases hlt:k<w8.heap.size
            · rcases hoa with hoa | ⟨k',e1,e2⟩
              · rw[hoa] at hk
                exact (markO_old hlt).trans (V8.out.2 k hk)
              · rw[e1] at hk;injection hk with hk;subst hk
                exact absurd (Nat.lt_of_lt_of_le hlt (Nat.le_trans A9.out.size e2)) (Nat.lt_irrefl _)
            · rw[hk];exact markO_new (by omega)
           have PA:=Lib.hid (P8.out.tag6 sa)
           have BA:Hid (Below w.heap.size w wa):=Lib.hid (sa.below B8.out B8.out.size (fun k hk h=>by rw[O8L.out k hk] at h;cases h))
           have OA:Hid (∀k,k<w.heap.size→markO O8 w8.heap.size va.ownBlock (0,6) k=(0,9)):=Lib.hid fun k hk=>(sa.tg k (Nat.lt_of_lt_of_le hk B8.out.size)).trans (O8L.out k hk)
           clear hva hga hoa fa sa))
       go_roundw
       case rel=>exact⟨i+1,_,HLT.out,by go_num,VA.out,TA.out,PA.out,BA.out,OA.out⟩
       case measure=>simp[intOf];have:=HLT.out;omega
     · obtain rfl:i=fn:=by omega
       have i30:i≤30:=by have:=H30.out;omega
       have hlen:=IF.out.len
       obtain⟨D2,al2,hfl,hD9,hal⟩:=flush_law (key:=key) (fs:=fs) (n:=i) KO.out BY.out.1 BY.out.2 (by omega) i30
       have c3:wr.cell? ⟨x,3,none⟩=some (.pointer (some ⟨p,0,none⟩)):=PI.out.box.cell (k:=3) rfl
       have HFL:=Lib.hid (flush_any PI.out.pg PI.out.dv PI.out.lo PI.out.ri (newD_ok (by decide) (by decide)) (by show 0≤_;omega) (by show 0≤_;omega) (by show 0≤_;omega) rfl ⟨by show ¬7=0;decide,rfl⟩ (pu_ok9 i30) (by show (puS i).length≤5000;rw[puS_len];omega))
       rw[hfl] at HFL
       simp only at HFL
       have HD:=Lib.hid hD9
       have HA:=Lib.hid hal
       have I30:=Lib.hid i30
       clear hfl hD9 hal hlt hi hb hlen i30
       go_wp2_with fail
       refine HFL.out.mono ?_
       rintro e w5 ⟨O5,rfl,hp5,hd5,hl5,hw5⟩
       have h0:=PI.out.pos
       have r5:=PI.out.ri.wr hw5 (fun e=>by rcases e with e | e | e <;> (injection e with e1 e2;first | omega | cases e2)) (fun e=>by rcases e with e | e | e <;> (injection e with e1 e2;first | omega | cases e2))
       have x5:=CbB.fr PI.out.box hw5.fr (fun e=>by rw[PI.out.tx] at e;rcases e with e | e | e <;> (injection e with e1 e2;first | omega | cases e2))
       have t5:O5 x=(0,8):=(hw5.tg _ PI.out.box.lt).trans PI.out.tx
       have P5:Hid (PlM w5 O5 x p d rg lg _ _ _ _ _):=Lib.hid ⟨x5,t5,hp5,hd5,r5,hl5⟩
       have V5:Hid (RefsB w5 w.heap.size v9 i∧∀k,v9.ownBlock=some k→O5 k=(0,6)):=Lib.hid ⟨row_fr HV.out.1 hw5.fr (fun k hk e=>by rw[HV.out.2 k hk] at e;rcases e with e | e | e <;> (injection e with e1 e2;first | omega | cases e2)),fun k hk=>(hw5.tg k (row_ltD HV.out.1 k hk)).trans (HV.out.2 k hk)⟩
       have B5:Hid (Below w.heap.size w w5):=Lib.hid (hw5.below BI.out BI.out.size (fun k hk h=>by rw[OI.out k hk] at h;rcases h with e | e | e <;> (injection e with e1 e2;first | omega | cases e2)))
       have O5L:Hid (∀k,k<w.heap.size→O5 k=(0,9)):=Lib.hid fun k hk=>(hw5.tg k (Nat.lt_of_lt_of_le hk BI.out.size)).trans (OI.out k hk)
       clear hp5 hd5 hl5 hw5 r5 x5 t5 PI HV BI OI HFL c3
       have c3:w5.cell? ⟨x,3,none⟩=some (.pointer (some ⟨p,0,none⟩)):=P5.out.box.cell (k:=3) rfl
       go_wp2_with fail
       refine (scrub_none P5.out.pg rfl (.inr rfl) rfl).mono ?_
       rintro e w6 ⟨O6,rfl,hp6,hw6⟩
       have P6:=Lib.hid (P5.out.pgs hw6 (fun τ hτ=>by rw[hτ]) hp6)
       have V6:Hid (RefsB w6 w.heap.size v9 i∧∀k,v9.ownBlock=some k→O6 k=(0,6)):=Lib.hid ⟨row_fr V5.out.1 hw6.fr (fun k hk e=>by rw[V5.out.2 k hk] at e;injection e with e1 e2;omega),fun k hk=>(hw6.tg k (row_ltD V5.out.1 k hk)).trans (V5.out.2 k hk)⟩
       have B6:Hid (Below w.heap.size w w6):=Lib.hid (hw6.below B5.out B5.out.size (fun k hk h=>by rw[O5L.out k hk] at h;injection h with e1 e2;cases e2))
       have O6L:Hid (∀k,k<w.heap.size→O6 k=(0,9)):=Lib.hid fun k hk=>(hw6.tg k (Nat.lt_of_lt_of_le hk B5.out.size)).trans (O5L.out k hk)
       clear hp6 hw6 P5 V5 B5 O5L c3
       have c3:w6.cell? ⟨x,3,none⟩=some (.pointer (some ⟨p,0,none⟩)):=P6.out.box.cell (k:=3) rfl
       have HUS:Hid (Calls Tryz.prog 14 #[.pointer (some ⟨p,0,none⟩),.int .u32 1] w6 fun e w'=>e = .returned (.int .i64 (i:Int))∧Below w6.heap.size w6 w'):=Lib.hid ((used_any 1 (by decide) P6.out.pg (by show (knS fs i).length≤100000;rw[knS_len];have:=I30.out;omega)).mono fun e w' ⟨h1,h2⟩=>⟨h1.trans (congrArg (fun k:Nat=>Ending.returned (.int .i64 (k:Int))) (used_knS fs i)),h2⟩)
       go_wp2_with fail
       refine HUS.out.mono ?_
       rintro e w7 ⟨rfl,hb7⟩
       have P7:=Lib.hid (P6.out.ab hb7)
       obtain⟨O7,hO7⟩:∃O7,cutO O6 w6.heap.size=O7:=⟨_,rfl⟩
       have V7:Hid (RefsB w7 w.heap.size v9 i∧∀k,v9.ownBlock=some k→O7 k=(0,6)):=Lib.hid ⟨row_fr V6.out.1 (Fr.of hb7 (fun _=>False)) (fun _ _ h=>h),fun k hk=>by rw[←hO7];exact (cutO_old (row_ltD V6.out.1 k hk)).trans (V6.out.2 k hk)⟩
       have B7:=Lib.hid (below_tr B6.out hb7 B6.out.size)
       have O7L:Hid (∀k,k<w.heap.size→O7 k=(0,9)):=Lib.hid fun k hk=>by rw[←hO7];exact (cutO_old (Nat.lt_of_lt_of_le hk B6.out.size)).trans (O6L.out k hk)
       rw[hO7] at P7
       clear HUS c3 hO7 hb7 P6 V6 B6 O6L
       go_upto_region 23 with (fail)
       refine wp_wide3 [⟨141,IsR (.pointer (some ⟨x,0,none⟩)),[],false⟩,⟨142,IsR (.pointer (some ⟨x,0,none⟩)),[0],false⟩,⟨143,IsR (.pointer (some ⟨x,0,none⟩)),[1],false⟩,⟨144,IsR (.pointer (some ⟨d,0,none⟩)),[2],false⟩,⟨145,IsR (.pointer (some ⟨x,0,none⟩)),[],false⟩,⟨146,IsR (.pointer (some ⟨x,0,none⟩)),[4],false⟩,⟨147,IsR (.pointer (some ⟨x,1,none⟩)),[5],false⟩,⟨148,IsR (.pointer (some ⟨rg,0,none⟩)),[6],false⟩,⟨149,IsR (.pointer (some ⟨x,0,none⟩)),[],false⟩,⟨150,IsR (.pointer (some ⟨x,0,none⟩)),[8],false⟩,⟨151,IsR (.pointer (some ⟨x,2,none⟩)),[9],false⟩,⟨152,IsR (.pointer (some ⟨lg,0,none⟩)),[10],false⟩,⟨153,IsR (.pointer (some ⟨x,0,none⟩)),[],false⟩,⟨154,IsR (.pointer (some ⟨x,0,none⟩)),[12],false⟩,⟨155,IsR (.pointer (some ⟨x,3,none⟩)),[13],false⟩,⟨156,IsR (.pointer (some ⟨p,0,none⟩)),[14],false⟩,⟨157,RunW w7.heap.size (mkR (2+i) 40),[15],false⟩,⟨158,NewQ w7.heap.size O7 d rg lg (sdT fs i 0) (fun q=>.tuple #[.pointer (some ⟨q,0,none⟩),.int .i64 0]),[3,7,11,16],false⟩,⟨140,NewQ w7.heap.size O7 d rg lg (sdT fs i 0) (fun q=>.tuple #[.pointer (some ⟨q,0,none⟩),.int .i64 0]),[17],false⟩,⟨159,NewQ w7.heap.size O7 d rg lg (sdT fs i 0) (fun q=>.pointer (some ⟨q,0,none⟩)),[18],false⟩,⟨160,IsR (.int .i64 0),[18],false⟩,⟨16,NewQ w7.heap.size O7 d rg lg (sdT fs i 0) (fun q=>.pointer (some ⟨q,0,none⟩)),[19],false⟩] (by kernel_rfl) (by kernel_rfl) rfl rfl rfl ⟨?_,?_,?_,?_,?_,?_,?_,?_,?_,?_,?_,?_,?_,?_,?_,?_,?_,?_,?_,?_,?_,?_,trivial⟩ ?_
       · refine⟨rfl,IsR.mono _,fun a W hA hb hd=>takes_plain rfl (yields_value _ ?_ rfl)⟩
         have h5:a.tmps[5]?.getD undef = .pointer (some ⟨x,0,none⟩):=(eval_get a 5).trans ((hA.eval (by simp)).trans rfl)
         go_simp
       · refine⟨rfl,IsR.mono _,fun a W hA hb hd=>takes_plain rfl (yields_value _ ?_ rfl)⟩
         have h141:a.tmps[141]?.getD undef = .pointer (some ⟨x,0,none⟩):=(eval_get a 141).trans (hd 0 (by simp) _ rfl)
         go_simp
       · refine⟨rfl,IsR.mono _,fun a W hA hb hd=>takes_plain rfl (yields_value _ ?_ rfl)⟩
         have h142:a.tmps[142]?.getD undef = .pointer (some ⟨x,0,none⟩):=(eval_get a 142).trans (hd 1 (by simp) _ rfl)
         go_simp
       · refine⟨rfl,IsR.mono _,fun a W hA hb hd=>takes_plain rfl (yields_value _ ?_ rfl)⟩
         have h143:a.tmps[143]?.getD undef = .pointer (some ⟨x,0,none⟩):=(eval_get a 143).trans (hd 2 (by simp) _ rfl)
         have hc:=(P7.out.box.ab hb).cell (k:=0) rfl
         go_simp
       · refine⟨rfl,IsR.mono _,fun a W hA hb hd=>takes_plain rfl (yields_value _ ?_ rfl)⟩
         have h5:a.tmps[5]?.getD undef = .pointer (some ⟨x,0,none⟩):=(eval_get a 5).trans ((hA.eval (by simp)).trans rfl)
         go_simp
       · refine⟨rfl,IsR.mono _,fun a W hA hb hd=>takes_plain rfl (yields_value _ ?_ rfl)⟩
         have h145:a.tmps[145]?.getD undef = .pointer (some ⟨x,0,none⟩):=(eval_get a 145).trans (hd 4 (by simp) _ rfl)
         go_simp
       · refine⟨rfl,IsR.mono _,fun a W hA hb hd=>takes_plain rfl (yields_value _ ?_ rfl)⟩
         have h146:a.tmps[146]?.getD undef = .pointer (some ⟨x,0,none⟩):=(eval_get a 146).trans (hd 5 (by simp) _ rfl)
         go_simp
       · refine⟨rfl,IsR.mono _,fun a W hA hb hd=>takes_plain rfl (yields_value _ ?_ rfl)⟩
         have h147:a.tmps[147]?.getD undef = .pointer (some ⟨x,1,none⟩):=(eval_get a 147).trans (hd 6 (by simp) _ rfl)
         have hc:=(P7.out.box.ab hb).cell (k:=1) rfl
         go_simp
       · refine⟨rfl,IsR.mono _,fun a W hA hb hd=>takes_plain rfl (yields_value _ ?_ rfl)⟩
         have h5:a.tmps[5]?.getD undef = .pointer (some ⟨x,0,none⟩):=(eval_get a 5).trans ((hA.eval (by simp)).trans rfl)
         go_simp
       · refine⟨rfl,IsR.mono _,fun a W hA hb hd=>takes_plain rfl (yields_value _ ?_ rfl)⟩
         have h149:a.tmps[149]?.getD undef = .pointer (some ⟨x,0,none⟩):=(eval_get a 149).trans (hd 8 (by simp) _ rfl)
         go_simp
       · refine⟨rfl,IsR.mono _,fun a W hA hb hd=>takes_plain rfl (yields_value _ ?_ rfl)⟩
         have h150:a.tmps[150]?.getD undef = .pointer (some ⟨x,0,none⟩):=(eval_get a 150).trans (hd 9 (by simp) _ rfl)
         go_simp
       · refine⟨rfl,IsR.mono _,fun a W hA hb hd=>takes_plain rfl (yields_value _ ?_ rfl)⟩
         have h151:a.tmps[151]?.getD undef = .pointer (some ⟨x,2,none⟩):=(eval_get a 151).trans (hd 10 (by simp) _ rfl)
         have hc:=(P7.out.box.ab hb).cell (k:=2) rfl
         go_simp
       · refine⟨rfl,IsR.mono _,fun a W hA hb hd=>takes_plain rfl (yields_value _ ?_ rfl)⟩
         have h5:a.tmps[5]?.getD undef = .pointer (some ⟨x,0,none⟩):=(eval_get a 5).trans ((hA.eval (by simp)).trans rfl)
         go_simp
       · refine⟨rfl,IsR.mono _,fun a W hA hb hd=>takes_plain rfl (yields_value _ ?_ rfl)⟩
         have h153:a.tmps[153]?.getD undef = .pointer (some ⟨x,0,none⟩):=(eval_get a 153).trans (hd 12 (by simp) _ rfl)
         go_simp
       · refine⟨rfl,IsR.mono _,fun a W hA hb hd=>takes_plain rfl (yields_value _ ?_ rfl)⟩
         have h154:a.tmps[154]?.getD undef = .pointer (some ⟨x,0,none⟩):=(eval_get a 154).trans (hd 13 (by simp) _ rfl)
         go_simp
       · refine⟨rfl,IsR.mono _,fun a W hA hb hd=>takes_plain rfl (yields_value _ ?_ rfl)⟩
         have h155:a.tmps[155]?.getD undef = .pointer (some ⟨x,3,none⟩):=(eval_get a 155).trans (hd 14 (by simp) _ rfl)
         have hc:=(P7.out.box.ab hb).cell (k:=3) rfl
         go_simp
       · refine⟨rfl,RunW.mono,fun a W hA hb hd=>takes_plain rfl ?_⟩
         have h156:a.tmps[156]?.getD undef = .pointer (some ⟨p,0,none⟩):=(eval_get a 156).trans (hd 15 (by simp) _ rfl)
         refine yields_call 16 #[.pointer (some ⟨p,0,none⟩)] (by go_simp) ((pfree_any (P7.out.ab hb).pg).mono ?_)
         rintro e W1 ⟨v,rfl,h1,h2⟩
         exact⟨_,rfl,RuB.lower h1 hb.size,h2⟩
       · refine⟨rfl,NewQ.mono,fun a W hA hb hd=>takes_plain rfl ?_⟩
         have h144:a.tmps[144]?.getD undef = .pointer (some ⟨d,0,none⟩):=(eval_get a 144).trans (hd 3 (by simp) _ rfl)
         have h148:a.tmps[148]?.getD undef = .pointer (some ⟨rg,0,none⟩):=(eval_get a 148).trans (hd 7 (by simp) _ rfl)
         have h152:a.tmps[152]?.getD undef = .pointer (some ⟨lg,0,none⟩):=(eval_get a 152).trans (hd 11 (by simp) _ rfl)
         have hru:RuB W w7.heap.size (a.eval (.tmp 157)) (mkR (2+i) 40):=hd 16 (by simp) _ rfl
         obtain⟨Af,cf,hfv,hrn,_⟩:=hru.rn
         have h157:a.tmps[157]?.getD undef = .slice Af (mkR (2+i) 40).length cf:=(eval_get a 157).trans hfv
         refine yields_call 15 #[.pointer (some ⟨d,0,none⟩),.pointer (some ⟨rg,0,none⟩),.pointer (some ⟨lg,0,none⟩),.slice Af (mkR (2+i) 40).length cf] (by go_simp) ((new_ok (rg:=rg) (lg:=lg) (P7.out.ab hb).dv hrn (by rw[HD.out.n40];decide) (Rgt.mk _ _).right (by rw[HD.out.n40];exact frNew_sd I30.out)).mono ?_)
         rintro e W1 ⟨q,O1,rfl,h1,h2,h3⟩
         exact⟨_,rfl,⟨q,O1,rfl,Nat.le_trans hb.size h3,h1,fun k hk=>(h2.tg k (Nat.lt_of_lt_of_le hk hb.size)).trans (cutO_old hk)⟩,h2.below (Below.refl _ _) (Nat.le_refl _) (fun _ _ h=>h)⟩
       · refine⟨rfl,NewQ.mono,fun a W hA hb hd=>takes_plain rfl ?_⟩
         obtain⟨q,O1,e0,h2,h3,h4⟩:=hd 17 (by simp) _ rfl
         have h0:a.tmps[158]?.getD undef = .tuple #[.pointer (some ⟨q,0,none⟩),.int .i64 0]:=(eval_get a 158).trans e0
         refine yields_value (.tuple #[.pointer (some ⟨q,0,none⟩),.int .i64 0]) ?_ ⟨q,O1,rfl,h2,h3,h4⟩
         go_simp
       · refine⟨rfl,NewQ.mono,fun a W hA hb hd=>takes_plain rfl ?_⟩
         obtain⟨q,O1,e0,h2,h3,h4⟩:=hd 18 (by simp) _ rfl
         have h0:a.tmps[140]?.getD undef = .tuple #[.pointer (some ⟨q,0,none⟩),.int .i64 0]:=(eval_get a 140).trans e0
         refine yields_value (.pointer (some ⟨q,0,none⟩)) ?_ ⟨q,O1,rfl,h2,h3,h4⟩
         go_simp
       · refine⟨rfl,IsR.mono _,fun a W hA hb hd=>takes_plain rfl ?_⟩
         obtain⟨q,O1,e0,h2,h3,h4⟩:=hd 18 (by simp) _ rfl
         have h0:a.tmps[140]?.getD undef = .tuple #[.pointer (some ⟨q,0,none⟩),.int .i64 0]:=(eval_get a 140).trans e0
         refine yields_value (.int .i64 0) ?_ rfl
         go_simp
       · refine⟨rfl,NewQ.mono,fun a W hA hb hd=>takes_plain rfl ?_⟩
         obtain⟨q,O1,e0,h2,h3,h4⟩:=hd 19 (by simp) _ rfl
         have h0:a.tmps[159]?.getD undef = .pointer (some ⟨q,0,none⟩):=(eval_get a 159).trans e0
         refine yields_value (.pointer (some ⟨q,0,none⟩)) ?_ ⟨q,O1,rfl,h2,h3,h4⟩
         go_simp
       intro vs w8 hR hF hb
       obtain⟨q,O8,e16,hge,hq8,ht8⟩:NewQ w7.heap.size O7 d rg lg (sdT fs i 0) (fun q=>.pointer (some ⟨q,0,none⟩)) (vs 16) w8:=hR 21 _ rfl
       have e141:vs 141 = .pointer (some ⟨x,0,none⟩):=hR 0 _ rfl
       have e142:vs 142 = .pointer (some ⟨x,0,none⟩):=hR 1 _ rfl
       have e143:vs 143 = .pointer (some ⟨x,0,none⟩):=hR 2 _ rfl
       have e144:vs 144 = .pointer (some ⟨d,0,none⟩):=hR 3 _ rfl
       have e145:vs 145 = .pointer (some ⟨x,0,none⟩):=hR 4 _ rfl
       have e146:vs 146 = .pointer (some ⟨x,0,none⟩):=hR 5 _ rfl
       have e147:vs 147 = .pointer (some ⟨x,1,none⟩):=hR 6 _ rfl
       have e148:vs 148 = .pointer (some ⟨rg,0,none⟩):=hR 7 _ rfl
       have e149:vs 149 = .pointer (some ⟨x,0,none⟩):=hR 8 _ rfl
       have e150:vs 150 = .pointer (some ⟨x,0,none⟩):=hR 9 _ rfl
       have e151:vs 151 = .pointer (some ⟨x,2,none⟩):=hR 10 _ rfl
       have e152:vs 152 = .pointer (some ⟨lg,0,none⟩):=hR 11 _ rfl
       have e153:vs 153 = .pointer (some ⟨x,0,none⟩):=hR 12 _ rfl
       have e154:vs 154 = .pointer (some ⟨x,0,none⟩):=hR 13 _ rfl
       have e155:vs 155 = .pointer (some ⟨x,3,none⟩):=hR 14 _ rfl
       have e156:vs 156 = .pointer (some ⟨p,0,none⟩):=hR 15 _ rfl
       have e160:vs 160 = .int .i64 0:=hR 20 _ rfl
       simp only[List.map_cons,List.map_nil,List.foldl_cons,List.foldl_nil,List.length_cons,List.length_nil,List.drop_succ_cons,List.drop_zero,Act.put,List.setIfInBounds_toArray,List.set_cons_zero,List.set_cons_succ,e141,e142,e143,e144,e145,e146,e147,e148,e149,e150,e151,e152,e153,e154,e155,e156,e160]
       rw[e16]
       have s8:Wr (fun _=>False) w7 O7 w8 O8:=Wr.of hb _ ht8
       have P8:Hid (PlM w8 O8 x p d rg lg _ _ _ _ _):=Lib.hid ⟨P7.out.box.ab hb,(ht8 _ P7.out.box.lt).trans P7.out.tx,P7.out.pg.wr s8 (fun _=>id) id,P7.out.dv.wr s8 id,P7.out.ri.wr s8 id id,P7.out.lo.wr s8 id⟩
       have Q8:=Lib.hid hq8
       have QG:Hid (w7.heap.size≤q∧p<w7.heap.size):=Lib.hid ⟨hge,P7.out.pg.lt⟩
       have V8:Hid (RefsB w8 w.heap.size v9 i∧∀k,v9.ownBlock=some k→O8 k=(0,6)):=Lib.hid ⟨row_fr V7.out.1 s8.fr (fun _ _ h=>h),fun k hk=>(ht8 k (row_ltD V7.out.1 k hk)).trans (V7.out.2 k hk)⟩
       have B8:=Lib.hid (below_tr B7.out hb B7.out.size)
       have O8L:Hid (∀k,k<w.heap.size→O8 k=(0,9)):=Lib.hid fun k hk=>(ht8 k (Nat.lt_of_lt_of_le hk B7.out.size)).trans (O7L.out k hk)
       clear hR hF hb s8 e16 hge hq8 ht8 P7 V7 B7 O7L e141 e142 e143 e144 e145 e146 e147 e148 e149 e150 e151 e152 e153 e154 e155 e156 e160
       generalize vs 157=q157 at *
       generalize vs 158=q158 at *
       generalize vs 140=q140 at *
       generalize vs 159=q159 at *
       generalize vs 16=q16 at *
       obtain⟨A9,c9,hv9⟩:=row_shape V8.out.1
       subst hv9
       have P9:Hid (PlM w8 O8 x q d rg lg _ (sdT fs i 0) _ _ _):=Lib.hid ⟨P8.out.box,P8.out.tx,Q8.out,P8.out.dv,P8.out.ri,P8.out.lo⟩
       clear P8 Q8 QG
       have IN:Hid (fs.length=i):=Lib.hid IF.out.len
       have iib:(i:Int)≤30:=by have:=I30.out;omega
       go_wp2_with fail
       go_loopw [169] (fun z wr=>∃(k:Nat) (O1:Tgm),k≤i∧z = .int .i64 (k:Int)∧LpB w wr O1 x q d rg lg #[.pointer (some ⟨d,0,none⟩),.pointer (some ⟨rg,0,none⟩),.pointer (some ⟨lg,0,none⟩),.pointer (some ⟨p,0,none⟩),.pointer (some ⟨gw,0,none⟩),.slice none 0 0,.slice none 0 0] (sdT fs i k) D2 [((1,3),key)] al2 (.slice A9 i c9) i) (fun z _=>i-(intOf z).toNat)
       case atStart=>exact⟨0,O8,Nat.zero_le _,rfl,V8.out.1,V8.out.2,P9.out,B8.out,O8L.out⟩
       case round=>
        clear P9 V8 B8 O8L
        obtain⟨k,O1,hk,rfl,hL⟩:=hrel
        have LB:=Lib.hid hL
        clear hL
        by_cases hlt:k<i
        · have hlti:(k:Int)<(i:Int):=by omega
          have HLT:=Lib.hid hlt
          obtain⟨y9,rfl,_,r0,r1,r2⟩:=refs_at LB.out.rf hlt
          obtain⟨yf,rfl,_,_⟩:=(IF.out.ab LB.out.bl).cell (by omega)
          obtain⟨b,hbb⟩:∃b,at' fs k=b:=⟨_,rfl⟩
          have HBB:Hid (b<256):=Lib.hid (by
           rw[←hbb]
           have hl:=IF.out.len
           unfold at'
           rw[List.getElem?_eq_getElem (by omega)]
           exact BY.out.2 _ (List.getElem_mem (by omega)))
          have HBF:=Lib.hid hbb
          have FC:Hid (∀W,Below w.heap.size w W→W.cell? (yf.add k)=some (.int .u8 (b:Int))):=Lib.hid fun W hW=>by
           obtain⟨y',e,_,hc⟩:=(IF.out.ab hW).cell (by have:=HLT.out;omega)
           injection e with e
           subst e
           rw[←HBF.out]
           exact hc k HLT.out
          have AB:Hid (Below wr.heap.size wr (wr.alloc (.cells #[.int .u32 ((2+k:Nat):Int),.int .u64 7,.int .u16 3] 37))):=Lib.hid ((Below.refl _ _).alloc (Nat.le_refl _) _)
          have LA:=Lib.hid (LB.out.ab AB.out)
          have GE:Hid (Calls Tryz.prog 11 #[.pointer (some ⟨q,0,none⟩),.int .u32 1,.int .u8 1,.int .u8 0,.agg #[.int .u32 ((2+k:Nat):Int),.int .u64 7,.int .u16 3]] (wr.alloc (.cells #[.int .u32 ((2+k:Nat):Int),.int .u64 7,.int .u16 3] 37)) fun e W1=>∃v O' B',e = .returned (.tuple #[v,.int .i64 0])∧OwB W1 B' v (payB b)∧LpB w W1 O' x q d rg lg #[.pointer (some ⟨d,0,none⟩),.pointer (some ⟨rg,0,none⟩),.pointer (some ⟨lg,0,none⟩),.pointer (some ⟨p,0,none⟩),.pointer (some ⟨gw,0,none⟩),.slice none 0 0,.slice none 0 0] (sdT fs i (k+1)) D2 [((1,3),key)] al2 (.slice (some y9) i c9) i):=Lib.hid (by
           have i30:=I30.out
           have hk:=HLT.out
           refine (pget_any (l:=lbJ k) LA.out.pl.pg LA.out.pl.dv LA.out.pl.ri HD.out.ok (lbJ_ok (by omega)) knS_lens).mono ?_
           rw[get_miss9 KO.out HD.out hk i30,show fs.getD k 0=b from (List.getD_eq_getElem?_getD ..).trans HBF.out]
           rintro e W1 ⟨v,O',rfl,h1,h2,h3⟩
           exact⟨v,O',_,rfl,h1,LA.out.pgs h3 (fun τ h=>by rw[h]) h2⟩)
          clear hlt hk hbb LB
          go_wp2_with fail
          refine GE.out.mono ?_
          rintro e w5 ⟨v5,O5,B5,rfl,ho5,hL5⟩
          obtain⟨A5,c5,rfl,_,_⟩:=ho5.shape
          have i5:=ho5.isB rfl
          rw[payB_len] at i5⊢
          have I5:Hid (IsB w5 A5 224 c5 (payB b)):=Lib.hid i5
          have L5:=Lib.hid hL5
          clear r0 r1 r2 ho5 hL5 i5 GE LA AB
          go_upto_region 30 with (fail)
          refine wp_wide3 [⟨180,IsR (.int .i64 0),[],false⟩,⟨181,IsR (.bool false),[0],false⟩,⟨182,IsR (.bool false),[1],false⟩,⟨183,IsR (.slice A5 224 c5),[2],false⟩,⟨184,IsR (.string (strOf (payB b))),[2,3],false⟩,⟨185,IsR (.slice (some yf) i fc),[2],false⟩,⟨186,IsR (.int .i64 (k:Int)),[2],false⟩,⟨187,IsR (.pointer (some (yf.add k))),[2,5,6],false⟩,⟨188,IsR (.int .u8 (b:Int)),[2,7],false⟩,⟨189,FilB w5.heap.size b,[2,8],false⟩,⟨190,IsR (.string (strOf (payB b))),[2,9],false⟩,⟨191,IsR (.bool false),[2,4,10],false⟩] (by kernel_rfl) (by kernel_rfl) rfl rfl rfl ⟨?_,?_,?_,?_,?_,?_,?_,?_,?_,?_,?_,?_,trivial⟩ ?_
          · refine⟨rfl,IsR.mono _,fun a W hA hb hd=>takes_plain rfl (yields_value _ ?_ rfl)⟩
            have h21:a.tmps[21]?.getD undef = .int .i64 0:=(eval_get a 21).trans ((hA.eval (by simp)).trans rfl)
            go_simp
          · refine⟨rfl,IsR.mono _,fun a W hA hb hd=>takes_plain rfl (yields_value _ ?_ rfl)⟩
            have h180:a.tmps[180]?.getD undef = .int .i64 0:=(eval_get a 180).trans (hd 0 (by simp) _ rfl)
            go_simp
          · refine⟨rfl,IsR.mono _,fun a W hA hb hd=>takes_plain rfl (yields_value _ ?_ rfl)⟩
            have h181:a.tmps[181]?.getD undef = .bool false:=(eval_get a 181).trans (hd 1 (by simp) _ rfl)
            go_simp
          · refine⟨rfl,IsR.mono _,fun a W hA hb hd=>takes_on (i:=2) (d:=182) (b:=false) rfl rfl rfl (hd 2 (by simp) _ rfl) (yields_value _ ?_ rfl)⟩
            have h20:a.tmps[20]?.getD undef = .slice A5 224 c5:=(eval_get a 20).trans ((hA.eval (by simp)).trans rfl)
            go_simp
          · refine⟨rfl,IsR.mono _,fun a W hA hb hd=>takes_on (i:=2) (d:=182) (b:=false) rfl rfl rfl (hd 2 (by simp) _ rfl) (yields_value _ ?_ rfl)⟩
            have h183:a.tmps[183]?.getD undef = .slice A5 224 c5:=(eval_get a 183).trans (hd 3 (by simp) _ rfl)
            have hc:=run_str (I5.out.ab hb) 22 5 9 Tryz.underlying22 Tryz.underlying5 Tryz.underlying9
            go_simp
          · refine⟨rfl,IsR.mono _,fun a W hA hb hd=>takes_on (i:=2) (d:=182) (b:=false) rfl rfl rfl (hd 2 (by simp) _ rfl) (yields_value _ ?_ rfl)⟩
            have h1:a.tmps[1]?.getD undef = .slice (some yf) i fc:=(eval_get a 1).trans ((hA.eval (by simp)).trans rfl)
            go_simp
          · refine⟨rfl,IsR.mono _,fun a W hA hb hd=>takes_on (i:=2) (d:=182) (b:=false) rfl rfl rfl (hd 2 (by simp) _ rfl) (yields_value _ ?_ rfl)⟩
            have h18:a.tmps[18]?.getD undef = .int .i64 (k:Int):=(eval_get a 18).trans ((hA.eval (by simp)).trans rfl)
            go_simp
          · refine⟨rfl,IsR.mono _,fun a W hA hb hd=>takes_on (i:=2) (d:=182) (b:=false) rfl rfl rfl (hd 2 (by simp) _ rfl) (yields_value _ ?_ rfl)⟩
            have h185:a.tmps[185]?.getD undef = .slice (some yf) i fc:=(eval_get a 185).trans (hd 5 (by simp) _ rfl)
            have h186:a.tmps[186]?.getD undef = .int .i64 (k:Int):=(eval_get a 186).trans (hd 6 (by simp) _ rfl)
            have k0:(0:Int)≤(k:Int):=by omega
            have k1:(k:Int)<(i:Int):=hlti
            go_simp
          · refine⟨rfl,IsR.mono _,fun a W hA hb hd=>takes_on (i:=2) (d:=182) (b:=false) rfl rfl rfl (hd 2 (by simp) _ rfl) (yields_value _ ?_ rfl)⟩
            have h187:a.tmps[187]?.getD undef = .pointer (some (yf.add k)):=(eval_get a 187).trans (hd 7 (by simp) _ rfl)
            have hc:=FC.out W (below_tr L5.out.bl hb L5.out.bl.size)
            go_simp
          · refine⟨rfl,FilB.mono,fun a W hA hb hd=>takes_on (i:=2) (d:=182) (b:=false) rfl rfl rfl (hd 2 (by simp) _ rfl) ?_⟩
            have h188:a.tmps[188]?.getD undef = .int .u8 (b:Int):=(eval_get a 188).trans (hd 8 (by simp) _ rfl)
            refine yields_call 9 #[.int .u8 (b:Int)] (by go_simp) ((fill_any b HBB.out W).mono ?_)
            rintro e W1 ⟨g,rfl,h1,h2,h3⟩
            exact⟨_,rfl,⟨g,rfl,isB_whole h2 (payB_byt HBB.out) (payB_len b) (by decide),Nat.le_trans hb.size h1⟩,h3⟩
          · refine⟨rfl,IsR.mono _,fun a W hA hb hd=>takes_on (i:=2) (d:=182) (b:=false) rfl rfl rfl (hd 2 (by simp) _ rfl) ?_⟩
            obtain⟨g,e0,h1,h2⟩:=hd 9 (by simp) _ rfl
            have h0:a.tmps[189]?.getD undef = .slice (some ⟨g,0,none⟩) 224 224:=(eval_get a 189).trans e0
            have hc:=run_str h1 22 5 9 Tryz.underlying22 Tryz.underlying5 Tryz.underlying9
            refine yields_value (.string (strOf (payB b))) ?_ rfl
            go_simp
          · refine⟨rfl,IsR.mono _,fun a W hA hb hd=>takes_on (i:=2) (d:=182) (b:=false) rfl rfl rfl (hd 2 (by simp) _ rfl) (yields_value _ ?_ rfl)⟩
            have h184:a.tmps[184]?.getD undef = .string (strOf (payB b)):=(eval_get a 184).trans (hd 4 (by simp) _ rfl)
            have h190:a.tmps[190]?.getD undef = .string (strOf (payB b)):=(eval_get a 190).trans (hd 10 (by simp) _ rfl)
            go_simp
          intro vs w8 hR hF hb
          have e180:vs 180 = .int .i64 0:=hR 0 _ rfl
          have e181:vs 181 = .bool false:=hR 1 _ rfl
          have e182:vs 182 = .bool false:=hR 2 _ rfl
          have e183:vs 183 = .slice A5 224 c5:=hR 3 _ rfl
          have e184:vs 184 = .string (strOf (payB b)):=hR 4 _ rfl
          have e185:vs 185 = .slice (some yf) i fc:=hR 5 _ rfl
          have e186:vs 186 = .int .i64 (k:Int):=hR 6 _ rfl
          have e187:vs 187 = .pointer (some (yf.add k)):=hR 7 _ rfl
          have e188:vs 188 = .int .u8 (b:Int):=hR 8 _ rfl
          have e190:vs 190 = .string (strOf (payB b)):=hR 10 _ rfl
          have e191:vs 191 = .bool false:=hR 11 _ rfl
          simp only[List.map_cons,List.map_nil,List.foldl_cons,List.foldl_nil,List.length_cons,List.length_nil,List.drop_succ_cons,List.drop_zero,Act.put,List.setIfInBounds_toArray,List.set_cons_zero,List.set_cons_succ,e180,e181,e182,e183,e184,e185,e186,e187,e188,e190,e191]
          generalize vs 189=q189 at *
          have B58:=Lib.hid hb
          clear hR hF hb e180 e181 e182 e183 e184 e185 e186 e187 e188 e190 e191
          have L8:=Lib.hid (L5.out.ab B58.out)
          clear L5 I5 B58 FC
          go_wp2_with fail
          go_roundw
          case rel=>exact⟨k+1,_,HLT.out,by go_num,L8.out⟩
          case measure=>simp[intOf];have:=HLT.out;omega
        · obtain rfl:i=k:=by omega
          have HB8:=Lib.hid (beginM (n:=8) LB.out.pl.pg (by decide) rfl rfl (by show 0<8;decide))
          clear hlt hk
          go_wp2_with fail
          refine HB8.out.mono ?_
          rintro e w5 ⟨O5,rfl,hp5,hw5⟩
          have L5:Hid (LpB w w5 O5 x q d rg lg #[.pointer (some ⟨d,0,none⟩),.pointer (some ⟨rg,0,none⟩),.pointer (some ⟨lg,0,none⟩),.pointer (some ⟨p,0,none⟩),.pointer (some ⟨gw,0,none⟩),.slice none 0 0,.slice none 0 0] (drT fs i 0) D2 [((1,3),key)] al2 (.slice A9 i c9) i):=Lib.hid (LB.out.pgs hw5 (fun τ h=>by rw[h]) hp5)
          clear hp5 hw5 HB8 LB
          go_wp2_with fail
          go_loopw [199] (fun z wr=>∃(k:Nat) (O1:Tgm),k≤i∧z = .int .i64 (k:Int)∧LpB w wr O1 x q d rg lg #[.pointer (some ⟨d,0,none⟩),.pointer (some ⟨rg,0,none⟩),.pointer (some ⟨lg,0,none⟩),.pointer (some ⟨p,0,none⟩),.pointer (some ⟨gw,0,none⟩),.slice none 0 0,.slice none 0 0] (drT fs i k) D2 [((1,3),key)] al2 (.slice A9 i c9) i) (fun z _=>i-(intOf z).toNat)
          case atStart=>exact⟨0,O5,Nat.zero_le _,rfl,L5.out⟩
          case round=>
           clear L5
           obtain⟨k,O1,hk,rfl,hL⟩:=hrel
           have LB:=Lib.hid hL
           clear hL
           by_cases hlt:k<i
           · have hlti:(k:Int)<(i:Int):=by omega
             have HLT:=Lib.hid hlt
             obtain⟨y9,rfl,_,r0,r1,r2⟩:=refs_at LB.out.rf hlt
             have AB:Hid (Below wr.heap.size wr (wr.alloc (.cells #[.int .u32 ((2+k:Nat):Int),.int .u64 7,.int .u16 3] 37))):=Lib.hid ((Below.refl _ _).alloc (Nat.le_refl _) _)
             have DN:=Lib.hid (drop_two (cm:=7) (gn:=3) hlt I30.out HD.out (LB.out.ab AB.out) (CbB.new _ _ _) (cutO_at (Nat.le_refl _)))
             clear hlt hk LB AB
             go_wp2_with fail
             refine DN.out.mono ?_
             rintro e w5 ⟨O5,rfl,hL5,hc5,hd5⟩
             have d0:w5.cell? ⟨wr.heap.size,0,none⟩=some (.int .u32 ((2+k:Nat):Int)):=hc5.cell (k:=0) rfl
             have d1:w5.cell? ⟨wr.heap.size,1,none⟩=some (.int .u64 7):=hc5.cell (k:=1) rfl
             have d2:w5.cell? ⟨wr.heap.size,2,none⟩=some (.int .u16 3):=hc5.cell (k:=2) rfl
             have D5:=Lib.hid hd5
             clear hL5 hc5 hd5 DN r0 r1 r2
             go_wp2_with fail
             refine D5.out.mono ?_
             rintro e w6 ⟨rfl,hL6⟩
             have L6:=Lib.hid hL6
             clear hL6 D5 d0 d1 d2
             go_wp2_with fail
             go_roundw
             case rel=>exact⟨k+1,_,HLT.out,by go_num,L6.out⟩
             case measure=>simp[intOf];have:=HLT.out;omega
           · obtain rfl:i=k:=by omega
             obtain⟨D3,hf3,q3,ok3,n3,st3,ws3,nw3,fm3⟩:=flush_none (R:=[((1,3),key)]) (i:=i) (al:=al2) HD.out
             have HFL:=Lib.hid (flush_any LB.out.pl.pg LB.out.pl.dv LB.out.pl.lo LB.out.pl.ri HD.out.ok (by have:=HD.out.st;omega) (by rw[HD.out.ws];show 0≤90000;omega) (by have:=HA.out;have:=I30.out;omega) rfl ⟨by show ¬8=0;decide,rfl⟩ (fun x hx=>by cases hx) (Nat.zero_le _))
             rw[hf3] at HFL
             simp only at HFL
             obtain⟨T4,D4,hs4,fr4,kn4,ok4,n4,bl4⟩:=scrub_law I30.out HD.out q3 ok3 n3 nw3 fm3
             have PI:=Lib.hid LB.out.pl
             have BI:=Lib.hid LB.out.bl
             have OI:=Lib.hid LB.out.ol
             have F3:=Lib.hid (And.intro ok3 (And.intro n3 (And.intro st3 ws3)))
             have F4:=Lib.hid (And.intro fr4 (And.intro kn4 (And.intro ok4 (And.intro n4 bl4))))
             have HS4:=Lib.hid hs4
             clear hlt hk LB hf3 q3 ok3 n3 st3 ws3 nw3 fm3 fr4 kn4 ok4 n4 bl4 hs4
             go_wp2_with fail
             refine HFL.out.mono ?_
             rintro e w5 ⟨O5,rfl,hp5,hd5,hl5,hw5⟩
             have h0:=PI.out.pos
             have P5:Hid (PlM w5 O5 x q d rg lg _ _ _ _ _):=Lib.hid ⟨CbB.fr PI.out.box hw5.fr (fun e=>not_fl (i:=8) h0 (by decide) (by decide) (by rw[←PI.out.tx];exact e)),(hw5.tg _ PI.out.box.lt).trans PI.out.tx,hp5,hd5,PI.out.ri.wr hw5 (not_fl h0 (by decide) (by decide)) (not_fl h0 (by decide) (by decide)),hl5⟩
             have B5:Hid (Below w.heap.size w w5):=Lib.hid (hw5.below BI.out BI.out.size (fun k hk h=>not_fl (i:=9) h0 (by decide) (by decide) (by rw[←OI.out k hk];exact h)))
             have O5L:Hid (∀k,k<w.heap.size→O5 k=(0,9)):=Lib.hid fun k hk=>(hw5.tg k (Nat.lt_of_lt_of_le hk BI.out.size)).trans (OI.out k hk)
             have HSC:=Lib.hid (scrub_any P5.out.pg P5.out.dv F3.out.1 (by have:=F3.out.2.2.1;omega) (by rw[F3.out.2.2.2];show 0≤90000;omega) rfl (.inr rfl) (by rw[F3.out.2.1];exact puS_bd I30.out) (by show (puS i).length≤5000;rw[puS_len];have:=I30.out;omega) (fun x hx=>by cases hx))
             rw[HS4.out] at HSC
             simp only at HSC
             clear hp5 hd5 hl5 hw5 HFL PI BI OI
             go_wp2_with fail
             refine HSC.out.mono ?_
             rintro e w6 ⟨rfl,O6,hp6,hd6,hw6⟩
             have X6:=Lib.hid (CbB.fr P5.out.box hw6.fr (fun e=>not_sc (i:=8) h0 (by decide) (by rw[←P5.out.tx];exact e)))
             have Q6:=Lib.hid hp6
             have V6:=Lib.hid hd6
             have B6:Hid (Below w.heap.size w w6):=Lib.hid (hw6.below B5.out B5.out.size (fun k hk h=>not_sc (i:=9) h0 (by decide) (by rw[←O5L.out k hk];exact h)))
             have HUS:Hid (Calls Tryz.prog 14 #[.pointer (some ⟨q,0,none⟩),.int .u32 1] w6 fun e w'=>e = .returned (.int .i64 0)∧Below w6.heap.size w6 w'):=Lib.hid ((used_any 1 (by decide) Q6.out (by rw[F4.out.2.1];exact Nat.zero_le _)).mono fun e w' ⟨h1,h2⟩=>⟨by rw[h1,F4.out.2.1];rfl,h2⟩)
             clear hp6 hd6 hw6 HSC P5 B5 O5L h0
             go_wp2_with fail
             refine HUS.out.mono ?_
             rintro e w7 ⟨rfl,hb7⟩
             have X7:=Lib.hid (X6.out.ab hb7)
             have Q7:=Lib.hid (Q6.out.wr (Wr.cut (O:=O6) hb7 (fun _=>False)) (fun _=>id) id)
             have V7:=Lib.hid (V6.out.wr (Wr.cut (O:=O6) hb7 (fun _=>False)) id)
             have B7:=Lib.hid (below_tr B6.out hb7 B6.out.size)
             clear hb7 HUS X6 Q6 V6 B6
             go_wp2_with fail
             go_loopw [227] (fun z wr=>∃k:Nat,k≤40∧z = .int .i64 (k:Int)∧Below w7.heap.size w7 wr) (fun z _=>40-(intOf z).toNat)
             case atStart=>exact⟨0,Nat.zero_le _,rfl,Below.refl _ _⟩
             case round=>
              obtain⟨k,hk,rfl,hb⟩:=hrel
              have HB:=Lib.hid hb
              clear hb
              by_cases hlt:k<40
              · have hlti:(k:Int)<40:=by omega
                have HLT:=Lib.hid hlt
                have c0:wr.cell? ⟨x,0,none⟩=some (.pointer (some ⟨d,0,none⟩)):=(X7.out.ab HB.out).cell (k:=0) rfl
                obtain⟨g1,g2,wv,hds,_⟩:=V7.out.wr (Wr.cut HB.out (fun _=>False)) id
                have FI:=Lib.hid (firm_any k (by rw[F4.out.2.2.2.1];exact hlt) F4.out.2.2.1 hds)
                clear hlt hk hds
                go_wp2_with fail
                refine FI.out.mono ?_
                rintro e w8 ⟨g,rfl,hg,hib,hb8⟩
                rw[F4.out.2.2.2.2 k HLT.out] at hib
                have HN:=Lib.hid (nought_zero g 256 256 w8 (by decide) hib)
                have HB8:=Lib.hid (below_tr HB.out hb8 HB.out.size)
                clear hg hib hb8 FI c0 HB
                go_wp2_with fail
                refine HN.out.mono ?_
                rintro e w9 ⟨rfl,hb9⟩
                have HB9:=Lib.hid (below_tr HB8.out hb9 HB8.out.size)
                clear hb9 HN HB8
                go_wp2_with fail
                go_roundw
                case rel=>exact⟨k+1,HLT.out,by go_num,HB9.out⟩
                case measure=>simp[intOf];have:=HLT.out;omega
              · have hgei:¬(k:Int)<40:=by omega
                have B9:=Lib.hid (below_tr B7.out HB.out B7.out.size)
                have HFR:=Lib.hid (pfree_any (Q7.out.wr (Wr.cut HB.out (fun _=>False)) (fun _=>id) id))
                rw[F4.out.1] at HFR
                clear hlt hk HB Q7 V7 B7 X7
                go_wp2_with fail
                refine HFR.out.mono ?_
                rintro e w8 ⟨v8,rfl,hru,hb8⟩
                obtain⟨A8,c8,rfl,hrn,_⟩:=hru.rn
                obtain⟨y8,rfl,_,hcl⟩:=hrn.at (i:=0) (r:=(2,40)) rfl
                obtain⟨r0,r1⟩:=hcl w8 (Below.refl _ _)
                simp only[Nat.zero_mul,addr_zero] at r0 r1
                have q0:w8.cell? y8=some (.int .u32 2):=r0
                have q1:w8.cell? ⟨y8.block,y8.off+1,none⟩=some (.int .u32 40):=r1
                have B8:=Lib.hid (below_tr B9.out hb8 B9.out.size)
                have e1:([(2,40)]:RnL).length=1:=rfl
                rw[e1]
                clear r0 r1 hcl hrn hru hb8 e1 B9 HFR hgei
                go_wp2_with fail
                refine (known19_any w8).mono ?_
                rintro e w9 ⟨rfl,hb9⟩
                have B10:=Lib.hid (below_tr B8.out hb9 B8.out.size)
                clear hb9
                go_wp2_with fail
                go_ret
                exact⟨rfl,B10.out⟩
 · rw[foldK_no hko] at hr
   have P3:Hid (PlM w3 O3 x p d rg lg _ _ _ _ _):=Lib.hid ⟨hx,hxt,hp,hd,hr,hl⟩
   have n16:¬(kn:Int)=16:=by have:=LN.out;unfold KeyOk at hko;omega
   have n32:¬(kn:Int)=32:=by have:=LN.out;unfold KeyOk at hko;omega
   have m16:((kn:Int)==16)=false:=beq_eq_false_iff_ne.2 n16
   have m32:((kn:Int)==32)=false:=beq_eq_false_iff_ne.2 n32
   have b16:((kn:Int) != 16)=true:=by rw[bne,m16];rfl
   have b32:((kn:Int) != 32)=true:=by rw[bne,m32];rfl
   have d16:decide ((kn:Int)=16)=false:=decide_eq_false n16
   have d32:decide ((kn:Int)=32)=false:=decide_eq_false n32
   have k16:¬kn=16:=by omega
   have k32:¬kn=32:=by omega
   have j16:(kn==16)=false:=beq_eq_false_iff_ne.2 k16
   have j32:(kn==32)=false:=beq_eq_false_iff_ne.2 k32
   have l16:decide (kn=16)=false:=decide_eq_false k16
   have l32:decide (kn=32)=false:=decide_eq_false k32
   clear hx hp hd hr hl hxt hlo hb3 R2 K2 h64 B2 hko
   go_upto_region 7 with (fail)
   refine wp_wideL [⟨53,IsR (.pointer (some ⟨x,0,none⟩)),[],false⟩,⟨54,IsR (.pointer (some ⟨x,0,none⟩)),[0],false⟩,⟨55,IsR (.pointer (some ⟨x,3,none⟩)),[1],false⟩,⟨56,IsR (.pointer (some ⟨p,0,none⟩)),[2],false⟩,⟨57,ShR9,[],false⟩,⟨58,IsR (.tuple #[.agg #[.int .u32 0,.int .u64 0,.int .u16 0],.int .i64 2]),[3,4],false⟩,⟨52,IsR (.tuple #[.agg #[.int .u32 0,.int .u64 0,.int .u16 0],.int .i64 2]),[5],false⟩,⟨59,IsR (.agg #[.int .u32 0,.int .u64 0,.int .u16 0]),[6],false⟩,⟨60,IsR (.int .i64 2),[6],false⟩,⟨7,RefR9 w3.heap.size,[],false⟩] 8 rfl rfl (fun _ _ _ d _ h=>by cases d <;> exact h) ⟨rfl,rfl,fun a W hA hb hd=>⟨.int .i64 2,fun w'=>?_,rfl⟩⟩ (by kernel_rfl) (by kernel_rfl) rfl rfl rfl ⟨?_,?_,?_,?_,?_,?_,?_,?_,?_,?_,trivial⟩ ?_
   · have h52:a.tmps[52]?.getD undef = .tuple #[.agg #[.int .u32 0,.int .u64 0,.int .u16 0],.int .i64 2]:=(eval_get a 52).trans (hd 6 (by simp) _ rfl)
     go_simp
   · refine⟨rfl,IsR.mono _,fun a W hA hb hd=>takes_plain rfl (yields_value _ ?_ rfl)⟩
     have h5:a.tmps[5]?.getD undef = .pointer (some ⟨x,0,none⟩):=(eval_get a 5).trans ((hA.eval (by simp)).trans rfl)
     go_simp
   · refine⟨rfl,IsR.mono _,fun a W hA hb hd=>takes_plain rfl (yields_value _ ?_ rfl)⟩
     have h53:a.tmps[53]?.getD undef = .pointer (some ⟨x,0,none⟩):=(eval_get a 53).trans (hd 0 (by simp) _ rfl)
     go_simp
   · refine⟨rfl,IsR.mono _,fun a W hA hb hd=>takes_plain rfl (yields_value _ ?_ rfl)⟩
     have h54:a.tmps[54]?.getD undef = .pointer (some ⟨x,0,none⟩):=(eval_get a 54).trans (hd 1 (by simp) _ rfl)
     go_simp
   · refine⟨rfl,IsR.mono _,fun a W hA hb hd=>takes_plain rfl (yields_value _ ?_ rfl)⟩
     have h55:a.tmps[55]?.getD undef = .pointer (some ⟨x,3,none⟩):=(eval_get a 55).trans (hd 2 (by simp) _ rfl)
     have hc:=(P3.out.box.ab hb).cell (k:=3) rfl
     go_simp
   · refine⟨rfl,ShR9.mono,fun a W hA hb hd=>takes_plain rfl ?_⟩
     refine yields_call 9 #[.int .u8 1] (by go_simp) ((fill_any 1 (by decide) W).mono ?_)
     rintro e W1 ⟨g,rfl,h1,h2,h3⟩
     exact⟨_,rfl,⟨g,rfl⟩,h3⟩
   · refine⟨rfl,IsR.mono _,fun a W hA hb hd=>takes_plain rfl ?_⟩
     obtain⟨g,e0⟩:=hd 4 (by simp) _ rfl
     have h57:a.tmps[57]?.getD undef = .slice (some ⟨g,0,none⟩) 224 224:=(eval_get a 57).trans e0
     have h56:a.tmps[56]?.getD undef = .pointer (some ⟨p,0,none⟩):=(eval_get a 56).trans (hd 3 (by simp) _ rfl)
     refine yields_call 8 #[.pointer (some ⟨p,0,none⟩),.int .u32 1,.int .u8 1,.int .u8 0,.slice (some ⟨g,0,none⟩) 224 224] (by go_simp) ((put_closed (t:=1) (k:=1) (lv:=0) (n:=224) (c:=224) (X:=some ⟨g,0,none⟩) (P3.out.ab hb).pg rfl (.inl rfl)).mono ?_)
     rintro e W1 ⟨rfl,h3⟩
     exact⟨_,rfl,rfl,h3⟩
   · refine⟨rfl,IsR.mono _,fun a W hA hb hd=>takes_plain rfl (yields_value _ ?_ rfl)⟩
     have h58:a.tmps[58]?.getD undef = .tuple #[.agg #[.int .u32 0,.int .u64 0,.int .u16 0],.int .i64 2]:=(eval_get a 58).trans (hd 5 (by simp) _ rfl)
     go_simp
   · refine⟨rfl,IsR.mono _,fun a W hA hb hd=>takes_plain rfl (yields_value _ ?_ rfl)⟩
     have h52:a.tmps[52]?.getD undef = .tuple #[.agg #[.int .u32 0,.int .u64 0,.int .u16 0],.int .i64 2]:=(eval_get a 52).trans (hd 6 (by simp) _ rfl)
     go_simp
   · refine⟨rfl,IsR.mono _,fun a W hA hb hd=>takes_plain rfl (yields_value _ ?_ rfl)⟩
     have h52:a.tmps[52]?.getD undef = .tuple #[.agg #[.int .u32 0,.int .u64 0,.int .u16 0],.int .i64 2]:=(eval_get a 52).trans (hd 6 (by simp) _ rfl)
     go_simp
   · refine⟨rfl,RefR9.mono,fun a W hA hb hd=>takes_plain rfl ?_⟩
     refine .inl ⟨.pointer (some ⟨W.heap.size,0,none⟩),W.alloc (.cells #[.int .u32 0,.int .u64 0,.int .u16 0] 37),?_,⟨_,rfl,CbB.new _ _ _,hb.size⟩,(Below.refl _ _).alloc (Nat.le_refl _) _,fresh_no _ _ _⟩
     go_simp
   intro vs w4 hR hF hb
   have RB:Hid (RefR9 w3.heap.size (vs 7) w4):=Lib.hid (hR 9 _ rfl)
   have B4:=Lib.hid (below_tr B3.out hb B3.out.size)
   have e53:vs 53 = .pointer (some ⟨x,0,none⟩):=hR 0 _ rfl
   have e54:vs 54 = .pointer (some ⟨x,0,none⟩):=hR 1 _ rfl
   have e55:vs 55 = .pointer (some ⟨x,3,none⟩):=hR 2 _ rfl
   have e56:vs 56 = .pointer (some ⟨p,0,none⟩):=hR 3 _ rfl
   have e58:vs 58 = .tuple #[.agg #[.int .u32 0,.int .u64 0,.int .u16 0],.int .i64 2]:=hR 5 _ rfl
   have e52:vs 52 = .tuple #[.agg #[.int .u32 0,.int .u64 0,.int .u16 0],.int .i64 2]:=hR 6 _ rfl
   have e59:vs 59 = .agg #[.int .u32 0,.int .u64 0,.int .u16 0]:=hR 7 _ rfl
   have e60:vs 60 = .int .i64 2:=hR 8 _ rfl
   simp only[List.map_cons,List.map_nil,List.foldl_cons,List.foldl_nil,List.length_cons,List.length_nil,List.drop_succ_cons,List.drop_zero,Act.put,List.setIfInBounds_toArray,List.set_cons_zero,List.set_cons_succ,e53,e54,e55,e56,e58,e52,e59,e60]
   generalize vs 57=q57 at *
   clear hR hF hb e53 e54 e55 e56 e58 e52 e59 e60
   generalize vs 7=q7 at *
   obtain⟨G,rfl,hG1,hG2⟩:=RB.out
   have GL:=Lib.hid (Nat.le_trans B3.out.size hG2)
   have GC:=Lib.hid hG1
   clear RB hG1 hG2
   go_wp2_with (first
    | (with_reducible refine wpList_storeC (o:=⟨none,.store _ (.tmp 7) (.tmp 59),_,_,_,_⟩) ?_ 37 (.tmp 7) (.tmp 59) ?_ G ?_ #[.int .u32 0,.int .u64 0,.int .u16 0] ?_ (t:=37) GC.out ?_ ?_ ?_ ?_
       · rfl
       · rfl
       · rfl
       · rfl
       · exact szRef9
       · rfl
       · simp[Value.oneCell']
       intro w5 hw5
       have B5:Hid (Below w.heap.size w w5):=Lib.hid (by rw[hw5];exact Below.row B4.out GL.out _)
       clear hw5))
   refine (known19_any w5).mono ?_
   rintro e w6 ⟨rfl,hb6⟩
   have B6:=Lib.hid (below_tr B5.out hb6 B5.out.size)
   clear hb6
   go_wp2_with fail
   go_ret
   exact⟨rfl,B6.out⟩
end Go.Proofs.YtljmiiiidjeggaaGreat
