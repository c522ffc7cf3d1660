/-
  Parts of the proof, joined.
-/
import Derived.Test.YtlobgddnlnffbaaGreatBda
import Derived.Test.YtlobgddnlnffbaaGreatBdc
import Derived.Test.YtlobgddnlnffbaaGreatBdh
import Derived.Test.YtlobgddnlnffbaaGreatBdf
namespace Go.Proofs.YtlobgddnlnffbaaGreat
set_option maxHeartbeats 2000000
open Go.RowKit
set_option linter.unusedVariables false
def whV (p:Nat×Nat):Value:=.agg #[.int .u32 (p.1:Int),.int .u16 (p.2:Int)]
def whOk (p:Nat×Nat):Prop:=p.1<4294967296∧p.2<65536
theorem wh_row:(196:TypeId)<Tryz.prog.types.size:=of_decide_eq_true (by kernel_rfl)
theorem wh_law:WideMaps.KeyLaw Tryz.prog 196:=deep_law_laid Tryz.laidOut (m:=2) (by omega) wh_row (by kernel_rfl) (by rw[Tryz.underlying196])
theorem wh_wf {p:Nat×Nat} (h:whOk p):(Lit.int .u32 (p.1:Int)).wf=true∧(Lit.int .u16 (p.2:Int)).wf=true:=by
 obtain⟨h1,h2⟩:=h
 have e1:IntKind.u32.min=0:=rfl
 have e2:IntKind.u32.max=4294967295:=rfl
 have e3:IntKind.u16.min=0:=rfl
 have e4:IntKind.u16.max=65535:=rfl
 simp only[Lit.wf,Bool.and_eq_true,decide_eq_true_eq]
 omega
theorem wh_lits (n:Nat) {p:Nat×Nat} (h:whOk p):Tryz.prog.keyLits (n+1+1) 196 [.int .u32 (p.1:Int),.int .u16 (p.2:Int)]=some [.int .u32 (p.1:Int),.int .u16 (p.2:Int)]:=by
 obtain⟨h1,h2⟩:=wh_wf h
 have c1:Tryz.prog.cellsOf 31=1:=by kernel_rfl
 have c2:Tryz.prog.cellsOf 32=1:=by kernel_rfl
 have c3:Tryz.prog.cellsOf 196=2:=by kernel_rfl
 simp[Program.keyLits,Tryz.underlying196,Tryz.underlying31,Tryz.underlying32,c1,c2,c3,h1,h2]
theorem wh_key {p:Nat×Nat} (h:whOk p):∃l,keyOf Tryz.prog 196 (whV p)=some l:=by
 have hex:∀m:Nat,196<m→∃n,m=n+1:=fun m hm=>⟨m-1,by omega⟩
 obtain⟨n,hn⟩:=hex _ wh_row
 have hk:Tryz.prog.keyType 196=true:=by kernel_rfl
 have hf:(whV p).formed Tryz.prog 196=true:=by
  have c3:Tryz.prog.cellsOf 196=2:=by kernel_rfl
  simp[Value.formed,whV,Tryz.underlying196,c3]
 have hl:=wh_lits n h
 unfold keyOf
 rw[Tryz.underlying196]
 simp only[hk,hf,Bool.and_self,if_true]
 rw[hn,show (whV p).cells.toList=[.int .u32 (p.1:Int),.int .u16 (p.2:Int)] from rfl,hl]
 exact⟨_,rfl⟩
theorem wh_K:KeyK Tryz.prog 196 whV whOk where
 keyed:=Maps.Keyed.of_law wh_law
 of:=wh_key
 inj:=fun {x y} h=>by
  have h1:=congrArg (fun v:Value=>match v with | .agg cs=>cs | _=>#[]) h
  simp only[whV] at h1
  simp at h1
  exact Prod.ext (by omega) (by omega)
abbrev RgL:=List ((Nat×Nat)×List Nat)
def getR (x:Nat×Nat) (l:RgL):Option (List Nat):=(l.find? fun p=>decide (p.1=x)).map (·.2)
def RgV (w:World) (B:Nat):List ((Nat×Nat)×Value)→RgL→Prop
 | [],[]=>True
 | p::ps,q::qs=>(p.1=q.1∧OwB w B p.2 q.2)∧RgV w B ps qs
 | _,_=>False
theorem RgV.imp {w w':World} {B:Nat}:∀{vs:List ((Nat×Nat)×Value)} {l:RgL},RgV w B vs l→(∀v k,OwB w B v k→OwB w' B v k)→RgV w' B vs l
 | [],[],_,_=>trivial
 | p::ps,q::qs,h,hi=>⟨⟨h.1.1,hi _ _ h.1.2⟩,RgV.imp h.2 hi⟩
 | [],_::_,h,_=>h.elim
 | _::_,[],h,_=>h.elim
theorem RgV.look {w:World} {B:Nat} (x:Nat×Nat):∀{vs:List ((Nat×Nat)×Value)} {l:RgL},RgV w B vs l→
 (lookL x vs=none∧getR x l=none)∨∃v k,lookL x vs=some v∧getR x l=some k∧OwB w B v k
 | [],[],_=>.inl ⟨rfl,rfl⟩
 | p :: ps,q::qs,h=>by
   have ih:=RgV.look x h.2
   obtain⟨⟨h1,h2⟩,h3⟩:=h
   unfold lookL getR at ih⊢
   by_cases hx:p.1=x
   · rw[List.find?_cons_of_pos (by simpa using hx),List.find?_cons_of_pos (by rw[←h1];simpa using hx)]
     exact .inr ⟨_,_,rfl,rfl,h2⟩
   · rw[List.find?_cons_of_neg (by simpa using hx),List.find?_cons_of_neg (by rw[←h1];simpa using hx)]
     exact ih
 | [],_::_,h=>h.elim
 | _::_,[],h=>h.elim
theorem RgV.snoc {w:World} {B:Nat} {x:Nat×Nat} {v:Value} {k:List Nat} (hv:OwB w B v k):∀{vs:List ((Nat×Nat)×Value)} {l:RgL},RgV w B vs l→RgV w B (vs++[(x,v)]) (l++[(x,k)])
 | [],[],_=>⟨⟨rfl,hv⟩,trivial⟩
 | p::ps,q::qs,h=>⟨h.1,RgV.snoc hv h.2⟩
 | [],_::_,h=>h.elim
 | _::_,[],h=>h.elim
theorem getR_mem {x:Nat×Nat} {l:RgL} {k:List Nat} (h:getR x l=some k):(x,k)∈l:=by
 unfold getR at h
 obtain⟨p,hp,rfl⟩:=Option.map_eq_some_iff.1 h
 have h1:=List.mem_of_find?_eq_some hp
 have h2:=List.find?_some hp
 simp only[decide_eq_true_eq] at h2
 subst h2
 exact h1
structure RgB (w:World) (B g m:Nat) (l:RgL):Prop where
 box:w.heap[g]? = some (.cells #[.map (some m)] 191 (0,0))
 low:B≤m
 map:∃vs,MapB whV whOk w m vs∧RgV w B vs l
 ne:∀p∈l,KeyOk p.2
section
variable {w w':World} {B g m:Nat} {l:RgL}
theorem RgB.lt (h:RgB w B g m l):g<w.heap.size:=lt_of_block h.box
theorem RgB.mlt (h:RgB w B g m l):m<w.heap.size:=by
 obtain⟨vs,h1,_⟩:=h.map
 exact h1.lt
theorem RgV.ab {vs:List ((Nat×Nat)×Value)} (h:RgV w B vs l) (hb:Below w.heap.size w w'):RgV w' B vs l:=h.imp fun _ _ ho=>ho.ab hb
theorem RgB.ab (h:RgB w B g m l) (hb:Below w.heap.size w w'):RgB w' B g m l:=by
 obtain⟨vs,h1,h2⟩:=h.map
 exact⟨(hb.block g h.lt).trans h.box,h.low,⟨vs,h1.ab hb,h2.ab hb⟩,h.ne⟩
theorem RgB.cell (h:RgB w B g m l):w.cell? ⟨g,0,none⟩=some (.map (some m)):=by rw[cell_of_row w g 0 _ _ (0,0) h.box];rfl
end
set_option maxRecDepth 100000 in
theorem newRing_any (w:World):Calls Tryz.prog 41 #[] w fun e w'=>∃g m,e = .returned (.pointer (some ⟨g,0,none⟩))∧w.heap.size≤g∧RgB w' w.heap.size g m []∧Below w.heap.size w w':=by
 have hmm:∀W:World,(Instr.makeMap 189 none).run Tryz.prog W = .ok (.map (some W.heap.size)) (W.alloc (.map #[] 0)):=fun _=>rfl
 go_enter Tryz.func41,Tryz.ntmps41
 go_wp2_with fail
 go_ret
 have h1:Below w.heap.size w (w.alloc (.map #[] 0)):=(Below.refl _ _).alloc (Nat.le_refl _) _
 refine⟨w.heap.size+1,w.heap.size,rfl,by omega,⟨?_,Nat.le_refl _,⟨[],?_,trivial⟩,fun p hp=>by cases hp⟩,h1.alloc (by simp) _⟩
 · have:=heap_alloc_new (w.alloc (.map #[] 0)) (.cells #[.map (some w.heap.size)] 191)
   simpa using this
 · exact (MapB.new whV whOk w).alloc _
def keyP (x:Nat×Nat) (l:RgL):List Nat×Nat:=match getR x l with | some k=>(k,0) | none=>([],7)
theorem zero_bytes (w:World):(zeroValue 41).run Tryz.prog w = .ok (.slice none 0 0) w:=by kernel_rfl
theorem empty_own (w:World):OwB (w.alloc (.cells #[] 5)) w.heap.size (.slice (some ⟨w.heap.size,0,none⟩) 0 0) []:=
 OwB.ofBk (l':=[]) (show Bk (w.alloc (.cells (bts []) 5)) w.heap.size 5 [] from Bk.newAt _ [] rfl) (Nat.le_refl _) rfl (Nat.le_refl _) rfl (by decide) rfl (fun x hx=>by cases hx)
set_option maxRecDepth 100000 in
theorem ringKey_any (B g m t gn:Nat) (l:RgL) (w:World) (h:RgB w B g m l) (ht:t<4294967296) (hg:gn<65536):
 Calls Tryz.prog 80 #[.pointer (some ⟨g,0,none⟩),.int .u32 (t:Int),.int .u16 (gn:Int)] w (OutB w (keyP (t,gn) l).1 (keyP (t,gn) l).2):=by
 obtain⟨i0,hi0,hz0,hz1,hz2⟩:=info_parts infoU8
 have hc:=h.cell
 obtain⟨vs,h1,h2⟩:=h.map
 have hok:whOk (t,gn):=⟨ht,hg⟩
 rcases h2.look (t,gn) with ⟨e1,e2⟩ | ⟨v,k,e1,e2,e3⟩
 · have hlk:(Instr.lookup 189 (.map (some m)) (.agg #[.int .u32 (t:Int),.int .u16 (gn:Int)]) true).run Tryz.prog w = .ok (.tuple #[.slice none 0 0,.bool false]) w:=h1.look_none wh_K Tryz.underlying189 hok e1 (zero_bytes w) true
   unfold keyP
   rw[e2]
   clear h h1 h2 e1 e2 hok ht hg
   go_enter Tryz.func80,Tryz.ntmps80
   go_wp2_with fail
   go_ret2
   exact OutB.refused 7 (Below.refl _ _)
 · have hlk:(Instr.lookup 189 (.map (some m)) (.agg #[.int .u32 (t:Int),.int .u16 (gn:Int)]) true).run Tryz.prog w = .ok (.tuple #[v,.bool true]) w:=h1.look_some wh_K Tryz.underlying189 hok e1 true
   have hk:=h.ne _ (getR_mem e2)
   obtain⟨A,cap,rfl,hcap,hcap2⟩:=e3.shape
   have hI:=e3.isB rfl
   have E0:=Lib.hid (empty_own w)
   have I0:=Lib.hid (hI.alloc (.cells #[] 5))
   have B0:Hid (Below w.heap.size w (w.alloc (.cells #[] 5))):=Lib.hid ((Below.refl _ _).alloc (Nat.le_refl _) _)
   have HK:Hid (k.length≤32):=Lib.hid (by unfold KeyOk at hk;simp only at hk;omega)
   unfold keyP
   rw[e2]
   clear h h1 h2 e1 e2 hok ht hg hk hI e3 hcap hcap2
   go_enter Tryz.func80,Tryz.ntmps80
   go_wp2_with (first
    | (refine wpList_appB _ rfl (.tmp 25) (.tmp 26) rfl Tryz.underlying41 hi0 hz0 hz1 hz2 rfl E0.out rfl I0.out rfl (by have:=HK.out;simp;omega) B0.out.size ?_
       intro v1 w1 hv1 hb1 hg1 hat1
       have V1:Hid (OwB w1 w.heap.size v1 k):=Lib.hid hv1
       have B1:=Lib.hid (B0.out.trans hb1)
       clear hv1 hb1 hg1 hat1))
   go_ret2
   exact⟨_,rfl,V1.out,B1.out⟩
def EmR (v:Value) (_:World):Prop:=∃X:Addr,v = .slice (some X) 0 0
theorem EmR.mono:Mono EmR:=fun _ _ _ h _=>h
theorem isB_empty (w:World) (X:Addr):IsB w (some X) 0 0 []:=⟨⟨rfl,Nat.le_refl _,Nat.zero_le _,by simp,.inr ⟨X,rfl,fun h=>absurd h (Nat.lt_irrefl 0),fun i hi=>absurd hi (Nat.not_lt_zero i)⟩⟩,fun x hx=>by cases hx⟩
theorem yields_empty {o:Oper} {a:Act} {W:World} (ho:o.op = .buildSlice 41 0 #[]):Yields Tryz.prog o a W false EmR:=by
 refine .inl ⟨.slice (some ⟨W.heap.size,0,none⟩) 0 0,W.alloc (.cells #[] 5),?_,⟨_,rfl⟩,(Below.refl _ _).alloc (Nat.le_refl _) _,fresh_no _ _ _⟩
 unfold execOp
 simp only[ho]
 go_simp
theorem cell_isB0 {w:World} {b:Addr} {n c:Nat} {l:List Nat} (h:IsB w (some b) n c l):∀j u,(bvals l)[j]? = some u→w.cell? (b.add j)=some u:=fun j u hj=>by
 have l1:=h.len
 have hj':j<n:=by
  rcases Nat.lt_or_ge j n with h | h
  · exact h
  · rw[List.getElem?_eq_none (by simp[bvals];omega)] at hj;cases hj
 obtain⟨y,e,_,hy⟩:=h.cell (by omega)
 injection e with e
 subst e
 rw[hy j hj',←hj]
 simp[bvals,at',List.getElem?_eq_getElem (show j<l.length by omega)]
theorem yields_appG {o:Oper} {a:Act} {W:World} {R:Value→World→Prop} (s x:Operand) (ho:o.op = .call { callee:=.builtin .append,args:=#[s,x],argTypes:=#[41,41] })
 {b:Addr} {n c:Nat} {la:List Nat} (ha:IsB W (some b) n c la) (hs:a.eval s = .slice (some b) n c) {X:Addr} {m d:Nat} {lx:List Nat} (hx:IsB W (some X) m d lx) (he:a.eval x = .slice (some X) m d)
 (hfull:c<n+m) (hm:n+m≤140737488355328) (hR:∀v' W',OwB W' W.heap.size v' (la++lx)→Below W.heap.size W W'→R v' W'):Yields Tryz.prog o a W false R:=by
 obtain⟨i0,hi0,hz0,hz1,hz2⟩:=info_parts infoU8
 have l1:=ha.len
 have l2:=hx.len
 obtain⟨v',w',hrun,r1,r2⟩:=run_append_arg_grows (P:=Tryz.prog) W 41 o.type 5 i0 _ 1 1 Tryz.underlying41 hi0 hz0 hz1 hz2 rfl (by decide) b n c (bvals la) (by simp[bvals,l1]) (cell_isB0 ha) X m d (bvals lx) (by simp[bvals,l2]) (cell_isB0 hx) hfull (by simp only[maxLen];omega) (by omega)
 have hb:Below W.heap.size W w':=⟨r2.os,r2.tape,r2.output,r2.size,fun k hk=>r2.block k hk (by simp)⟩
 have hw:OwB w' W.heap.size v' (la++lx):=by
  refine⟨?_,byt_app ha.2 hx.2⟩
  rw[List.length_append,l1,l2]
  have e:bvals la++bvals lx=bvals (la++lx):=by simp[bvals]
  rw[←e]
  exact r1
 refine .inl ⟨v',w',?_,hR _ _ hw hb,hb,fresh_no _ _ _⟩
 unfold execOp
 simp only[ho,resolve,invoke,builtin,Sem.run_bind,Sem.run_pure,Result.andThen_ok,List.map_toArray,List.map_cons,List.map_nil,hs,he,hrun]
def addP (x:Nat×Nat) (k:List Nat) (l:RgL):Nat×RgL:=if k.length=16∨k.length=32 then (if (getR x l).isSome then (8,l) else (0,l++[(x,k)])) else (2,l)
theorem OwB.grown {w w':World} {B:Nat} {v:Value} {l:List Nat} {r:Nat} (h:OwB w B v l) (hg:w.grownBy w' (some r)) (hne:v.ownBlock≠some r):OwB w' B v l:=h.kept hg (.inr hne)
theorem OwB.notMap {w:World} {B m:Nat} {v:Value} {l:List Nat} {es:Array MapEntry} {c:Nat} (h:OwB w B v l) (hm:w.heap[m]? = some (.map es c)):v.ownBlock≠some m:=by
 intro e
 rcases h.own.2 with ⟨rfl,_⟩ | ⟨g,cap,cur,rfl,_,hh,_⟩
 · cases e
 · have:g=m:=by injection e
   subst this
   rw[hm] at hh
   cases hh
theorem notMap {w:World} {kv:Nat×Nat→Value} {ok:Nat×Nat→Prop} {B m:Nat} {v:Value} {l:List Nat} {vs:List ((Nat×Nat)×Value)} (h:OwB w B v l) (hm:MapB kv ok w m vs):v.ownBlock≠some m:=by
 obtain⟨es,c,h1,_⟩:=hm
 exact h.notMap h1
set_option maxRecDepth 100000 in
theorem ringAdd_no (B g m t gn kn kc err:Nat) (kA:Option Addr) (l:RgL) (w:World) (h:RgB w B g m l) (ht:t<4294967296) (hg:gn<65536)
 (he:(err=2∧¬(kn=16∨kn=32))∨(err=8∧(kn=16∨kn=32)∧(getR (t,gn) l).isSome=true)):
 Calls Tryz.prog 44 #[.pointer (some ⟨g,0,none⟩),.int .u32 (t:Int),.int .u16 (gn:Int),.slice kA kn kc] w fun e w'=>e = .returned (.int .i64 (err:Int))∧Below w.heap.size w w':=by
 have hc:=h.cell
 obtain⟨vs,h1,h2⟩:=h.map
 have hok:whOk (t,gn):=⟨ht,hg⟩
 have HM:=Lib.hid (smay_any kA kn kc 1 w)
 rcases he with ⟨rfl,hk⟩ | ⟨rfl,hk,hs⟩
 · have eM:Hid (decide ((kn=16∨kn=32)∧1≤1∧1≤4)=false):=Lib.hid (decide_eq_false (fun q=>hk q.1))
   clear h h1 h2 hok ht hg hk
   go_enter Tryz.func44,Tryz.ntmps44
   go_wp2_with fail
   refine HM.out.mono ?_
   rw[eM.out]
   rintro e w' ⟨rfl,rfl⟩
   go_wp2_with fail
   go_ret
   exact⟨rfl,Below.refl _ _⟩
 · have eM:Hid (decide ((kn=16∨kn=32)∧1≤1∧1≤4)=true):=Lib.hid (decide_eq_true ⟨hk,by decide,by decide⟩)
   rcases h2.look (t,gn) with ⟨e1,e2⟩ | ⟨v,k,e1,e2,e3⟩
   · rw[e2] at hs;cases hs
   · have hlk:(Instr.lookup 189 (.map (some m)) (.agg #[.int .u32 (t:Int),.int .u16 (gn:Int)]) true).run Tryz.prog w = .ok (.tuple #[v,.bool true]) w:=h1.look_some wh_K Tryz.underlying189 hok e1 true
     clear h h1 h2 hok ht hg hk hs e1 e2 e3
     go_enter Tryz.func44,Tryz.ntmps44
     go_wp2_with fail
     refine HM.out.mono ?_
     rw[eM.out]
     rintro e w' ⟨rfl,rfl⟩
     go_wp2_with fail
     go_ret
     exact⟨rfl,Below.refl _ _⟩
set_option maxRecDepth 100000 in
theorem ringAdd_yes (B g m t gn kn kc:Nat) (kA:Option Addr) (key:List Nat) (l:RgL) (w:World) (h:RgB w B g m l) (ht:t<4294967296) (hg:gn<65536) (ik:IsB w kA kn kc key) (hk:KeyOk key) (hs:getR (t,gn) l=none):
 Calls Tryz.prog 44 #[.pointer (some ⟨g,0,none⟩),.int .u32 (t:Int),.int .u16 (gn:Int),.slice kA kn kc] w fun e w'=>e = .returned (.int .i64 0)∧RgB w' B g m (l++[((t,gn),key)])∧w.grownBy w' (some m):=by
 have lk:=ik.len
 have hk2:=hk
 unfold KeyOk at hk2
 obtain⟨X,rfl,_,_⟩:=ik.cell (by omega)
 have hc:=h.cell
 obtain⟨vs,h1,h2⟩:=h.map
 have hok:whOk (t,gn):=⟨ht,hg⟩
 have HM:=Lib.hid (smay_any (some X) kn kc 1 w)
 have eM:Hid (decide ((kn=16∨kn=32)∧1≤1∧1≤4)=true):=Lib.hid (decide_eq_true ⟨by omega,by decide,by decide⟩)
 have e1:lookL (t,gn) vs=none:=by
  rcases h2.look (t,gn) with ⟨e1,e2⟩ | ⟨v,k,e1,e2,e3⟩
  · exact e1
  · rw[hs] at e2;cases e2
 have hlk:(Instr.lookup 189 (.map (some m)) (.agg #[.int .u32 (t:Int),.int .u16 (gn:Int)]) true).run Tryz.prog w = .ok (.tuple #[.slice none 0 0,.bool false]) w:=h1.look_none wh_K Tryz.underlying189 hok e1 (zero_bytes w) true
 have HR:=Lib.hid h
 have H1:=Lib.hid h1
 have H2:=Lib.hid h2
 have E1:=Lib.hid e1
 have HK:=Lib.hid hk
 have IK:=Lib.hid ik
 have LK:=Lib.hid lk
 have HN:Hid (kn≤32∧0<kn):=Lib.hid (by omega)
 have HO:=Lib.hid hok
 clear h h1 h2 hok ht hg hk hk2 hs e1 ik lk
 go_enter Tryz.func44,Tryz.ntmps44
 go_wp2_with fail
 refine HM.out.mono ?_
 rw[eM.out]
 rintro e w' ⟨rfl,rfl⟩
 go_wp2_with fail
 refine wp_wide3 [⟨28,IsR (.pointer (some ⟨g,0,none⟩)),[],false⟩,⟨29,IsR (.pointer (some ⟨g,0,none⟩)),[0],false⟩,⟨30,IsR (.pointer (some ⟨g,0,none⟩)),[1],false⟩,⟨31,IsR (.map (some m)),[2],false⟩,⟨32,IsR (.int .u32 (t:Int)),[],false⟩,⟨33,IsR (.int .u16 (gn:Int)),[],false⟩,⟨34,IsR (.agg #[.int .u32 (t:Int),.int .u16 (gn:Int)]),[4,5],false⟩,⟨35,EmR,[],false⟩,⟨36,IsR (.slice (some X) kn kc),[],false⟩,⟨37,OwR w.heap.size key,[7,8],false⟩] (by kernel_rfl) (by kernel_rfl) rfl rfl rfl ⟨?_,?_,?_,?_,?_,?_,?_,?_,?_,?_,trivial⟩ ?_
 · refine⟨rfl,IsR.mono _,fun a W hA hb hd=>takes_plain rfl (yields_value _ ?_ rfl)⟩
   have h0:a.tmps[0]?.getD undef = .pointer (some ⟨g,0,none⟩):=(eval_get a 0).trans ((hA.eval (by simp)).trans rfl)
   go_simp
 · refine⟨rfl,IsR.mono _,fun a W hA hb hd=>takes_plain rfl (yields_value _ ?_ rfl)⟩
   have h28:a.tmps[28]?.getD undef = .pointer (some ⟨g,0,none⟩):=(eval_get a 28).trans (hd 0 (by simp) _ rfl)
   go_simp
 · refine⟨rfl,IsR.mono _,fun a W hA hb hd=>takes_plain rfl (yields_value _ ?_ rfl)⟩
   have h29:a.tmps[29]?.getD undef = .pointer (some ⟨g,0,none⟩):=(eval_get a 29).trans (hd 1 (by simp) _ rfl)
   go_simp
 · refine⟨rfl,IsR.mono _,fun a W hA hb hd=>takes_plain rfl (yields_value _ ?_ rfl)⟩
   have h30:a.tmps[30]?.getD undef = .pointer (some ⟨g,0,none⟩):=(eval_get a 30).trans (hd 2 (by simp) _ rfl)
   have hcc:=(HR.out.ab hb).cell
   go_simp
 · refine⟨rfl,IsR.mono _,fun a W hA hb hd=>takes_plain rfl (yields_value _ ?_ rfl)⟩
   have h1:a.tmps[1]?.getD undef = .int .u32 (t:Int):=(eval_get a 1).trans ((hA.eval (by simp)).trans rfl)
   go_simp
 · refine⟨rfl,IsR.mono _,fun a W hA hb hd=>takes_plain rfl (yields_value _ ?_ rfl)⟩
   have h2:a.tmps[2]?.getD undef = .int .u16 (gn:Int):=(eval_get a 2).trans ((hA.eval (by simp)).trans rfl)
   go_simp
 · refine⟨rfl,IsR.mono _,fun a W hA hb hd=>takes_plain rfl (yields_value _ ?_ rfl)⟩
   have h32:a.tmps[32]?.getD undef = .int .u32 (t:Int):=(eval_get a 32).trans (hd 4 (by simp) _ rfl)
   have h33:a.tmps[33]?.getD undef = .int .u16 (gn:Int):=(eval_get a 33).trans (hd 5 (by simp) _ rfl)
   go_simp
 · refine⟨rfl,EmR.mono,fun a W hA hb hd=>takes_plain rfl ?_⟩
   exact yields_empty rfl
 · refine⟨rfl,IsR.mono _,fun a W hA hb hd=>takes_plain rfl (yields_value _ ?_ rfl)⟩
   have h3:a.tmps[3]?.getD undef = .slice (some X) kn kc:=(eval_get a 3).trans ((hA.eval (by simp)).trans rfl)
   go_simp
 · refine⟨rfl,OwR.mono _ _,fun a W hA hb hd=>takes_plain rfl ?_⟩
   obtain⟨Y,he⟩:=hd 7 (by simp) _ rfl
   have hs:a.eval (.tmp 35) = .slice (some Y) 0 0:=he
   have hx:a.eval (.tmp 36) = .slice (some X) kn kc:=hd 8 (by simp) _ rfl
   exact yields_appG (.tmp 35) (.tmp 36) rfl (isB_empty W Y) hs (IK.out.ab hb) hx (by have:=HN.out.2;omega) (by have:=HN.out.1;omega) fun v1 W1 h1 h2=>by
    rw[List.nil_append] at h1
    exact OwB.lower h1 hb.size
 intro vs9 w9 hR hF hb
 have K9:Hid (OwB w9 w.heap.size (vs9 37) key):=Lib.hid (hR 9 _ rfl)
 have e28:vs9 28 = .pointer (some ⟨g,0,none⟩):=hR 0 _ rfl
 have e29:vs9 29 = .pointer (some ⟨g,0,none⟩):=hR 1 _ rfl
 have e30:vs9 30 = .pointer (some ⟨g,0,none⟩):=hR 2 _ rfl
 have e31:vs9 31 = .map (some m):=hR 3 _ rfl
 have e32:vs9 32 = .int .u32 (t:Int):=hR 4 _ rfl
 have e33:vs9 33 = .int .u16 (gn:Int):=hR 5 _ rfl
 have e34:vs9 34 = .agg #[.int .u32 (t:Int),.int .u16 (gn:Int)]:=hR 6 _ rfl
 have e36:vs9 36 = .slice (some X) kn kc:=hR 8 _ rfl
 simp only[List.map_cons,List.map_nil,List.foldl_cons,List.foldl_nil,List.length_cons,List.length_nil,List.drop_succ_cons,List.drop_zero,Act.put,List.setIfInBounds_toArray,List.set_cons_zero,List.set_cons_succ,e28,e29,e30,e31,e32,e33,e34,e36]
 have B9:=Lib.hid hb
 clear hR hF hb e28 e29 e30 e31 e32 e33 e34 e36
 generalize vs9 35=q35 at *
 generalize vs9 37=q37 at *
 go_wp2_with (refine wpList_mapPut rfl (.tmp 31) (.tmp 34) (.tmp 37) rfl wh_K Tryz.underlying189 rfl (H1.out.ab B9.out) (t,gn) HO.out rfl q37 rfl ?_
              intro w10 h10 hg10 hz10 hb10
              have M10:=Lib.hid h10
              have G10:=Lib.hid hg10
              clear h10 hg10 hz10 hb10)
 go_ret
 have hB:B≤w.heap.size:=Nat.le_of_lt (Nat.lt_of_le_of_lt HR.out.low HR.out.mlt)
 have R9:=HR.out.ab B9.out
 have hne:g≠m:=fun e=>by
  subst e
  obtain⟨es,c,q,_⟩:=H1.out
  rw[HR.out.box] at q
  cases q
 have hput:putL (t,gn) q37 vs=vs++[((t,gn),q37)]:=by simp[putL,E1.out]
 have M9:=H1.out.ab B9.out
 refine⟨rfl,⟨(G10.out.block g R9.lt (by simp[hne])).trans R9.box,HR.out.low,⟨_,M10.out,?_⟩,?_⟩,?_⟩
 · rw[hput]
   have hvs:RgV w10 B vs l:=(H2.out.ab B9.out).imp fun v k hv=>hv.grown G10.out (notMap hv M9)
   exact RgV.snoc ((K9.out.lower hB).grown G10.out (notMap K9.out M9)) hvs
 · intro p hp
   rcases List.mem_append.1 hp with hp | hp
   · exact HR.out.ne p hp
   · rw[List.mem_singleton] at hp
     subst hp
     exact HK.out
 · have hb:=B9.out
   exact⟨G10.out.os.trans hb.os,G10.out.tape.trans hb.tape,G10.out.output.trans hb.output,Nat.le_trans hb.size G10.out.size,fun i hi hne=>(G10.out.block i (Nat.lt_of_lt_of_le hi hb.size) hne).trans (hb.block i hi)⟩
theorem ringAdd_any (B g m t gn kn kc:Nat) (kA:Option Addr) (key:List Nat) (l:RgL) (w:World) (h:RgB w B g m l) (ht:t<4294967296) (hg:gn<65536) (ik:IsB w kA kn kc key):
 Calls Tryz.prog 44 #[.pointer (some ⟨g,0,none⟩),.int .u32 (t:Int),.int .u16 (gn:Int),.slice kA kn kc] w fun e w'=>e = .returned (.int .i64 ((addP (t,gn) key l).1:Int))∧RgB w' B g m (addP (t,gn) key l).2∧w.grownBy w' (some m):=by
 have lk:=ik.len
 have hgr:∀w':World,Below w.heap.size w w'→w.grownBy w' (some m):=fun w' hb=>⟨hb.os,hb.tape,hb.output,hb.size,fun i hi _=>hb.block i hi⟩
 unfold addP
 by_cases hk:key.length=16∨key.length=32
 · rw[if_pos hk]
   cases hs:getR (t,gn) l with
   | some k=>
     rw[Option.isSome_some,if_pos rfl]
     exact (ringAdd_no B g m t gn kn kc 8 kA l w h ht hg (.inr ⟨rfl,by omega,by rw[hs];rfl⟩)).mono fun e w' ⟨h1,h2⟩=>⟨h1,h.ab h2,hgr w' h2⟩
   | none=>
     rw[Option.isSome_none,if_neg Bool.false_ne_true]
     exact ringAdd_yes B g m t gn kn kc kA key l w h ht hg ik hk hs
 · rw[if_neg hk]
   exact (ringAdd_no B g m t gn kn kc 2 kA l w h ht hg (.inl ⟨rfl,by omega⟩)).mono fun e w' ⟨h1,h2⟩=>⟨h1,h.ab h2,hgr w' h2⟩
structure Mp where
 cm:Nat
 pg:Nat
 rc:Nat
 rg:Nat
 lv:Nat
 gn:Nat
 tn:Nat
deriving DecidableEq
structure Mp.Ok (m:Mp):Prop where
 cm:m.cm<18446744073709551616
 pg:m.pg<4294967296
 rc:m.rc<18446744073709551616
 rg:m.rg<65536
 lv:m.lv<256
 gn:m.gn<65536
 tn:m.tn<4294967296
def mpv (m:Mp):Array Value:=#[.int .u64 (m.cm:Int),.int .u32 (m.pg:Int),.int .u64 (m.rc:Int),.int .u16 (m.rg:Int),.int .u8 (m.lv:Int),.int .u16 (m.gn:Int),.int .u32 (m.tn:Int)]
def CbB (w:World) (g:Nat) (T:TypeId) (cs:Array Value):Prop:=w.heap[g]? = some (.cells cs T (0,0))
section
variable {w w':World} {g:Nat} {T:TypeId} {cs:Array Value}
theorem CbB.lt (h:CbB w g T cs):g<w.heap.size:=lt_of_block h
theorem CbB.ab (h:CbB w g T cs) (hb:Below w.heap.size w w'):CbB w' g T cs:=(hb.block g h.lt).trans h
theorem CbB.new (w:World) (T:TypeId) (cs:Array Value):CbB (w.alloc (.cells cs T)) w.heap.size T cs:=heap_alloc_new w _
theorem CbB.cell (h:CbB w g T cs) {k:Nat} {v:Value} (hk:cs[k]? = some v):w.cell? ⟨g,k,none⟩=some v:=by rw[cell_of_row w g k _ _ (0,0) h];exact hk
theorem CbB.free (h:CbB w g T cs) (k:Nat):w.frozen? ⟨g,k,none⟩=false:=frozen_of_row w g k _ _ h
theorem CbB.set (h:CbB w g T cs) (k:Nat) (v:Value):CbB (w.setCell ⟨g,k,none⟩ v) g T (cs.setIfInBounds k v):=heap_setCell_same w g k _ _ v h
theorem CbB.far (h:CbB w g T cs) {c k:Nat} (hne:g≠c) (u:Value):CbB (w.setCell ⟨c,k,none⟩ u) g T cs:=(Below.heap_setCell w ⟨c,k,none⟩ u g hne).trans h
end
def MpB (w:World) (g:Nat) (m:Mp):Prop:=w.heap[g]? = some (.cells (mpv m) 40 (0,0))
theorem MpB.lt {w:World} {g:Nat} {m:Mp} (h:MpB w g m):g<w.heap.size:=lt_of_block h
theorem MpB.ab {w w':World} {g:Nat} {m:Mp} (h:MpB w g m) (hb:Below w.heap.size w w'):MpB w' g m:=(hb.block g h.lt).trans h
theorem MpB.new (w:World) (m:Mp):MpB (w.alloc (.cells (mpv m) 40)) w.heap.size m:=heap_alloc_new w _
theorem MpB.cells {w:World} {g:Nat} {m:Mp} (h:MpB w g m):w.cell? ⟨g,0,none⟩=some (.int .u64 (m.cm:Int))∧w.cell? ⟨g,1,none⟩=some (.int .u32 (m.pg:Int))∧w.cell? ⟨g,2,none⟩=some (.int .u64 (m.rc:Int))∧w.cell? ⟨g,3,none⟩=some (.int .u16 (m.rg:Int))∧
 w.cell? ⟨g,4,none⟩=some (.int .u8 (m.lv:Int))∧w.cell? ⟨g,5,none⟩=some (.int .u16 (m.gn:Int))∧w.cell? ⟨g,6,none⟩=some (.int .u32 (m.tn:Int)):=by
 refine⟨?_,?_,?_,?_,?_,?_,?_⟩ <;> (rw[cell_of_row w g _ _ _ (0,0) h];rfl)
def mp0:Mp:=⟨0,0,0,0,0,0,0⟩
theorem wpList_storeC {P:Program} {ops:Array Oper} {rest:List Oper} {o:Oper} {a:Act} {w:World} {Q:Exit→Act→World→Prop} (hgd:o.guard=none) (T:TypeId) (x y:Operand) (ho:o.op = .store T x y)
 (g:Nat) (hx:a.eval x = .pointer (some ⟨g,0,none⟩)) (cs':Array Value) (hy:a.eval y = .agg cs') {cs:Array Value} {t:TypeId} (hg:CbB w g t cs) (hi:(P.info? T).map (·.size)=some cs'.size) (h0:cs.size=cs'.size) (h1:cs'.all (·.oneCell')=true)
 (h:∀w2,w2=w.setRow g cs'→wpList P ops Q rest (a.put o.dst undef) w2):wpList P ops Q (o::rest) a w:=by
 have hrun:=run_storeVar_row (P:=P) w g t T cs cs' hg hi h0 h1
 refine wpList_plain hgd fun K hK=>?_
 have hK:=hK _ _ (h _ rfl)
 unfold Oper.wp execOp
 simp only[ho,hx,hy,Instr.storeAt,Instr.sureAddr,Sem.run_bind,Sem.run_pure,Result.andThen_ok,hrun]
 exact hK
theorem CbB.row {w:World} {g:Nat} {T:TypeId} {cs:Array Value} (h:CbB w g T cs) (cs':Array Value):CbB (w.setRow g cs') g T cs':=setRow_heap w g _ _ _ _ h
theorem CbB.rowFar {w:World} {g c:Nat} {T:TypeId} {cs:Array Value} (h:CbB w g T cs) (hne:g≠c) (cs':Array Value):CbB (w.setRow c cs') g T cs:=(setRow_other w c g cs' hne).trans h
theorem mpv_one (m:Mp):(mpv m).all (·.oneCell')=true:=by simp[mpv,Value.oneCell']
theorem szMp (m:Mp):(Tryz.prog.info? 40).map (·.size)=some (mpv m).size:=by
 have:(Tryz.prog.info? 40).map (·.size)=some 7:=by kernel_rfl
 exact this
def noRefB (m:Mp):Bool:=decide (m.pg=0)&&decide (m.rc=0)&&decide (m.rg=0)
def rightB (m:Mp):Bool:=!(decide (m.cm=0)||decide (30<m.lv)||(noRefB m && !decide (m.lv=0)))
def rightE (m:Mp):Nat:=bif rightB m then 0 else 2
def labM (m:Mp):Lb:=⟨0,4,0,m.cm%2,m.cm,m.gn⟩
theorem labM_ok {m:Mp} (h:m.Ok):(labM m).Ok:=⟨by simp[labM],by simp[labM],by simp[labM],by have:=h.cm;simp only[labM];omega,h.cm,h.gn⟩
set_option maxRecDepth 100000 in
theorem eq_ref0 (p c g:Nat) (W:World):(Op.equalIn 10000 34 (.agg #[.int .u32 (p:Int),.int .u64 (c:Int),.int .u16 (g:Int)]) (.agg #[.int .u32 0,.int .u64 0,.int .u16 0])).run Tryz.prog W = .ok (decide (p=0)&&decide (c=0)&&decide (g=0)) W:=by
 go_simp
 by_cases h1:p=0
 · by_cases h2:c=0
   · by_cases h3:g=0
     · simp[h1,h2,h3]
     · simp[h1,h2,h3]
   · simp[h1,h2]
 · simp[h1]
set_option maxRecDepth 100000 in
theorem right_any (m:Mp) (w:World):
 Calls Tryz.prog 73 #[.agg (mpv m)] w fun e w'=>e = .returned (.int .i64 (rightE m:Int))∧Below w.heap.size w w':=by
 obtain⟨cm,pg,rc,rg,lv,gn,tn⟩:=m
 simp only[rightE,rightB,noRefB,mpv]
 have he:=fun W=>eq_ref0 pg rc rg W
 have h1:((cm:Int)==0)=decide (cm=0):=by by_cases h:cm=0 <;> simp[h]
 have h2:decide ((30:Int)<(lv:Int))=decide (30<lv):=by by_cases h:30<lv <;> simp[h] <;> omega
 have h3:((lv:Int) != 0) = !decide (lv=0):=by by_cases h:lv=0 <;> simp[h]
 generalize decide (cm=0)=b1 at *
 generalize decide (30<lv)=b2 at *
 generalize decide (lv=0)=b3 at *
 generalize (decide (pg=0)&&decide (rc=0)&&decide (rg=0))=b4 at *
 cases b1 <;> cases b2 <;> cases b4 <;> cases b3
 all_goals
  go_enter Tryz.func73,Tryz.ntmps73
  go_wp2_with fail
  go_ret
  exact⟨rfl,((Below.refl _ _).alloc (Nat.le_refl _) _).alloc (by simp) _⟩
theorem lab_cells (l:Lb):lab l = #[.int .u32 (l.ten:Int),.int .u8 (l.k:Int),.int .u8 (l.lv:Int),.int .u32 (l.pg:Int),.int .u64 (l.cm:Int),.int .u16 (l.gn:Int)]:=rfl
set_option maxRecDepth 100000 in
theorem labelOf_any (m:Mp) (w:World):
 Calls Tryz.prog 82 #[.agg (mpv m)] w fun e w'=>e = .returned (.agg (lab (labM m)))∧Below w.heap.size w w':=by
 have hw:IntKind.u32.wrap ((m.cm:Int)%2)=((m.cm%2:Nat):Int):=by
  show ((m.cm:Int)%2)%4294967296=_
  omega
 rw[lab_cells]
 simp only[labM,mpv]
 obtain⟨cm,pg,rc,rg,lv,gn,tn⟩:=m
 go_enter Tryz.func82,Tryz.ntmps82
 go_wp2_with fail
 refine bodyPost_ret (v:=.agg #[.int .u32 0,.int .u8 4,.int .u8 0,.int .u32 ((cm%2:Nat):Int),.int .u64 (cm:Int),.int .u16 (gn:Int)]) (by simp[results,Tryz.results82,go_sem]) rfl ⟨rfl,((Below.refl _ _).alloc (Nat.le_refl _) _).alloc (by simp) _⟩
structure Sl where
 l:Lb
 key:List Nat
 pay:List Nat
 blk:List Nat
def slv (s:Sl):List Value:=(lab s.l).toList++[.string (strOf s.key),.string (strOf s.pay),.string (strOf s.blk)]
def slvs:List Sl→List Value
 | []=>[]
 | s::r=>slv s++slvs r
structure LgB (w:World) (B g:Nat) (all:List Sl):Prop where
 low:B≤w.heap.size
 box:∃v,CbB w g 157 #[v]∧w.ownsRow B 159 9 v all.length (slvs all)
theorem grown_of {w w':World} (hb:Below w.heap.size w w') (row:Option Nat):w.grownBy w' row:=⟨hb.os,hb.tape,hb.output,hb.size,fun i hi _=>hb.block i hi⟩
theorem grown_cell (w:World) (g k:Nat) (v:Value):w.grownBy (w.setCell ⟨g,k,none⟩ v) (some g):=⟨rfl,rfl,rfl,by simp,fun i hi hn=>Below.heap_setCell w ⟨g,k,none⟩ v i (fun e=>hn (by rw[e]))⟩
theorem below_grown {B:Nat} {a b c:World} {r:Nat} (h:Below B a b) (k:b.grownBy c (some r)) (hr:B≤r) (hs:B≤b.heap.size):Below B a c:=h.trans ⟨k.os,k.tape,k.output,k.size,fun i hi=>k.block i (by omega) (by simp;omega)⟩
set_option maxRecDepth 100000 in
theorem newLog_any (w:World):Calls Tryz.prog 43 #[] w fun e w'=>∃g,e = .returned (.pointer (some ⟨g,0,none⟩))∧w.heap.size≤g∧CbB w' g 157 #[.slice none 0 0]∧Below w.heap.size w w':=by
 go_enter Tryz.func43,Tryz.ntmps43
 go_wp2_with fail
 go_ret
 exact⟨w.heap.size,rfl,Nat.le_refl _,CbB.new w _ _,(Below.refl _ _).alloc (Nat.le_refl _) _⟩
theorem LgB.empty {w:World} {B g:Nat} (h:CbB w g 157 #[.slice none 0 0]) (hB:B≤w.heap.size):LgB w B g []:=⟨hB,_,h,World.ownsRow_nil _ _ _ _⟩
theorem infoSl:(Tryz.prog.info? 159).map (fun i=>(i.zero,i.size,i.bytes))=some (some (.agg #[.int .u32 0,.int .u8 0,.int .u8 0,.int .u32 0,.int .u64 0,.int .u16 0,.string ByteArray.empty,.string ByteArray.empty,.string ByteArray.empty]),9,80):=by kernel_rfl
theorem conv_str {w W:World} {A:Option Addr} {n c:Nat} {l:List Nat} (h:IsB w A n c l) (hb:Below w.heap.size w W):(convert 41 9 (.slice A n c)).run Tryz.prog W = .ok (.string (strOf l)) W:=
 run_str (h.ab hb) _ _ _ Tryz.underlying41 Tryz.underlying5 Tryz.underlying9
theorem row_at {W:World} {G:Nat} {T:TypeId} {cs:List Value} (h:CbB W G T cs.toArray):∀(j:Nat) u,cs[j]? = some u→W.cell? ((⟨G,0,none⟩:Addr).add j)=some u:=fun j u hj=>by
 rw[Addr.add_mid,Nat.zero_add]
 exact h.cell (by simpa using hj)
theorem own_ge9 {w:World} {B n s:Nat} {e:TypeId} {v:Value} {xs:List Value} (h:w.ownsRow B e s v n xs):∀g,v.ownBlock=some g→B≤g:=by
 rcases h.2 with ⟨rfl,_⟩ | ⟨g,cap,cur,rfl,hg,_⟩
 · intro g hg;cases hg
 · intro g' hg'
   have:g=g':=by injection hg'
   omega
theorem row_shape {w:World} {B n s:Nat} {e:TypeId} {v:Value} {xs:List Value} (h:w.ownsRow B e s v n xs):∃A c,v = .slice A n c:=by
 rcases h.2 with ⟨rfl,h0⟩ | ⟨g,cap,cur,rfl,_⟩
 · subst h0
   exact⟨_,_,rfl⟩
 · exact⟨_,_,rfl⟩
theorem row_low {w:World} {B B' n s:Nat} {e:TypeId} {v:Value} {xs:List Value} (h:w.ownsRow B e s v n xs) (hB:B'≤B):w.ownsRow B' e s v n xs:=by
 refine⟨h.1,?_⟩
 rcases h.2 with hn | ⟨g,cap,cur,e1,hb',rest⟩
 · exact .inl hn
 · exact .inr ⟨g,cap,cur,e1,by omega,rest⟩
section
variable {P:Program} {Q:Exit→Act→World→Prop}
structure Fr (w w':World) (F:Nat→Prop):Prop where
 os:w'.os=w.os
 tape:w'.tape=w.tape
 output:w'.output=w.output
 size:w.heap.size≤w'.heap.size
 block:∀k,k<w.heap.size→¬F k→w'.heap[k]? = w.heap[k]?
theorem Fr.of {w w':World} (hb:Below w.heap.size w w') (F:Nat→Prop):Fr w w' F:=⟨hb.os,hb.tape,hb.output,hb.size,fun i hi _=>hb.block i hi⟩
theorem Fr.tr {a b c:World} {F:Nat→Prop} (h:Fr a b F) (k:Fr b c F):Fr a c F:=⟨k.os.trans h.os,k.tape.trans h.tape,k.output.trans h.output,Nat.le_trans h.size k.size,fun i hi hn=>(k.block i (Nat.lt_of_lt_of_le hi h.size) hn).trans (h.block i hi hn)⟩
theorem Fr.imp {w w':World} {F G:Nat→Prop} (h:Fr w w' F) (hi:∀k,F k→G k):Fr w w' G:=⟨h.os,h.tape,h.output,h.size,fun k hk hn=>h.block k hk fun hf=>hn (hi k hf)⟩
theorem Fr.grown {w w':World} {row:Option Nat} (h:w.grownBy w' row):Fr w w' (fun k=>row=some k):=⟨h.os,h.tape,h.output,h.size,fun k hk hn=>h.block k hk fun e=>hn e.symm⟩
theorem Fr.below {w w':World} {F:Nat→Prop} {B:Nat} {a:World} (h:Fr w w' F) (hF:∀k,F k→B≤k) (hb:Below B a w) (hs:B≤w.heap.size):Below B a w':=
 hb.trans ⟨h.os,h.tape,h.output,h.size,fun k hk=>h.block k (by omega) fun hf=>by have:=hF k hf;omega⟩
def othF (F:Nat→Nat→Prop) (i k:Nat):Prop:=∃j,j≠i∧F j k
def allF (F:Nat→Nat→Prop) (k:Nat):Prop:=∃j,F j k
def Inv5 (hs:List Head) (a0:Act) (w0:World) (F:Nat→Nat→Prop) (listed:Array Bool) (a:Act) (W:World):Prop:=
 Agree (hs.map (·.dst)) a0 a∧Fr w0 W (allF F)∧(∀j,listed.getD j false=false→Fr w0 W (othF F j))∧∀(i:Nat) (h:Head),hs[i]? = some h→listed.getD i false=true→h.R (a.eval (.tmp h.dst)) W
def Yields5 (P:Program) (o:Oper) (a:Act) (W:World) (F:Nat→Prop) (R:Value→World→Prop):Prop:=
 (∃v W',(execOp a.eval o).run P W = .ok (.value v) W'∧R v W'∧Fr W W' F)∨(∃f args,(execOp a.eval o).run P W = .ok (.enter f args) W∧Calls P f args W fun e W'=>∃v,e = .returned v∧R v W'∧Fr W W' F)
theorem Yields.to5 {o:Oper} {a:Act} {W:World} {fr:Bool} {R:Value→World→Prop} (h:Yields P o a W fr R) (F:Nat→Prop):Yields5 P o a W F R:=by
 rcases h with ⟨v,W',h1,h2,h3,_⟩ | ⟨f,args,h1,h2⟩
 · exact .inl ⟨v,W',h1,h2,Fr.of h3 F⟩
 · exact .inr ⟨f,args,h1,h2.mono fun e W' ⟨v,he,hR,hb,_⟩=>⟨v,he,hR,Fr.of hb F⟩⟩
def Takes5 (P:Program) (ops:Array Oper) (o:Oper) (a:Act) (W:World) (F:Nat→Prop) (R:Value→World→Prop):Prop:=
 (Region.wanted o (yielded ops a.tmps)=true∧Yields5 P o a W F R)∨(Region.wanted o (yielded ops a.tmps)=false∧R undef W)
theorem Takes.to5 {ops:Array Oper} {o:Oper} {a:Act} {W:World} {fr:Bool} {R:Value→World→Prop} (h:Takes P ops o a W fr R) (F:Nat→Prop):Takes5 P ops o a W F R:=by
 rcases h with ⟨h1,h2⟩ | ⟨h1,h2,_⟩
 · exact .inl ⟨h1,h2.to5 F⟩
 · exact .inr ⟨h1,h2⟩
theorem takes5_plain {ops:Array Oper} {o:Oper} {a:Act} {W:World} {F:Nat→Prop} {R:Value→World→Prop} (hg:o.guard=none) (h:Yields5 P o a W F R):Takes5 P ops o a W F R:=.inl ⟨by simp[Region.wanted,hg],h⟩
def MonoF (F:Nat→Prop) (R:Value→World→Prop):Prop:=∀v W W',R v W→Fr W W' F→R v W'
theorem IsR.monoF (F:Nat→Prop) (u:Value):MonoF F (IsR u):=fun v W W' h _=>h
theorem wide5_any {l:List Oper} {hs:List Head} {a0:Act} {w0:World} {g:Nat} {F:Nat→Nat→Prop} (hW:wideB l.toArray hs.length (hs.map (·.deps)).toArray=true) (hg:(l.drop hs.length).length=g)
 (hdst:∀(i:Nat) (h:Head) (o:Oper),hs[i]? = some h→l[i]? = some o→o.dst=some h.dst) (hlen:hs.length≤l.length) (hin:∀h∈hs,h.dst<a0.tmps.size) (hdis:(hs.map (·.dst)).Nodup)
 (hm:∀(i:Nat) (h:Head),hs[i]? = some h→MonoF (othF F i) h.R)
 (hy:∀(i:Nat) (h:Head) (o:Oper),hs[i]? = some h→l[i]? = some o→∀a W,Agree (hs.map (·.dst)) a0 a→Fr w0 W (othF F i)→(∀j∈h.deps,∀(hj:Head),hs[j]? = some hj→hj.R (a.eval (.tmp hj.dst)) W)→Takes5 P l.toArray o a W (F i) h.R)
 (hk:∀a W,Agree (hs.map (·.dst)) a0 a→Fr w0 W (allF F)→(∀(i:Nat) (h:Head),hs[i]? = some h→h.R (a.eval (.tmp h.dst)) W)→wpList P l.toArray Q (l.drop hs.length) a W):
 ∀(f:Nat) (listed:Array Bool) (a:Act) (W:World),HeadInv .any l.toArray hs.length listed→unl listed hs.length=f→Inv5 hs a0 w0 F listed a W→wpAny P .any l.toArray Q (f+g) listed a W
 | 0,listed,a,W,inv,hu,hI=>by
   have hWd:=wide_of hW
   have hall:=unl_zero _ hu
   rw[Nat.zero_add]
   have hsq:=hWd.seq
   rw[←all_listed inv hWd.lt hall,show l.toArray.size-hs.length=g by rw[←hg];simp] at hsq
   have:=wpAny_of_seq (md:=.any) (Q':=Q) (P:=P) (l.drop hs.length) hs.length listed a W (fun j=>by simp[List.getElem?_drop]) (by rw[hg];exact hsq) (hk a W hI.1 hI.2.1 (fun i h hi=>hI.2.2.2 i h hi (hall i (lt_of_some hi))))
   rwa [hg] at this
 | f + 1,listed,a,W,inv,hu,hI=>by
   have hWd:=wide_of hW
   obtain⟨i0,hi0,hun0,hlow0⟩:=unl_pos (listed:=listed) hs.length (by omega)
   have hsz:=inv.size
   have hun0':listed.getD i0 true=false:=getD_in (by have:=hWd.lt;omega) hun0
   rw[show f+1+g=(f+g)+1 by omega]
   have hne:i0∈Region.ready .any l.toArray listed:=by
    obtain⟨o,ho,hb⟩:=hWd.low i0 hi0
    exact mem_ready.2 ⟨hun0',o,ho,fun e he hbd=>hlow0 _ (hb e he hbd)⟩
   refine⟨fun e=>(by rw[e] at hne;cases hne),fun i hi=>?_⟩
   have hin2:i<hs.length:=by
    rcases Nat.lt_or_ge i hs.length with h | h
    · exact h
    · exact absurd hi (tail_waits hWd.sink hWd.chain hWd.lt inv _ i0 rfl hi0 hun0' i h)
   have hdep:∀d∈((hs.map (·.deps)).toArray.getD i []),listed.getD d false=true:=fun d hd=>by
    obtain⟨_,oi,hoi,hall⟩:=mem_ready.1 hi
    obtain⟨oj,hoj,e,he,hb,hon⟩:=Region.waitsFor_spec (hWd.dep i hin2 d hd).2
    have:oj=oi:=Option.some.inj (hoj.symm.trans hoi)
    subst this
    rw[←hon]
    exact hall e he hb
   have hrec:unl (listed.setIfInBounds i true) hs.length=f:=by
    have:=unl_set (listed:=listed) (i:=i) (by have:=hWd.lt;omega) (getD_both (mem_ready.1 hi).1) hs.length hin2
    omega
   have hiun:listed.getD i false=false:=getD_both (mem_ready.1 hi).1
   have hil:i<l.length:=by omega
   obtain⟨h,hh⟩:∃h,hs[i]? = some h:=⟨_,List.getElem?_eq_getElem hin2⟩
   obtain⟨o,ho⟩:∃o,l[i]? = some o:=⟨_,List.getElem?_eq_getElem hil⟩
   have hd:=hdst i h o hh ho
   have hmem:h∈hs:=List.mem_of_getElem? hh
   have hdep2:∀j∈h.deps,∀(hj:Head),hs[j]? = some hj→hj.R (a.eval (.tmp hj.dst)) W:=fun j hj hj' hjj=>by
    have hd1:((hs.map (·.deps)).toArray.getD i [])=h.deps:=by simp[hh]
    exact hI.2.2.2 j hj' hjj (hdep j (by rw[hd1];exact hj))
   have hself:∀v,(a.put (some h.dst) v).eval (.tmp h.dst)=v:=fun v=>by
    have hs1:h.dst<a.tmps.size:=by rw[hI.1.2.1];exact hin h hmem
    simp[Act.put,Act.eval,hs1]
   have hoth:∀v (j:Nat) (hj:Head),hs[j]? = some hj→j≠i→(a.put (some h.dst) v).eval (.tmp hj.dst)=a.eval (.tmp hj.dst):=fun v j hj hjj hij=>by
    refine eval_put_ne (fun e=>hij ?_) _ _
    have hjl:=lt_of_some hjj
    have e1:(hs.map (·.dst))[j]'(by simpa using hjl)=(hs.map (·.dst))[i]'(by simpa using hin2):=by
     rw[List.getElem?_eq_getElem hjl] at hjj
     rw[List.getElem?_eq_getElem hin2] at hh
     injection hjj with hjj
     injection hh with hh
     simp only[List.getElem_map,hjj,hh]
     exact e.symm
    exact (List.getElem_inj hdis).1 e1
   have hlis:∀(j:Nat),j≠i→(listed.setIfInBounds i true).getD j false=listed.getD j false:=fun j hij=>by
    rw[Array.getD_eq_getD_getElem?,Array.getElem?_setIfInBounds_ne (Ne.symm hij),Array.getD_eq_getD_getElem?]
   have key:∀v W',h.R v W'→Fr W W' (F i)→wpAny P .any l.toArray Q (f+g) (listed.setIfInBounds i true) (a.put (some h.dst) v) W':=fun v W' hR hfr=>by
    refine wide5_any hW hg hdst hlen hin hdis hm hy hk f _ _ _ (inv.set hi hin2) hrec ⟨hI.1.put (List.mem_map.2 ⟨h,hmem,rfl⟩) v,hI.2.1.tr (hfr.imp fun k hk=>⟨i,hk⟩),fun j hj=>?_,fun j hj hjj hlj=>?_⟩
    · have hji:j≠i:=fun e=>by
       subst e
       rw[Array.getD_eq_getD_getElem?,Array.getElem?_setIfInBounds_self_of_lt (by have:=hWd.lt;omega)] at hj
       cases hj
      rw[hlis j hji] at hj
      exact (hI.2.2.1 j hj).tr (hfr.imp fun k hk=>⟨i,Ne.symm hji,hk⟩)
    · by_cases hij:j=i
      · subst hij
        rw[hh] at hjj
        injection hjj with hjj
        subst hjj
        rw[hself]
        exact hR
      · rw[hoth v j hj hjj hij]
        rw[hlis j hij] at hlj
        exact hm j hj hjj _ _ _ (hI.2.2.2 j hj hjj hlj) (hfr.imp fun k hk=>⟨i,Ne.symm hij,hk⟩)
   unfold wpOp
   rw[show l.toArray[i]? = some o by simpa using ho]
   simp only
   rcases hy i h o hh ho a W hI.1 (hI.2.2.1 i hiun) hdep2 with ⟨hwt,hyl⟩ | ⟨hwt,hR⟩
   · rw[if_pos hwt]
     refine .inl ?_
     unfold Oper.wp
     rcases hyl with ⟨v,W',hr,hR,hb⟩ | ⟨fn,args,hr,hc⟩
     · rw[hr]
       simp only[Oper.upon,hd]
       exact key v W' hR hb
     · rw[hr]
       simp only[Oper.upon,hd]
       exact hc.mono fun e W' ⟨v,he,hR,hb⟩=>by subst he;exact key v W' hR hb
   · rw[if_neg (by rw[hwt];exact Bool.false_ne_true)]
     rw[hd]
     exact key undef W hR (Fr.of (Below.refl _ _) _)
def Head.ok5 (P:Program) (ops:Array Oper) (hs:List Head) (a0:Act) (w0:World) (F:Nat→Nat→Prop) (i:Nat) (h:Head) (o:Oper):Prop:=
 o.dst=some h.dst∧MonoF (othF F i) h.R∧∀a W,Agree (hs.map (·.dst)) a0 a→Fr w0 W (othF F i)→(∀j∈h.deps,∀(hj:Head),hs[j]? = some hj→hj.R (a.eval (.tmp hj.dst)) W)→Takes5 P ops o a W (F i) h.R
def All5 (q:Nat→Head→Oper→Prop):Nat→List Head→List Oper→Prop
 | _,[],_=>True
 | k,h::hs,o::l=>q k h o∧All5 q (k+1) hs l
 | _,_::_,[]=>False
theorem All5.at {q:Nat→Head→Oper→Prop}:∀{k:Nat} {hs:List Head} {l:List Oper},All5 q k hs l→∀(i:Nat) (h:Head) (o:Oper),hs[i]? = some h→l[i]? = some o→q (k+i) h o
 | k,h::hs,o::l,hA,0,h',o',e1,e2=>by
   simp only[List.getElem?_cons_zero,Option.some.injEq] at e1 e2
   subst e1 e2
   exact hA.1
 | k,h::hs,o::l,hA,i+1,h',o',e1,e2=>by
   have:=All5.at hA.2 i h' o' (by simpa using e1) (by simpa using e2)
   rw[show k+(i+1)=k+1+i by omega]
   exact this
 | _,[],_,_,i,_,_,e1,_=>by simp at e1
 | _,_::_,[],hA,_,_,_,_,_=>hA.elim
theorem wp_wide5 {id:Nat} {a0:Act} {w0:World} {l:List Oper} (F:Nat→Nat→Prop) (hs:List Head) (hmx:P.follows .mixedOrders=true)
 (hB:wideB l.toArray hs.length (hs.map (·.deps)).toArray=true)
 (hlen:decide (hs.length≤l.length)=true) (hin:(hs.map (·.dst)).all (fun d=>decide (d<a0.tmps.size))=true) (hdis:decide ((hs.map (·.dst)).Nodup)=true)
 (hok:All5 (Head.ok5 P l.toArray hs a0 w0 F) 0 hs l)
 (hk:∀(vs:Tmp→Value) W,(∀(i:Nat) (h:Head),hs[i]? = some h→h.R (vs h.dst) W)→Fr w0 W (allF F)→wpList P l.toArray Q (l.drop hs.length) ((hs.map (·.dst)).foldl (fun x d=>x.put (some d) (vs d)) a0) W):
 (Code.region id l.toArray true).wp P Q a0 w0:=by
 have hlen':=of_decide_eq_true hlen
 have hat:∀(i:Nat) (h:Head) (o:Oper),hs[i]? = some h→l[i]? = some o→Head.ok5 P l.toArray hs a0 w0 F i h o:=fun i h o hi ho=>by
  have:=hok.at i h o hi ho
  rwa [Nat.zero_add] at this
 have hunl:∀n,unl (Array.replicate l.toArray.size false) n=n:=fun n=>by
  induction n with
  | zero=>rfl
  | succ n ih=>rw[unl,ih,getD_replicate_false];simp
 refine wp_region_any hmx ?_
 have hinv:HeadInv .any l.toArray hs.length (Array.replicate l.toArray.size false):=⟨by simp,fun j oj hj hl=>(by rw[getD_replicate_false] at hl;cases hl),fun t ht ht'=>getD_in (by simpa using ht') (getD_replicate_false _ _)⟩
 have h1:=wide5_any (P:=P) (Q:=Q) (l:=l) (hs:=hs) (a0:=a0) (w0:=w0) (g:=l.length-hs.length) (F:=F) hB (by simp)
  (fun i h o hi ho=>(hat i h o hi ho).1) hlen'
  (fun h hh=>by
    have:=List.all_eq_true.1 hin h.dst (List.mem_map.2 ⟨h,hh,rfl⟩)
    exact of_decide_eq_true this) (of_decide_eq_true hdis)
  (fun i h hi=>by
    have hil:=lt_of_some hi
    exact (hat i h _ hi (List.getElem?_eq_getElem (by omega))).2.1)
  (fun i h o hi ho=>(hat i h o hi ho).2.2)
  (fun a W hA hgr hR=>by
    have:=hk (fun d=>a.eval (.tmp d)) W hR hgr
    rw[←Agree.rebuild _ _ hA] at this
    exact this) hs.length (Array.replicate l.toArray.size false) a0 { w0 with drawn:=w0.drawn+1 } hinv (hunl _)
  ⟨Agree.refl _ _,Fr.of (Below.refl _ w0).drew _,fun j _=>Fr.of (Below.refl _ w0).drew _,fun i h hi hl=>(by rw[getD_replicate_false] at hl;cases hl)⟩
 have hsz:l.toArray.size=hs.length+(l.length-hs.length):=by rw[List.size_toArray];omega
 have e:wpAny P .any l.toArray Q l.toArray.size=wpAny P .any l.toArray Q (hs.length+(l.length-hs.length)):=congrArg _ hsz
 rw[e]
 exact h1
end
section
variable {P:Program} {Q:Exit→Act→World→Prop}
def Inv6 (hs:List Head) (a0:Act) (G:World→Prop) (Pre:Nat→World→Prop) (listed:Array Bool) (a:Act) (W:World):Prop:=
 Agree (hs.map (·.dst)) a0 a∧G W∧(∀j,listed.getD j false=false→Pre j W)∧∀(i:Nat) (h:Head),hs[i]? = some h→listed.getD i false=true→h.R (a.eval (.tmp h.dst)) W
def Yields6 (P:Program) (o:Oper) (a:Act) (W:World) (S:World→World→Prop) (R:Value→World→Prop):Prop:=
 (∃v W',(execOp a.eval o).run P W = .ok (.value v) W'∧R v W'∧S W W')∨(∃f args,(execOp a.eval o).run P W = .ok (.enter f args) W∧Calls P f args W fun e W'=>∃v,e = .returned v∧R v W'∧S W W')
theorem Yields.to6 {o:Oper} {a:Act} {W:World} {fr:Bool} {R:Value→World→Prop} {S:World→World→Prop} (h:Yields P o a W fr R) (hs:∀W',Below W.heap.size W W'→S W W'):Yields6 P o a W S R:=by
 rcases h with ⟨v,W',h1,h2,h3,_⟩ | ⟨f,args,h1,h2⟩
 · exact .inl ⟨v,W',h1,h2,hs _ h3⟩
 · exact .inr ⟨f,args,h1,h2.mono fun e W' ⟨v,he,hR,hb,_⟩=>⟨v,he,hR,hs _ hb⟩⟩
def Takes6 (P:Program) (ops:Array Oper) (o:Oper) (a:Act) (W:World) (S:World→World→Prop) (R:Value→World→Prop):Prop:=
 (Region.wanted o (yielded ops a.tmps)=true∧Yields6 P o a W S R)∨(Region.wanted o (yielded ops a.tmps)=false∧R undef W)
theorem Takes.to6 {ops:Array Oper} {o:Oper} {a:Act} {W:World} {fr:Bool} {R:Value→World→Prop} {S:World→World→Prop} (h:Takes P ops o a W fr R) (hs:∀W',Below W.heap.size W W'→S W W'):Takes6 P ops o a W S R:=by
 rcases h with ⟨h1,h2⟩ | ⟨h1,h2,_⟩
 · exact .inl ⟨h1,h2.to6 hs⟩
 · exact .inr ⟨h1,h2⟩
theorem takes6_on {ops:Array Oper} {o oi:Oper} {a:Act} {W:World} {S:World→World→Prop} {R:Value→World→Prop} {i:Nat} {d:Tmp} {b:Bool} (hg:o.guard=some (i,b)) (ho:ops[i]? = some oi) (hd:oi.dst=some d) (he:a.eval (.tmp d) = .bool b) (h:Yields6 P o a W S R):Takes6 P ops o a W S R:=
 .inl ⟨by simp[Region.wanted,hg,yielded_eval ho hd he],h⟩
theorem wide6_any {l:List Oper} {hs:List Head} {a0:Act} {g:Nat} {G:World→Prop} {Pre:Nat→World→Prop} {S:Nat→World→World→Prop} (hW:wideB l.toArray hs.length (hs.map (·.deps)).toArray=true) (hg:(l.drop hs.length).length=g)
 (hdst:∀(i:Nat) (h:Head) (o:Oper),hs[i]? = some h→l[i]? = some o→o.dst=some h.dst) (hlen:hs.length≤l.length) (hin:∀h∈hs,h.dst<a0.tmps.size) (hdis:(hs.map (·.dst)).Nodup)
 (hS:∀i j,i≠j→∀W W',S i W W'→Pre j W→Pre j W') (hG:∀i W W',S i W W'→G W→G W') (h0:∀i W,S i W W)
 (hm:∀(i:Nat) (h:Head),hs[i]? = some h→∀j,j≠i→∀v W W',h.R v W→S j W W'→h.R v W')
 (hy:∀(i:Nat) (h:Head) (o:Oper),hs[i]? = some h→l[i]? = some o→∀a W,Agree (hs.map (·.dst)) a0 a→G W→Pre i W→(∀j∈h.deps,∀(hj:Head),hs[j]? = some hj→hj.R (a.eval (.tmp hj.dst)) W)→Takes6 P l.toArray o a W (S i) h.R)
 (hk:∀a W,Agree (hs.map (·.dst)) a0 a→G W→(∀(i:Nat) (h:Head),hs[i]? = some h→h.R (a.eval (.tmp h.dst)) W)→wpList P l.toArray Q (l.drop hs.length) a W):
 ∀(f:Nat) (listed:Array Bool) (a:Act) (W:World),HeadInv .any l.toArray hs.length listed→unl listed hs.length=f→Inv6 hs a0 G Pre listed a W→wpAny P .any l.toArray Q (f+g) listed a W
 | 0,listed,a,W,inv,hu,hI=>by
   have hWd:=wide_of hW
   have hall:=unl_zero _ hu
   rw[Nat.zero_add]
   have hsq:=hWd.seq
   rw[←all_listed inv hWd.lt hall,show l.toArray.size-hs.length=g by rw[←hg];simp] at hsq
   have:=wpAny_of_seq (md:=.any) (Q':=Q) (P:=P) (l.drop hs.length) hs.length listed a W (fun j=>by simp[List.getElem?_drop]) (by rw[hg];exact hsq) (hk a W hI.1 hI.2.1 (fun i h hi=>hI.2.2.2 i h hi (hall i (lt_of_some hi))))
   rwa [hg] at this
 | f + 1,listed,a,W,inv,hu,hI=>by
   have hWd:=wide_of hW
   obtain⟨i0,hi0,hun0,hlow0⟩:=unl_pos (listed:=listed) hs.length (by omega)
   have hsz:=inv.size
   have hun0':listed.getD i0 true=false:=getD_in (by have:=hWd.lt;omega) hun0
   rw[show f+1+g=(f+g)+1 by omega]
   have hne:i0∈Region.ready .any l.toArray listed:=by
    obtain⟨o,ho,hb⟩:=hWd.low i0 hi0
    exact mem_ready.2 ⟨hun0',o,ho,fun e he hbd=>hlow0 _ (hb e he hbd)⟩
   refine⟨fun e=>(by rw[e] at hne;cases hne),fun i hi=>?_⟩
   have hin2:i<hs.length:=by
    rcases Nat.lt_or_ge i hs.length with h | h
    · exact h
    · exact absurd hi (tail_waits hWd.sink hWd.chain hWd.lt inv _ i0 rfl hi0 hun0' i h)
   have hdep:∀d∈((hs.map (·.deps)).toArray.getD i []),listed.getD d false=true:=fun d hd=>by
    obtain⟨_,oi,hoi,hall⟩:=mem_ready.1 hi
    obtain⟨oj,hoj,e,he,hb,hon⟩:=Region.waitsFor_spec (hWd.dep i hin2 d hd).2
    have:oj=oi:=Option.some.inj (hoj.symm.trans hoi)
    subst this
    rw[←hon]
    exact hall e he hb
   have hrec:unl (listed.setIfInBounds i true) hs.length=f:=by
    have:=unl_set (listed:=listed) (i:=i) (by have:=hWd.lt;omega) (getD_both (mem_ready.1 hi).1) hs.length hin2
    omega
   have hiun:listed.getD i false=false:=getD_both (mem_ready.1 hi).1
   have hil:i<l.length:=by omega
   obtain⟨h,hh⟩:∃h,hs[i]? = some h:=⟨_,List.getElem?_eq_getElem hin2⟩
   obtain⟨o,ho⟩:∃o,l[i]? = some o:=⟨_,List.getElem?_eq_getElem hil⟩
   have hd:=hdst i h o hh ho
   have hmem:h∈hs:=List.mem_of_getElem? hh
   have hdep2:∀j∈h.deps,∀(hj:Head),hs[j]? = some hj→hj.R (a.eval (.tmp hj.dst)) W:=fun j hj hj' hjj=>by
    have hd1:((hs.map (·.deps)).toArray.getD i [])=h.deps:=by simp[hh]
    exact hI.2.2.2 j hj' hjj (hdep j (by rw[hd1];exact hj))
   have hself:∀v,(a.put (some h.dst) v).eval (.tmp h.dst)=v:=fun v=>by
    have hs1:h.dst<a.tmps.size:=by rw[hI.1.2.1];exact hin h hmem
    simp[Act.put,Act.eval,hs1]
   have hoth:∀v (j:Nat) (hj:Head),hs[j]? = some hj→j≠i→(a.put (some h.dst) v).eval (.tmp hj.dst)=a.eval (.tmp hj.dst):=fun v j hj hjj hij=>by
    refine eval_put_ne (fun e=>hij ?_) _ _
    have hjl:=lt_of_some hjj
    have e1:(hs.map (·.dst))[j]'(by simpa using hjl)=(hs.map (·.dst))[i]'(by simpa using hin2):=by
     rw[List.getElem?_eq_getElem hjl] at hjj
     rw[List.getElem?_eq_getElem hin2] at hh
     injection hjj with hjj
     injection hh with hh
     simp only[List.getElem_map,hjj,hh]
     exact e.symm
    exact (List.getElem_inj hdis).1 e1
   have hlis:∀(j:Nat),j≠i→(listed.setIfInBounds i true).getD j false=listed.getD j false:=fun j hij=>by
    rw[Array.getD_eq_getD_getElem?,Array.getElem?_setIfInBounds_ne (Ne.symm hij),Array.getD_eq_getD_getElem?]
   have key:∀v W',h.R v W'→S i W W'→wpAny P .any l.toArray Q (f+g) (listed.setIfInBounds i true) (a.put (some h.dst) v) W':=fun v W' hR hfr=>by
    refine wide6_any hW hg hdst hlen hin hdis hS hG h0 hm hy hk f _ _ _ (inv.set hi hin2) hrec ⟨hI.1.put (List.mem_map.2 ⟨h,hmem,rfl⟩) v,hG i _ _ hfr hI.2.1,fun j hj=>?_,fun j hj hjj hlj=>?_⟩
    · have hji:j≠i:=fun e=>by
       subst e
       rw[Array.getD_eq_getD_getElem?,Array.getElem?_setIfInBounds_self_of_lt (by have:=hWd.lt;omega)] at hj
       cases hj
      rw[hlis j hji] at hj
      exact hS i j (Ne.symm hji) _ _ hfr (hI.2.2.1 j hj)
    · by_cases hij:j=i
      · subst hij
        rw[hh] at hjj
        injection hjj with hjj
        subst hjj
        rw[hself]
        exact hR
      · rw[hoth v j hj hjj hij]
        rw[hlis j hij] at hlj
        exact hm j hj hjj i (Ne.symm hij) _ _ _ (hI.2.2.2 j hj hjj hlj) hfr
   unfold wpOp
   rw[show l.toArray[i]? = some o by simpa using ho]
   simp only
   rcases hy i h o hh ho a W hI.1 hI.2.1 (hI.2.2.1 i hiun) hdep2 with ⟨hwt,hyl⟩ | ⟨hwt,hR⟩
   · rw[if_pos hwt]
     refine .inl ?_
     unfold Oper.wp
     rcases hyl with ⟨v,W',hr,hR,hb⟩ | ⟨fn,args,hr,hc⟩
     · rw[hr]
       simp only[Oper.upon,hd]
       exact key v W' hR hb
     · rw[hr]
       simp only[Oper.upon,hd]
       exact hc.mono fun e W' ⟨v,he,hR,hb⟩=>by subst he;exact key v W' hR hb
   · rw[if_neg (by rw[hwt];exact Bool.false_ne_true)]
     rw[hd]
     exact key undef W hR (h0 i W)
def Head.ok6 (P:Program) (ops:Array Oper) (hs:List Head) (a0:Act) (G:World→Prop) (Pre:Nat→World→Prop) (S:Nat→World→World→Prop) (i:Nat) (h:Head) (o:Oper):Prop:=
 o.dst=some h.dst∧(∀j,j≠i→∀v W W',h.R v W→S j W W'→h.R v W')∧∀a W,Agree (hs.map (·.dst)) a0 a→G W→Pre i W→(∀j∈h.deps,∀(hj:Head),hs[j]? = some hj→hj.R (a.eval (.tmp hj.dst)) W)→Takes6 P ops o a W (S i) h.R
theorem wp_wide6 {id:Nat} {a0:Act} {w0:World} {l:List Oper} (G:World→Prop) (Pre:Nat→World→Prop) (S:Nat→World→World→Prop) (hs:List Head) (hmx:P.follows .mixedOrders=true)
 (hB:wideB l.toArray hs.length (hs.map (·.deps)).toArray=true)
 (hlen:decide (hs.length≤l.length)=true) (hin:(hs.map (·.dst)).all (fun d=>decide (d<a0.tmps.size))=true) (hdis:decide ((hs.map (·.dst)).Nodup)=true)
 (hS:∀i j,i≠j→∀W W',S i W W'→Pre j W→Pre j W') (hG:∀i W W',S i W W'→G W→G W') (h0:∀i W,S i W W) (hp0:∀j,Pre j { w0 with drawn:=w0.drawn+1 }) (hg0:G { w0 with drawn:=w0.drawn+1 })
 (hok:All5 (Head.ok6 P l.toArray hs a0 G Pre S) 0 hs l)
 (hk:∀(vs:Tmp→Value) W,(∀(i:Nat) (h:Head),hs[i]? = some h→h.R (vs h.dst) W)→G W→wpList P l.toArray Q (l.drop hs.length) ((hs.map (·.dst)).foldl (fun x d=>x.put (some d) (vs d)) a0) W):
 (Code.region id l.toArray true).wp P Q a0 w0:=by
 have hlen':=of_decide_eq_true hlen
 have hat:∀(i:Nat) (h:Head) (o:Oper),hs[i]? = some h→l[i]? = some o→Head.ok6 P l.toArray hs a0 G Pre S i h o:=fun i h o hi ho=>by
  have:=hok.at i h o hi ho
  rwa [Nat.zero_add] at this
 have hunl:∀n,unl (Array.replicate l.toArray.size false) n=n:=fun n=>by
  induction n with
  | zero=>rfl
  | succ n ih=>rw[unl,ih,getD_replicate_false];simp
 refine wp_region_any hmx ?_
 have hinv:HeadInv .any l.toArray hs.length (Array.replicate l.toArray.size false):=⟨by simp,fun j oj hj hl=>(by rw[getD_replicate_false] at hl;cases hl),fun t ht ht'=>getD_in (by simpa using ht') (getD_replicate_false _ _)⟩
 have h1:=wide6_any (P:=P) (Q:=Q) (l:=l) (hs:=hs) (a0:=a0) (g:=l.length-hs.length) (G:=G) (Pre:=Pre) (S:=S) hB (by simp)
  (fun i h o hi ho=>(hat i h o hi ho).1) hlen'
  (fun h hh=>by
    have:=List.all_eq_true.1 hin h.dst (List.mem_map.2 ⟨h,hh,rfl⟩)
    exact of_decide_eq_true this) (of_decide_eq_true hdis) hS hG h0
  (fun i h hi=>by
    have hil:=lt_of_some hi
    exact (hat i h _ hi (List.getElem?_eq_getElem (by omega))).2.1)
  (fun i h o hi ho=>(hat i h o hi ho).2.2)
  (fun a W hA hgr hR=>by
    have:=hk (fun d=>a.eval (.tmp d)) W hR hgr
    rw[←Agree.rebuild _ _ hA] at this
    exact this) hs.length (Array.replicate l.toArray.size false) a0 { w0 with drawn:=w0.drawn+1 } hinv (hunl _)
  ⟨Agree.refl _ _,hg0,fun j _=>hp0 j,fun i h hi hl=>(by rw[getD_replicate_false] at hl;cases hl)⟩
 have hsz:l.toArray.size=hs.length+(l.length-hs.length):=by rw[List.size_toArray];omega
 have e:wpAny P .any l.toArray Q l.toArray.size=wpAny P .any l.toArray Q (hs.length+(l.length-hs.length)):=congrArg _ hsz
 rw[e]
 exact h1
end
end Go.Proofs.YtlobgddnlnffbaaGreat
