/-
  Parts of the proof, joined.
-/
import Derived.Test.YtlobgddnlnffbaaGreatBda
import Derived.StillTail
import Derived.Deep.Quiet
import Derived.Deep.QuietTactic
import Derived.Deep.RegionHeld
import Derived.Test.YtlobgddnlnffbaaGreatBdb
import Derived.Laws.BytesArg
import Derived.Laws.MakeOwn
namespace Go.Proofs.YtlobgddnlnffbaaGreat
set_option maxHeartbeats 1000000
open Go.RowKit
set_option linter.unusedVariables false
section
variable {P:Program} {ops:Array Oper} {md:Region.Mode} {C:World→Prop}
def headQ (P:Program) (md:Region.Mode) (ops:Array Oper) (C:World→Prop) (n:Nat) (L:Array Bool→Act→Prop):Nat→Array Bool→Act→Prop
 | 0,listed,a=>L listed a
 | f+1,listed,a=>Region.ready md ops listed≠[]∧∀i∈Region.ready md ops listed,i<n∧qOp P ops C i (headQ P md ops C n L f (listed.setIfInBounds i true)) a
theorem any_of_headQ {n g:Nat} {L:Array Bool→Act→Prop} {Q':Exit→Act→World→Prop} (hL:∀listed a w,C w→L listed a→wpAny P md ops Q' g listed a w):
 ∀(f:Nat) (listed:Array Bool) (a:Act) (w:World),C w→headQ P md ops C n L f listed a→wpAny P md ops Q' (f+g) listed a w
 | 0,listed,a,w,hw,h=>by rw[Nat.zero_add];exact hL _ _ _ hw h
 | f+1,listed,a,w,hw,h=>by
   rw[show f+1+g=(f+g)+1 by omega]
   exact⟨fun h0=>absurd h0 h.1,fun i hi=>wpOp_of_qOp hw (fun a' w' hw' h'=>any_of_headQ hL f _ a' w' hw' h') (h.2 i hi).2⟩
theorem headQ_first {n i:Nat} {oi:Oper} {v:Value} {L:Array Bool→Act→Prop} (hi:ops[i]? = some oi) (hsel:∀(j:Nat) (o:Oper) cs b,ops[j]? = some o→o.op≠.select cs b)
 (hs:Region.sinkB md ops n=true) (hc:Region.chainB md ops n=true) (hn:n<ops.size) (hin:i<n) (hdone:∀listed a,L listed a→∀j∈Region.ready md ops listed,n≤j):
 ∀ (f:Nat) (listed:Array Bool) (a:Act),HeadInv md ops n listed→
   (∀j oj,ops[j]? = some oj→j≠i→listed.getD j true=false→(∀e∈oj.after,Region.binds md e=true→e.on≠i)→oi.apart ops oj=true)→
   i∈Region.ready md ops listed→YieldsIn P ops C oi v a→headQ P md ops C n L f (listed.setIfInBounds i true) (a.put oi.dst v)→headQ P md ops C n L (f+1) listed a:=by
 intro f
 induction f with
 | zero=>
   intro listed a inv _ hr hy H
   refine⟨fun h=>(by rw[h] at hr;cases hr),fun j hj=>?_⟩
   have hjn:j<n:=Nat.lt_of_not_le fun h=>tail_waits hs hc hn inv _ i rfl hin (mem_ready.1 hr).1 j h hj
   refine⟨hjn,?_⟩
   by_cases hji:j=i
   · subst hji;exact hy.qOp hi H
   · exact absurd (hdone _ _ H j (ready_mono hj hji)) (Nat.not_le_of_lt hjn)
 | succ f ih=>
   intro listed a inv hfree hr hy H
   refine⟨fun h=>(by rw[h] at hr;cases hr),fun j hj=>?_⟩
   have hjn:j<n:=Nat.lt_of_not_le fun h=>tail_waits hs hc hn inv _ i rfl hin (mem_ready.1 hr).1 j h hj
   refine⟨hjn,?_⟩
   by_cases hji:j=i
   · subst hji;exact hy.qOp hi H
   · obtain⟨hjun,oj,hoj,hall⟩:=mem_ready.1 hj
     have hnot:∀e∈oj.after,Region.binds md e=true→e.on≠i:=fun e he hb heq=>by
      have h1:=hall e he hb
      rw[heq,getD_both (mem_ready.1 hr).1] at h1
      cases h1
     have h2:=qOp_put hoj (hfree j oj hoj hji hjun hnot) (fun cs b=>hsel i oi cs b hi) (fun cs b=>hsel j oj cs b hoj) hy (H.2 j (ready_mono hj hji)).2
     refine qOp_mono (fun a' h3=>ih (listed.setIfInBounds j true) a' (inv.set hj hjn) (fun k ok hk hki hun hno=>hfree k ok hk hki ?_ hno) (ready_mono hr (Ne.symm hji)) h3.1 ?_) h2
     · by_cases hjk:j=k
       · subst hjk;exact hjun
       · rwa [getD_set_ne true hjk] at hun
     · rw[Array.setIfInBounds_comm _ _ hji]
       exact h3.2
theorem headQ_lex {n g:Nat} {Lq:Act→Prop} (hsel:Region.noSelect ops=true) (hs:Region.sinkB md ops n=true) (hc:Region.chainB md ops n=true) (hn:n<ops.size):
 ∀(l:List Oper) (k:Nat) (listed:Array Bool) (a:Act),(∀j,j<l.length→l[j]? = ops[k+j]?)→k+l.length=n→HeadInv md ops n listed→
 Region.lexHead md ops g l.length k listed=true→wpQuiet P ops C Lq l a→headQ P md ops C n (fun listed' a'=>Region.seqB md ops g n listed'=true∧Lq a') l.length listed a
 | [],k,listed,a,_,hk,_,hB,h=>by
   obtain rfl:k=n:=by simpa using hk
   exact⟨by simpa[Region.lexHead] using hB,h⟩
 | o :: l,k,listed,a,hl,hk,inv,hB,h=>by
   have h0:ops[k]? = some o:=by simpa using (hl 0 (by simp)).symm
   simp only[List.length_cons,Region.lexHead,Bool.and_eq_true] at hB
   obtain⟨⟨hr,hf⟩,hB'⟩:=hB
   have hkn:k<n:=by simp only[List.length_cons] at hk;omega
   have hr':k∈Region.ready md ops listed:=by simpa using hr
   have hst:qOp P ops C k (wpQuiet P ops C Lq l) a:=by unfold qOp;simp only[h0];exact h
   obtain⟨v,hy,hK⟩:=yieldsIn_of_qOp h0 hst
   exact headQ_first h0 (Region.noSelect_spec hsel) hs hc hn hkn (fun listed' a' hL=>seqB_ready hL.1) l.length listed a inv (Region.free_spec h0 hf) hr' hy
    (headQ_lex hsel hs hc hn l (k+1) _ _ (fun j hj=>by have:=hl (j+1) (by simp;omega);simpa[Nat.add_assoc,Nat.add_comm 1 j] using this) (by simp only[List.length_cons] at hk;omega) (inv.set hr' hkn) hB' hK)
theorem wp_quiet_tail {id:Nat} {Q:Exit→Act→World→Prop} {a:Act} {w:World} {l:List Oper} (n:Nat) (C:World→Prop) (hC:C w.drew) (hm:P.follows .mixedOrders=true) (hB:Region.lexTailB .any l.toArray n=true)
 (h:wpQuiet P l.toArray C (fun a'=>∀w',C w'→wpList P l.toArray Q (l.drop n) a' w') (l.take n) a):(Code.region id l.toArray true).wp P Q a w:=by
 simp only[Region.lexTailB,Bool.and_eq_true,decide_eq_true_eq] at hB
 obtain⟨⟨⟨⟨hsel,hn⟩,hs⟩,hc⟩,hlex⟩:=hB
 have hn':n<l.length:=by simpa using hn
 have htl:(l.take n).length=n:=by simp;omega
 have hdl:(l.drop n).length=l.toArray.size-n:=by simp
 have inv0:HeadInv .any l.toArray n (Array.replicate l.toArray.size false):=
  ⟨by simp,fun j oj _ hl=>(by rw[getD_replicate_false] at hl;cases hl),fun t _ ht=>getD_in (by simpa using ht) (getD_replicate_false _ _)⟩
 have H:=headQ_lex (md:=.any) (g:=l.toArray.size-n) hsel hs hc hn (l.take n) 0 _ a (fun j hj=>by
  have hj':j<n:=by rw[htl] at hj;exact hj
  simp[hj']) (by simpa using htl) inv0 (by rw[htl];exact hlex) h
 refine wp_region_any hm ?_
 have:=any_of_headQ (Q':=Q) (g:=l.toArray.size-n) (fun listed a' w' hw' hL=>by
  have:=wpAny_of_seq (md:=.any) (Q':=Q) (l.drop n) n listed a' w' (fun j=>by simp[List.getElem?_drop]) (by rw[hdl];exact hL.1) (hL.2 w' hw')
  rwa [hdl] at this) _ _ _ w.drew hC H
 rw[htl,show n+(l.toArray.size-n)=l.toArray.size by omega] at this
 exact this
end
theorem wp_quiet_tail_drew {P:Program} {id:Nat} {Q:Exit→Act→World→Prop} {a:Act} {w:World} {l:List Oper} (n:Nat) (hm:P.follows .mixedOrders=true) (hB:Region.lexTailB .any l.toArray n=true)
 (h:wpQuiet P l.toArray (fun w'=>∃n,w'=w.drewN n) (fun a'=>∀w',(∃n,w'=w.drewN n)→wpList P l.toArray Q (l.drop n) a' w') (l.take n) a):(Code.region id l.toArray true).wp P Q a w:=
 wp_quiet_tail n (fun w'=>∃n,w'=w.drewN n) ⟨1,rfl⟩ hm hB h
section
variable {P:Program} {ops:Array Oper} {S:World→Prop} {Q:Exit→Act→World→Prop}
def takesB (P:Program) (ops:Array Oper) (S:World→Prop) (L:Act→Prop):List Oper→Act→Prop
 | [],a=>L a
 | o::rest,a=>∃v,YieldsIf P ops S o v a∧takesB P ops S L rest (a.put o.dst v)
def takenB:Nat→Nat→Array Bool→Array Bool
 | 0,_,listed=>listed
 | f+1,k,listed=>takenB f (k+1) (listed.setIfInBounds k true)
def lexTakeB (ops:Array Oper):Nat→Nat→Array Bool→Bool
 | 0,_,_=>true
 | f+1,k,listed=>(Region.ready .any ops listed).contains k&&Region.free .any ops listed k&&lexTakeB ops f (k+1) (listed.setIfInBounds k true)
theorem takesB_nil {L:Act→Prop} {a:Act} (h:L a):takesB P ops S L [] a:=h
theorem takesB_step {L:Act→Prop} {a:Act} {o:Oper} {rest:List Oper} {v:Value} (hg:o.guard=none) (h:∀w,S w→(execOp a.eval o).run P w = .ok (.value v) w) (h2:takesB P ops S L rest (a.put o.dst v)):takesB P ops S L (o::rest) a:=
 ⟨v,.inl ⟨by simp[Region.wanted,hg],h⟩,h2⟩
theorem exec_loadB {o:Oper} {a:Act} {w:World} (ty:TypeId) (x:Operand) (ho:o.op = .load ty x)
 (g:Nat) (hx:a.eval x = .pointer (some ⟨g,0,none⟩)) {t:TypeId} {l:List Nat} (hg:Bk w g t l) {m:Nat} {e:TypeId}
 (hu:P.underlying ty=some (.array m e)) (hi:(P.info? ty).map (·.size)=some l.length):(execOp a.eval o).run P w = .ok (.value (.agg (bts l))) w:=by
 have hrun:(loadVar ty ⟨g,0,none⟩).run P w = .ok (.agg (bts l)) w:=run_loadVar_row w g t ty (bts l) (0,0) _ hg hu rfl (by rw[bts_size];exact hi)
 unfold execOp
 simp only[ho,hx,Instr.loadAt,Instr.sureAddr,Sem.run_bind,Sem.run_pure,Result.andThen_ok,hrun]
theorem wpStill_loadB {rest:List Oper} {o:Oper} {a:Act} {w:World} {Q:Act→Prop} (hgd:o.guard=none) (ty:TypeId) (x:Operand) (ho:o.op = .load ty x)
 (g:Nat) (hx:a.eval x = .pointer (some ⟨g,0,none⟩)) {t:TypeId} {l:List Nat} (hg:Bk w g t l) {m:Nat} {e:TypeId}
 (hu:P.underlying ty=some (.array m e)) (hi:(P.info? ty).map (·.size)=some l.length)
 (h:wpStill P ops w Q rest (a.put o.dst (.agg (bts l)))):wpStill P ops w Q (o::rest) a:=by
 refine wpStill_step fun K hK=>?_
 have hw:Region.wanted o (yielded ops a.tmps)=true:=by simp[Region.wanted,hgd]
 rw[if_pos hw]
 unfold Oper.still
 rw[exec_loadB ty x ho g hx hg hu hi,Oper.stillUpon_value]
 exact hK _ h
theorem takesB_loadB {L:Act→Prop} {rest:List Oper} {o:Oper} {a:Act} (hgd:o.guard=none) (ty:TypeId) (x:Operand) (ho:o.op = .load ty x)
 (g:Nat) (hx:a.eval x = .pointer (some ⟨g,0,none⟩)) {t:TypeId} {l:List Nat} (hg:∀w,S w→Bk w g t l) {m:Nat} {e:TypeId}
 (hu:P.underlying ty=some (.array m e)) (hi:(P.info? ty).map (·.size)=some l.length)
 (h:takesB P ops S L rest (a.put o.dst (.agg (bts l)))):takesB P ops S L (o::rest) a:=
 takesB_step hgd (fun w hw=>exec_loadB ty x ho g hx (hg w hw) hu hi) h
theorem anyH_takes {L:Act→Prop} {F:Nat} {w:World} (hsel:Region.noSelect ops=true) (hS:S w) (hQ:∀c a v d w,Q (.panic c) (a.put d v) w→Q (.panic c) a w):
 ∀(l:List Oper) (k:Nat) (listed:Array Bool) (a:Act),(∀j,j<l.length→l[j]? = ops[k+j]?)→lexTakeB ops l.length k listed=true→takesB P ops S L l a→
 (∀a',L a'→wpAnyH P .any ops Q S F (takenB l.length k listed) a' w)→wpAnyH P .any ops Q S (F+l.length) listed a w
 | [],k,listed,a,_,_,h,hL=>hL a h
 | o :: l,k,listed,a,hl,hB,h,hL=>by
   obtain⟨v,hy,h2⟩:=h
   have h0:ops[k]? = some o:=by simpa using (hl 0 (by simp)).symm
   simp only[List.length_cons,lexTakeB,Bool.and_eq_true] at hB
   exact wpAnyH_take h0 hsel hB.1.2 hB.1.1 (fun c a w=>hQ c a v o.dst w) hy hS
    (anyH_takes hsel hS hQ l (k+1) _ _ (fun j hj=>by have:=hl (j+1) (by simp;omega);simpa[Nat.add_assoc,Nat.add_comm 1 j] using this) hB.2 h2 hL)
theorem wp_takes {id:Nat} {a:Act} {w:World} {l:List Oper} (n F:Nat) (S:World→Prop) (hF:l.length=F+n) (hm:P.follows .mixedOrders=true) (hS:S w.drew) (hsel:Region.noSelect l.toArray=true) (hB:lexTakeB l.toArray n 0 (Array.replicate l.toArray.size false)=true)
 (hQ:∀c a v d w,Q (.panic c) (a.put d v) w→Q (.panic c) a w)
 (h:takesB P l.toArray S (fun a'=>wpAnyH P .any l.toArray Q S F (takenB n 0 (Array.replicate l.toArray.size false)) a' w.drew) (l.take n) a):(Code.region id l.toArray true).wp P Q a w:=by
 refine wp_region_held hm (S:=S) ?_
 have hn:(l.take n).length=n:=by simp;omega
 have:=anyH_takes (F:=F) (Q:=Q) (w:=w.drew) hsel hS hQ (l.take n) 0 (Array.replicate l.toArray.size false) a (fun j hj=>by
  rw[hn] at hj
  simp[hj]) (by rw[hn];exact hB) h (fun a' ha=>by rw[hn];exact ha)
 rw[hn] at this
 rw[show l.toArray.size=F+n by simpa using hF]
 have e:l.toArray.size=F+n:=by simpa using hF
 rw[e] at this
 exact this
def AbW (w0:World):World→Prop:=Below w0.heap.size w0
theorem AbW.refl (w:World):AbW w w:=Below.refl _ _
end
theorem results_bts2 {P:Program} {fn:Func} {p q:Tmp} {ty:TypeId} (h:fn.results = #[.cell p ty,.tmp q]) (tmps:Array Value) (w:World) (g:Nat) {t:TypeId} {l:List Nat}
 (hp:tmps.getD p undef = .pointer (some ⟨g,0,none⟩)) (hg:Bk w g t l) {m:Nat} {e:TypeId} (hu:P.underlying ty=some (.array m e)) (hi:(P.info? ty).map (·.size)=some l.length):
 (results fn tmps).run P w = .ok (.tuple #[.agg (bts l),tmps.getD q undef]) w:=by
 have hp':tmps[p]?.getD undef = .pointer (some ⟨g,0,none⟩):=by simpa using hp
 simp[results,h,hp',asAddr,run_loadVar_row w g t ty (bts l) (0,0) _ hg hu rfl (by rw[bts_size];exact hi)]
def zeros (n:Nat):List Nat:=List.replicate n 0
theorem zeros_len (n:Nat):(zeros n).length=n:=by simp[zeros]
def strOf (l:List Nat):ByteArray:=⟨(l.map UInt8.ofNat).toArray⟩
theorem strOf_inj {a b:List Nat} (ha:Byt a) (hb:Byt b):strOf a=strOf b↔a=b:=by
 refine⟨fun h=>?_,fun h=>by rw[h]⟩
 have h1:a.map UInt8.ofNat=b.map UInt8.ofNat:=by
  have:=congrArg (fun s:ByteArray=>s.data.toList) h
  simpa[strOf] using this
 clear h
 induction a generalizing b with
 | nil=>cases b with
   | nil=>rfl
   | cons y ys=>simp at h1
 | cons x xs ih=>
   cases b with
   | nil=>simp at h1
   | cons y ys=>
     simp only[List.map_cons,List.cons.injEq] at h1
     have hx:=ha x (by simp)
     have hy:=hb y (by simp)
     have e:x=y:=by
      have:=congrArg UInt8.toNat h1.1
      simp at this
      omega
     rw[e,ih (fun z hz=>ha z (by simp[hz])) (fun z hz=>hb z (by simp[hz])) h1.2]
section
variable {P:Program}
theorem run_str {w:World} {A:Option Addr} {n c:Nat} {l:List Nat} (h:IsB w A n c l) (src e dst:TypeId) (hs:P.underlying src=some (.slice e)) (he:P.underlying e=some (.int .u8)) (hd:P.underlying dst=some .string):
 (convert src dst (.slice A n c)).run P w = .ok (.string (strOf l)) w:=by
 rw[run_convert_bytes_string w src dst e _ n c hs he hd]
 have hl:=h.len
 by_cases h0:A=none
 · subst h0
   have:n=0:=by
    by_cases hn:0<n
    · obtain⟨x,e,_⟩:=h.cell hn
      cases e
    · omega
   subst this
   obtain rfl:l=[]:=List.eq_nil_of_length_eq_zero hl
   simp[Conv.bytesToString,strOf,ByteArray.empty,ByteArray.emptyWithCapacity]
   rfl
 · obtain⟨x,rfl⟩:∃x,A=some x:=by cases A with
    | none=>exact absurd rfl h0
    | some x=>exact⟨x,rfl⟩
   have hlc:(loadCells x n).run P w = .ok ((l.map fun m:Nat=>(m:Int)).map (Value.int .u8)).toArray w:=by
    have:=run_loadCells_list (P:=P) w x ((l.map fun m:Nat=>(m:Int)).map (Value.int .u8)) (fun j v hj=>by
     have hjl:j<n:=by
      rcases Nat.lt_or_ge j n with h' | h'
      · exact h'
      · rw[List.getElem?_eq_none (by simp;omega)] at hj;cases hj
     obtain⟨y,e,_,hy⟩:=h.cell (by omega)
     injection e with e
     rw[e,hy j hjl]
     simp only[List.getElem?_map,List.getElem?_eq_getElem (show j<l.length by omega),Option.map_some] at hj
     simpa[at',List.getElem?_eq_getElem (show j<l.length by omega)] using hj)
    simpa[hl] using this
   rw[run_bytesToString w x n c _ hlc,foldl_push_bytes]
   simp[strOf,ByteArray.empty,ByteArray.emptyWithCapacity,Function.comp_def]
   rfl
end
theorem made_u8 (n:Nat):madeCells #[Value.int .u8 0] n=bts (zeros n):=by
 apply Array.ext
 · simp[madeCells,bts,zeros]
 · intro i h1 h2
   simp[madeCells,bts,zeros,Nat.mod_one]
theorem infoU8:(Tryz.prog.info? 5).map (fun i=>(i.zero,i.size,i.bytes))=some (some (.int .u8 0),1,1):=by kernel_rfl
theorem make_u8 (n c:Nat) (h:n≤c) (hc:c≤281474976710656) (W:World):
 (Instr.makeSlice 41 (.int .i64 (n:Int)) (.int .i64 (c:Int))).run Tryz.prog W = .ok (.slice (some ⟨W.heap.size,0,none⟩) n c) (W.alloc (.cells (bts (zeros c)) 5)):=by
 obtain⟨i0,hi0,h0,h1,h2⟩:=info_parts infoU8
 have:=run_make (P:=Tryz.prog) W 41 5 i0 _ Tryz.underlying41 hi0 h0 .i64 .i64 n c (by omega) (by omega) (by rw[h2];omega) (by omega)
 rw[this,h1]
 simp only[Int.toNat_natCast,Nat.mul_one]
 rw[←made_u8]
 rfl
theorem Bk.isB {w:World} {g:Nat} {t:TypeId} {l:List Nat} (h:Bk w g t l) (hb:Byt l) (n c:Nat) (hn:n≤l.length) (hc:n≤c) (hm:c≤9223372036854775807):IsB w (some ⟨g,0,none⟩) n c (l.take n):=by
 refine⟨⟨by simp;omega,hc,hm,?_,.inr ⟨_,rfl,fun _=>h.lt,fun i hi=>?_⟩⟩,fun x hx=>hb x (List.mem_of_mem_take hx)⟩
 · intro z hz
   obtain⟨x,hx,rfl⟩:=List.mem_map.1 hz
   have:=hb x (List.mem_of_mem_take hx)
   simp only[Lit.wf,Bool.and_eq_true,decide_eq_true_eq]
   have e1:IntKind.u8.min=0:=rfl
   have e2:IntKind.u8.max=255:=rfl
   omega
 · have e1:(Addr.mk g 0 none).add i=⟨g,i,none⟩:=by rw[Addr.add_mid,Nat.zero_add]
   rw[e1,h.cell (by omega)]
   simp[List.getD,hi,List.getElem?_eq_getElem (show i<l.length by omega)]
set_option maxRecDepth 100000 in
theorem copy_any (A:Option Addr) (n c:Nat) (l:List Nat) (w:World) (h:IsB w A n c l) (hn:n+3≤281474976710656):
 Calls Tryz.prog 101 #[.slice A n c] w fun e w'=>e = .returned (.slice (some ⟨w.heap.size,0,none⟩) n (n+3))∧Bk w' w.heap.size 5 (l++zeros 3)∧Below w.heap.size w w':=by
 have hmk:∀W:World,(Instr.makeSlice 41 (.int .i64 (n:Int)) (.int .i64 ((n:Int)+3))).run Tryz.prog W = .ok (.slice (some ⟨W.heap.size,0,none⟩) n (n+3)) (W.alloc (.cells (bts (zeros (n+3))) 5)):=fun W=>by
  have:=make_u8 n (n+3) (by omega) hn W
  rwa [show ((n+3:Nat):Int)=(n:Int)+3 from by omega] at this
 have hb:Bk (w.alloc (.cells (bts (zeros (n+3))) 5)) w.heap.size 5 (zeros (n+3)):=Bk.new _ _ _
 have hl:=h.len
 have hsrc:=h.1.alloc (.cells (bts (zeros (n+3))) 5)
 have hcp:∃W2,(Builtin.copy_ #[41,41] 3 #[.slice (some ⟨w.heap.size,0,none⟩) n (n+3),.slice A n c]).run Tryz.prog (w.alloc (.cells (bts (zeros (n+3))) 5)) = .ok (goInt n) W2∧Bk W2 w.heap.size 5 (l++zeros 3)∧Below w.heap.size w W2:=by
  have hbl:Below w.heap.size w (w.alloc (.cells (bts (zeros (n+3))) 5)):=(Below.refl _ _).alloc (Nat.le_refl _) _
  by_cases hn0:n=0
  · subst hn0
    obtain rfl:l=[]:=List.eq_nil_of_length_eq_zero hl
    exact⟨_,run_copy_none _ _ _ _ 5 _ _ _ _ _ _ Tryz.underlying41 szByte (by simp),hb,hbl⟩
  · obtain⟨x,rfl,_,hx⟩:=(show IsB (w.alloc (.cells (bts (zeros (n+3))) 5)) A n c l from⟨hsrc,h.2⟩).cell (by omega)
    have hr:=run_copy_row (P:=Tryz.prog) (w.alloc (.cells (bts (zeros (n+3))) 5)) 41 41 3 5 w.heap.size 0 n (n+3) x n c (bts (zeros (n+3))) 5 (l.map (fun n:Nat=>Value.int .u8 (n:Int))) Tryz.underlying41 szByte hb (by rw[List.length_map,hl];exact (Nat.min_self n).symm)
     (fun j v hv=>by
       rw[List.getElem?_map] at hv
       have hj:j<n:=by
        by_cases h':j<n
        · exact h'
        · rw[List.getElem?_eq_none (by omega)] at hv;simp at hv
       rw[hx j hj]
       rw[List.getElem?_eq_getElem (by omega)] at hv
       simp only[at',List.getElem?_eq_getElem (show j<l.length by omega)]
       simpa using hv)
     (by rw[List.length_map,bts_size,zeros_len,hl];omega) (by simp[Value.oneCell'])
    rw[List.length_map,hl] at hr
    refine⟨_,hr,?_,Below.row hbl (Nat.le_refl _) _⟩
    have e:((bts (zeros (n+3))).toList.take 0++(l.map (fun n:Nat=>Value.int .u8 (n:Int))++(bts (zeros (n+3))).toList.drop (0+n))).toArray=bts (l++zeros 3):=by
     rw[bts_splice]
     simp[zeros]
    rw[List.append_assoc,e]
    exact hb.row _
 obtain⟨W2,hcp,h2,h3⟩:=hcp
 have H2:=Lib.hid h2
 have H3:=Lib.hid h3
 have hni:(n:Int)+3≤281474976710656:=by omega
 clear h hb hl hsrc h2 h3
 go_enter Tryz.func101,Tryz.ntmps101
 go_wp2
 go_ret
 exact⟨rfl,H2.out,H3.out⟩
def bvals (l:List Nat):List Value:=l.map (fun n:Nat=>Value.int .u8 (n:Int))
theorem bvals_ints (l:List Nat):bvals l=(l.map (fun n:Nat=>(n:Int))).map (Value.int .u8):=by simp[bvals]
theorem byt_wf {l:List Nat} (h:Byt l):∀z∈l.map (fun n:Nat=>(n:Int)),(Lit.int .u8 z).wf=true:=by
 intro z hz
 obtain⟨x,hx,rfl⟩:=List.mem_map.1 hz
 have:=h x hx
 simp only[Lit.wf,Bool.and_eq_true,decide_eq_true_eq]
 have e1:IntKind.u8.min=0:=rfl
 have e2:IntKind.u8.max=255:=rfl
 omega
structure OwB (w:World) (B:Nat) (v:Value) (l:List Nat):Prop where
 own:w.ownsRow B 5 1 v l.length (bvals l)
 byt:Byt l
section
variable {w w':World} {B:Nat} {v:Value} {l:List Nat}
theorem OwB.nil (w:World) (B:Nat):OwB w B (.slice none 0 0) []:=⟨⟨rfl,.inl ⟨rfl,rfl⟩⟩,fun x hx=>by cases hx⟩
theorem OwB.alloc (h:OwB w B v l) (o:Obj):OwB (w.alloc o) B v l:=⟨h.own.alloc o,h.byt⟩
theorem OwB.kept (h:OwB w B v l) {row:Option Nat} (hg:w.grownBy w' row) (hne:v.ownBlock=none∨v.ownBlock≠row):OwB w' B v l:=⟨h.own.kept hg hne,h.byt⟩
theorem OwB.lt (h:OwB w B v l):∀g,v.ownBlock=some g→B≤g∧g<w.heap.size:=h.own.lt
theorem OwB.below {C:Nat} (h:OwB w B v l) (hb:Below C w w') (hC:∀g,v.ownBlock=some g→g<C):OwB w' B v l:=by
 refine⟨⟨h.own.1,?_⟩,h.byt⟩
 rcases h.own.2 with hn | ⟨g,cap,cur,rfl,hb',hgg,rest⟩
 · exact .inl hn
 · exact .inr ⟨g,cap,cur,rfl,hb',(hb.block g (hC g rfl)).trans hgg,rest⟩
theorem OwB.ab (h:OwB w B v l) (hb:Below w.heap.size w w'):OwB w' B v l:=h.below hb fun g hg=>(h.lt g hg).2
theorem OwB.form (h:OwB w B v l) (hl:0<l.length):∃g cap,v = .slice (some ⟨g,0,none⟩) l.length cap∧B≤g∧g<w.heap.size∧l.length≤cap∧cap≤9223372036854775807∧∀i,i<l.length→w.cell? ⟨g,i,none⟩=some (.int .u8 (at' l i:Nat)):=by
 have ho:=h.own
 rcases h.own.2 with ⟨_,h0⟩ | ⟨g,cap,cur,rfl,hb',hgg,hnc,hcm,hcs,ht⟩
 · omega
 · refine⟨g,cap,rfl,hb',lt_of_block hgg,hnc,hcm,fun i hi=>?_⟩
   rw[ho.cellAt i (by omega)]
   simp[bvals,at',List.getElem?_eq_getElem hi]
theorem OwB.shape (h:OwB w B v l):∃A cap,v = .slice A l.length cap∧l.length≤cap∧cap≤9223372036854775807:=by
 rcases h.own.2 with ⟨rfl,h0⟩ | ⟨g,cap,cur,rfl,hb',hgg,hnc,hcm,hcs,ht⟩
 · exact⟨none,0,by rw[h0],by omega,by omega⟩
 · exact⟨_,cap,rfl,hnc,hcm⟩
theorem OwB.isB {A:Option Addr} {n c:Nat} (h:OwB w B (.slice A n c) l) (hn:l.length=n):IsB w A n c l:=by
 have ho:=h.own
 rw[hn,bvals_ints] at ho
 exact⟨isRow_own ho (byt_wf h.byt),h.byt⟩
theorem OwB.rw {g n c:Nat} (h:OwB w B (.slice (some ⟨g,0,none⟩) n c) l):∀i,i<l.length→w.cell? ⟨g,i,none⟩=some (.int .u8 (at' l i:Nat)):=by
 by_cases hl:0<l.length
 · obtain⟨g',cap,e,_,_,_,_,hc⟩:=h.form hl
   simp only[Value.slice.injEq,Option.some.injEq,Addr.mk.injEq,and_true] at e
   rw[e.1]
   exact hc
 · intro i hi;omega
theorem OwB.ofBk {g n c:Nat} {l':List Nat} (h:Bk w g 5 l') (hB:B≤g) (hn:l.length=n) (hnc:n≤c) (hc:l'.length=c) (hcm:c≤9223372036854775807) (hl:l'.take n=l) (hb:Byt l):OwB w B (.slice (some ⟨g,0,none⟩) n c) l:=by
 refine⟨⟨by simp[bvals],.inr ⟨g,c,bts l',by rw[hn],hB,h,by omega,hcm,by rw[bts_size];omega,?_⟩⟩,hb⟩
 rw[bts_list,Nat.mul_one,hn,←List.map_take,hl]
 rfl
theorem IsB.ab {A:Option Addr} {n c:Nat} (h:IsB w A n c l) (hb:Below w.heap.size w w'):IsB w' A n c l:=h.below hb
theorem IsB.alloc {A:Option Addr} {n c:Nat} (h:IsB w A n c l) (o:Obj):IsB (w.alloc o) A n c l:=⟨h.1.alloc o,h.2⟩
end
theorem byt_app {a b:List Nat} (ha:Byt a) (hb:Byt b):Byt (a++b):=fun x hx=>by
 rcases List.mem_append.1 hx with h | h
 · exact ha x h
 · exact hb x h
section
variable {P:Program} (w:World)
theorem run_appB {B:Nat} {t ty:TypeId} {i:TypeInfo} {z:Value} (ht:P.underlying t=some (.slice 5)) (hi:P.info? 5=some i) (hz:i.zero=some z)
 (hsize:i.size=1) (hby:i.bytes=1) (hzs:z.cells.size=1)
 {v:Value} {l:List Nat} (hown:OwB w B v l) {A:Option Addr} {m c:Nat} {ys:List Nat} (hr:IsB w A m c ys) (hm:l.length+m≤140737488355328) (hbase:B≤w.heap.size):
 ∃v' w',(Builtin.append_ #[t,t] ty #[v,.slice A m c]).run P w = .ok v' w'∧OwB w' B v' (l++ys)∧Below B w w'∧w.grownBy w' v.ownBlock∧(v'.ownBlock=v.ownBlock∨v'.ownBlock=some w.heap.size):=by
 have ho:=hown.own
 rw[bvals_ints] at ho
 have ho2:w.ownsRow B 5 1 v (l.map (fun n:Nat=>(n:Int))).length ((l.map (fun n:Nat=>(n:Int))).map (Value.int .u8)):=by rw[List.length_map];exact ho
 obtain⟨v',w',h1,h2,h3,h4⟩:=run_app (P:=P) w (ty:=ty) (bytes:=1) ht hi hz hsize hby hzs ho2 hr.1 (by rw[List.length_map];simp only[maxLen];omega) (by rw[List.length_map];omega) hbase
 refine⟨v',w',h1,⟨?_,byt_app hown.byt hr.2⟩,below_app ho hbase h3,h3,h4⟩
 rw[bvals_ints,List.map_append,List.length_append]
 have:(List.map (fun n:Nat=>(n:Int)) l++List.map (fun x:Nat=>(x:Int)) ys).length=l.length+ys.length:=by simp
 rw[this] at h2
 exact h2
theorem wpList_appB {ops:Array Oper} {rest:List Oper} {o:Oper} {a:Act} {Q:Exit→Act→World→Prop} (hgd:o.guard=none) (s x:Operand) {t:TypeId}
 (ho:o.op = .call { callee:=.builtin .append,args:=#[s,x],argTypes:=#[t,t] })
 {B:Nat} {i:TypeInfo} {z:Value} (ht:P.underlying t=some (.slice 5)) (hi:P.info? 5=some i) (hz:i.zero=some z)
 (hsize:i.size=1) (hby:i.bytes=1) (hzs:z.cells.size=1)
 {v:Value} {l:List Nat} (hown:OwB w B v l) (hs:a.eval s=v)
 {A:Option Addr} {m c:Nat} {ys:List Nat} (hr:IsB w A m c ys) (hx:a.eval x = .slice A m c)
 (hm:l.length+m≤140737488355328) (hbase:B≤w.heap.size)
 (h:∀v' w',OwB w' B v' (l++ys)→Below B w w'→w.grownBy w' v.ownBlock→(v'.ownBlock=v.ownBlock∨v'.ownBlock=some w.heap.size)→wpList P ops Q rest (a.put o.dst v') w'):wpList P ops Q (o::rest) a w:=by
 obtain⟨v',w',hrun,h2,h3,h4,h5⟩:=run_appB (P:=P) w (ty:=o.type) ht hi hz hsize hby hzs hown hr hm hbase
 refine wpList_plain hgd fun K hK=>?_
 unfold Oper.wp execOp
 simp only[ho,resolve,invoke,builtin,Sem.run_bind,Sem.run_pure,Result.andThen_ok,List.map_toArray,List.map_cons,List.map_nil,hs,hx,hrun]
 exact hK _ _ (h v' w' h2 h3 h4 h5)
end
def numB (l:List Nat):Nat:=l.foldl (fun n x=>256*n+x) 0
def digB (n:Nat):Nat→List Nat
 | 0=>[]
 | k+1=>digB (n/256) k++[n%256]
theorem digB_len (n:Nat):∀k,(digB n k).length=k
 | 0=>rfl
 | k+1=>by simp[digB,digB_len (n/256) k]
theorem digB_byt (n:Nat):∀k,Byt (digB n k)
 | 0=>fun x hx=>by cases hx
 | k+1=>byt_app (digB_byt (n/256) k) (fun x hx=>by simp at hx;omega)
theorem numB_snoc (l:List Nat) (x:Nat):numB (l++[x])=256*numB l+x:=by simp[numB]
theorem numB_lt {l:List Nat} (hl:Byt l):numB l<256 ^ l.length:=by
 have key:∀(k:Nat) (l:List Nat),l.length=k→Byt l→numB l<256 ^ k:=by
  intro k
  induction k with
  | zero=>
    intro l hk _
    rw[List.eq_nil_of_length_eq_zero hk]
    simp[numB]
  | succ k ih=>
    intro l hk hb
    obtain⟨m,x,rfl⟩:∃m x,l=m++[x]:=⟨l.dropLast,l.getLast (by intro h;rw[h] at hk;simp at hk),(List.dropLast_concat_getLast _).symm⟩
    have h1:=ih m (by simpa using hk) (fun y hy=>hb y (by simp[hy]))
    have h2:=hb x (by simp)
    rw[numB_snoc,Nat.pow_succ]
    omega
 exact key _ l rfl hl
theorem numB_digB (n:Nat):∀k,n<256 ^ k→numB (digB n k)=n
 | 0,h=>by simp at h;subst h;rfl
 | k+1,h=>by
   rw[Nat.pow_succ] at h
   rw[digB,numB_snoc,numB_digB (n/256) k (by omega)]
   omega
theorem wrap_u64' {n:Nat} (hn:n<2 ^ 64) (z:Int) (h0:0≤z) (h:z≤n):IntKind.u64.wrap z=z:=by
 show z%18446744073709551616=z
 omega
theorem or_u64 (a b:Nat) (ha:a<2 ^ 64) (hb:b<2 ^ 64):bits .or .u64 (a:Int) (b:Int)=((a ||| b:Nat):Int):=by
 have h:a ||| b<2 ^ 64:=Nat.or_lt_two_pow ha hb
 show IntKind.u64.wrap ((BitVec.ofInt 64 (a:Int) ||| BitVec.ofInt 64 (b:Int)).toNat:Int)=_
 rw[BitVec.toNat_or,BitVec.ofInt_natCast,BitVec.ofInt_natCast,BitVec.toNat_ofNat,BitVec.toNat_ofNat,Nat.mod_eq_of_lt ha,Nat.mod_eq_of_lt hb]
 exact wrap_u64' h _ (Int.natCast_nonneg _) (Int.le_refl _)
theorem or_byte (m x:Nat) (hm:m<72057594037927936) (hx:x<256):bits .or .u64 ((m:Int)*256) (x:Int)=((256*m+x:Nat):Int):=by
 have:=or_u64 (m*256) x (by omega) (by omega)
 rw[Int.natCast_mul] at this
 refine this.trans ?_
 have h2:=Nat.shiftLeft_add_eq_or_of_lt (a:=m) (b:=x) (i:=8) hx
 rw[Nat.shiftLeft_eq] at h2
 rw[←h2,Nat.mul_comm]
theorem take_snoc' {l:List Nat} {p:Nat} (h:p<l.length):l.take (p+1)=l.take p++[at' l p]:=by
 rw[List.take_succ_eq_append_getElem h]
 simp[at',List.getElem?_eq_getElem h]
theorem numB_take {l:List Nat} (hl:Byt l) (hn:l.length≤8) {p:Nat} (h:p<l.length):numB (l.take p)<72057594037927936:=by
 have hb:Byt (l.take p):=fun x hx=>hl x (List.mem_of_mem_take hx)
 have h1:=numB_lt hb
 have h2:(l.take p).length≤7:=by rw[List.length_take];omega
 exact Nat.lt_of_lt_of_le h1 (Nat.pow_le_pow_right (n:=256) (by omega) h2)
set_option maxRecDepth 100000 in
theorem get_any (g o:Nat) (n c:Nat) (l:List Nat) (w:World) (hc:∀i,i<n→w.cell? ⟨g,o+i,none⟩=some (.int .u8 (at' l i:Nat))) (hl:l.length=n) (hb:Byt l) (h1:1≤n) (h8:n≤8):
 Calls Tryz.prog 135 #[.slice (some ⟨g,o,none⟩) n c] w fun e w'=>e = .returned (.tuple #[.int .u64 (numB l:Int),.int .i64 0])∧w=w':=by
 have HC:=Lib.hid hc
 have HL:=Lib.hid hl
 have HB:=Lib.hid hb
 have hn1:(1:Int)≤(n:Int):=by omega
 have hn8:(n:Int)≤8:=by omega
 have hd1:decide ((n:Int)<1)=false:=by simp;omega
 have hd2:decide (8<(n:Int))=false:=by simp;omega
 clear hc hl hb
 go_enter Tryz.func135,Tryz.ntmps135
 go_wp2_with fail
 go_loop [4,6,17] (fun v _ j=>∃i:Nat,i≤n∧j = .int .i64 i∧v = .int .u64 (numB (l.take i):Nat)) (fun _ _ j=>n-(intOf j).toNat)
 case atStart=>exact⟨0,by omega,rfl,rfl⟩
 case round=>
  obtain⟨i,hi,rfl,rfl⟩:=hrel
  by_cases hlt:i<n
  · have hii:(i:Int)<(n:Int):=by omega
    have hcl:=HC.out i hlt
    have hx:=HB.out.at' i
    have hm:=numB_take HB.out (by rw[HL.out];exact h8) (p:=i) (by rw[HL.out];exact hlt)
    have hs:=take_snoc' (l:=l) (p:=i) (by rw[HL.out];exact hlt)
    have hnum:numB (l.take (i+1))=256*numB (l.take i)+at' l i:=by rw[hs,numB_snoc]
    generalize at' l i=x at hcl hx hnum
    generalize numB (l.take i)=m at hm hnum
    have hor:=or_byte m x hm hx
    have hw1:=wrap_u64' (n:=18446744073709551615) (by decide) ((m:Int)*256) (by omega) (by omega)
    have hw2:=wrap_u64' (n:=256) (by decide) (x:Int) (by omega) (by omega)
    have HN:=Lib.hid hnum
    clear hs hnum
    go_wp2
    go_round
    case rel=>exact⟨i+1,by omega,by go_num,by rw[HN.out];go_num⟩
    case measure=>simp[intOf];omega
  · obtain rfl:i=n:=by omega
    have he:l.take i=l:=List.take_of_length_le (by rw[HL.out];omega)
    rw[he]
    clear he
    generalize hme:numB l=m
    have HME:=Lib.hid hme
    clear hme
    go_wp2
    go_ret2
    exact⟨by rw[HME.out];rfl,rfl⟩
theorem digB_succ (n:Nat):∀k,digB n (k+1)=n/256 ^ k%256::digB n k
 | 0=>by simp[digB]
 | k+1=>by
   have h:=digB_succ (n/256) k
   rw[digB,h]
   have e:n/256/256 ^ k=n/256 ^ (k+1):=by rw[Nat.div_div_eq_div_mul,Nat.pow_succ,Nat.mul_comm]
   rw[e]
   rfl
def putB (n size j:Nat):List Nat:=zeros (size-j)++digB n j
theorem putB_len {n size j:Nat} (h:j≤size):(putB n size j).length=size:=by simp[putB,zeros_len,digB_len];omega
theorem putB_set {n size j:Nat} (h:j<size):(putB n size j).set (size-1-j) (n/256 ^ j%256)=putB n size (j+1):=by
 unfold putB
 rw[List.set_append_left _ _ (by rw[zeros_len];omega),digB_succ]
 have e:zeros (size-j)=zeros (size-(j+1))++[0]:=by
  have:size-j=(size-(j+1))+1:=by omega
  rw[this]
  exact List.replicate_succ'
 rw[e,List.set_append_right _ _ (by rw[zeros_len];omega)]
 have e2:size-1-j-(zeros (size-(j+1))).length=0:=by rw[zeros_len];omega
 rw[e2]
 simp
theorem putB_all (n size:Nat):putB n size size=digB n size:=by simp[putB,zeros]
theorem div256 (n j:Nat):n/256 ^ j/256=n/256 ^ (j+1):=by rw[Nat.div_div_eq_div_mul,Nat.pow_succ]
theorem wrap_u8m (m:Nat):IntKind.u8.wrap (m:Int)=((m%256:Nat):Int):=by
 show (m:Int)%256=_
 omega
theorem fits_shift (m n:Nat) (h:m<256 ^ n):(((m:Int)/2 ^ (8*n)) != 0)=false:=by
 have e:(256:Nat) ^ n=2 ^ (8*n):=by rw[Nat.pow_mul]
 rw[e] at h
 have h2:((m:Int)/2 ^ (8*n))=((m/2 ^ (8*n):Nat):Int):=by simp
 rw[h2,Nat.div_eq_of_lt h]
 rfl
set_option maxRecDepth 100000 in
theorem put_lt (m n:Nat) (w:World) (hm:m<18446744073709551616) (h1:1≤n) (h8:n<8) (hfit:m<256 ^ n):
 Calls Tryz.prog 182 #[.int .u64 (m:Int),.int .i64 (n:Int)] w fun e w'=>e = .returned (.tuple #[.slice (some ⟨w.heap.size,0,none⟩) n n,.int .i64 0])∧Bk w' w.heap.size 5 (digB m n)∧Below w.heap.size w w':=by
 have hmk:∀W:World,(Instr.makeSlice 41 (.int .i64 (n:Int)) (.int .i64 (n:Int))).run Tryz.prog W = .ok (.slice (some ⟨W.heap.size,0,none⟩) n n) (W.alloc (.cells (bts (zeros n)) 5)):=fun W=>make_u8 n n (by omega) (by omega) W
 have hbk0:Bk (w.alloc (.cells (bts (zeros n)) 5)) w.heap.size 5 (putB m n 0):=by
  have:=Bk.new w 5 (zeros n)
  simpa[putB,digB] using this
 have HB0:=Lib.hid hbk0
 clear hbk0
 have hd1:decide ((n:Int)<1)=false:=by simp;omega
 have hd2:decide (8<(n:Int))=false:=by simp;omega
 have hd3:decide ((n:Int)<8)=true:=by simp;omega
 have hi0:IntKind.i64.wrap ((n:Int)-1)=(n:Int)-1:=IntWalk.i64_in _ (by omega)
 have hsh:=fits_shift m n hfit
 clear hfit
 go_enter Tryz.func182,Tryz.ntmps182
 go_wp2_with fail
 clear hd1 hd2 hd3 hsh hi0
 go_loopw [0,7] (fun u v wr=>∃j:Nat,j≤n∧v = .int .i64 ((n:Int)-1-(j:Int))∧u = .int .u64 (m/256 ^ j:Nat)∧Bk wr w.heap.size 5 (putB m n j)∧Below w.heap.size w wr) (fun _ v _=>(intOf v+1).toNat)
 case atStart=>exact⟨0,by omega,by simp,by simp,HB0.out,(Below.refl _ _).alloc (Nat.le_refl _) _⟩
 case round=>
  obtain⟨j,hj,rfl,rfl,hbk,hbw⟩:=hrel
  by_cases hlt:j<n
  · have hge:0≤(n:Int)-1-(j:Int):=by omega
    have hfr:=hbk.free (n-1-j)
    have hcl:=hbk.cell (k:=n-1-j) (by rw[putB_len hj];omega)
    generalize (putB m n j)[n-1-j]?.getD 0=y at hcl
    have hst:=hbk.set (n-1-j) (m/256 ^ j%256)
    rw[putB_set hlt] at hst
    have hd:=div256 m j
    have hmj:m/256 ^ j≤m:=Nat.div_le_self _ _
    generalize hq:m/256 ^ j=q at *
    have hq2:q%256<256:=Nat.mod_lt _ (by omega)
    have HQ:=Lib.hid hd
    have H1:=Lib.hid hst
    have H2:=Lib.hid (hbw.setCell (p:=⟨w.heap.size,n-1-j,none⟩) (by show w.heap.size≤w.heap.size;omega) (.int .u8 ((q%256:Nat):Int)))
    have hi4:(n:Int)-1-(j:Int)<(n:Int):=by omega
    have hi5:((n:Int)-1-(j:Int)).toNat=n-1-j:=by omega
    have hi6:IntKind.i64.wrap ((n:Int)-1-(j:Int)-1)=(n:Int)-1-(j:Int)-1:=IntWalk.i64_in _ (by omega)
    have hr2:IntKind.u8.wrap (q:Int)=((q%256:Nat):Int):=wrap_u8m q
    clear hst hbk hbw hd hq
    go_wp2_with fail
    go_roundw
    case rel=>exact⟨j+1,by omega,by go_num,by rw[←HQ.out];go_num,H1.out,H2.out⟩
    case measure=>simp[intOf];omega
  · obtain rfl:j=n:=by omega
    have hge:¬0≤(j:Int)-1-(j:Int):=by omega
    rw[putB_all] at hbk
    have HBK:=Lib.hid hbk
    have HBW:=Lib.hid hbw
    generalize m/256 ^ j=q at *
    clear hbk hbw
    go_wp2_with fail
    go_ret2
    exact⟨rfl,HBK.out,HBW.out⟩
set_option maxRecDepth 100000 in
theorem put_8 (m n:Nat) (w:World) (hm:m<18446744073709551616) (h1:1≤n) (h8:8≤n) (h9:n≤8) (hfit:m<256 ^ n):
 Calls Tryz.prog 182 #[.int .u64 (m:Int),.int .i64 (n:Int)] w fun e w'=>e = .returned (.tuple #[.slice (some ⟨w.heap.size,0,none⟩) n n,.int .i64 0])∧Bk w' w.heap.size 5 (digB m n)∧Below w.heap.size w w':=by
 have hmk:∀W:World,(Instr.makeSlice 41 (.int .i64 (n:Int)) (.int .i64 (n:Int))).run Tryz.prog W = .ok (.slice (some ⟨W.heap.size,0,none⟩) n n) (W.alloc (.cells (bts (zeros n)) 5)):=fun W=>make_u8 n n (by omega) (by omega) W
 have hbk0:Bk (w.alloc (.cells (bts (zeros n)) 5)) w.heap.size 5 (putB m n 0):=by
  have:=Bk.new w 5 (zeros n)
  simpa[putB,digB] using this
 have HB0:=Lib.hid hbk0
 clear hbk0
 have hd1:decide ((n:Int)<1)=false:=by simp;omega
 have hd2:decide (8<(n:Int))=false:=by simp;omega
 have hd3:decide ((n:Int)<8)=false:=by simp;omega
 have hi0:IntKind.i64.wrap ((n:Int)-1)=(n:Int)-1:=IntWalk.i64_in _ (by omega)
 have hsh:=fits_shift m n hfit
 clear hfit
 go_enter Tryz.func182,Tryz.ntmps182
 go_wp2_with fail
 clear hd1 hd2 hd3 hsh hi0
 go_loopw [0,7] (fun u v wr=>∃j:Nat,j≤n∧v = .int .i64 ((n:Int)-1-(j:Int))∧u = .int .u64 (m/256 ^ j:Nat)∧Bk wr w.heap.size 5 (putB m n j)∧Below w.heap.size w wr) (fun _ v _=>(intOf v+1).toNat)
 case atStart=>exact⟨0,by omega,by simp,by simp,HB0.out,(Below.refl _ _).alloc (Nat.le_refl _) _⟩
 case round=>
  obtain⟨j,hj,rfl,rfl,hbk,hbw⟩:=hrel
  by_cases hlt:j<n
  · have hge:0≤(n:Int)-1-(j:Int):=by omega
    have hfr:=hbk.free (n-1-j)
    have hcl:=hbk.cell (k:=n-1-j) (by rw[putB_len hj];omega)
    generalize (putB m n j)[n-1-j]?.getD 0=y at hcl
    have hst:=hbk.set (n-1-j) (m/256 ^ j%256)
    rw[putB_set hlt] at hst
    have hd:=div256 m j
    have hmj:m/256 ^ j≤m:=Nat.div_le_self _ _
    generalize hq:m/256 ^ j=q at *
    have hq2:q%256<256:=Nat.mod_lt _ (by omega)
    have HQ:=Lib.hid hd
    have H1:=Lib.hid hst
    have H2:=Lib.hid (hbw.setCell (p:=⟨w.heap.size,n-1-j,none⟩) (by show w.heap.size≤w.heap.size;omega) (.int .u8 ((q%256:Nat):Int)))
    have hi4:(n:Int)-1-(j:Int)<(n:Int):=by omega
    have hi5:((n:Int)-1-(j:Int)).toNat=n-1-j:=by omega
    have hi6:IntKind.i64.wrap ((n:Int)-1-(j:Int)-1)=(n:Int)-1-(j:Int)-1:=IntWalk.i64_in _ (by omega)
    have hr2:IntKind.u8.wrap (q:Int)=((q%256:Nat):Int):=wrap_u8m q
    clear hst hbk hbw hd hq
    go_wp2_with fail
    go_roundw
    case rel=>exact⟨j+1,by omega,by go_num,by rw[←HQ.out];go_num,H1.out,H2.out⟩
    case measure=>simp[intOf];omega
  · obtain rfl:j=n:=by omega
    have hge:¬0≤(j:Int)-1-(j:Int):=by omega
    rw[putB_all] at hbk
    have HBK:=Lib.hid hbk
    have HBW:=Lib.hid hbw
    generalize m/256 ^ j=q at *
    clear hbk hbw
    go_wp2_with fail
    go_ret2
    exact⟨rfl,HBK.out,HBW.out⟩
theorem put_any (m n:Nat) (w:World) (hm:m<18446744073709551616) (h1:1≤n) (h8:n≤8) (hfit:m<256 ^ n):
 Calls Tryz.prog 182 #[.int .u64 (m:Int),.int .i64 (n:Int)] w fun e w'=>e = .returned (.tuple #[.slice (some ⟨w.heap.size,0,none⟩) n n,.int .i64 0])∧Bk w' w.heap.size 5 (digB m n)∧Below w.heap.size w w':=by
 rcases Nat.lt_or_ge n 8 with h | h
 · exact put_lt m n w hm h1 h hfit
 · exact put_8 m n w hm h1 (by omega) (by omega) hfit
theorem run_copyB (W:World) (ty:TypeId) (g o d dc:Nat) {t:TypeId} {cur l:List Nat} (hg:Bk W g t cur) {A:Option Addr} {n c:Nat} (h:IsB W A n c l) (hn:0<n) (hnd:n≤d) (hfit:o+n≤cur.length):
 (Builtin.copy_ #[41,41] ty #[.slice (some ⟨g,o,none⟩) d dc,.slice A n c]).run Tryz.prog W = .ok (goInt n) (W.setRow g (bts (cur.take o++(l++cur.drop (o+n))))):=by
 have hl:=h.len
 obtain⟨x,rfl,_,hx⟩:=h.cell hn
 have hr:=run_copy_row (P:=Tryz.prog) W 41 41 ty 5 g o d dc x n c (bts cur) t (l.map (fun n:Nat=>Value.int .u8 (n:Int))) Tryz.underlying41 szByte hg (by rw[List.length_map,hl];exact (Nat.min_eq_left hnd).symm)
  (fun j v hv=>by
    rw[List.getElem?_map] at hv
    have hj:j<n:=by
     by_cases h':j<n
     · exact h'
     · rw[List.getElem?_eq_none (by omega)] at hv;simp at hv
    rw[hx j hj]
    rw[List.getElem?_eq_getElem (by omega)] at hv
    simp only[at',List.getElem?_eq_getElem (show j<l.length by omega)]
    simpa using hv)
  (by rw[List.length_map,bts_size,hl];omega) (by simp[Value.oneCell'])
 rw[List.length_map,hl] at hr
 rw[hr,List.append_assoc,bts_splice]
theorem wpList_copyB {ops:Array Oper} {rest:List Oper} {o:Oper} {a:Act} {w:World} {Q:Exit→Act→World→Prop} (hgd:o.guard=none) (s x:Operand)
 (ho:o.op = .call { callee:=.builtin .copy,args:=#[s,x],argTypes:=#[41,41] })
 (g p d dc:Nat) {t:TypeId} {cur l:List Nat} (hg:Bk w g t cur) (hs:a.eval s = .slice (some ⟨g,p,none⟩) d dc) {A:Option Addr} {n c:Nat} (hx:a.eval x = .slice A n c) (hr:IsB w A n c l) (hn:0<n) (hnd:n≤d) (hfit:p+n≤cur.length) (l2:List Nat) (he:cur.take p++(l++cur.drop (p+n))=l2)
 (h:∀w2,w2=w.setRow g (bts l2)→wpList Tryz.prog ops Q rest (a.put o.dst (goInt n)) w2):wpList Tryz.prog ops Q (o::rest) a w:=by
 have hrun:=run_copyB w o.type g p d dc hg hr hn hnd hfit
 rw[he] at hrun
 refine wpList_plain hgd fun K hK=>?_
 unfold Oper.wp execOp
 simp only[ho,resolve,invoke,builtin,Sem.run_bind,Sem.run_pure,Result.andThen_ok,List.map_toArray,List.map_cons,List.map_nil,hs,hx,hrun]
 exact hK _ _ (h _ rfl)
def firstC (l:List Nat):List Nat:=l++[0,0,0,1]
def nextC (c:List Nat):List Nat:=c.take 12++digB ((numB (c.drop 12)+1)%4294967296) 4
theorem firstC_len {l:List Nat} (h:l.length=12):(firstC l).length=16:=by simp[firstC,h]
theorem nextC_len {c:List Nat} (h:c.length=16):(nextC c).length=16:=by simp[nextC,digB_len,h]
theorem firstC_byt {l:List Nat} (h:Byt l):Byt (firstC l):=byt_app h (fun x hx=>by simp at hx;omega)
theorem nextC_byt {c:List Nat} (h:Byt c):Byt (nextC c):=byt_app (fun x hx=>h x (List.mem_of_mem_take hx)) (digB_byt _ 4)
theorem numB_drop12 {c:List Nat} (hc:Byt c) (lc:c.length=16):numB (c.drop 12)<4294967296:=by
 have h1:=numB_lt (l:=c.drop 12) (fun x hx=>hc x (List.mem_of_mem_drop hx))
 have h2:(c.drop 12).length=4:=by simp[lc]
 rw[h2] at h1
 exact h1
theorem wrap_u32m (m:Nat):IntKind.u32.wrap (m:Int)=((m%4294967296:Nat):Int):=by
 show (m:Int)%4294967296=_
 omega
set_option maxRecDepth 100000 in
theorem first_any (A:Option Addr) (c:Nat) (l:List Nat) (w:World) (hin:IsB w A 12 c l):
 Calls Tryz.prog 184 #[.slice A 12 c] w fun e w'=>e = .returned (.tuple #[.agg (bts (firstC l)),.int .i64 0])∧Below w.heap.size w w':=by
 have hl:=hin.len
 have hb2:Bk ((w.alloc (.cells (bts z16) 263)).alloc (.cells (bts z16) 263)) (w.heap.size+1) 263 z16:=Bk.newAt _ z16 (by simp)
 have hb1:Bk ((w.alloc (.cells (bts z16) 263)).alloc (.cells (bts z16) 263)) w.heap.size 263 z16:=(Bk.newAt _ z16 rfl).alloc _
 have hbl:Below w.heap.size w ((w.alloc (.cells (bts z16) 263)).alloc (.cells (bts z16) 263)):=((Below.refl _ _).alloc (Nat.le_refl _) _).alloc (by simp) _
 have hin2:IsB ((w.alloc (.cells (bts z16) 263)).alloc (.cells (bts z16) 263)) A 12 c l:=(hin.alloc _).alloc _
 have e1:z16.take 0++(l++z16.drop (0+12))=l++[0,0,0,0]:=rfl
 have e2:(l++[0,0,0,0]).set 15 1=firstC l:=by
  unfold firstC
  rw[List.set_append_right _ _ (by omega),hl]
  rfl
 have HB2:=Lib.hid hb2
 have HB1:=Lib.hid hb1
 have HBL:=Lib.hid hbl
 have HIN:=Lib.hid hin2
 clear hb2 hb1 hbl hin2 hin
 have h15:15<(l++[0,0,0,0]).length:=by simp;omega
 have h16:(firstC l).length=16:=firstC_len hl
 generalize firstC l=y at *
 have H15:=Lib.hid h15
 have H16:=Lib.hid h16
 have E2:=Lib.hid e2
 have E1:=Lib.hid e1
 clear h15 h16 e1 e2 hl
 go_enter Tryz.func184,Tryz.ntmps184
 go_wp2_with (first
  | (refine wpList_copyB (o:=⟨_,.call ⟨.builtin .copy,_,_⟩,_,_,_,_⟩) rfl _ _ rfl _ 0 16 16 HB2.out rfl rfl HIN.out (by decide) (by decide) (by decide) (l++[0,0,0,0]) E1.out ?_
     intro w2 hw2
     have R1:Hid (Bk w2 (w.heap.size+1) 263 (l++[0,0,0,0])):=Lib.hid (by rw[hw2];exact HB2.out.row _)
     have R2:Hid (Bk w2 w.heap.size 263 z16):=Lib.hid (by rw[hw2];exact HB1.out.rowFar (c:=w.heap.size+1) (by omega) _)
     have R3:Hid (Below w.heap.size w w2):=Lib.hid (by rw[hw2];exact Below.row HBL.out (by omega) _)
     have hc15:=R1.out.cell H15.out
     have hf15:=R1.out.free 15
     generalize (l++[0,0,0,0])[15]?.getD 0=u15 at hc15
     have T1:Hid (Bk (w2.setCell ⟨w.heap.size+1,15,none⟩ (.int .u8 1)) (w.heap.size+1) 263 y):=Lib.hid (by rw[←E2.out];exact R1.out.set 15 1)
     have T2:Hid (Bk (w2.setCell ⟨w.heap.size+1,15,none⟩ (.int .u8 1)) w.heap.size 263 z16):=Lib.hid (R2.out.far (c:=w.heap.size+1) (by omega) _)
     have T3:Hid (Below w.heap.size w (w2.setCell ⟨w.heap.size+1,15,none⟩ (.int .u8 1))):=Lib.hid (R3.out.setCell (by show w.heap.size≤w.heap.size+1;omega) _)
     clear hw2)
  | (refine wpList_loadB (l:=y) (o:=⟨some 13,_,_,_,_,_⟩) rfl 263 (.tmp 4) rfl (w.heap.size+1) rfl (t:=263) ?_ Tryz.underlying263 (by rw[H16.out];exact sz16) ?_
     · exact T1.out
     refine wpList_storeB (l:=z16) (o:=⟨none,.store _ (.tmp 2) (.tmp 13),_,_,_,_⟩) rfl 263 (.tmp 2) (.tmp 13) rfl w.heap.size rfl y rfl (t:=263) ?_ (by rw[H16.out];exact sz16) (by rw[H16.out];rfl) ?_
     · exact T2.out))
 refine bodyPost_ret (results_bts2 Tryz.results184 _ _ _ rfl (T2.out.row y) Tryz.underlying263 (by rw[H16.out];exact sz16)) rfl ?_
 exact⟨rfl,Below.row T3.out (Nat.le_refl _) _⟩
end Go.Proofs.YtlobgddnlnffbaaGreat
