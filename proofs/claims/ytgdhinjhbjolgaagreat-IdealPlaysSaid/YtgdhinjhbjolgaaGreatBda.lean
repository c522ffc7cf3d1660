/-
  Parts of the proof, joined.
-/
import Derived.Test.YtgdhinjhbjolgaaGreatRows
import Derived.WalkKit
import Derived.ProofKit
import Derived.OpenShut
import Derived.SizedLaws
import Derived.Maps.AppendAt
import Derived.Laws.OwnMore
import Derived.OwnWalk
import Derived.Lib.Hide
import Derived.Deep.Draws
import Derived.Maps.RangeWalk
import Derived.DeepKeys4
import Derived.WalkSpells
import Derived.WalkLawsBesides
import Derived.Deep.QuietTactic
import Derived.BigQuiet
import Derived.Deep.MidRow
import Derived.Deep.WholeRow
import Derived.Deep.RegionWith
import Derived.OneCell
import Derived.StillTailTactics
import Derived.Laws.CopyOwn
import Derived.StillTail
import Derived.Deep.Quiet
import Derived.Deep.RegionHeld
import Derived.Laws.BytesArg
import Derived.Laws.MakeOwn
import Derived.Deep.DeepCutAuto
import Derived.Outline
import Derived.Deep.RegionHeld3
import Derived.ChangeKeysEq
import Derived.Laws.StructEq
import Derived.WideShapes
namespace Go.Proofs.YtgdhinjhbjolgaaGreat
open Go.ChangeShapes Go.WideShapes Go.ChangeAt Go.RowKit
theorem Tryz.own:ownKnob Tryz.prog.godebug=none:=by kernel_rfl
theorem Tryz.laidOut:laidOutB Tryz.prog=true:=by kernel_rfl
section
variable {H:Type} {enc:TypeId×Value→H} {P:Program}
theorem trodAll_stays (hl:laidOutB P=true) {W W':World} (hb:Below W.heap.size W W'):∀{ts:List TypeId} {vs:List Value} {ds:List (DataW H)} {ps:List MemPlace},
 ts.all (fun t=>P.readableRec t&&decide (t<P.types.size))=true→DataW.TrodAll enc P W 0 (fun _=>true) true ts vs ds ps→(∀x∈ps,x.block<W.heap.size)→
 DataW.TrodAll enc P W' 0 (fun b=>decide (b<W.heap.size)) true ts vs ds ps
 | [],vs,ds,ps,_,h,_=>by
   obtain⟨rfl,rfl,rfl⟩:=trodAll_nil h
   exact h
 | t::ts,vs,ds,ps,ht,h,hlt=>by
   obtain⟨v,vs1,d,ds1,a,b,rfl,rfl,rfl,h1,h2⟩:=trodAll_cons h
   simp only[List.all_cons,Bool.and_eq_true,decide_eq_true_eq] at ht
   exact⟨a,b,Below.trod hl ht.1.1 ht.1.2 h1 hb (fun x hx=>hlt x (by simp[hx])),trodAll_stays hl hb (by simpa using ht.2) h2 (fun x hx=>hlt x (by simp[hx])),rfl⟩
theorem post_law {f:Func} {s:ChangeSpec} {W W':World} {args:Array Value} {tb:TypeId} {ds:List (DataW H)} {before:List MemPlace}
 (hl:laidOutB P=true) (hts:f.params.toList.all (fun t=>P.readableRec t&&decide (t<P.types.size))=true) (hv:s.vars=[])
 (hr:f.resultTypes = #[tb]) (hu:P.underlying tb=some .bool)
 (hs:s.fn H (ds++[])={ results:=[.lit (.bool true)],args:=ds })
 (hW:DataW.Whole enc P f.params.toList s.vars false W args.toList ds [] before) (hb:Below W.heap.size W W'):
 s.post enc P f false true false false W args (.bool true) W':=by
 have hlt:∀p∈before,p.block<W.heap.size:=fun p hp=>hW.lt p hp
 have hW0:=hW
 obtain⟨p,q,hA,hV,hpq,_,_⟩:=hW0
 rw[hv] at hV
 have hq:q=[]:=hV
 subst hq
 have hp:before=p:=by simpa using hpq
 subst hp
 refine⟨ds,[],before,[],before,[],hW,?_,?_,?_,hb.frame _,fun h=>by cases h⟩
 · rw[hs,hr]
   exact trodAll_cons_mk (shut_bool hu _) trodAll_mk0
 · rw[hs]
   exact trodAll_stays hl hb hts hA hlt
 · rw[hv]
   show DataW.TrodVars enc P W' _ [] (s.fn H (ds++[])).vars []
   rw[hs]
   rfl
end
def IsRow (k:IntKind) (w:World) (a:Option Addr) (len cap:Nat) (zs:List Int):Prop:=
 zs.length=len∧len≤cap∧cap≤maxLen∧(∀z∈zs,(Lit.int k z).wf=true)∧
 ((a=none∧cap=0)∨∃x,a=some x∧(0<cap→x.block<w.heap.size)∧∀i,i<len→w.cell? (x.add i)=some (.int k (zs.getD i 0)))
theorem isRow_sized {H:Type} {enc:TypeId×Value→H} {P:Program} {W:World} {t e:TypeId} {k:IntKind} {bytes:Nat} {a:Option Addr} {len cap:Nat} {d:DataW H} {p:List MemPlace} (ht:P.underlying t=some (.slice e)) (he:P.underlying e=some (.int k)) (hc:P.cellsOf e=1) (hby:P.bytesOf e=bytes)
 (h:DataW.Trod enc P W 0 (fun _=>true) true t (.slice a len cap) d p) (hlt:∀x∈p,x.block<W.heap.size)
 (hsz:∀elems spare,d = .slice elems spare→(elems.length+spare.length)*P.bytesOf e≤reachBytes):∃zs,IsRow k W a len cap zs∧cap*bytes≤140737488351232:=by
 subst hby
 obtain⟨fuel,hf⟩:=h
 rcases open_ints ht he hc hf with ⟨hcs,_⟩ | ⟨x,l,c,zs,hcs,_,hl,hm,hz,hx,hcell,hwz⟩
 · simp[Value.cells] at hcs
   obtain⟨rfl,rfl,rfl⟩:=hcs
   exact⟨[],⟨rfl,Nat.le_refl _,Nat.zero_le _,by simp,.inl ⟨rfl,rfl⟩⟩,by omega⟩
 · simp[Value.cells] at hcs
   obtain⟨rfl,rfl,rfl⟩:=hcs
   have hz':zs.length=cap:=by simpa using hz
   have hp:p=MemPlace.row x zs.length:=by simpa using congrArg (·.2) hx
   have hd:d = .slice (lits k (zs.take len)) (lits k (zs.drop len)):=by simpa using congrArg (·.1) hx
   have hs:=hsz _ _ hd
   have hs2:((lits (H:=H) k (zs.take len)).length+(lits (H:=H) k (zs.drop len)).length)=cap:=by simp[lits];omega
   rw[hs2] at hs
   refine⟨zs.take len,⟨by simp[hz'];omega,hl,hm,fun z hzm=>hwz z (List.mem_of_mem_take hzm),.inr ⟨x,rfl,fun h0=>?_,fun i hi=>?_⟩⟩,hs⟩
   · have h1:MemPlace.cell x.block x.off∈p:=by
      rw[hp,hz']
      simp only[MemPlace.row,List.mem_map,List.mem_range]
      exact⟨0,h0,by simp⟩
     exact hlt _ h1
   · rw[hcell i (by omega)]
     simp[List.getD,hi]
theorem isRow_of {H:Type} {enc:TypeId×Value→H} {P:Program} {W:World} {t e:TypeId} {k:IntKind} {a:Option Addr} {len cap:Nat} {d:DataW H} {p:List MemPlace} (ht:P.underlying t=some (.slice e)) (he:P.underlying e=some (.int k)) (hc:P.cellsOf e=1)
 (h:DataW.Trod enc P W 0 (fun _=>true) true t (.slice a len cap) d p) (hlt:∀x∈p,x.block<W.heap.size):∃zs,IsRow k W a len cap zs:=by
 obtain⟨fuel,hf⟩:=h
 rcases open_ints ht he hc hf with ⟨hcs,_⟩ | ⟨x,l,c,zs,hcs,_,hl,hm,hz,hx,hcell,hwz⟩
 · simp[Value.cells] at hcs
   obtain⟨rfl,rfl,rfl⟩:=hcs
   exact⟨[],rfl,Nat.le_refl _,Nat.zero_le _,by simp,.inl ⟨rfl,rfl⟩⟩
 · simp[Value.cells] at hcs
   obtain⟨rfl,rfl,rfl⟩:=hcs
   have hz':zs.length=cap:=by simpa using hz
   have hp:p=MemPlace.row x zs.length:=by simpa using congrArg (·.2) hx
   refine⟨zs.take len,by simp[hz'];omega,hl,hm,fun z hzm=>hwz z (List.mem_of_mem_take hzm),.inr ⟨x,rfl,fun h0=>?_,fun i hi=>?_⟩⟩
   · have h1:MemPlace.cell x.block x.off∈p:=by
      rw[hp,hz']
      simp only[MemPlace.row,List.mem_map,List.mem_range]
      exact⟨0,h0,by simp⟩
     exact hlt _ h1
   · rw[hcell i (by omega)]
     simp[List.getD,hi]
open Go.RowKit
section
variable {w w':World} {k:IntKind} {A:Option Addr} {n c:Nat} {zs:List Int}
theorem add_block (a:Addr) (i:Nat):(a.add i).block=a.block:=by unfold Addr.add;split <;> rfl
theorem IsRow.len (h:IsRow k w A n c zs):zs.length=n:=h.1
theorem IsRow.lenCap (h:IsRow k w A n c zs):n≤c:=h.2.1
theorem IsRow.capMax (h:IsRow k w A n c zs):c≤9223372036854775807:=h.2.2.1
theorem IsRow.wf (h:IsRow k w A n c zs):∀z∈zs,(Lit.int k z).wf=true:=h.2.2.2.1
theorem IsRow.at (h:IsRow k w A n c zs) (hn:0<n):∃x,A=some x∧x.block<w.heap.size∧∀i,i<n→w.cell? (x.add i)=some (.int k (zs.getD i 0)):=by
 obtain⟨_,hc,_,_,h5⟩:=h
 rcases h5 with ⟨_,h0⟩ | ⟨x,h1,h2,h3⟩
 · omega
 · exact⟨x,h1,h2 (by omega),h3⟩
theorem IsRow.keep (h:IsRow k w A n c zs) (hs:w.heap.size≤w'.heap.size) (hc:∀x i,A=some x→i<n→w'.cell? (x.add i)=w.cell? (x.add i)):IsRow k w' A n c zs:=by
 obtain⟨h1,h2,h3,h4,h5⟩:=h
 refine⟨h1,h2,h3,h4,?_⟩
 rcases h5 with h5 | ⟨x,e,hb,hx⟩
 · exact .inl h5
 · exact .inr ⟨x,e,fun h0=>Nat.lt_of_lt_of_le (hb h0) hs,fun i hi=>(hc x i e hi).trans (hx i hi)⟩
theorem IsRow.below (h:IsRow k w A n c zs) (hb:Below w.heap.size w w'):IsRow k w' A n c zs:=
 h.keep hb.size fun x i e hi=>hb.cell (by
  obtain⟨y,e',hy,_⟩:=h.at (by omega)
  rw[e] at e'
  injection e' with e'
  rw[add_block,e']
  exact hy)
theorem IsRow.drewN (h:IsRow k w A n c zs) (m:Nat):IsRow k (w.drewN m) A n c zs:=h
theorem IsRow.alloc (h:IsRow k w A n c zs) (o:Obj):IsRow k (w.alloc o) A n c zs:=h.below ((Below.refl _ _).alloc (Nat.le_refl _) o)
theorem isRow_nil (w:World) (k:IntKind):IsRow k w none 0 0 []:=⟨rfl,Nat.le_refl _,Nat.zero_le _,by simp,.inl ⟨rfl,rfl⟩⟩
theorem isRow_own {B:Nat} {e:TypeId} (h:w.ownsRow B e 1 (.slice A n c) n (zs.map (Value.int k))) (hw:∀z∈zs,(Lit.int k z).wf=true):IsRow k w A n c zs:=by
 have hl:zs.length=n:=by have:=h.1;simpa using this
 rcases h.2 with ⟨hv,h0⟩ | ⟨g,cap,cur,hv,hg,hh,hnc,hcm,hcs,ht⟩
 · simp only[Value.slice.injEq] at hv
   obtain⟨rfl,rfl,rfl⟩:=hv
   exact⟨hl,Nat.le_refl _,Nat.zero_le _,hw,.inl ⟨rfl,rfl⟩⟩
 · simp only[Value.slice.injEq] at hv
   obtain⟨rfl,-,rfl⟩:=hv
   refine⟨hl,hnc,hcm,hw,.inr ⟨_,rfl,fun _=>?_,fun i hi=>?_⟩⟩
   · rcases Nat.lt_or_ge g w.heap.size with h' | h'
     · exact h'
     · rw[Array.getElem?_eq_none h'] at hh;cases hh
   · have hca:=World.ownsRow.cellAt (j:=i) h (by omega)
     have e1:(Addr.mk g 0 none).add i=⟨g,i,none⟩:=by
      unfold Addr.add
      split
      · subst i;rfl
      · simp
     rw[e1,hca]
     simp[List.getElem?_map,List.getElem?_eq_getElem (show i<zs.length by omega),List.getD]
theorem own_ge {B:Nat} {e:TypeId} {v:Value} {xs:List Value} (h:w.ownsRow B e 1 v n xs):∀g,v.ownBlock=some g→B≤g:=by
 rcases h.2 with ⟨rfl,_⟩ | ⟨g,cap,cur,rfl,hg,_⟩
 · intro g hg;cases hg
 · intro g' hg'
   have:g=g':=by injection hg'
   omega
theorem below_app {B:Nat} {e:TypeId} {v:Value} {xs:List Value} (h:w.ownsRow B e 1 v n xs) (hB:B≤w.heap.size) (hg:w.grownBy w' v.ownBlock):Below B w w':=
 (Below.refl B w).grown hg hB (own_ge h)
end
section
variable {P:Program} (w:World)
theorem run_app {B:Nat} {t ty e:TypeId} {i:TypeInfo} {z:Value} {bytes:Nat} {k:IntKind} (ht:P.underlying t=some (.slice e)) (hi:P.info? e=some i) (hz:i.zero=some z)
 (hsize:i.size=1) (hby:i.bytes=bytes) (hzs:z.cells.size=1)
 {v:Value} {zs:List Int} (hown:w.ownsRow B e 1 v zs.length (zs.map (Value.int k)))
 {A:Option Addr} {m c:Nat} {ys:List Int} (hr:IsRow k w A m c ys)
 (h63:zs.length+m≤maxLen) (hbytes:(zs.length+m)*bytes≤140737488355328) (hbase:B≤w.heap.size):
 ∃ v' w',(Builtin.append_ #[t,t] ty #[v,.slice A m c]).run P w = .ok v' w'∧w'.ownsRow B e 1 v' (zs++ys).length ((zs++ys).map (Value.int k))∧w.grownBy w' v.ownBlock∧
   (v'.ownBlock=v.ownBlock∨v'.ownBlock=some w.heap.size):=by
 have hlen:(zs++ys).length=zs.length+m:=by rw[List.length_append,hr.len]
 obtain⟨hl,hmc,hcm,hwf,h5⟩:=hr
 rcases h5 with ⟨rfl,rfl⟩ | ⟨x,rfl,_,hx⟩
 · have hm:m=0:=by omega
   subst hm
   have hy:ys=[]:=List.eq_nil_of_length_eq_zero hl
   subst hy
   exact⟨v,w,run_append_owned_none (P:=P) w B t ty e i 1 ht hi v _ _ hown,by simpa using hown,World.grownBy.refl w _,.inl rfl⟩
 · have hcells:∀j u,(ys.map (Value.int k))[j]? = some u→w.cell? (x.add j)=some u:=by
    intro j u hu
    rw[List.getElem?_map] at hu
    cases hj:ys[j]? with
    | none=>rw[hj] at hu;simp at hu
    | some y=>
      rw[hj] at hu
      simp at hu
      subst hu
      have hjm:j<m:=by
       have:=(List.getElem?_eq_some_iff.1 hj).1
       omega
      rw[hx j hjm,List.getD,hj]
      rfl
   obtain⟨v',w',hrun,h2,h3,_,h6⟩:=run_append_own_at (P:=P) w B t ty e i z 1 bytes ht hi hz hsize hby hzs (by omega) v _ _ hown x m c (ys.map (Value.int k)) (by simp[hl]) hcells
    (by intro u hu;simp at hu;obtain⟨y,_,rfl⟩:=hu;rfl) h63 hbytes hbase
   exact⟨v',w',hrun,by rw[hlen,List.map_append];exact h2,h3,h6⟩
theorem wp_app {o:Oper} {a:Act} {K:Act→World→Prop} {Q:Exit→Act→World→Prop} (s x:Operand) {t:TypeId}
 (ho:o.op = .call { callee:=.builtin .append,args:=#[s,x],argTypes:=#[t,t] })
 (B:Nat) {e:TypeId} {i:TypeInfo} {z:Value} {bytes:Nat} {k:IntKind} (ht:P.underlying t=some (.slice e)) (hi:P.info? e=some i) (hz:i.zero=some z)
 (hsize:i.size=1) (hby:i.bytes=bytes) (hzs:z.cells.size=1)
 {v:Value} {zs:List Int} (hs:a.eval s=v) (hown:w.ownsRow B e 1 v zs.length (zs.map (Value.int k)))
 {A:Option Addr} {m c:Nat} {ys:List Int} (hx:a.eval x = .slice A m c) (hr:IsRow k w A m c ys)
 (h63:zs.length+m≤maxLen) (hbytes:(zs.length+m)*bytes≤140737488355328) (hbase:B≤w.heap.size)
 (h:∀v' w',w'.ownsRow B e 1 v' (zs++ys).length ((zs++ys).map (Value.int k))→w.grownBy w' v.ownBlock→(v'.ownBlock=v.ownBlock∨v'.ownBlock=some w.heap.size)→K (a.put o.dst v') w'):o.wp P a w K Q:=by
 obtain⟨v',w',hrun,h2,h3,h4⟩:=run_app (P:=P) w (ty:=o.type) ht hi hz hsize hby hzs hown hr h63 hbytes hbase
 unfold Oper.wp execOp
 simp only[ho,resolve,invoke,builtin,Sem.run_bind,Sem.run_pure,Result.andThen_ok,List.map_toArray,List.map_cons,List.map_nil,hs,hx,hrun]
 exact h v' w' h2 h3 h4
theorem wpList_app {ops:Array Oper} {rest:List Oper} {o:Oper} {a:Act} {Q:Exit→Act→World→Prop} (hgd:o.guard=none) (s x:Operand) {t:TypeId}
 (ho:o.op = .call { callee:=.builtin .append,args:=#[s,x],argTypes:=#[t,t] })
 (B:Nat) {e:TypeId} {i:TypeInfo} {z:Value} {bytes:Nat} {k:IntKind} (ht:P.underlying t=some (.slice e)) (hi:P.info? e=some i) (hz:i.zero=some z)
 (hsize:i.size=1) (hby:i.bytes=bytes) (hzs:z.cells.size=1)
 {v:Value} {zs:List Int} (hs:a.eval s=v) (hown:w.ownsRow B e 1 v zs.length (zs.map (Value.int k)))
 {A:Option Addr} {m c:Nat} {ys:List Int} (hx:a.eval x = .slice A m c) (hr:IsRow k w A m c ys)
 (h63:zs.length+m≤maxLen) (hbytes:(zs.length+m)*bytes≤140737488355328) (hbase:B≤w.heap.size)
 (h:∀v' w',w'.ownsRow B e 1 v' (zs++ys).length ((zs++ys).map (Value.int k))→Below B w w'→w.grownBy w' v.ownBlock→(v'.ownBlock=v.ownBlock∨v'.ownBlock=some w.heap.size)→wpList P ops Q rest (a.put o.dst v') w'):wpList P ops Q (o::rest) a w:=
 wpList_plain hgd fun _ hK=>wp_app w s x ho B ht hi hz hsize hby hzs hs hown hx hr h63 hbytes hbase fun v' w' h2 h3 h4=>hK _ _ (h v' w' h2 (below_app hown hbase h3) h3 h4)
end
theorem isRow_lit (w:World) (e:TypeId) (k:IntKind) (zs:List Int) (n:Nat) (hn:n=zs.length) (hm:n≤maxLen) (hw:∀z∈zs,(Lit.int k z).wf=true):
 IsRow k (w.alloc (.cells (zs.map (Value.int k)).toArray e)) (some ⟨w.heap.size,0,none⟩) n n zs:=by
 have h:=World.ownsRow_lit (base:=w.heap.size) (e:=e) (size:=1) w (zs.map (Value.int k)).toArray n (Nat.le_refl _) hm (by simp[hn])
 exact isRow_own (by simpa using h) hw
theorem own_lit (w:World) (e:TypeId) (k:IntKind) (B:Nat) (hB:B≤w.heap.size) (zs:List Int) (hm:zs.length≤maxLen):
 (w.alloc (.cells (zs.map (Value.int k)).toArray e)).ownsRow B e 1 (.slice (some ⟨w.heap.size,0,none⟩) zs.length zs.length) zs.length (zs.map (Value.int k)):=by
 have h:=World.ownsRow_lit (base:=B) (e:=e) (size:=1) w (zs.map (Value.int k)).toArray zs.length hB hm (by simp)
 simpa using h
open Go.RowKit Go.MapKept
open Go.ChangeMaps (setBlock heap_setBlock_same heap_setBlock_other modify_eq_set)
set_option linter.unusedVariables false
structure KeyK {κ:Type} (P:Program) (k:TypeId) (kv:κ→Value) (ok:κ→Prop):Prop where
 keyed:Maps.Keyed P k
 of:∀{x},ok x→∃l,keyOf P k (kv x)=some l
 inj:∀{x y},kv x=kv y→x=y
section
variable {P:Program} {k e t:TypeId} {κ:Type} {kv:κ→Value} {ok:κ→Prop} {w w':World} {b:Nat} {l:List (κ×Value)} {x:κ}
def prs (kv:κ→Value) (l:List (κ×Value)):List (Value×Value):=l.map fun p=>(kv p.1,p.2)
def lookL [DecidableEq κ] (x:κ) (l:List (κ×Value)):Option Value:=(l.find? fun p=>decide (p.1=x)).map (·.2)
def dropL [DecidableEq κ] (x:κ) (l:List (κ×Value)):List (κ×Value):=l.filter fun p=>!decide (p.1=x)
def putL [DecidableEq κ] (x:κ) (v:Value) (l:List (κ×Value)):List (κ×Value):=if (lookL x l).isSome then l.map fun p=>if p.1=x then (x,v) else p else l++[(x,v)]
theorem lookL_none [DecidableEq κ]:lookL x l=none↔∀p∈l,p.1≠x:=by
 unfold lookL
 rw[Option.map_eq_none_iff,List.find?_eq_none]
 simp
theorem lookL_mem [DecidableEq κ] {v:Value} (h:lookL x l=some v):(x,v)∈l:=by
 unfold lookL at h
 obtain⟨p,hp,rfl⟩:=Option.map_eq_some_iff.1 h
 have h1:=List.mem_of_find?_eq_some hp
 have h2:=List.find?_some hp
 simp only[decide_eq_true_eq] at h2
 subst h2
 exact h1
theorem lookL_of [DecidableEq κ] {v:Value} (hn:(l.map (·.1)).Nodup) (h:(x,v)∈l):lookL x l=some v:=by
 unfold lookL
 induction l with
 | nil=>cases h
 | cons p r ih=>
   simp only[List.map_cons,List.nodup_cons] at hn
   rcases List.mem_cons.1 h with rfl | h'
   · simp
   · have hne:p.1≠x:=fun e1=>hn.1 (by rw[e1];exact List.mem_map.2 ⟨_,h',rfl⟩)
     rw[List.find?_cons_of_neg (by simpa using hne)]
     exact ih hn.2 h'
def MapB (kv:κ→Value) (ok:κ→Prop) (w:World) (b:Nat) (l:List (κ×Value)):Prop:=
 ∃es clock,w.heap[b]? = some (.map es clock)∧Stamped es clock∧es.toList.map (fun e=>(e.key,e.val))=prs kv l∧∀p∈l,ok p.1
theorem MapB.lt (h:MapB kv ok w b l):b<w.heap.size:=by
 obtain⟨es,clock,h1,_⟩:=h
 exact (Array.getElem?_eq_some_iff.1 h1).1
theorem MapB.oks (h:MapB kv ok w b l):∀p∈l,ok p.1:=by
 obtain⟨es,clock,_,_,_,h4⟩:=h
 exact h4
theorem MapB.same (h:MapB kv ok w b l) (hh:w'.heap[b]? = w.heap[b]?):MapB kv ok w' b l:=by
 obtain⟨es,clock,h1,h2⟩:=h
 exact⟨es,clock,hh.trans h1,h2⟩
theorem MapB.low {C:Nat} (h:MapB kv ok w b l) (hb:Below C w w') (hC:b<C):MapB kv ok w' b l:=h.same (hb.block b hC)
theorem MapB.ab (h:MapB kv ok w b l) (hb:Below w.heap.size w w'):MapB kv ok w' b l:=h.low hb h.lt
theorem MapB.grown {row:Option Nat} (h:MapB kv ok w b l) (hg:w.grownBy w' row) (hr:row≠some b):MapB kv ok w' b l:=h.same (hg.block b h.lt (fun e=>hr e.symm))
theorem MapB.alloc (h:MapB kv ok w b l) (o:Obj):MapB kv ok (w.alloc o) b l:=h.ab ((Below.refl _ _).alloc (Nat.le_refl _) _)
theorem MapB.new (kv:κ→Value) (ok:κ→Prop) (w:World):MapB kv ok (w.alloc (.map #[] 0)) w.heap.size []:=
 ⟨#[],0,heap_alloc_new w _,stamped_empty 0,rfl,fun p hp=>by cases hp⟩
theorem prs_len {es:Array MapEntry} (h:es.toList.map (fun e=>(e.key,e.val))=prs kv l):es.size=l.length:=by
 have:=congrArg List.length h
 simpa[prs] using this
theorem prs_at {es:Array MapEntry} (h:es.toList.map (fun e=>(e.key,e.val))=prs kv l) (j:Nat):(es.toList[j]?).map (fun e=>(e.key,e.val))=(l[j]?).map fun p=>(kv p.1,p.2):=by
 rw[←List.getElem?_map,h]
 simp[prs]
theorem prs_mem {es:Array MapEntry} (h:es.toList.map (fun e=>(e.key,e.val))=prs kv l) {y:MapEntry} (hy:y∈es.toList):∃p∈l,y.key=kv p.1∧y.val=p.2:=by
 have h1:(y.key,y.val)∈es.toList.map (fun e=>(e.key,e.val)):=List.mem_map.2 ⟨y,hy,rfl⟩
 rw[h] at h1
 obtain⟨p,hp,he⟩:=List.mem_map.1 h1
 simp only[Prod.mk.injEq] at he
 exact⟨p,hp,he.1.symm,he.2.symm⟩
theorem prs_mem' {es:Array MapEntry} (h:es.toList.map (fun e=>(e.key,e.val))=prs kv l) {p:κ×Value} (hp:p∈l):∃y∈es.toList,y.key=kv p.1∧y.val=p.2:=by
 have h1:(kv p.1,p.2)∈prs kv l:=List.mem_map.2 ⟨p,hp,rfl⟩
 rw[←h] at h1
 obtain⟨y,hy,he⟩:=List.mem_map.1 h1
 simp only[Prod.mk.injEq] at he
 exact⟨y,hy,he.1,he.2⟩
theorem prs_keys {es:Array MapEntry} (K:KeyK P k kv ok) (h:es.toList.map (fun e=>(e.key,e.val))=prs kv l) (hok:∀p∈l,ok p.1):∀y∈es.toList,∃kl,keyOf P k y.key=some kl:=fun y hy=>by
 obtain⟨p,hp,hk,_⟩:=prs_mem h hy
 rw[hk]
 exact K.of (hok p hp)
theorem MapB.nodup (K:KeyK P k kv ok) (h:MapB kv ok w b l):(l.map (·.1)).Nodup:=by
 obtain⟨es,clock,_,h2,h3,_⟩:=h
 have h4:=((stamped_iff es clock).1 h2).2.2
 have h5:(es.toList.map (fun e=>(e.key,e.val))).Pairwise (fun p q=>p.1≠q.1):=List.pairwise_map.2 h4
 rw[h3] at h5
 have h6:=List.pairwise_map.1 h5
 exact List.pairwise_map.2 (h6.imp fun hne e1=>hne (by rw[e1]))
theorem find_at [DecidableEq κ] (K:KeyK P k kv ok) {es:Array MapEntry} (w:World) (h:es.toList.map (fun e=>(e.key,e.val))=prs kv l) (hok:∀p∈l,ok p.1) (hx:ok x) (hn:(l.map (·.1)).Nodup):
 ((Instr.findKey k (kv x) es.toList).run P w = .ok none w∧lookL x l=none∧∀y∈es.toList,y.key≠kv x)∨∃j e0,(Instr.findKey k (kv x) es.toList).run P w = .ok (some (j,e0.val)) w∧es.toList[j]? = some e0∧e0.key=kv x∧l[j]? = some (x,e0.val)∧lookL x l=some e0.val:=by
 obtain⟨kl,hkl⟩:=K.of hx
 rcases K.keyed.find w hkl es.toList (prs_keys K h hok) with ⟨h1,h2⟩ | ⟨j,e0,h1,h2,h3⟩
 · refine .inl ⟨h1,lookL_none.2 fun p hp e1=>?_,h2⟩
   obtain⟨y,hy,hk,_⟩:=prs_mem' h hp
   exact h2 y hy (by rw[hk,e1])
 · have h4:=prs_at h j
   rw[h2] at h4
   cases hl:l[j]? with
   | none=>rw[hl] at h4;simp at h4
   | some p=>
     rw[hl] at h4
     simp only[Option.map_some,Option.some.injEq,Prod.mk.injEq] at h4
     have hpx:p.1=x:=K.inj (h4.1.symm.trans h3)
     have hp2:p=(x,e0.val):=by rw[←hpx,h4.2]
     exact .inr ⟨j,e0,h1,h2,h3,hl.trans (by rw[hp2]),lookL_of hn (by rw[←hp2];exact List.mem_of_getElem? hl)⟩
theorem MapB.look_some [DecidableEq κ] (K:KeyK P k kv ok) (ht:P.underlying t=some (.map k e)) (h:MapB kv ok w b l) (hx:ok x) {v:Value} (hv:lookL x l=some v) (c:Bool):
 (Instr.lookup t (.map (some b)) (kv x) c).run P w = .ok (if c then .tuple #[v,.bool true] else v) w:=by
 have hn:=h.nodup K
 obtain⟨es,clock,h1,h2,h3,h4⟩:=h
 obtain⟨kl,hkl⟩:=K.of hx
 rcases find_at K w h3 h4 hx hn with ⟨hr,hl,_⟩ | ⟨j,e0,hr,_,_,_,hl⟩
 · rw[hl] at hv;cases hv
 · rw[hl] at hv
   injection hv with hv
   subst hv
   simp[Instr.lookup,run_underlying ht,MapKept.run_getObj_map h1,K.keyed.check w _ hkl,hr,Result.andThen]
theorem MapB.look_none [DecidableEq κ] (K:KeyK P k kv ok) (ht:P.underlying t=some (.map k e)) (h:MapB kv ok w b l) (hx:ok x) (hv:lookL x l=none) {z:Value} (hz:(zeroValue e).run P w = .ok z w) (c:Bool):
 (Instr.lookup t (.map (some b)) (kv x) c).run P w = .ok (if c then .tuple #[z,.bool false] else z) w:=by
 have hn:=h.nodup K
 obtain⟨es,clock,h1,h2,h3,h4⟩:=h
 obtain⟨kl,hkl⟩:=K.of hx
 rcases find_at K w h3 h4 hx hn with ⟨hr,hl,_⟩ | ⟨j,e0,hr,_,_,_,hl⟩
 · simp[Instr.lookup,run_underlying ht,MapKept.run_getObj_map h1,K.keyed.check w _ hkl,hr,hz,Result.andThen]
 · rw[hl] at hv;cases hv
theorem look_nil (K:KeyK P k kv ok) (ht:P.underlying t=some (.map k e)) (hx:ok x) {z:Value} (hz:(zeroValue e).run P w = .ok z w) (c:Bool):
 (Instr.lookup t (.map none) (kv x) c).run P w = .ok (if c then .tuple #[z,.bool false] else z) w:=by
 obtain⟨kl,hkl⟩:=K.of hx
 exact Maps.look_nil c K.keyed ht hz hkl
theorem MapB.len (ht:P.underlying t=some (.map k e)) (h:MapB kv ok w b l) (ty:TypeId):(Builtin.len_ #[t] ty #[.map (some b)]).run P w = .ok (.int .i64 (l.length:Int)) w:=by
 obtain⟨es,clock,h1,h2,h3,h4⟩:=h
 have:=prs_len h3
 simp[Builtin.len_,run_underlying ht,MapKept.run_getObj_map h1,Result.andThen,goInt,this]
theorem grown_set {es:Array MapEntry} {clock:Nat} (hb:w.heap[b]? = some (.map es clock)) (o:Obj):w.grownBy (setBlock w b o) (some b):=
 ⟨rfl,rfl,rfl,by simp[setBlock],fun i _ hi=>heap_setBlock_other hb o (fun e1=>hi (by rw[e1]))⟩
theorem below_set {B:Nat} {a:World} (h:Below B a w) {es:Array MapEntry} {clock:Nat} (hb:w.heap[b]? = some (.map es clock)) (hB:B≤b) (o:Obj):Below B a (setBlock w b o):=
 h.trans ⟨rfl,rfl,rfl,by simp[setBlock],fun i hi=>heap_setBlock_other hb o (by omega)⟩
theorem MapB.put [DecidableEq κ] (K:KeyK P k kv ok) (ht:P.underlying t=some (.map k e)) (h:MapB kv ok w b l) (hx:ok x) (v:Value):
 ∃w',(Instr.mapUpdate t (.map (some b)) (kv x) v).run P w = .ok () w'∧MapB kv ok w' b (putL x v l)∧w.grownBy w' (some b)∧w'.heap.size=w.heap.size∧∀(B:Nat) (a:World),Below B a w→B≤b→Below B a w':=by
 have hn:=h.nodup K
 obtain⟨es,clock,h1,h2,h3,h4⟩:=h
 obtain⟨kl,hkl⟩:=K.of hx
 rcases find_at K w h3 h4 hx hn with ⟨hr,hl,hne⟩ | ⟨j,e0,hr,hj,hk0,hlj,hl⟩
 · refine⟨setBlock w b (.map (es.push ⟨kv x,v,clock⟩) (clock+1)),?_,⟨_,_,heap_setBlock_same h1 _,stamped_push h2 hne,?_,?_⟩,grown_set h1 _,by simp[setBlock],fun B a hb hB=>below_set hb h1 hB _⟩
   · simp[Instr.mapUpdate,run_underlying ht,MapKept.run_getObj_map h1,K.keyed.check w false hkl,hr,MapKept.run_setObj_map _ h1,Result.andThen,setBlock]
   · simp[putL,hl,prs,h3]
   · intro p hp
     simp only[putL,hl,Option.isSome_none,Bool.false_eq_true,if_false,List.mem_append,List.mem_singleton] at hp
     rcases hp with hp | rfl
     · exact h4 p hp
     · exact hx
 · have hes:es[j]? = some e0:=by simpa using hj
   refine⟨setBlock w b (.map (es.modify j (fun e'=>{ e' with key:=kv x,val:=v })) clock),?_,⟨_,_,heap_setBlock_same h1 _,stamped_modify h2 _ _ (fun _ _=>rfl) (fun e' _ he'=>by rw[hes] at he';cases he';exact hk0.symm),?_,?_⟩,grown_set h1 _,by simp[setBlock],fun B a hb hB=>below_set hb h1 hB _⟩
   · simp[Instr.mapUpdate,run_underlying ht,MapKept.run_getObj_map h1,K.keyed.check w false hkl,hr,hes,hk0,K.keyed.stays w hkl,MapKept.run_setObj_map _ h1,Result.andThen,setBlock]
   · rw[Array.toList_modify,modify_eq_set _ _ _ _ hj,List.map_set,h3]
     have e1 : putL x v l=l.set j (x,v):=by
      unfold putL
      rw[hl]
      simp only[Option.isSome_some,if_true]
      apply List.ext_getElem?
      intro i
      rw[List.getElem?_map,List.getElem?_set]
      by_cases hij:j=i
      · subst hij
        have hjl:j<l.length:=(List.getElem?_eq_some_iff.1 hlj).1
        rw[if_pos rfl,if_pos hjl,hlj]
        simp
      · rw[if_neg hij]
        cases hi:l[i]? with
        | none=>rfl
        | some p=>
          simp only[Option.map_some,Option.some.injEq]
          rw[if_neg]
          intro e2
          apply hij
          have hil:i<l.length:=(List.getElem?_eq_some_iff.1 hi).1
          have hjl:j<l.length:=(List.getElem?_eq_some_iff.1 hlj).1
          have ei:(l.map (·.1))[i]'(by simpa using hil)=(l.map (·.1))[j]'(by simpa using hjl):=by
           rw[List.getElem?_eq_getElem hil] at hi
           rw[List.getElem?_eq_getElem hjl] at hlj
           injection hi with hi
           injection hlj with hlj
           simp only[List.getElem_map,hi,hlj,e2]
          exact ((List.getElem_inj hn).1 ei).symm
     rw[e1]
     simp[prs,List.map_set]
   · intro p hp
     simp only[putL,hl,Option.isSome_some,if_true,List.mem_map] at hp
     obtain⟨q,hq,rfl⟩:=hp
     split
     · exact hx
     · exact h4 q hq
theorem MapB.del [DecidableEq κ] (K:KeyK P k kv ok) (ht:P.underlying t=some (.map k e)) (h:MapB kv ok w b l) (hx:ok x) (ty:TypeId):
 ∃w',(Builtin.delete_ #[t,k] ty #[.map (some b),kv x]).run P w = .ok (.tuple #[]) w'∧MapB kv ok w' b (dropL x l)∧w.grownBy w' (some b)∧w'.heap.size=w.heap.size∧∀(B:Nat) (a:World),Below B a w→B≤b→Below B a w':=by
 have hn:=h.nodup K
 obtain⟨es,clock,h1,h2,h3,h4⟩:=h
 obtain⟨kl,hkl⟩:=K.of hx
 have hok:∀p∈dropL x l,ok p.1:=fun p hp=>h4 p (List.mem_filter.1 hp).1
 rcases find_at K w h3 h4 hx hn with ⟨hr,hl,hne⟩ | ⟨j,e0,hr,hj,hk0,hlj,hl⟩
 · refine⟨setBlock w b (.map es clock),?_,⟨_,_,heap_setBlock_same h1 _,h2,?_,hok⟩,grown_set h1 _,by simp[setBlock],fun B a hb hB=>below_set hb h1 hB _⟩
   · simp[Builtin.delete_,run_underlying ht,MapKept.run_getObj_map h1,K.keyed.check w _ hkl,hr,MapKept.run_setObj_map _ h1,Result.andThen,setBlock]
   · rw[h3]
     have:dropL x l=l:=List.filter_eq_self.2 fun p hp=>by simpa using lookL_none.1 hl p hp
     rw[this]
 · have hjl:j<es.size:=by
    have:=(List.getElem?_eq_some_iff.1 hj).1
    simpa using this
   have hsub:(es.eraseIdxIfInBounds j).toList=es.toList.eraseIdx j:=by
    unfold Array.eraseIdxIfInBounds
    rw[dif_pos hjl]
    simp
   refine⟨setBlock w b (.map (es.eraseIdxIfInBounds j) clock),?_,⟨_,_,heap_setBlock_same h1 _,stamped_erase h2 j,?_,hok⟩,grown_set h1 _,by simp[setBlock],fun B a hb hB=>below_set hb h1 hB _⟩
   · simp[Builtin.delete_,run_underlying ht,MapKept.run_getObj_map h1,K.keyed.check w _ hkl,hr,MapKept.run_setObj_map _ h1,Result.andThen,setBlock]
   · rw[hsub,ChangeMaps.map_eraseIdx,h3]
     have e1:dropL x l=l.eraseIdx j:=by
      have hjl':j<l.length:=(List.getElem?_eq_some_iff.1 hlj).1
      refine ChangeMaps.filter_eq_eraseIdx (fun p:κ×Value=>decide (p.1=x)) l j (x,e0.val) hlj (by simp) ((List.pairwise_map.1 hn).imp fun hne ⟨h5,h6⟩=>hne ?_)
      rw[of_decide_eq_true h5,of_decide_eq_true h6]
     rw[e1]
     simp only[prs,ChangeMaps.map_eraseIdx]
def RngB (kv:κ→Value) (ok:κ→Prop) (w:World) (b r:Nat) (l d:List (κ×Value)):Prop:=
 ∃ es clock since seen c0,w.heap[b]? = some (.map es clock)∧Stamped es clock∧es.toList.map (fun e=>(e.key,e.val))=prs kv l∧(∀p∈l,ok p.1)∧
   w.heap[r]? = some (.mapIter (some b) since seen c0)∧(∀x∈es.toList,x.born<since)∧since≤c0∧since≤clock∧
   (∀(j:Nat) (y:MapEntry) (p:κ×Value),es.toList[j]? = some y→l[j]? = some p→(seen.contains y.born=true↔p∈d))∧(∀p∈d,p∈l)∧(d.map (·.1)).Nodup
theorem RngB.mapB {r:Nat} {d:List (κ×Value)} (h:RngB kv ok w b r l d):MapB kv ok w b l:=by
 obtain⟨es,clock,since,seen,c0,h1,h2,h3,h4,_⟩:=h
 exact⟨es,clock,h1,h2,h3,h4⟩
theorem RngB.ne {r:Nat} {d:List (κ×Value)} (h:RngB kv ok w b r l d):r≠b:=by
 obtain⟨es,clock,since,seen,c0,h1,h2,h3,h4,h5,_⟩:=h
 intro e1
 rw[e1,h1] at h5
 cases h5
theorem RngB.lt {r:Nat} {d:List (κ×Value)} (h:RngB kv ok w b r l d):r<w.heap.size:=by
 obtain⟨es,clock,since,seen,c0,h1,h2,h3,h4,h5,_⟩:=h
 exact (Array.getElem?_eq_some_iff.1 h5).1
theorem RngB.same {r:Nat} {d:List (κ×Value)} (h:RngB kv ok w b r l d) (hh:w'.heap[b]? = w.heap[b]?) (hr:w'.heap[r]? = w.heap[r]?):RngB kv ok w' b r l d:=by
 obtain⟨es,clock,since,seen,c0,h1,h2,h3,h4,h5,h6⟩:=h
 exact⟨es,clock,since,seen,c0,hh.trans h1,h2,h3,h4,hr.trans h5,h6⟩
theorem RngB.ab {r:Nat} {d:List (κ×Value)} (h:RngB kv ok w b r l d) (hb:Below w.heap.size w w'):RngB kv ok w' b r l d:=h.same (hb.block b h.mapB.lt) (hb.block r h.lt)
theorem RngB.grown {r:Nat} {d:List (κ×Value)} {row:Option Nat} (h:RngB kv ok w b r l d) (hg:w.grownBy w' row) (hb:row≠some b) (hr:row≠some r):RngB kv ok w' b r l d:=
 h.same (hg.block b h.mapB.lt (fun e=>hb e.symm)) (hg.block r h.lt (fun e=>hr e.symm))
theorem pairs_nodup {d:List (κ×Value)} (h:(d.map (·.1)).Nodup):d.Nodup:=(List.pairwise_map.1 h).imp fun hne e1=>hne (by rw[e1])
theorem length_le_of_sub {α:Type}:∀{d l:List α},d.Nodup→(∀p∈d,p∈l)→d.length≤l.length
 | [],_,_,_=>Nat.zero_le _
 | p :: r,l,hn,hs=>by
   obtain⟨a,b,rfl⟩:=List.append_of_mem (hs p (by simp))
   obtain⟨h1,h2⟩:=List.pairwise_cons.1 hn
   have:=length_le_of_sub (d:=r) (l:=a++b) h2 fun q hq=>by
    have h3:=hs q (by simp[hq])
    have h4:=h1 q hq
    simp only[List.mem_append,List.mem_cons] at h3⊢
    rcases h3 with h3 | h3 | h3
    · exact .inl h3
    · exact absurd h3.symm h4
    · exact .inr h3
   simp only[List.length_append,List.length_cons] at this⊢
   omega
theorem RngB.len_le {r:Nat} {d:List (κ×Value)} (h:RngB kv ok w b r l d):d.length≤l.length:=by
 obtain⟨es,clock,since,seen,c0,h1,h2,h3,h4,h5,h6,h7,h8,h9,h10,h11⟩:=h
 exact length_le_of_sub (pairs_nodup h11) h10
theorem MapB.range (ht:P.underlying t=some (.map k e)) (h:MapB kv ok w b l):
 ∃w',(Instr.range t (.map (some b))).run P w = .ok (.pointer (some ⟨w.heap.size,0,none⟩)) w'∧RngB kv ok w' b w.heap.size l []∧Below w.heap.size w w'∧w'.heap.size=w.heap.size+1:=by
 have hlt:=h.lt
 obtain⟨es,clock,h1,h2,h3,h4⟩:=h
 refine⟨_,run_range_map w t k e b es clock ht h1,⟨es,clock,clock,#[],clock,(heap_alloc_old w _ hlt).trans h1,h2,h3,h4,heap_alloc_new w _,h2.1,Nat.le_refl _,Nat.le_refl _,fun j y p hy hp=>by simp,fun p hp=>(by cases hp),by simp⟩,(Below.refl _ _).alloc (Nat.le_refl _) _,by simp⟩
theorem RngB.next (K:KeyK P k kv ok) {r:Nat} {d:List (κ×Value)} (h:RngB kv ok w b r l d) (ty:TypeId):
 ((∀p∈l,p∈d)∧(Instr.next (.pointer (some ⟨r,0,none⟩)) false ty).run P w = .ok (.tuple #[.bool false]) w)∨
 ∃ p w',p∈l∧p∉d∧(Instr.next (.pointer (some ⟨r,0,none⟩)) false ty).run P w = .ok (.tuple #[.bool true,kv p.1,p.2]) w'∧RngB kv ok w' b r l (d++[p])∧w.grownBy w' (some r)∧w'.heap.size=w.heap.size∧
   (Instr.entry (.pointer (some ⟨r,0,none⟩))).run P w' = .ok (.tuple #[kv p.1,p.2]) w'∧∀(B:Nat) (a:World),Below B a w→B≤r→Below B a w':=by
 have hne:=h.ne
 have hn:=h.mapB.nodup K
 obtain⟨es,clock,since,seen,c0,h1,h2,h3,h4,h5,h6,h7,h8,h9,h10,h11⟩:=h
 have hpair:∀(j:Nat) (y:MapEntry),es.toList[j]? = some y→∃p,l[j]? = some p∧y.key=kv p.1∧y.val=p.2:=fun j y hy=>by
  have:=prs_at h3 j
  rw[hy] at this
  cases hl:l[j]? with
  | none=>rw[hl] at this;simp at this
  | some p=>
    rw[hl] at this
    simp only[Option.map_some,Option.some.injEq,Prod.mk.injEq] at this
    exact⟨p,rfl,this.1,this.2⟩
 have hpair':∀(j:Nat) (p:κ×Value),l[j]? = some p→∃y,es.toList[j]? = some y:=fun j p hp=>by
  have:=prs_at h3 j
  rw[hp] at this
  cases hl:es.toList[j]? with
  | none=>rw[hl] at this;simp at this
  | some y=>exact⟨y,rfl⟩
 rcases run_next_at (P:=P) w ty r b since c0 seen es clock h5 h1 h6 h7 with ⟨h0,hrun⟩ | ⟨y,hy,w1,hal,hrun⟩
 · refine .inl ⟨fun p hp=>?_,hrun⟩
   obtain⟨j,hj,hjp⟩:=List.getElem_of_mem hp
   have hlj:l[j]? = some p:=by rw[List.getElem?_eq_getElem hj,hjp]
   obtain⟨y,hy⟩:=hpair' j p hlj
   refine (h9 j y p hy hlj).1 (all_seen es seen h0 y (List.mem_of_getElem? hy))
 · obtain⟨hym,hys⟩:=mem_left hy
   obtain⟨j,hj,hjy⟩:=List.getElem_of_mem hym
   have hey:es.toList[j]? = some y:=by rw[List.getElem?_eq_getElem hj,hjy]
   obtain⟨p,hlj,hpk,hpv⟩:=hpair j y hey
   have hpd:p∉d:=fun hd=>by
    have:=(h9 j y p hey hlj).2 hd
    rw[hys] at this
    cases this
   have hpm:p∈l:=List.mem_of_getElem? hlj
   have hr1:w1.heap[r]? = some (.mapIter (some b) since seen c0):=by rcases hal with rfl | rfl <;> exact h5
   have hb1:w1.heap[b]? = some (.map es clock):=by rcases hal with rfl | rfl <;> exact h1
   have hset:=heap_set (o':=.mapIter (some b) since (seen.push y.born) clock) hr1
   have hb':(setBlock w1 r (.mapIter (some b) since (seen.push y.born) clock)).heap[b]? = some (.map es clock):=(hset.2 b (fun e1=>hne e1.symm)).trans hb1
   have hkeys:∀(i:Nat) (z:MapEntry),es.toList[i]? = some z→(z.born=y.born↔i=j):=fun i z hz=>by
    have hnb:=((stamped_iff es clock).1 h2).2.1
    have hil:i<es.toList.length:=(List.getElem?_eq_some_iff.1 hz).1
    refine⟨fun e1=>?_,fun e1=>by subst e1;rw[hey] at hz;injection hz with hz;rw[hz]⟩
    have ei:(es.toList.map (·.born))[i]'(by simpa using hil)=(es.toList.map (·.born))[j]'(by simpa using hj):=by
     rw[List.getElem?_eq_getElem hil] at hz
     injection hz with hz
     simp only[List.getElem_map,hz,hjy,e1]
    exact (List.getElem_inj hnb).1 ei
   refine .inr ⟨p,_,hpm,hpd,by rw[←hpk,←hpv];exact hrun,⟨es,clock,since,seen.push y.born,clock,hb',h2,h3,h4,hset.1,h6,h8,h8,fun i z q hz hq=>?_,fun q hq=>?_,?_⟩,?_,?_,?_,?_⟩
   · have hiff:=hkeys i z hz
     have hij:q=p↔i=j:=by
      refine⟨fun e1=>?_,fun e1=>by subst e1;rw[hlj] at hq;injection hq with hq;exact hq.symm⟩
      have hil:i<l.length:=(List.getElem?_eq_some_iff.1 hq).1
      have hjl:j<l.length:=(List.getElem?_eq_some_iff.1 hlj).1
      have ei:(l.map (·.1))[i]'(by simpa using hil)=(l.map (·.1))[j]'(by simpa using hjl):=by
       rw[List.getElem?_eq_getElem hil] at hq
       rw[List.getElem?_eq_getElem hjl] at hlj
       injection hq with hq
       injection hlj with hlj
       simp only[List.getElem_map,hq,hlj,e1]
      exact (List.getElem_inj hn).1 ei
     have h90:=h9 i z q hz hq
     rw[contains_push]
     simp only[Bool.or_eq_true,beq_iff_eq,List.mem_append,List.mem_singleton,hiff,hij,h90]
   · rcases List.mem_append.1 hq with hq | hq
     · exact h10 q hq
     · rw[List.mem_singleton] at hq
       rw[hq]
       exact hpm
   · rw[List.map_append]
     refine List.nodup_append.2 ⟨h11,by simp,fun a ha c hc=>?_⟩
     simp only[List.map_cons,List.map_nil,List.mem_singleton] at hc
     subst hc
     intro e1
     obtain⟨q,hq,hqk⟩:=List.mem_map.1 ha
     have hqm:=h10 q hq
     have:q=p:=by
      obtain⟨i,hi,hiq⟩:=List.getElem_of_mem hqm
      have hjl:j<l.length:=(List.getElem?_eq_some_iff.1 hlj).1
      have ei:(l.map (·.1))[i]'(by simpa using hi)=(l.map (·.1))[j]'(by simpa using hjl):=by
       rw[List.getElem?_eq_getElem hjl] at hlj
       injection hlj with hlj
       simp only[List.getElem_map,hiq,hlj,hqk,e1]
      have hij:=(List.getElem_inj hn).1 ei
      subst hij
      rw[List.getElem?_eq_getElem hjl] at hlj
      injection hlj with hlj
      rw[←hiq,hlj]
     rw[this] at hq
     exact hpd hq
   · rcases hal with rfl | rfl <;> exact⟨rfl,rfl,rfl,by simp[setBlock],fun i _ hi=>hset.2 i (fun e1=>hi (by rw[e1]))⟩
   · rcases hal with rfl | rfl <;> simp[setBlock]
   · rw[←hpk,←hpv]
     exact run_entry_at _ r b since seen es clock y hset.1 hb' hym ((stamped_iff es clock).1 h2).2.1
   · intro B a hB hBr
     refine hB.trans ?_
     rcases hal with rfl | rfl <;> exact⟨rfl,rfl,rfl,by simp[setBlock],fun i hi=>hset.2 i (by omega)⟩
end
section
variable {P:Program} {k e t:TypeId} {κ:Type} {kv:κ→Value} {ok:κ→Prop} {w:World} {b:Nat} {l:List (κ×Value)} {ops:Array Oper} {rest:List Oper} {o:Oper} {a:Act} {Q:Exit→Act→World→Prop}
theorem wpList_mapPut [DecidableEq κ] (hg:o.guard=none) (m x v:Operand) (hop:o.op = .mapUpdate t m x v) (K:KeyK P k kv ok) (ht:P.underlying t=some (.map k e)) (hm:a.eval m = .map (some b)) (h:MapB kv ok w b l)
 (y:κ) (hy:ok y) (hx:a.eval x=kv y) (val:Value) (hv:a.eval v=val)
 (hK:∀w',MapB kv ok w' b (putL y val l)→w.grownBy w' (some b)→w'.heap.size=w.heap.size→(∀(B:Nat) (a:World),Below B a w→B≤b→Below B a w')→wpList P ops Q rest (a.put o.dst undef) w'):wpList P ops Q (o::rest) a w:=by
 refine wpList_plain hg fun K' hK'=>?_
 obtain⟨w',hrun,r1,r2,r3,r4⟩:=h.put K ht hy val
 unfold Oper.wp
 simp[execOp,hop,hm,hx,hv,hrun,Result.andThen]
 exact hK' _ _ (hK w' r1 r2 r3 r4)
theorem wpList_mapDel [DecidableEq κ] (hg:o.guard=none) (m x:Operand) (hop:o.op = .call { callee:=.builtin .delete,args:=#[m,x],argTypes:=#[t,k] }) (K:KeyK P k kv ok) (ht:P.underlying t=some (.map k e)) (hm:a.eval m = .map (some b)) (h:MapB kv ok w b l)
 (y:κ) (hy:ok y) (hx:a.eval x=kv y)
 (hK:∀w',MapB kv ok w' b (dropL y l)→w.grownBy w' (some b)→w'.heap.size=w.heap.size→(∀(B:Nat) (a:World),Below B a w→B≤b→Below B a w')→wpList P ops Q rest (a.put o.dst (.tuple #[])) w'):wpList P ops Q (o::rest) a w:=by
 refine wpList_plain hg fun K' hK'=>?_
 obtain⟨w',hrun,r1,r2,r3,r4⟩:=h.del K ht hy o.type
 unfold Oper.wp
 simp[execOp,hop,resolve,invoke,builtin,hm,hx,hrun,Result.andThen]
 exact hK' _ _ (hK w' r1 r2 r3 r4)
theorem wpList_mapRange (hg:o.guard=none) (m:Operand) (hop:o.op = .range t m) (ht:P.underlying t=some (.map k e)) (hm:a.eval m = .map (some b)) (h:MapB kv ok w b l)
 (hK:∀w',RngB kv ok w' b w.heap.size l []→Below w.heap.size w w'→w'.heap.size=w.heap.size+1→wpList P ops Q rest (a.put o.dst (.pointer (some ⟨w.heap.size,0,none⟩))) w'):wpList P ops Q (o::rest) a w:=by
 refine wpList_plain hg fun K' hK'=>?_
 obtain⟨w',hrun,r1,r2,r3⟩:=h.range ht
 unfold Oper.wp
 simp[execOp,hop,hm,hrun,Result.andThen]
 exact hK' _ _ (hK w' r1 r2 r3)
end
def bts (l:List Nat):Array Value:=(l.map (fun n:Nat=>Value.int .u8 (n:Int))).toArray
theorem bts_size (l:List Nat):(bts l).size=l.length:=by simp[bts]
theorem bts_list (l:List Nat):(bts l).toList=l.map (fun n:Nat=>Value.int .u8 (n:Int)):=by simp[bts]
def Bk (w:World) (b:Nat) (t:TypeId) (l:List Nat):Prop:=w.heap[b]? = some (.cells (bts l) t (0,0))
section
variable {w w':World} {b:Nat} {t:TypeId} {l:List Nat}
theorem Bk.new (w:World) (t:TypeId) (l:List Nat):Bk (w.alloc (.cells (bts l) t)) w.heap.size t l:=heap_alloc_new w _
end
theorem Below.row {B:Nat} {a w:World} (h:Below B a w) {g:Nat} (hg:B≤g) (cs:Array Value):Below B a (w.setRow g cs):=
 h.trans ⟨rfl,rfl,rfl,by simp,fun k hk=>setRow_other w g k cs (by omega)⟩
theorem Bk.newAt {w:World} {n:Nat} (t:TypeId) (l:List Nat) (h:n=w.heap.size):Bk (w.alloc (.cells (bts l) t)) n t l:=by subst h;exact Bk.new w t l
def Byt (l:List Nat):Prop:=∀x∈l,x<256
def at' (l:List Nat) (i:Nat):Nat:=l[i]?.getD 0
def IsB (w:World) (A:Option Addr) (n c:Nat) (l:List Nat):Prop:=IsRow .u8 w A n c (l.map fun x:Nat=>(x:Int))∧Byt l
theorem IsB.len {w:World} {A:Option Addr} {n c:Nat} {l:List Nat} (h:IsB w A n c l):l.length=n:=by simpa using h.1.len
theorem IsB.cell {w:World} {A:Option Addr} {n c:Nat} {l:List Nat} (h:IsB w A n c l) (hn:0<n):∃x,A=some x∧x.block<w.heap.size∧∀i,i<n→w.cell? (x.add i)=some (.int .u8 (at' l i:Nat)):=by
 obtain⟨x,e,hb,hx⟩:=h.1.at hn
 refine⟨x,e,hb,fun i hi=>?_⟩
 have hl:=h.len
 rw[hx i hi]
 simp[List.getD,at',List.getElem?_eq_getElem (show i<l.length by omega)]
theorem IsB.below {w w':World} {A:Option Addr} {n c:Nat} {l:List Nat} (h:IsB w A n c l) (hb:Below w.heap.size w w'):IsB w' A n c l:=⟨h.1.below hb,h.2⟩
theorem byt_of_row {w:World} {A:Option Addr} {n c:Nat} {zs:List Int} (h:IsRow .u8 w A n c zs):∃l:List Nat,zs=l.map (fun x:Nat=>(x:Int))∧Byt l:=by
 have hw:∀z∈zs,0≤z∧z<256:=by
  intro z hz
  have:=h.wf z hz
  simp only[Lit.wf,Bool.and_eq_true,decide_eq_true_eq] at this
  have e1:IntKind.u8.min=0:=rfl
  have e2:IntKind.u8.max=255:=rfl
  omega
 refine⟨zs.map Int.toNat,?_,?_⟩
 · rw[List.map_map]
   refine (List.map_id' _).symm.trans (List.map_congr_left fun z hz=>?_)
   simp only[Function.comp]
   have:=hw z hz
   omega
 · intro x hx
   obtain⟨z,hz,rfl⟩:=List.mem_map.1 hx
   have:=hw z hz
   omega
def strOf (l:List Nat):ByteArray:=⟨(l.map UInt8.ofNat).toArray⟩
theorem strOf_inj {a b:List Nat} (ha:Byt a) (hb:Byt b):strOf a=strOf b↔a=b:=by
 refine⟨fun h=>?_,fun h=>by rw[h]⟩
 have h1:a.map UInt8.ofNat=b.map UInt8.ofNat:=by
  have:=congrArg (fun s:ByteArray=>s.data.toList) h
  simpa[strOf] using this
 clear h
 induction a generalizing b with
 | nil=>cases b with
   | nil=>rfl
   | cons y ys=>simp at h1
 | cons x xs ih=>
   cases b with
   | nil=>simp at h1
   | cons y ys=>
     simp only[List.map_cons,List.cons.injEq] at h1
     have hx:=ha x (by simp)
     have hy:=hb y (by simp)
     have e:x=y:=by
      have:=congrArg UInt8.toNat h1.1
      simp at this
      omega
     rw[e,ih (fun z hz=>ha z (by simp[hz])) (fun z hz=>hb z (by simp[hz])) h1.2]
section
variable {P:Program}
theorem run_str {w:World} {A:Option Addr} {n c:Nat} {l:List Nat} (h:IsB w A n c l) (src e dst:TypeId) (hs:P.underlying src=some (.slice e)) (he:P.underlying e=some (.int .u8)) (hd:P.underlying dst=some .string):
 (convert src dst (.slice A n c)).run P w = .ok (.string (strOf l)) w:=by
 rw[run_convert_bytes_string w src dst e _ n c hs he hd]
 have hl:=h.len
 by_cases h0:A=none
 · subst h0
   have:n=0:=by
    by_cases hn:0<n
    · obtain⟨x,e,_⟩:=h.cell hn
      cases e
    · omega
   subst this
   obtain rfl:l=[]:=List.eq_nil_of_length_eq_zero hl
   simp[Conv.bytesToString,strOf,ByteArray.empty,ByteArray.emptyWithCapacity]
   rfl
 · obtain⟨x,rfl⟩:∃x,A=some x:=by cases A with
    | none=>exact absurd rfl h0
    | some x=>exact⟨x,rfl⟩
   have hlc:(loadCells x n).run P w = .ok ((l.map fun m:Nat=>(m:Int)).map (Value.int .u8)).toArray w:=by
    have:=run_loadCells_list (P:=P) w x ((l.map fun m:Nat=>(m:Int)).map (Value.int .u8)) (fun j v hj=>by
     have hjl:j<n:=by
      rcases Nat.lt_or_ge j n with h' | h'
      · exact h'
      · rw[List.getElem?_eq_none (by simp;omega)] at hj;cases hj
     obtain⟨y,e,_,hy⟩:=h.cell (by omega)
     injection e with e
     rw[e,hy j hjl]
     simp only[List.getElem?_map,List.getElem?_eq_getElem (show j<l.length by omega),Option.map_some] at hj
     simpa[at',List.getElem?_eq_getElem (show j<l.length by omega)] using hj)
    simpa[hl] using this
   rw[run_bytesToString w x n c _ hlc,foldl_push_bytes]
   simp[strOf,ByteArray.empty,ByteArray.emptyWithCapacity,Function.comp_def]
   rfl
end
theorem infoU8:(Tryz.prog.info? 5).map (fun i=>(i.zero,i.size,i.bytes))=some (some (.int .u8 0),1,1):=by kernel_rfl
def bvals (l:List Nat):List Value:=l.map (fun n:Nat=>Value.int .u8 (n:Int))
theorem bvals_ints (l:List Nat):bvals l=(l.map (fun n:Nat=>(n:Int))).map (Value.int .u8):=by simp[bvals]
theorem byt_wf {l:List Nat} (h:Byt l):∀z∈l.map (fun n:Nat=>(n:Int)),(Lit.int .u8 z).wf=true:=by
 intro z hz
 obtain⟨x,hx,rfl⟩:=List.mem_map.1 hz
 have:=h x hx
 simp only[Lit.wf,Bool.and_eq_true,decide_eq_true_eq]
 have e1:IntKind.u8.min=0:=rfl
 have e2:IntKind.u8.max=255:=rfl
 omega
structure OwB (w:World) (B:Nat) (v:Value) (l:List Nat):Prop where
 own:w.ownsRow B 5 1 v l.length (bvals l)
 byt:Byt l
section
variable {w w':World} {B:Nat} {v:Value} {l:List Nat}
theorem OwB.nil (w:World) (B:Nat):OwB w B (.slice none 0 0) []:=⟨⟨rfl,.inl ⟨rfl,rfl⟩⟩,fun x hx=>by cases hx⟩
theorem OwB.lt (h:OwB w B v l):∀g,v.ownBlock=some g→B≤g∧g<w.heap.size:=h.own.lt
theorem OwB.below {C:Nat} (h:OwB w B v l) (hb:Below C w w') (hC:∀g,v.ownBlock=some g→g<C):OwB w' B v l:=by
 refine⟨⟨h.own.1,?_⟩,h.byt⟩
 rcases h.own.2 with hn | ⟨g,cap,cur,rfl,hb',hgg,rest⟩
 · exact .inl hn
 · exact .inr ⟨g,cap,cur,rfl,hb',(hb.block g (hC g rfl)).trans hgg,rest⟩
theorem OwB.ab (h:OwB w B v l) (hb:Below w.heap.size w w'):OwB w' B v l:=h.below hb fun g hg=>(h.lt g hg).2
theorem OwB.form (h:OwB w B v l) (hl:0<l.length):∃g cap,v = .slice (some ⟨g,0,none⟩) l.length cap∧B≤g∧g<w.heap.size∧l.length≤cap∧cap≤9223372036854775807∧∀i,i<l.length→w.cell? ⟨g,i,none⟩=some (.int .u8 (at' l i:Nat)):=by
 have ho:=h.own
 rcases h.own.2 with ⟨_,h0⟩ | ⟨g,cap,cur,rfl,hb',hgg,hnc,hcm,hcs,ht⟩
 · omega
 · refine⟨g,cap,rfl,hb',lt_of_block hgg,hnc,hcm,fun i hi=>?_⟩
   rw[ho.cellAt i (by omega)]
   simp[bvals,at',List.getElem?_eq_getElem hi]
theorem OwB.shape (h:OwB w B v l):∃A cap,v = .slice A l.length cap∧l.length≤cap∧cap≤9223372036854775807:=by
 rcases h.own.2 with ⟨rfl,h0⟩ | ⟨g,cap,cur,rfl,hb',hgg,hnc,hcm,hcs,ht⟩
 · exact⟨none,0,by rw[h0],by omega,by omega⟩
 · exact⟨_,cap,rfl,hnc,hcm⟩
theorem OwB.isB {A:Option Addr} {n c:Nat} (h:OwB w B (.slice A n c) l) (hn:l.length=n):IsB w A n c l:=by
 have ho:=h.own
 rw[hn,bvals_ints] at ho
 exact⟨isRow_own ho (byt_wf h.byt),h.byt⟩
theorem OwB.free {g n c:Nat} (h:OwB w B (.slice (some ⟨g,0,none⟩) n c) l) (hn:l.length=n) (k:Nat):w.frozen? ⟨g,k,none⟩=false:=by
 have ho:=h.own
 rw[hn] at ho
 exact ho.frozenAt k
theorem OwB.ofBk {g n c:Nat} {l':List Nat} (h:Bk w g 5 l') (hB:B≤g) (hn:l.length=n) (hnc:n≤c) (hc:l'.length=c) (hcm:c≤9223372036854775807) (hl:l'.take n=l) (hb:Byt l):OwB w B (.slice (some ⟨g,0,none⟩) n c) l:=by
 refine⟨⟨by simp[bvals],.inr ⟨g,c,bts l',by rw[hn],hB,h,by omega,hcm,by rw[bts_size];omega,?_⟩⟩,hb⟩
 rw[bts_list,Nat.mul_one,hn,←List.map_take,hl]
 rfl
theorem IsB.ab {A:Option Addr} {n c:Nat} (h:IsB w A n c l) (hb:Below w.heap.size w w'):IsB w' A n c l:=h.below hb
theorem IsB.drewN {A:Option Addr} {n c:Nat} (h:IsB w A n c l) (m:Nat):IsB (w.drewN m) A n c l:=⟨h.1.drewN m,h.2⟩
theorem IsB.alloc {A:Option Addr} {n c:Nat} (h:IsB w A n c l) (o:Obj):IsB (w.alloc o) A n c l:=⟨h.1.alloc o,h.2⟩
end
theorem byt_app {a b:List Nat} (ha:Byt a) (hb:Byt b):Byt (a++b):=fun x hx=>by
 rcases List.mem_append.1 hx with h | h
 · exact ha x h
 · exact hb x h
section
variable {P:Program} (w:World)
theorem run_appB {B:Nat} {t ty:TypeId} {i:TypeInfo} {z:Value} (ht:P.underlying t=some (.slice 5)) (hi:P.info? 5=some i) (hz:i.zero=some z)
 (hsize:i.size=1) (hby:i.bytes=1) (hzs:z.cells.size=1)
 {v:Value} {l:List Nat} (hown:OwB w B v l) {A:Option Addr} {m c:Nat} {ys:List Nat} (hr:IsB w A m c ys) (hm:l.length+m≤140737488355328) (hbase:B≤w.heap.size):
 ∃v' w',(Builtin.append_ #[t,t] ty #[v,.slice A m c]).run P w = .ok v' w'∧OwB w' B v' (l++ys)∧Below B w w'∧w.grownBy w' v.ownBlock∧(v'.ownBlock=v.ownBlock∨v'.ownBlock=some w.heap.size):=by
 have ho:=hown.own
 rw[bvals_ints] at ho
 have ho2:w.ownsRow B 5 1 v (l.map (fun n:Nat=>(n:Int))).length ((l.map (fun n:Nat=>(n:Int))).map (Value.int .u8)):=by rw[List.length_map];exact ho
 obtain⟨v',w',h1,h2,h3,h4⟩:=run_app (P:=P) w (ty:=ty) (bytes:=1) ht hi hz hsize hby hzs ho2 hr.1 (by rw[List.length_map];simp only[maxLen];omega) (by rw[List.length_map];omega) hbase
 refine⟨v',w',h1,⟨?_,byt_app hown.byt hr.2⟩,below_app ho hbase h3,h3,h4⟩
 rw[bvals_ints,List.map_append,List.length_append]
 have:(List.map (fun n:Nat=>(n:Int)) l++List.map (fun x:Nat=>(x:Int)) ys).length=l.length+ys.length:=by simp
 rw[this] at h2
 exact h2
theorem wpList_appB {ops:Array Oper} {rest:List Oper} {o:Oper} {a:Act} {Q:Exit→Act→World→Prop} (hgd:o.guard=none) (s x:Operand) {t:TypeId}
 (ho:o.op = .call { callee:=.builtin .append,args:=#[s,x],argTypes:=#[t,t] })
 {B:Nat} {i:TypeInfo} {z:Value} (ht:P.underlying t=some (.slice 5)) (hi:P.info? 5=some i) (hz:i.zero=some z)
 (hsize:i.size=1) (hby:i.bytes=1) (hzs:z.cells.size=1)
 {v:Value} {l:List Nat} (hown:OwB w B v l) (hs:a.eval s=v)
 {A:Option Addr} {m c:Nat} {ys:List Nat} (hr:IsB w A m c ys) (hx:a.eval x = .slice A m c)
 (hm:l.length+m≤140737488355328) (hbase:B≤w.heap.size)
 (h:∀v' w',OwB w' B v' (l++ys)→Below B w w'→w.grownBy w' v.ownBlock→(v'.ownBlock=v.ownBlock∨v'.ownBlock=some w.heap.size)→wpList P ops Q rest (a.put o.dst v') w'):wpList P ops Q (o::rest) a w:=by
 obtain⟨v',w',hrun,h2,h3,h4,h5⟩:=run_appB (P:=P) w (ty:=o.type) ht hi hz hsize hby hzs hown hr hm hbase
 refine wpList_plain hgd fun K hK=>?_
 unfold Oper.wp execOp
 simp only[ho,resolve,invoke,builtin,Sem.run_bind,Sem.run_pure,Result.andThen_ok,List.map_toArray,List.map_cons,List.map_nil,hs,hx,hrun]
 exact hK _ _ (h v' w' h2 h3 h4 h5)
end
theorem wrap_u64' {n:Nat} (hn:n<2 ^ 64) (z:Int) (h0:0≤z) (h:z≤n):IntKind.u64.wrap z=z:=by
 show z%18446744073709551616=z
 omega
theorem or_u64 (a b:Nat) (ha:a<2 ^ 64) (hb:b<2 ^ 64):bits .or .u64 (a:Int) (b:Int)=((a ||| b:Nat):Int):=by
 have h:a ||| b<2 ^ 64:=Nat.or_lt_two_pow ha hb
 show IntKind.u64.wrap ((BitVec.ofInt 64 (a:Int) ||| BitVec.ofInt 64 (b:Int)).toNat:Int)=_
 rw[BitVec.toNat_or,BitVec.ofInt_natCast,BitVec.ofInt_natCast,BitVec.toNat_ofNat,BitVec.toNat_ofNat,Nat.mod_eq_of_lt ha,Nat.mod_eq_of_lt hb]
 exact wrap_u64' h _ (Int.natCast_nonneg _) (Int.le_refl _)
def N2 (h l:Nat):Nat:=2 ^ 64*h+l
theorem below_tr {B:Nat} {w0 w w':World} (h:Below B w0 w) (hb:Below w.heap.size w w') (hB:B≤w.heap.size):Below B w0 w':=h.trans (hb.mono hB)
end Go.Proofs.YtgdhinjhbjolgaaGreat
