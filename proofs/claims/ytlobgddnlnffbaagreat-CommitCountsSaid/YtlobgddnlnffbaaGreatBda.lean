/-
  Parts of the proof, joined.
-/
import Derived.Test.YtlobgddnlnffbaaGreatRows
import Derived.WalkKit
import Derived.ProofKit
import Derived.OpenShut
import Derived.SizedLaws
import Derived.Maps.AppendAt
import Derived.Laws.OwnMore
import Derived.OwnWalk
import Derived.Lib.Hide
import Derived.Deep.Draws
import Derived.Maps.RangeWalk
import Derived.DeepKeys4
import Derived.WalkSpells
import Derived.WalkLawsBesides
import Derived.Deep.QuietTactic
import Derived.BigQuiet
import Derived.Deep.MidRow
import Derived.Deep.WholeRow
import Derived.Deep.RegionWith
import Derived.OneCell
import Derived.StillTailTactics
namespace Go.Proofs.YtlobgddnlnffbaaGreat
set_option maxHeartbeats 400000
open Go.ChangeShapes Go.WideShapes Go.ChangeAt Go.RowKit
theorem Tryz.own:ownKnob Tryz.prog.godebug=none:=by kernel_rfl
theorem Tryz.laidOut:laidOutB Tryz.prog=true:=by kernel_rfl
section
variable {H:Type} {enc:TypeId×Value→H} {P:Program}
theorem trodAll_stays (hl:laidOutB P=true) {W W':World} (hb:Below W.heap.size W W'):∀{ts:List TypeId} {vs:List Value} {ds:List (DataW H)} {ps:List MemPlace},
 ts.all (fun t=>P.readableRec t&&decide (t<P.types.size))=true→DataW.TrodAll enc P W 0 (fun _=>true) true ts vs ds ps→(∀x∈ps,x.block<W.heap.size)→
 DataW.TrodAll enc P W' 0 (fun b=>decide (b<W.heap.size)) true ts vs ds ps
 | [],vs,ds,ps,_,h,_=>by
   obtain⟨rfl,rfl,rfl⟩:=trodAll_nil h
   exact h
 | t::ts,vs,ds,ps,ht,h,hlt=>by
   obtain⟨v,vs1,d,ds1,a,b,rfl,rfl,rfl,h1,h2⟩:=trodAll_cons h
   simp only[List.all_cons,Bool.and_eq_true,decide_eq_true_eq] at ht
   exact⟨a,b,Below.trod hl ht.1.1 ht.1.2 h1 hb (fun x hx=>hlt x (by simp[hx])),trodAll_stays hl hb (by simpa using ht.2) h2 (fun x hx=>hlt x (by simp[hx])),rfl⟩
theorem post_law {f:Func} {s:ChangeSpec} {W W':World} {args:Array Value} {tb:TypeId} {ds:List (DataW H)} {before:List MemPlace}
 (hl:laidOutB P=true) (hts:f.params.toList.all (fun t=>P.readableRec t&&decide (t<P.types.size))=true) (hv:s.vars=[])
 (hr:f.resultTypes = #[tb]) (hu:P.underlying tb=some .bool)
 (hs:s.fn H (ds++[])={ results:=[.lit (.bool true)],args:=ds })
 (hW:DataW.Whole enc P f.params.toList s.vars false W args.toList ds [] before) (hb:Below W.heap.size W W'):
 s.post enc P f false true false false W args (.bool true) W':=by
 have hlt:∀p∈before,p.block<W.heap.size:=fun p hp=>hW.lt p hp
 have hW0:=hW
 obtain⟨p,q,hA,hV,hpq,_,_⟩:=hW0
 rw[hv] at hV
 have hq:q=[]:=hV
 subst hq
 have hp:before=p:=by simpa using hpq
 subst hp
 refine⟨ds,[],before,[],before,[],hW,?_,?_,?_,hb.frame _,fun h=>by cases h⟩
 · rw[hs,hr]
   exact trodAll_cons_mk (shut_bool hu _) trodAll_mk0
 · rw[hs]
   exact trodAll_stays hl hb hts hA hlt
 · rw[hv]
   show DataW.TrodVars enc P W' _ [] (s.fn H (ds++[])).vars []
   rw[hs]
   rfl
end
def IsRow (k:IntKind) (w:World) (a:Option Addr) (len cap:Nat) (zs:List Int):Prop:=
 zs.length=len∧len≤cap∧cap≤maxLen∧(∀z∈zs,(Lit.int k z).wf=true)∧
 ((a=none∧cap=0)∨∃x,a=some x∧(0<cap→x.block<w.heap.size)∧∀i,i<len→w.cell? (x.add i)=some (.int k (zs.getD i 0)))
theorem isRow_sized {H:Type} {enc:TypeId×Value→H} {P:Program} {W:World} {t e:TypeId} {k:IntKind} {bytes:Nat} {a:Option Addr} {len cap:Nat} {d:DataW H} {p:List MemPlace} (ht:P.underlying t=some (.slice e)) (he:P.underlying e=some (.int k)) (hc:P.cellsOf e=1) (hby:P.bytesOf e=bytes)
 (h:DataW.Trod enc P W 0 (fun _=>true) true t (.slice a len cap) d p) (hlt:∀x∈p,x.block<W.heap.size)
 (hsz:∀elems spare,d = .slice elems spare→(elems.length+spare.length)*P.bytesOf e≤reachBytes):∃zs,IsRow k W a len cap zs∧cap*bytes≤140737488351232:=by
 subst hby
 obtain⟨fuel,hf⟩:=h
 rcases open_ints ht he hc hf with ⟨hcs,_⟩ | ⟨x,l,c,zs,hcs,_,hl,hm,hz,hx,hcell,hwz⟩
 · simp[Value.cells] at hcs
   obtain⟨rfl,rfl,rfl⟩:=hcs
   exact⟨[],⟨rfl,Nat.le_refl _,Nat.zero_le _,by simp,.inl ⟨rfl,rfl⟩⟩,by omega⟩
 · simp[Value.cells] at hcs
   obtain⟨rfl,rfl,rfl⟩:=hcs
   have hz':zs.length=cap:=by simpa using hz
   have hp:p=MemPlace.row x zs.length:=by simpa using congrArg (·.2) hx
   have hd:d = .slice (lits k (zs.take len)) (lits k (zs.drop len)):=by simpa using congrArg (·.1) hx
   have hs:=hsz _ _ hd
   have hs2:((lits (H:=H) k (zs.take len)).length+(lits (H:=H) k (zs.drop len)).length)=cap:=by simp[lits];omega
   rw[hs2] at hs
   refine⟨zs.take len,⟨by simp[hz'];omega,hl,hm,fun z hzm=>hwz z (List.mem_of_mem_take hzm),.inr ⟨x,rfl,fun h0=>?_,fun i hi=>?_⟩⟩,hs⟩
   · have h1:MemPlace.cell x.block x.off∈p:=by
      rw[hp,hz']
      simp only[MemPlace.row,List.mem_map,List.mem_range]
      exact⟨0,h0,by simp⟩
     exact hlt _ h1
   · rw[hcell i (by omega)]
     simp[List.getD,hi]
theorem isRow_of {H:Type} {enc:TypeId×Value→H} {P:Program} {W:World} {t e:TypeId} {k:IntKind} {a:Option Addr} {len cap:Nat} {d:DataW H} {p:List MemPlace} (ht:P.underlying t=some (.slice e)) (he:P.underlying e=some (.int k)) (hc:P.cellsOf e=1)
 (h:DataW.Trod enc P W 0 (fun _=>true) true t (.slice a len cap) d p) (hlt:∀x∈p,x.block<W.heap.size):∃zs,IsRow k W a len cap zs:=by
 obtain⟨fuel,hf⟩:=h
 rcases open_ints ht he hc hf with ⟨hcs,_⟩ | ⟨x,l,c,zs,hcs,_,hl,hm,hz,hx,hcell,hwz⟩
 · simp[Value.cells] at hcs
   obtain⟨rfl,rfl,rfl⟩:=hcs
   exact⟨[],rfl,Nat.le_refl _,Nat.zero_le _,by simp,.inl ⟨rfl,rfl⟩⟩
 · simp[Value.cells] at hcs
   obtain⟨rfl,rfl,rfl⟩:=hcs
   have hz':zs.length=cap:=by simpa using hz
   have hp:p=MemPlace.row x zs.length:=by simpa using congrArg (·.2) hx
   refine⟨zs.take len,by simp[hz'];omega,hl,hm,fun z hzm=>hwz z (List.mem_of_mem_take hzm),.inr ⟨x,rfl,fun h0=>?_,fun i hi=>?_⟩⟩
   · have h1:MemPlace.cell x.block x.off∈p:=by
      rw[hp,hz']
      simp only[MemPlace.row,List.mem_map,List.mem_range]
      exact⟨0,h0,by simp⟩
     exact hlt _ h1
   · rw[hcell i (by omega)]
     simp[List.getD,hi]
open Go.RowKit
section
variable {w w':World} {k:IntKind} {A:Option Addr} {n c:Nat} {zs:List Int}
theorem below_dn {B:Nat} {a b:World} (h:Below B a b) (m:Nat):Below B a (b.drewN m):=⟨h.os,h.tape,h.output,h.size,h.block⟩
theorem add_block (a:Addr) (i:Nat):(a.add i).block=a.block:=by unfold Addr.add;split <;> rfl
theorem IsRow.len (h:IsRow k w A n c zs):zs.length=n:=h.1
theorem IsRow.lenCap (h:IsRow k w A n c zs):n≤c:=h.2.1
theorem IsRow.capMax (h:IsRow k w A n c zs):c≤9223372036854775807:=h.2.2.1
theorem IsRow.wf (h:IsRow k w A n c zs):∀z∈zs,(Lit.int k z).wf=true:=h.2.2.2.1
theorem IsRow.at (h:IsRow k w A n c zs) (hn:0<n):∃x,A=some x∧x.block<w.heap.size∧∀i,i<n→w.cell? (x.add i)=some (.int k (zs.getD i 0)):=by
 obtain⟨_,hc,_,_,h5⟩:=h
 rcases h5 with ⟨_,h0⟩ | ⟨x,h1,h2,h3⟩
 · omega
 · exact⟨x,h1,h2 (by omega),h3⟩
theorem IsRow.keep (h:IsRow k w A n c zs) (hs:w.heap.size≤w'.heap.size) (hc:∀x i,A=some x→i<n→w'.cell? (x.add i)=w.cell? (x.add i)):IsRow k w' A n c zs:=by
 obtain⟨h1,h2,h3,h4,h5⟩:=h
 refine⟨h1,h2,h3,h4,?_⟩
 rcases h5 with h5 | ⟨x,e,hb,hx⟩
 · exact .inl h5
 · exact .inr ⟨x,e,fun h0=>Nat.lt_of_lt_of_le (hb h0) hs,fun i hi=>(hc x i e hi).trans (hx i hi)⟩
theorem IsRow.below (h:IsRow k w A n c zs) (hb:Below w.heap.size w w'):IsRow k w' A n c zs:=
 h.keep hb.size fun x i e hi=>hb.cell (by
  obtain⟨y,e',hy,_⟩:=h.at (by omega)
  rw[e] at e'
  injection e' with e'
  rw[add_block,e']
  exact hy)
theorem IsRow.alloc (h:IsRow k w A n c zs) (o:Obj):IsRow k (w.alloc o) A n c zs:=h.below ((Below.refl _ _).alloc (Nat.le_refl _) o)
theorem isRow_own {B:Nat} {e:TypeId} (h:w.ownsRow B e 1 (.slice A n c) n (zs.map (Value.int k))) (hw:∀z∈zs,(Lit.int k z).wf=true):IsRow k w A n c zs:=by
 have hl:zs.length=n:=by have:=h.1;simpa using this
 rcases h.2 with ⟨hv,h0⟩ | ⟨g,cap,cur,hv,hg,hh,hnc,hcm,hcs,ht⟩
 · simp only[Value.slice.injEq] at hv
   obtain⟨rfl,rfl,rfl⟩:=hv
   exact⟨hl,Nat.le_refl _,Nat.zero_le _,hw,.inl ⟨rfl,rfl⟩⟩
 · simp only[Value.slice.injEq] at hv
   obtain⟨rfl,-,rfl⟩:=hv
   refine⟨hl,hnc,hcm,hw,.inr ⟨_,rfl,fun _=>?_,fun i hi=>?_⟩⟩
   · rcases Nat.lt_or_ge g w.heap.size with h' | h'
     · exact h'
     · rw[Array.getElem?_eq_none h'] at hh;cases hh
   · have hca:=World.ownsRow.cellAt (j:=i) h (by omega)
     have e1:(Addr.mk g 0 none).add i=⟨g,i,none⟩:=by
      unfold Addr.add
      split
      · subst i;rfl
      · simp
     rw[e1,hca]
     simp[List.getElem?_map,List.getElem?_eq_getElem (show i<zs.length by omega),List.getD]
theorem IsRow.drop (h:IsRow k w A n c zs) {m:Nat} (hm:m≤n):IsRow k w (if c=m then A else A.map (·.add m)) (n-m) (c-m) (zs.drop m):=by
 obtain⟨h1,h2,h3,h4,h5⟩:=h
 refine⟨by rw[List.length_drop];omega,by omega,by omega,fun z hz=>h4 z (List.mem_of_mem_drop hz),?_⟩
 rcases h5 with ⟨rfl,rfl⟩ | ⟨x,rfl,hb,hx⟩
 · exact .inl ⟨by simp,by omega⟩
 · by_cases hcm:c=m
   · rw[if_pos hcm]
     exact .inr ⟨x,rfl,fun h0=>by omega,fun i hi=>by omega⟩
   · rw[if_neg hcm]
     refine .inr ⟨x.add m,rfl,fun h0=>by rw[add_block];exact hb (by omega),fun i hi=>?_⟩
     have e:(x.add m).add i=x.add (m+i):=by
      unfold Addr.add
      by_cases h1:m=0 <;> by_cases h2:i=0 <;> simp[h1,h2,Nat.add_assoc]
     rw[e,hx _ (by omega)]
     simp[List.getD]
theorem own_ge {B:Nat} {e:TypeId} {v:Value} {xs:List Value} (h:w.ownsRow B e 1 v n xs):∀g,v.ownBlock=some g→B≤g:=by
 rcases h.2 with ⟨rfl,_⟩ | ⟨g,cap,cur,rfl,hg,_⟩
 · intro g hg;cases hg
 · intro g' hg'
   have:g=g':=by injection hg'
   omega
theorem below_app {B:Nat} {e:TypeId} {v:Value} {xs:List Value} (h:w.ownsRow B e 1 v n xs) (hB:B≤w.heap.size) (hg:w.grownBy w' v.ownBlock):Below B w w':=
 (Below.refl B w).grown hg hB (own_ge h)
theorem IsRow.take (h:IsRow k w A n c zs) {m:Nat} (hm:m≤n):IsRow k w A m c (zs.take m):=by
 obtain⟨h1,h2,h3,h4,h5⟩:=h
 refine⟨by rw[List.length_take];omega,by omega,h3,fun z hz=>h4 z (List.mem_of_mem_take hz),?_⟩
 rcases h5 with h5 | ⟨x,e,hb,hx⟩
 · exact .inl h5
 · refine .inr ⟨x,e,hb,fun i hi=>?_⟩
   rw[hx i (by omega)]
   simp[List.getD,hi]
end
section
variable {P:Program} (w:World)
theorem run_app {B:Nat} {t ty e:TypeId} {i:TypeInfo} {z:Value} {bytes:Nat} {k:IntKind} (ht:P.underlying t=some (.slice e)) (hi:P.info? e=some i) (hz:i.zero=some z)
 (hsize:i.size=1) (hby:i.bytes=bytes) (hzs:z.cells.size=1)
 {v:Value} {zs:List Int} (hown:w.ownsRow B e 1 v zs.length (zs.map (Value.int k)))
 {A:Option Addr} {m c:Nat} {ys:List Int} (hr:IsRow k w A m c ys)
 (h63:zs.length+m≤maxLen) (hbytes:(zs.length+m)*bytes≤140737488355328) (hbase:B≤w.heap.size):
 ∃ v' w',(Builtin.append_ #[t,t] ty #[v,.slice A m c]).run P w = .ok v' w'∧w'.ownsRow B e 1 v' (zs++ys).length ((zs++ys).map (Value.int k))∧w.grownBy w' v.ownBlock∧
   (v'.ownBlock=v.ownBlock∨v'.ownBlock=some w.heap.size):=by
 have hlen:(zs++ys).length=zs.length+m:=by rw[List.length_append,hr.len]
 obtain⟨hl,hmc,hcm,hwf,h5⟩:=hr
 rcases h5 with ⟨rfl,rfl⟩ | ⟨x,rfl,_,hx⟩
 · have hm:m=0:=by omega
   subst hm
   have hy:ys=[]:=List.eq_nil_of_length_eq_zero hl
   subst hy
   exact⟨v,w,run_append_owned_none (P:=P) w B t ty e i 1 ht hi v _ _ hown,by simpa using hown,World.grownBy.refl w _,.inl rfl⟩
 · have hcells:∀j u,(ys.map (Value.int k))[j]? = some u→w.cell? (x.add j)=some u:=by
    intro j u hu
    rw[List.getElem?_map] at hu
    cases hj:ys[j]? with
    | none=>rw[hj] at hu;simp at hu
    | some y=>
      rw[hj] at hu
      simp at hu
      subst hu
      have hjm:j<m:=by
       have:=(List.getElem?_eq_some_iff.1 hj).1
       omega
      rw[hx j hjm,List.getD,hj]
      rfl
   obtain⟨v',w',hrun,h2,h3,_,h6⟩:=run_append_own_at (P:=P) w B t ty e i z 1 bytes ht hi hz hsize hby hzs (by omega) v _ _ hown x m c (ys.map (Value.int k)) (by simp[hl]) hcells
    (by intro u hu;simp at hu;obtain⟨y,_,rfl⟩:=hu;rfl) h63 hbytes hbase
   exact⟨v',w',hrun,by rw[hlen,List.map_append];exact h2,h3,h6⟩
end
open Go.RowKit Go.MapKept
open Go.ChangeMaps (setBlock heap_setBlock_same heap_setBlock_other modify_eq_set)
set_option linter.unusedVariables false
structure KeyK {κ:Type} (P:Program) (k:TypeId) (kv:κ→Value) (ok:κ→Prop):Prop where
 keyed:Maps.Keyed P k
 of:∀{x},ok x→∃l,keyOf P k (kv x)=some l
 inj:∀{x y},kv x=kv y→x=y
section
variable {P:Program} {k e t:TypeId} {κ:Type} {kv:κ→Value} {ok:κ→Prop} {w w':World} {b:Nat} {l:List (κ×Value)} {x:κ}
def prs (kv:κ→Value) (l:List (κ×Value)):List (Value×Value):=l.map fun p=>(kv p.1,p.2)
def lookL [DecidableEq κ] (x:κ) (l:List (κ×Value)):Option Value:=(l.find? fun p=>decide (p.1=x)).map (·.2)
def dropL [DecidableEq κ] (x:κ) (l:List (κ×Value)):List (κ×Value):=l.filter fun p=>!decide (p.1=x)
def putL [DecidableEq κ] (x:κ) (v:Value) (l:List (κ×Value)):List (κ×Value):=if (lookL x l).isSome then l.map fun p=>if p.1=x then (x,v) else p else l++[(x,v)]
theorem lookL_none [DecidableEq κ]:lookL x l=none↔∀p∈l,p.1≠x:=by
 unfold lookL
 rw[Option.map_eq_none_iff,List.find?_eq_none]
 simp
theorem lookL_mem [DecidableEq κ] {v:Value} (h:lookL x l=some v):(x,v)∈l:=by
 unfold lookL at h
 obtain⟨p,hp,rfl⟩:=Option.map_eq_some_iff.1 h
 have h1:=List.mem_of_find?_eq_some hp
 have h2:=List.find?_some hp
 simp only[decide_eq_true_eq] at h2
 subst h2
 exact h1
theorem lookL_of [DecidableEq κ] {v:Value} (hn:(l.map (·.1)).Nodup) (h:(x,v)∈l):lookL x l=some v:=by
 unfold lookL
 induction l with
 | nil=>cases h
 | cons p r ih=>
   simp only[List.map_cons,List.nodup_cons] at hn
   rcases List.mem_cons.1 h with rfl | h'
   · simp
   · have hne:p.1≠x:=fun e1=>hn.1 (by rw[e1];exact List.mem_map.2 ⟨_,h',rfl⟩)
     rw[List.find?_cons_of_neg (by simpa using hne)]
     exact ih hn.2 h'
def MapB (kv:κ→Value) (ok:κ→Prop) (w:World) (b:Nat) (l:List (κ×Value)):Prop:=
 ∃es clock,w.heap[b]? = some (.map es clock)∧Stamped es clock∧es.toList.map (fun e=>(e.key,e.val))=prs kv l∧∀p∈l,ok p.1
theorem MapB.lt (h:MapB kv ok w b l):b<w.heap.size:=by
 obtain⟨es,clock,h1,_⟩:=h
 exact (Array.getElem?_eq_some_iff.1 h1).1
theorem MapB.same (h:MapB kv ok w b l) (hh:w'.heap[b]? = w.heap[b]?):MapB kv ok w' b l:=by
 obtain⟨es,clock,h1,h2⟩:=h
 exact⟨es,clock,hh.trans h1,h2⟩
theorem MapB.low {C:Nat} (h:MapB kv ok w b l) (hb:Below C w w') (hC:b<C):MapB kv ok w' b l:=h.same (hb.block b hC)
theorem MapB.ab (h:MapB kv ok w b l) (hb:Below w.heap.size w w'):MapB kv ok w' b l:=h.low hb h.lt
theorem MapB.alloc (h:MapB kv ok w b l) (o:Obj):MapB kv ok (w.alloc o) b l:=h.ab ((Below.refl _ _).alloc (Nat.le_refl _) _)
theorem MapB.new (kv:κ→Value) (ok:κ→Prop) (w:World):MapB kv ok (w.alloc (.map #[] 0)) w.heap.size []:=
 ⟨#[],0,heap_alloc_new w _,stamped_empty 0,rfl,fun p hp=>by cases hp⟩
theorem prs_at {es:Array MapEntry} (h:es.toList.map (fun e=>(e.key,e.val))=prs kv l) (j:Nat):(es.toList[j]?).map (fun e=>(e.key,e.val))=(l[j]?).map fun p=>(kv p.1,p.2):=by
 rw[←List.getElem?_map,h]
 simp[prs]
theorem prs_mem {es:Array MapEntry} (h:es.toList.map (fun e=>(e.key,e.val))=prs kv l) {y:MapEntry} (hy:y∈es.toList):∃p∈l,y.key=kv p.1∧y.val=p.2:=by
 have h1:(y.key,y.val)∈es.toList.map (fun e=>(e.key,e.val)):=List.mem_map.2 ⟨y,hy,rfl⟩
 rw[h] at h1
 obtain⟨p,hp,he⟩:=List.mem_map.1 h1
 simp only[Prod.mk.injEq] at he
 exact⟨p,hp,he.1.symm,he.2.symm⟩
theorem prs_mem' {es:Array MapEntry} (h:es.toList.map (fun e=>(e.key,e.val))=prs kv l) {p:κ×Value} (hp:p∈l):∃y∈es.toList,y.key=kv p.1∧y.val=p.2:=by
 have h1:(kv p.1,p.2)∈prs kv l:=List.mem_map.2 ⟨p,hp,rfl⟩
 rw[←h] at h1
 obtain⟨y,hy,he⟩:=List.mem_map.1 h1
 simp only[Prod.mk.injEq] at he
 exact⟨y,hy,he.1,he.2⟩
theorem prs_keys {es:Array MapEntry} (K:KeyK P k kv ok) (h:es.toList.map (fun e=>(e.key,e.val))=prs kv l) (hok:∀p∈l,ok p.1):∀y∈es.toList,∃kl,keyOf P k y.key=some kl:=fun y hy=>by
 obtain⟨p,hp,hk,_⟩:=prs_mem h hy
 rw[hk]
 exact K.of (hok p hp)
theorem MapB.nodup (K:KeyK P k kv ok) (h:MapB kv ok w b l):(l.map (·.1)).Nodup:=by
 obtain⟨es,clock,_,h2,h3,_⟩:=h
 have h4:=((stamped_iff es clock).1 h2).2.2
 have h5:(es.toList.map (fun e=>(e.key,e.val))).Pairwise (fun p q=>p.1≠q.1):=List.pairwise_map.2 h4
 rw[h3] at h5
 have h6:=List.pairwise_map.1 h5
 exact List.pairwise_map.2 (h6.imp fun hne e1=>hne (by rw[e1]))
theorem find_at [DecidableEq κ] (K:KeyK P k kv ok) {es:Array MapEntry} (w:World) (h:es.toList.map (fun e=>(e.key,e.val))=prs kv l) (hok:∀p∈l,ok p.1) (hx:ok x) (hn:(l.map (·.1)).Nodup):
 ((Instr.findKey k (kv x) es.toList).run P w = .ok none w∧lookL x l=none∧∀y∈es.toList,y.key≠kv x)∨∃j e0,(Instr.findKey k (kv x) es.toList).run P w = .ok (some (j,e0.val)) w∧es.toList[j]? = some e0∧e0.key=kv x∧l[j]? = some (x,e0.val)∧lookL x l=some e0.val:=by
 obtain⟨kl,hkl⟩:=K.of hx
 rcases K.keyed.find w hkl es.toList (prs_keys K h hok) with ⟨h1,h2⟩ | ⟨j,e0,h1,h2,h3⟩
 · refine .inl ⟨h1,lookL_none.2 fun p hp e1=>?_,h2⟩
   obtain⟨y,hy,hk,_⟩:=prs_mem' h hp
   exact h2 y hy (by rw[hk,e1])
 · have h4:=prs_at h j
   rw[h2] at h4
   cases hl:l[j]? with
   | none=>rw[hl] at h4;simp at h4
   | some p=>
     rw[hl] at h4
     simp only[Option.map_some,Option.some.injEq,Prod.mk.injEq] at h4
     have hpx:p.1=x:=K.inj (h4.1.symm.trans h3)
     have hp2:p=(x,e0.val):=by rw[←hpx,h4.2]
     exact .inr ⟨j,e0,h1,h2,h3,hl.trans (by rw[hp2]),lookL_of hn (by rw[←hp2];exact List.mem_of_getElem? hl)⟩
theorem MapB.look_some [DecidableEq κ] (K:KeyK P k kv ok) (ht:P.underlying t=some (.map k e)) (h:MapB kv ok w b l) (hx:ok x) {v:Value} (hv:lookL x l=some v) (c:Bool):
 (Instr.lookup t (.map (some b)) (kv x) c).run P w = .ok (if c then .tuple #[v,.bool true] else v) w:=by
 have hn:=h.nodup K
 obtain⟨es,clock,h1,h2,h3,h4⟩:=h
 obtain⟨kl,hkl⟩:=K.of hx
 rcases find_at K w h3 h4 hx hn with ⟨hr,hl,_⟩ | ⟨j,e0,hr,_,_,_,hl⟩
 · rw[hl] at hv;cases hv
 · rw[hl] at hv
   injection hv with hv
   subst hv
   simp[Instr.lookup,run_underlying ht,MapKept.run_getObj_map h1,K.keyed.check w _ hkl,hr,Result.andThen]
theorem MapB.look_none [DecidableEq κ] (K:KeyK P k kv ok) (ht:P.underlying t=some (.map k e)) (h:MapB kv ok w b l) (hx:ok x) (hv:lookL x l=none) {z:Value} (hz:(zeroValue e).run P w = .ok z w) (c:Bool):
 (Instr.lookup t (.map (some b)) (kv x) c).run P w = .ok (if c then .tuple #[z,.bool false] else z) w:=by
 have hn:=h.nodup K
 obtain⟨es,clock,h1,h2,h3,h4⟩:=h
 obtain⟨kl,hkl⟩:=K.of hx
 rcases find_at K w h3 h4 hx hn with ⟨hr,hl,_⟩ | ⟨j,e0,hr,_,_,_,hl⟩
 · simp[Instr.lookup,run_underlying ht,MapKept.run_getObj_map h1,K.keyed.check w _ hkl,hr,hz,Result.andThen]
 · rw[hl] at hv;cases hv
theorem grown_set {es:Array MapEntry} {clock:Nat} (hb:w.heap[b]? = some (.map es clock)) (o:Obj):w.grownBy (setBlock w b o) (some b):=
 ⟨rfl,rfl,rfl,by simp[setBlock],fun i _ hi=>heap_setBlock_other hb o (fun e1=>hi (by rw[e1]))⟩
theorem below_set {B:Nat} {a:World} (h:Below B a w) {es:Array MapEntry} {clock:Nat} (hb:w.heap[b]? = some (.map es clock)) (hB:B≤b) (o:Obj):Below B a (setBlock w b o):=
 h.trans ⟨rfl,rfl,rfl,by simp[setBlock],fun i hi=>heap_setBlock_other hb o (by omega)⟩
theorem MapB.put [DecidableEq κ] (K:KeyK P k kv ok) (ht:P.underlying t=some (.map k e)) (h:MapB kv ok w b l) (hx:ok x) (v:Value):
 ∃w',(Instr.mapUpdate t (.map (some b)) (kv x) v).run P w = .ok () w'∧MapB kv ok w' b (putL x v l)∧w.grownBy w' (some b)∧w'.heap.size=w.heap.size∧∀(B:Nat) (a:World),Below B a w→B≤b→Below B a w':=by
 have hn:=h.nodup K
 obtain⟨es,clock,h1,h2,h3,h4⟩:=h
 obtain⟨kl,hkl⟩:=K.of hx
 rcases find_at K w h3 h4 hx hn with ⟨hr,hl,hne⟩ | ⟨j,e0,hr,hj,hk0,hlj,hl⟩
 · refine⟨setBlock w b (.map (es.push ⟨kv x,v,clock⟩) (clock+1)),?_,⟨_,_,heap_setBlock_same h1 _,stamped_push h2 hne,?_,?_⟩,grown_set h1 _,by simp[setBlock],fun B a hb hB=>below_set hb h1 hB _⟩
   · simp[Instr.mapUpdate,run_underlying ht,MapKept.run_getObj_map h1,K.keyed.check w false hkl,hr,MapKept.run_setObj_map _ h1,Result.andThen,setBlock]
   · simp[putL,hl,prs,h3]
   · intro p hp
     simp only[putL,hl,Option.isSome_none,Bool.false_eq_true,if_false,List.mem_append,List.mem_singleton] at hp
     rcases hp with hp | rfl
     · exact h4 p hp
     · exact hx
 · have hes:es[j]? = some e0:=by simpa using hj
   refine⟨setBlock w b (.map (es.modify j (fun e'=>{ e' with key:=kv x,val:=v })) clock),?_,⟨_,_,heap_setBlock_same h1 _,stamped_modify h2 _ _ (fun _ _=>rfl) (fun e' _ he'=>by rw[hes] at he';cases he';exact hk0.symm),?_,?_⟩,grown_set h1 _,by simp[setBlock],fun B a hb hB=>below_set hb h1 hB _⟩
   · simp[Instr.mapUpdate,run_underlying ht,MapKept.run_getObj_map h1,K.keyed.check w false hkl,hr,hes,hk0,K.keyed.stays w hkl,MapKept.run_setObj_map _ h1,Result.andThen,setBlock]
   · rw[Array.toList_modify,modify_eq_set _ _ _ _ hj,List.map_set,h3]
     have e1 : putL x v l=l.set j (x,v):=by
      unfold putL
      rw[hl]
      simp only[Option.isSome_some,if_true]
      apply List.ext_getElem?
      intro i
      rw[List.getElem?_map,List.getElem?_set]
      by_cases hij:j=i
      · subst hij
        have hjl:j<l.length:=(List.getElem?_eq_some_iff.1 hlj).1
        rw[if_pos rfl,if_pos hjl,hlj]
        simp
      · rw[if_neg hij]
        cases hi:l[i]? with
        | none=>rfl
        | some p=>
          simp only[Option.map_some,Option.some.injEq]
          rw[if_neg]
          intro e2
          apply hij
          have hil:i<l.length:=(List.getElem?_eq_some_iff.1 hi).1
          have hjl:j<l.length:=(List.getElem?_eq_some_iff.1 hlj).1
          have ei:(l.map (·.1))[i]'(by simpa using hil)=(l.map (·.1))[j]'(by simpa using hjl):=by
           rw[List.getElem?_eq_getElem hil] at hi
           rw[List.getElem?_eq_getElem hjl] at hlj
           injection hi with hi
           injection hlj with hlj
           simp only[List.getElem_map,hi,hlj,e2]
          exact ((List.getElem_inj hn).1 ei).symm
     rw[e1]
     simp[prs,List.map_set]
   · intro p hp
     simp only[putL,hl,Option.isSome_some,if_true,List.mem_map] at hp
     obtain⟨q,hq,rfl⟩:=hp
     split
     · exact hx
     · exact h4 q hq
theorem MapB.del [DecidableEq κ] (K:KeyK P k kv ok) (ht:P.underlying t=some (.map k e)) (h:MapB kv ok w b l) (hx:ok x) (ty:TypeId):
 ∃w',(Builtin.delete_ #[t,k] ty #[.map (some b),kv x]).run P w = .ok (.tuple #[]) w'∧MapB kv ok w' b (dropL x l)∧w.grownBy w' (some b)∧w'.heap.size=w.heap.size∧∀(B:Nat) (a:World),Below B a w→B≤b→Below B a w':=by
 have hn:=h.nodup K
 obtain⟨es,clock,h1,h2,h3,h4⟩:=h
 obtain⟨kl,hkl⟩:=K.of hx
 have hok:∀p∈dropL x l,ok p.1:=fun p hp=>h4 p (List.mem_filter.1 hp).1
 rcases find_at K w h3 h4 hx hn with ⟨hr,hl,hne⟩ | ⟨j,e0,hr,hj,hk0,hlj,hl⟩
 · refine⟨setBlock w b (.map es clock),?_,⟨_,_,heap_setBlock_same h1 _,h2,?_,hok⟩,grown_set h1 _,by simp[setBlock],fun B a hb hB=>below_set hb h1 hB _⟩
   · simp[Builtin.delete_,run_underlying ht,MapKept.run_getObj_map h1,K.keyed.check w _ hkl,hr,MapKept.run_setObj_map _ h1,Result.andThen,setBlock]
   · rw[h3]
     have:dropL x l=l:=List.filter_eq_self.2 fun p hp=>by simpa using lookL_none.1 hl p hp
     rw[this]
 · have hjl:j<es.size:=by
    have:=(List.getElem?_eq_some_iff.1 hj).1
    simpa using this
   have hsub:(es.eraseIdxIfInBounds j).toList=es.toList.eraseIdx j:=by
    unfold Array.eraseIdxIfInBounds
    rw[dif_pos hjl]
    simp
   refine⟨setBlock w b (.map (es.eraseIdxIfInBounds j) clock),?_,⟨_,_,heap_setBlock_same h1 _,stamped_erase h2 j,?_,hok⟩,grown_set h1 _,by simp[setBlock],fun B a hb hB=>below_set hb h1 hB _⟩
   · simp[Builtin.delete_,run_underlying ht,MapKept.run_getObj_map h1,K.keyed.check w _ hkl,hr,MapKept.run_setObj_map _ h1,Result.andThen,setBlock]
   · rw[hsub,ChangeMaps.map_eraseIdx,h3]
     have e1:dropL x l=l.eraseIdx j:=by
      have hjl':j<l.length:=(List.getElem?_eq_some_iff.1 hlj).1
      refine ChangeMaps.filter_eq_eraseIdx (fun p:κ×Value=>decide (p.1=x)) l j (x,e0.val) hlj (by simp) ((List.pairwise_map.1 hn).imp fun hne ⟨h5,h6⟩=>hne ?_)
      rw[of_decide_eq_true h5,of_decide_eq_true h6]
     rw[e1]
     simp only[prs,ChangeMaps.map_eraseIdx]
def RngB (kv:κ→Value) (ok:κ→Prop) (w:World) (b r:Nat) (l d:List (κ×Value)):Prop:=
 ∃ es clock since seen c0,w.heap[b]? = some (.map es clock)∧Stamped es clock∧es.toList.map (fun e=>(e.key,e.val))=prs kv l∧(∀p∈l,ok p.1)∧
   w.heap[r]? = some (.mapIter (some b) since seen c0)∧(∀x∈es.toList,x.born<since)∧since≤c0∧since≤clock∧
   (∀(j:Nat) (y:MapEntry) (p:κ×Value),es.toList[j]? = some y→l[j]? = some p→(seen.contains y.born=true↔p∈d))∧(∀p∈d,p∈l)∧(d.map (·.1)).Nodup
theorem RngB.mapB {r:Nat} {d:List (κ×Value)} (h:RngB kv ok w b r l d):MapB kv ok w b l:=by
 obtain⟨es,clock,since,seen,c0,h1,h2,h3,h4,_⟩:=h
 exact⟨es,clock,h1,h2,h3,h4⟩
theorem RngB.ne {r:Nat} {d:List (κ×Value)} (h:RngB kv ok w b r l d):r≠b:=by
 obtain⟨es,clock,since,seen,c0,h1,h2,h3,h4,h5,_⟩:=h
 intro e1
 rw[e1,h1] at h5
 cases h5
theorem RngB.lt {r:Nat} {d:List (κ×Value)} (h:RngB kv ok w b r l d):r<w.heap.size:=by
 obtain⟨es,clock,since,seen,c0,h1,h2,h3,h4,h5,_⟩:=h
 exact (Array.getElem?_eq_some_iff.1 h5).1
theorem RngB.same {r:Nat} {d:List (κ×Value)} (h:RngB kv ok w b r l d) (hh:w'.heap[b]? = w.heap[b]?) (hr:w'.heap[r]? = w.heap[r]?):RngB kv ok w' b r l d:=by
 obtain⟨es,clock,since,seen,c0,h1,h2,h3,h4,h5,h6⟩:=h
 exact⟨es,clock,since,seen,c0,hh.trans h1,h2,h3,h4,hr.trans h5,h6⟩
theorem RngB.ab {r:Nat} {d:List (κ×Value)} (h:RngB kv ok w b r l d) (hb:Below w.heap.size w w'):RngB kv ok w' b r l d:=h.same (hb.block b h.mapB.lt) (hb.block r h.lt)
theorem RngB.grown {r:Nat} {d:List (κ×Value)} {row:Option Nat} (h:RngB kv ok w b r l d) (hg:w.grownBy w' row) (hb:row≠some b) (hr:row≠some r):RngB kv ok w' b r l d:=
 h.same (hg.block b h.mapB.lt (fun e=>hb e.symm)) (hg.block r h.lt (fun e=>hr e.symm))
theorem pairs_nodup {d:List (κ×Value)} (h:(d.map (·.1)).Nodup):d.Nodup:=(List.pairwise_map.1 h).imp fun hne e1=>hne (by rw[e1])
theorem length_le_of_sub {α:Type}:∀{d l:List α},d.Nodup→(∀p∈d,p∈l)→d.length≤l.length
 | [],_,_,_=>Nat.zero_le _
 | p :: r,l,hn,hs=>by
   obtain⟨a,b,rfl⟩:=List.append_of_mem (hs p (by simp))
   obtain⟨h1,h2⟩:=List.pairwise_cons.1 hn
   have:=length_le_of_sub (d:=r) (l:=a++b) h2 fun q hq=>by
    have h3:=hs q (by simp[hq])
    have h4:=h1 q hq
    simp only[List.mem_append,List.mem_cons] at h3⊢
    rcases h3 with h3 | h3 | h3
    · exact .inl h3
    · exact absurd h3.symm h4
    · exact .inr h3
   simp only[List.length_append,List.length_cons] at this⊢
   omega
theorem RngB.len_le {r:Nat} {d:List (κ×Value)} (h:RngB kv ok w b r l d):d.length≤l.length:=by
 obtain⟨es,clock,since,seen,c0,h1,h2,h3,h4,h5,h6,h7,h8,h9,h10,h11⟩:=h
 exact length_le_of_sub (pairs_nodup h11) h10
theorem MapB.range (ht:P.underlying t=some (.map k e)) (h:MapB kv ok w b l):
 ∃w',(Instr.range t (.map (some b))).run P w = .ok (.pointer (some ⟨w.heap.size,0,none⟩)) w'∧RngB kv ok w' b w.heap.size l []∧Below w.heap.size w w'∧w'.heap.size=w.heap.size+1:=by
 have hlt:=h.lt
 obtain⟨es,clock,h1,h2,h3,h4⟩:=h
 refine⟨_,run_range_map w t k e b es clock ht h1,⟨es,clock,clock,#[],clock,(heap_alloc_old w _ hlt).trans h1,h2,h3,h4,heap_alloc_new w _,h2.1,Nat.le_refl _,Nat.le_refl _,fun j y p hy hp=>by simp,fun p hp=>(by cases hp),by simp⟩,(Below.refl _ _).alloc (Nat.le_refl _) _,by simp⟩
theorem RngB.next (K:KeyK P k kv ok) {r:Nat} {d:List (κ×Value)} (h:RngB kv ok w b r l d) (ty:TypeId):
 ((∀p∈l,p∈d)∧(Instr.next (.pointer (some ⟨r,0,none⟩)) false ty).run P w = .ok (.tuple #[.bool false]) w)∨
 ∃ p w',p∈l∧p∉d∧(Instr.next (.pointer (some ⟨r,0,none⟩)) false ty).run P w = .ok (.tuple #[.bool true,kv p.1,p.2]) w'∧RngB kv ok w' b r l (d++[p])∧w.grownBy w' (some r)∧w'.heap.size=w.heap.size∧
   (Instr.entry (.pointer (some ⟨r,0,none⟩))).run P w' = .ok (.tuple #[kv p.1,p.2]) w'∧∀(B:Nat) (a:World),Below B a w→B≤r→Below B a w':=by
 have hne:=h.ne
 have hn:=h.mapB.nodup K
 obtain⟨es,clock,since,seen,c0,h1,h2,h3,h4,h5,h6,h7,h8,h9,h10,h11⟩:=h
 have hpair:∀(j:Nat) (y:MapEntry),es.toList[j]? = some y→∃p,l[j]? = some p∧y.key=kv p.1∧y.val=p.2:=fun j y hy=>by
  have:=prs_at h3 j
  rw[hy] at this
  cases hl:l[j]? with
  | none=>rw[hl] at this;simp at this
  | some p=>
    rw[hl] at this
    simp only[Option.map_some,Option.some.injEq,Prod.mk.injEq] at this
    exact⟨p,rfl,this.1,this.2⟩
 have hpair':∀(j:Nat) (p:κ×Value),l[j]? = some p→∃y,es.toList[j]? = some y:=fun j p hp=>by
  have:=prs_at h3 j
  rw[hp] at this
  cases hl:es.toList[j]? with
  | none=>rw[hl] at this;simp at this
  | some y=>exact⟨y,rfl⟩
 rcases run_next_at (P:=P) w ty r b since c0 seen es clock h5 h1 h6 h7 with ⟨h0,hrun⟩ | ⟨y,hy,w1,hal,hrun⟩
 · refine .inl ⟨fun p hp=>?_,hrun⟩
   obtain⟨j,hj,hjp⟩:=List.getElem_of_mem hp
   have hlj:l[j]? = some p:=by rw[List.getElem?_eq_getElem hj,hjp]
   obtain⟨y,hy⟩:=hpair' j p hlj
   refine (h9 j y p hy hlj).1 (all_seen es seen h0 y (List.mem_of_getElem? hy))
 · obtain⟨hym,hys⟩:=mem_left hy
   obtain⟨j,hj,hjy⟩:=List.getElem_of_mem hym
   have hey:es.toList[j]? = some y:=by rw[List.getElem?_eq_getElem hj,hjy]
   obtain⟨p,hlj,hpk,hpv⟩:=hpair j y hey
   have hpd:p∉d:=fun hd=>by
    have:=(h9 j y p hey hlj).2 hd
    rw[hys] at this
    cases this
   have hpm:p∈l:=List.mem_of_getElem? hlj
   have hr1:w1.heap[r]? = some (.mapIter (some b) since seen c0):=by rcases hal with rfl | rfl <;> exact h5
   have hb1:w1.heap[b]? = some (.map es clock):=by rcases hal with rfl | rfl <;> exact h1
   have hset:=heap_set (o':=.mapIter (some b) since (seen.push y.born) clock) hr1
   have hb':(setBlock w1 r (.mapIter (some b) since (seen.push y.born) clock)).heap[b]? = some (.map es clock):=(hset.2 b (fun e1=>hne e1.symm)).trans hb1
   have hkeys:∀(i:Nat) (z:MapEntry),es.toList[i]? = some z→(z.born=y.born↔i=j):=fun i z hz=>by
    have hnb:=((stamped_iff es clock).1 h2).2.1
    have hil:i<es.toList.length:=(List.getElem?_eq_some_iff.1 hz).1
    refine⟨fun e1=>?_,fun e1=>by subst e1;rw[hey] at hz;injection hz with hz;rw[hz]⟩
    have ei:(es.toList.map (·.born))[i]'(by simpa using hil)=(es.toList.map (·.born))[j]'(by simpa using hj):=by
     rw[List.getElem?_eq_getElem hil] at hz
     injection hz with hz
     simp only[List.getElem_map,hz,hjy,e1]
    exact (List.getElem_inj hnb).1 ei
   refine .inr ⟨p,_,hpm,hpd,by rw[←hpk,←hpv];exact hrun,⟨es,clock,since,seen.push y.born,clock,hb',h2,h3,h4,hset.1,h6,h8,h8,fun i z q hz hq=>?_,fun q hq=>?_,?_⟩,?_,?_,?_,?_⟩
   · have hiff:=hkeys i z hz
     have hij:q=p↔i=j:=by
      refine⟨fun e1=>?_,fun e1=>by subst e1;rw[hlj] at hq;injection hq with hq;exact hq.symm⟩
      have hil:i<l.length:=(List.getElem?_eq_some_iff.1 hq).1
      have hjl:j<l.length:=(List.getElem?_eq_some_iff.1 hlj).1
      have ei:(l.map (·.1))[i]'(by simpa using hil)=(l.map (·.1))[j]'(by simpa using hjl):=by
       rw[List.getElem?_eq_getElem hil] at hq
       rw[List.getElem?_eq_getElem hjl] at hlj
       injection hq with hq
       injection hlj with hlj
       simp only[List.getElem_map,hq,hlj,e1]
      exact (List.getElem_inj hn).1 ei
     have h90:=h9 i z q hz hq
     rw[contains_push]
     simp only[Bool.or_eq_true,beq_iff_eq,List.mem_append,List.mem_singleton,hiff,hij,h90]
   · rcases List.mem_append.1 hq with hq | hq
     · exact h10 q hq
     · rw[List.mem_singleton] at hq
       rw[hq]
       exact hpm
   · rw[List.map_append]
     refine List.nodup_append.2 ⟨h11,by simp,fun a ha c hc=>?_⟩
     simp only[List.map_cons,List.map_nil,List.mem_singleton] at hc
     subst hc
     intro e1
     obtain⟨q,hq,hqk⟩:=List.mem_map.1 ha
     have hqm:=h10 q hq
     have:q=p:=by
      obtain⟨i,hi,hiq⟩:=List.getElem_of_mem hqm
      have hjl:j<l.length:=(List.getElem?_eq_some_iff.1 hlj).1
      have ei:(l.map (·.1))[i]'(by simpa using hi)=(l.map (·.1))[j]'(by simpa using hjl):=by
       rw[List.getElem?_eq_getElem hjl] at hlj
       injection hlj with hlj
       simp only[List.getElem_map,hiq,hlj,hqk,e1]
      have hij:=(List.getElem_inj hn).1 ei
      subst hij
      rw[List.getElem?_eq_getElem hjl] at hlj
      injection hlj with hlj
      rw[←hiq,hlj]
     rw[this] at hq
     exact hpd hq
   · rcases hal with rfl | rfl <;> exact⟨rfl,rfl,rfl,by simp[setBlock],fun i _ hi=>hset.2 i (fun e1=>hi (by rw[e1]))⟩
   · rcases hal with rfl | rfl <;> simp[setBlock]
   · rw[←hpk,←hpv]
     exact run_entry_at _ r b since seen es clock y hset.1 hb' hym ((stamped_iff es clock).1 h2).2.1
   · intro B a hB hBr
     refine hB.trans ?_
     rcases hal with rfl | rfl <;> exact⟨rfl,rfl,rfl,by simp[setBlock],fun i hi=>hset.2 i (by omega)⟩
end
section
variable {P:Program} {k e t:TypeId} {κ:Type} {kv:κ→Value} {ok:κ→Prop} {w:World} {b:Nat} {l:List (κ×Value)} {ops:Array Oper} {rest:List Oper} {o:Oper} {a:Act} {Q:Exit→Act→World→Prop}
theorem wpList_mapPut [DecidableEq κ] (hg:o.guard=none) (m x v:Operand) (hop:o.op = .mapUpdate t m x v) (K:KeyK P k kv ok) (ht:P.underlying t=some (.map k e)) (hm:a.eval m = .map (some b)) (h:MapB kv ok w b l)
 (y:κ) (hy:ok y) (hx:a.eval x=kv y) (val:Value) (hv:a.eval v=val)
 (hK:∀w',MapB kv ok w' b (putL y val l)→w.grownBy w' (some b)→w'.heap.size=w.heap.size→(∀(B:Nat) (a:World),Below B a w→B≤b→Below B a w')→wpList P ops Q rest (a.put o.dst undef) w'):wpList P ops Q (o::rest) a w:=by
 refine wpList_plain hg fun K' hK'=>?_
 obtain⟨w',hrun,r1,r2,r3,r4⟩:=h.put K ht hy val
 unfold Oper.wp
 simp[execOp,hop,hm,hx,hv,hrun,Result.andThen]
 exact hK' _ _ (hK w' r1 r2 r3 r4)
theorem wpList_mapDel [DecidableEq κ] (hg:o.guard=none) (m x:Operand) (hop:o.op = .call { callee:=.builtin .delete,args:=#[m,x],argTypes:=#[t,k] }) (K:KeyK P k kv ok) (ht:P.underlying t=some (.map k e)) (hm:a.eval m = .map (some b)) (h:MapB kv ok w b l)
 (y:κ) (hy:ok y) (hx:a.eval x=kv y)
 (hK:∀w',MapB kv ok w' b (dropL y l)→w.grownBy w' (some b)→w'.heap.size=w.heap.size→(∀(B:Nat) (a:World),Below B a w→B≤b→Below B a w')→wpList P ops Q rest (a.put o.dst (.tuple #[])) w'):wpList P ops Q (o::rest) a w:=by
 refine wpList_plain hg fun K' hK'=>?_
 obtain⟨w',hrun,r1,r2,r3,r4⟩:=h.del K ht hy o.type
 unfold Oper.wp
 simp[execOp,hop,resolve,invoke,builtin,hm,hx,hrun,Result.andThen]
 exact hK' _ _ (hK w' r1 r2 r3 r4)
theorem wpList_mapRange (hg:o.guard=none) (m:Operand) (hop:o.op = .range t m) (ht:P.underlying t=some (.map k e)) (hm:a.eval m = .map (some b)) (h:MapB kv ok w b l)
 (hK:∀w',RngB kv ok w' b w.heap.size l []→Below w.heap.size w w'→w'.heap.size=w.heap.size+1→wpList P ops Q rest (a.put o.dst (.pointer (some ⟨w.heap.size,0,none⟩))) w'):wpList P ops Q (o::rest) a w:=by
 refine wpList_plain hg fun K' hK'=>?_
 obtain⟨w',hrun,r1,r2,r3⟩:=h.range ht
 unfold Oper.wp
 simp[execOp,hop,hm,hrun,Result.andThen]
 exact hK' _ _ (hK w' r1 r2 r3)
end
def dbl (a:Nat):Nat:=if a<128 then 2*a else (2*a-256) ^^^ 27
def mulGo:Nat→Nat→Nat→Nat→Nat
 | 0,_,_,c=>c
 | f+1,a,b,c=>if b=0 then c else mulGo f (dbl a) (b/2) (if b%2=1 then c ^^^ a else c)
def gmul (a b:Nat):Nat:=mulGo 8 a b 0
def powGo:Nat→Nat→Nat→Nat→Nat
 | 0,_,_,c=>c
 | f+1,a,n,c=>if n=0 then c else powGo f (gmul a a) (n/2) (if n%2=1 then gmul c a else c)
def gpow (a n:Nat):Nat:=powGo 32 a n 1
def ginv (a:Nat):Nat:=gpow a 254
def rot (a n:Nat):Nat:=(a*2 ^ n%256) ||| (a/2 ^ (8-n))
def gsub (a:Nat):Nat:=ginv a ^^^ rot (ginv a) 1 ^^^ rot (ginv a) 2 ^^^ rot (ginv a) 3 ^^^ rot (ginv a) 4 ^^^ 99
def findGo (p:Nat→Bool):Nat→Nat→Nat
 | 0,_=>0
 | f+1,i=>if p i then i else findGo p f (i+1)
def sboxL:List Nat:=[99,124,119,123,242,107,111,197,48,1,103,43,254,215,171,118,202,130,201,125,250,89,71,240,173,212,162,175,156,164,114,192,183,253,147,38,54,63,247,204,52,165,229,241,113,216,49,21,4,199,35,195,24,150,5,154,7,18,128,226,235,39,178,117,9,131,44,26,27,110,90,160,82,59,214,179,41,227,47,132,83,209,0,237,32,252,177,91,106,203,190,57,74,76,88,207,208,239,170,251,67,77,51,133,69,249,2,127,80,60,159,168,81,163,64,143,146,157,56,245,188,182,218,33,16,255,243,210,205,12,19,236,95,151,68,23,196,167,126,61,100,93,25,115,96,129,79,220,34,42,144,136,70,238,184,20,222,94,11,219,224,50,58,10,73,6,36,92,194,211,172,98,145,149,228,121,231,200,55,109,141,213,78,169,108,86,244,234,101,122,174,8,186,120,37,46,28,166,180,198,232,221,116,31,75,189,139,138,112,62,181,102,72,3,246,14,97,53,87,185,134,193,29,158,225,248,152,17,105,217,142,148,155,30,135,233,206,85,40,223,140,161,137,13,191,230,66,104,65,153,45,15,176,84,187,22]
def sbox (a:Nat):Nat:=sboxL.getD a 0
def sinv (a:Nat):Nat:=findGo (fun i=>sbox i==a) 256 0
theorem gsub_sbox:∀a,a<256→gsub a=sbox a:=by decide +kernel
theorem sbox_lt:∀a,a<256→sbox a<256:=by decide +kernel
theorem sinv_sbox:∀a,a<256→sinv (sbox a)=a:=by decide +kernel
theorem sbox_sinv:∀a,a<256→sbox (sinv a)=a:=by decide +kernel
theorem sinv_lt:∀a,a<256→sinv a<256:=by decide +kernel
theorem gpow_lt:∀n,n<16→gpow 2 n<256:=by decide +kernel
theorem bits_xor_u8 (a b:Nat) (ha:a<256) (hb:b<256):bits .xor .u8 (a:Int) (b:Int)=((a ^^^ b:Nat):Int):=by
 have h:a ^^^ b<2 ^ 8:=Nat.xor_lt_two_pow (by omega) (by omega)
 show IntKind.u8.wrap ((BitVec.ofInt 8 (a:Int) ^^^ BitVec.ofInt 8 (b:Int)).toNat:Int)=_
 rw[BitVec.toNat_xor,BitVec.ofInt_natCast,BitVec.ofInt_natCast,BitVec.toNat_ofNat,BitVec.toNat_ofNat,Nat.mod_eq_of_lt (by omega),Nat.mod_eq_of_lt (by omega)]
 show ((a ^^^ b:Nat):Int)%256=_
 omega
theorem bits_or_u8 (a b:Nat) (ha:a<256) (hb:b<256):bits .or .u8 (a:Int) (b:Int)=((a ||| b:Nat):Int):=by
 have h:a ||| b<2 ^ 8:=Nat.or_lt_two_pow (by omega) (by omega)
 show IntKind.u8.wrap ((BitVec.ofInt 8 (a:Int) ||| BitVec.ofInt 8 (b:Int)).toNat:Int)=_
 rw[BitVec.toNat_or,BitVec.ofInt_natCast,BitVec.ofInt_natCast,BitVec.toNat_ofNat,BitVec.toNat_ofNat,Nat.mod_eq_of_lt (by omega),Nat.mod_eq_of_lt (by omega)]
 show ((a ||| b:Nat):Int)%256=_
 omega
theorem xor_lt {a b:Nat} (ha:a<256) (hb:b<256):a ^^^ b<256:=Nat.xor_lt_two_pow (n:=8) (by omega) (by omega)
theorem or_lt {a b:Nat} (ha:a<256) (hb:b<256):a ||| b<256:=Nat.or_lt_two_pow (n:=8) (by omega) (by omega)
theorem ret_u8 {a:Int} {b:Nat} (h:a=b):Ending.returned (.int .u8 a) = .returned (.int .u8 (b:Int)):=by rw[h]
theorem dbl_lt:∀a,a<256→dbl a<256:=by decide +kernel
theorem dbl_hi:∀a:Nat,a<256→(bits BinOp.and IntKind.u8 (a:Int) 128 != 0)=true→bits BinOp.xor IntKind.u8 ((a:Int)*2%256) 27=((dbl a:Nat):Int):=by decide +kernel
theorem dbl_lo:∀a:Nat,a<256→(bits BinOp.and IntKind.u8 (a:Int) 128 != 0)=false→(a:Int)*2%256=((dbl a:Nat):Int):=by decide +kernel
set_option maxRecDepth 100000 in
theorem dbl_any (a:Nat) (ha:a<256) (w:World):
 Calls Tryz.prog 259 #[.int .u8 (a:Int)] w fun e w'=>e = .returned (.int .u8 (dbl a:Nat))∧w=w':=by
 have h1:=dbl_hi a ha
 have h2:=dbl_lo a ha
 generalize dbl a=r at h1 h2
 cases h:(bits BinOp.and IntKind.u8 (a:Int) 128 != 0)
 · have H2:=Lib.hid (h2 h)
   clear h1 h2
   go_enter Tryz.func259,Tryz.ntmps259
   go_wp2
   go_ret
   exact⟨ret_u8 H2.out,rfl⟩
 · have H1:=Lib.hid (h1 h)
   clear h1 h2
   go_enter Tryz.func259,Tryz.ntmps259
   go_wp2
   go_ret
   exact⟨ret_u8 H1.out,rfl⟩
theorem mulGo_lt:∀f a b c,a<256→c<256→mulGo f a b c<256
 | 0,a,b,c,ha,hc=>hc
 | f + 1,a,b,c,ha,hc=>by
   simp only[mulGo]
   split
   · exact hc
   · refine mulGo_lt f _ _ _ (dbl_lt a ha) ?_
     split
     · exact xor_lt hc ha
     · exact hc
theorem gmul_lt {a:Nat} (b:Nat) (ha:a<256):gmul a b<256:=mulGo_lt 8 a b 0 ha (by omega)
theorem mulGo_zero:∀f a c,mulGo f a 0 c=c
 | 0,_,_=>rfl
 | f+1,_,_=>by simp[mulGo]
theorem odd_u8:∀b:Nat,b<256→(bits BinOp.and IntKind.u8 (b:Int) 1 != 0)=decide (b%2=1):=by decide +kernel
theorem mulGo_step {f A B C R:Nat} (hf:B<2 ^ f) (hm:mulGo f A B C=R) (hB:B≠0):∃f',B/2<2 ^ f'∧mulGo f' (dbl A) (B/2) (if B%2=1 then C ^^^ A else C)=R:=by
 cases f with
 | zero=>omega
 | succ f=>
   simp only[mulGo,if_neg hB] at hm
   exact⟨f,by rw[Nat.pow_succ] at hf;omega,hm⟩
set_option maxRecDepth 100000 in
theorem mul_any (a b:Nat) (ha:a<256) (hb:b<256) (w:World):
 Calls Tryz.prog 257 #[.int .u8 (a:Int),.int .u8 (b:Int)] w fun e w'=>e = .returned (.int .u8 (gmul a b:Nat))∧w=w':=by
 generalize hr:gmul a b=R
 have HR:=Lib.hid hr
 clear hr
 go_enter Tryz.func257,Tryz.ntmps257
 go_wp2
 go_loop [0,1,5] (fun x y z=>∃A B C f:Nat,A<256∧B<256∧C<256∧B<2 ^ f∧mulGo f A B C=R∧x = .int .u8 A∧y = .int .u8 B∧z = .int .u8 C) (fun _ y _=>(intOf y).toNat)
 case atStart=>exact⟨a,b,0,8,ha,hb,by omega,hb,HR.out,rfl,rfl,rfl⟩
 case round=>
  obtain⟨A,B,C,f,hA,hB,hC,hf,hm,rfl,rfl,rfl⟩:=hrel
  by_cases h0:B=0
  · have HM:=Lib.hid hm
    subst h0
    clear hm hf
    go_wp2
    go_ret
    exact⟨ret_u8 (by rw[←HM.out,mulGo_zero]),rfl⟩
  · obtain⟨f',hf',hm'⟩:=mulGo_step hf hm h0
    have h0':((B:Int) != 0)=true:=by simp;omega
    have hx:=bits_xor_u8 C A hC hA
    have hxl:=xor_lt hC hA
    have hdl:=dbl_lt A hA
    have hod:=odd_u8 B hB
    have HM:=Lib.hid hm'
    have HF:=Lib.hid hf'
    clear hm hm' hf hf'
    by_cases h1:B%2=1
    · have H1:=Lib.hid h1
      rw[decide_eq_true h1] at hod
      clear h1
      generalize C ^^^ A=X at hx hxl HM
      go_wp2_with (go_at_call 259;refine (dbl_any _ hA _).mono ?_;rintro e w' ⟨rfl,rfl⟩)
      go_round
      case rel=>exact⟨dbl A,B/2,X,f',hdl,by omega,hxl,HF.out,by have:=HM.out;rw[if_pos H1.out] at this;exact this,rfl,by go_num,rfl⟩
      case measure=>simp[intOf];omega
    · have H1:=Lib.hid h1
      rw[decide_eq_false h1] at hod
      clear h1
      go_wp2_with (go_at_call 259;refine (dbl_any _ hA _).mono ?_;rintro e w' ⟨rfl,rfl⟩)
      go_round
      case rel=>exact⟨dbl A,B/2,C,f',hdl,by omega,hC,HF.out,by have:=HM.out;rw[if_neg H1.out] at this;exact this,rfl,by go_num,rfl⟩
      case measure=>simp[intOf];omega
theorem powGo_zero:∀f a c,powGo f a 0 c=c
 | 0,_,_=>rfl
 | f+1,_,_=>by simp[powGo]
theorem powGo_step {f A n C R:Nat} (hf:n<2 ^ f) (hm:powGo f A n C=R) (hn:n≠0):∃f',n/2<2 ^ f'∧powGo f' (gmul A A) (n/2) (if n%2=1 then gmul C A else C)=R:=by
 cases f with
 | zero=>omega
 | succ f=>
   simp only[powGo,if_neg hn] at hm
   exact⟨f,by rw[Nat.pow_succ] at hf;omega,hm⟩
theorem powGo_lt:∀f a n c,a<256→c<256→powGo f a n c<256
 | 0,a,n,c,ha,hc=>hc
 | f + 1,a,n,c,ha,hc=>by
   simp only[powGo]
   split
   · exact hc
   · refine powGo_lt f _ _ _ (gmul_lt _ ha) ?_
     split
     · exact gmul_lt _ hc
     · exact hc
theorem ginv_lt {a:Nat} (ha:a<256):ginv a<256:=powGo_lt 32 a 254 1 ha (by omega)
theorem odd_u32 (n:Nat) (hn:n<4294967296):(bits BinOp.and IntKind.u32 (n:Int) 1 != 0)=decide (n%2=1):=by
 have e:bits BinOp.and IntKind.u32 (n:Int) 1=((n%2:Nat):Int):=by
  show IntKind.u32.wrap ((BitVec.ofInt 32 (n:Int) &&& BitVec.ofInt 32 1).toNat:Int)=_
  have h1:(BitVec.ofInt 32 1).toNat=2 ^ 1-1:=by decide
  rw[BitVec.toNat_and,h1,Nat.and_two_pow_sub_one_eq_mod,BitVec.ofInt_natCast,BitVec.toNat_ofNat]
  show ((n%2 ^ 32%2 ^ 1:Nat):Int)%4294967296=_
  omega
 rw[e]
 rcases Nat.mod_two_eq_zero_or_one n with h | h <;> rw[h] <;> rfl
set_option maxRecDepth 100000 in
theorem pow_any (a n:Nat) (ha:a<256) (hn:n<4294967296) (w:World):
 Calls Tryz.prog 246 #[.int .u8 (a:Int),.int .u32 (n:Int)] w fun e w'=>e = .returned (.int .u8 (gpow a n:Nat))∧w=w':=by
 generalize hr:gpow a n=R
 have HR:=Lib.hid hr
 clear hr
 go_enter Tryz.func246,Tryz.ntmps246
 go_wp2
 go_loop [0,1,5] (fun x y z=>∃A N C f:Nat,A<256∧N<4294967296∧C<256∧N<2 ^ f∧powGo f A N C=R∧x = .int .u8 A∧y = .int .u32 N∧z = .int .u8 C) (fun _ y _=>(intOf y).toNat)
 case atStart=>exact⟨a,n,1,32,ha,hn,by omega,hn,HR.out,rfl,rfl,rfl⟩
 case round=>
  obtain⟨A,N,C,f,hA,hN,hC,hf,hm,rfl,rfl,rfl⟩:=hrel
  by_cases h0:N=0
  · have HM:=Lib.hid hm
    subst h0
    clear hm hf
    go_wp2
    go_ret
    exact⟨ret_u8 (by rw[←HM.out,powGo_zero]),rfl⟩
  · obtain⟨f',hf',hm'⟩:=powGo_step hf hm h0
    have h0':(0:Int)<(N:Int):=by omega
    have hxl:=gmul_lt A hC
    have hdl:=gmul_lt A hA
    have hod:=odd_u32 N hN
    have HM:=Lib.hid hm'
    have HF:=Lib.hid hf'
    clear hm hm' hf hf'
    by_cases h1:N%2=1
    · have H1:=Lib.hid h1
      rw[decide_eq_true h1] at hod
      clear h1
      go_wp2_with fail
      refine (mul_any C A hC hA _).mono ?_
      rintro e w' ⟨rfl,rfl⟩
      go_wp2_with fail
      refine (mul_any A A hA hA _).mono ?_
      rintro e w' ⟨rfl,rfl⟩
      go_wp2
      go_round
      case rel=>exact⟨gmul A A,N/2,gmul C A,f',hdl,by omega,hxl,HF.out,by have:=HM.out;rw[if_pos H1.out] at this;exact this,rfl,by go_num,rfl⟩
      case measure=>simp[intOf];omega
    · have H1:=Lib.hid h1
      rw[decide_eq_false h1] at hod
      clear h1
      go_wp2_with fail
      refine (mul_any A A hA hA _).mono ?_
      rintro e w' ⟨rfl,rfl⟩
      go_wp2
      go_round
      case rel=>exact⟨gmul A A,N/2,C,f',hdl,by omega,hC,HF.out,by have:=HM.out;rw[if_neg H1.out] at this;exact this,rfl,by go_num,rfl⟩
      case measure=>simp[intOf];omega
set_option maxRecDepth 100000 in
theorem inv_any (a:Nat) (ha:a<256) (w:World):
 Calls Tryz.prog 247 #[.int .u8 (a:Int)] w fun e w'=>e = .returned (.int .u8 (ginv a:Nat))∧w=w':=by
 go_enter Tryz.func247,Tryz.ntmps247
 go_wp2_with fail
 refine (pow_any a 254 ha (by omega) _).mono ?_
 rintro e w' ⟨rfl,rfl⟩
 go_wp2
 go_ret
 exact⟨rfl,rfl⟩
theorem rot_lt {a n:Nat} (ha:a<256):rot a n<256:=or_lt (Nat.mod_lt _ (by omega)) (Nat.lt_of_le_of_lt (Nat.div_le_self _ _) ha)
theorem rot_eq (a n:Nat) (ha:a<256):bits BinOp.or IntKind.u8 ((a:Int)*2 ^ n%256) ((a:Int)/2 ^ (8-n))=((rot a n:Nat):Int):=by
 have h1:(a:Int)*2 ^ n%256=((a*2 ^ n%256:Nat):Int):=by simp
 have h2:(a:Int)/2 ^ (8-n)=((a/2 ^ (8-n):Nat):Int):=by simp
 rw[h1,h2,bits_or_u8 _ _ (Nat.mod_lt _ (by omega)) (Nat.lt_of_le_of_lt (Nat.div_le_self _ _) ha)]
 rfl
set_option maxRecDepth 100000 in
theorem round_any (a:Nat) (n:Nat) (ha:a<256) (h0:1≤n) (h1:n≤7) (w:World):
 Calls Tryz.prog 248 #[.int .u8 (a:Int),.int .i64 (n:Int)] w fun e w'=>e = .returned (.int .u8 (rot a n:Nat))∧∃m,w'=w.drewN m:=by
 have H:=Lib.hid (rot_eq a n ha)
 have hw8:IntKind.i64.wrap (8-(n:Int))=8-(n:Int):=IntWalk.i64_in _ (by omega)
 have h8:(0:Int)≤8-(n:Int):=by omega
 have h9:(8-(n:Int)).toNat=8-n:=by omega
 go_enter Tryz.func248,Tryz.ntmps248
 go_wp2
 go_quiet (fail)
 go_wp2
 go_ret
 exact⟨ret_u8 H.out,_,rfl⟩
set_option maxRecDepth 100000 in
theorem sub_any (a:Nat) (ha:a<256) (w:World):
 Calls Tryz.prog 216 #[.int .u8 (a:Int)] w fun e w'=>e = .returned (.int .u8 (sbox a:Nat))∧∃m,w'=w.drewN m:=by
 have hs:gsub a=sbox a:=gsub_sbox a ha
 unfold gsub at hs
 have hi:=inv_any a ha
 have hil:=ginv_lt ha
 generalize ginv a=b at hs hi hil
 have c1:=round_any b 1 hil (by omega) (by omega)
 have c2:=round_any b 2 hil (by omega) (by omega)
 have c3:=round_any b 3 hil (by omega) (by omega)
 have c4:=round_any b 4 hil (by omega) (by omega)
 have l1:=rot_lt (n:=1) hil
 have l2:=rot_lt (n:=2) hil
 have l3:=rot_lt (n:=3) hil
 have l4:=rot_lt (n:=4) hil
 generalize rot b 1=r1 at hs c1 l1
 generalize rot b 2=r2 at hs c2 l2
 generalize rot b 3=r3 at hs c3 l3
 generalize rot b 4=r4 at hs c4 l4
 have x1:=bits_xor_u8 b r1 hil l1
 have y1:=xor_lt hil l1
 generalize b ^^^ r1=s1 at hs x1 y1
 have x2:=bits_xor_u8 s1 r2 y1 l2
 have y2:=xor_lt y1 l2
 generalize s1 ^^^ r2=s2 at hs x2 y2
 have x3:=bits_xor_u8 s2 r3 y2 l3
 have y3:=xor_lt y2 l3
 generalize s2 ^^^ r3=s3 at hs x3 y3
 have x4:=bits_xor_u8 s3 r4 y3 l4
 have y4:=xor_lt y3 l4
 generalize s3 ^^^ r4=s4 at hs x4 y4
 have x5:bits .xor .u8 (s4:Int) 99=((s4 ^^^ 99:Nat):Int):=bits_xor_u8 s4 99 y4 (by omega)
 have HS:=Lib.hid hs
 have HI:=Lib.hid hi
 have C1:=Lib.hid c1
 have C2:=Lib.hid c2
 have C3:=Lib.hid c3
 have C4:=Lib.hid c4
 clear hs hi c1 c2 c3 c4
 go_enter Tryz.func216,Tryz.ntmps216
 go_wp2_with fail
 refine (HI.out _).mono ?_
 rintro e w' ⟨rfl,rfl⟩
 go_wp2_with fail
 refine (C1.out _).mono ?_
 rintro e w' ⟨rfl,m1,rfl⟩
 go_wp2_with fail
 refine (C2.out _).mono ?_
 rintro e w' ⟨rfl,m2,rfl⟩
 go_wp2_with fail
 refine (C3.out _).mono ?_
 rintro e w' ⟨rfl,m3,rfl⟩
 go_wp2_with fail
 refine (C4.out _).mono ?_
 rintro e w' ⟨rfl,m4,rfl⟩
 go_wp2
 go_ret
 exact⟨ret_u8 (by rw[HS.out]),_,rfl⟩
def bts (l:List Nat):Array Value:=(l.map (fun n:Nat=>Value.int .u8 (n:Int))).toArray
theorem bts_size (l:List Nat):(bts l).size=l.length:=by simp[bts]
theorem bts_get (l:List Nat) (k:Nat) (h:k<l.length):(bts l)[k]? = some (.int .u8 (l[k]?.getD 0:Nat)):=by
 simp[bts,List.getElem?_eq_getElem h]
theorem bts_set (l:List Nat) (k n:Nat):(bts l).setIfInBounds k (.int .u8 (n:Int))=bts (l.set k n):=by
 simp[bts,List.map_set]
theorem bts_one (l:List Nat):(bts l).all (·.oneCell')=true:=by
 simp[bts,Value.oneCell']
theorem bts_extract (l:List Nat) (i j:Nat):(bts l).extract i j=bts ((l.drop i).take (j-i)):=by
 simp[bts,List.map_take,List.map_drop]
theorem bts_list (l:List Nat):(bts l).toList=l.map (fun n:Nat=>Value.int .u8 (n:Int)):=by simp[bts]
def Bk (w:World) (b:Nat) (t:TypeId) (l:List Nat):Prop:=w.heap[b]? = some (.cells (bts l) t (0,0))
section
variable {w w':World} {b:Nat} {t:TypeId} {l:List Nat}
theorem Bk.lt (h:Bk w b t l):b<w.heap.size:=lt_of_block h
theorem Bk.cell (h:Bk w b t l) {k:Nat} (hk:k<l.length):w.cell? ⟨b,k,none⟩=some (.int .u8 (l[k]?.getD 0:Nat)):=by
 rw[cell_of_row w b k _ t (0,0) h,bts_get l k hk]
theorem Bk.free (h:Bk w b t l) (k:Nat):w.frozen? ⟨b,k,none⟩=false:=frozen_of_row w b k _ t h
theorem Bk.set (h:Bk w b t l) (k n:Nat):Bk (w.setCell ⟨b,k,none⟩ (.int .u8 (n:Int))) b t (l.set k n):=by
 have:=heap_setCell_same w b k _ t (.int .u8 (n:Int)) h
 rw[bts_set] at this
 exact this
theorem Bk.far (h:Bk w b t l) {c k:Nat} (hne:b≠c) (u:Value):Bk (w.setCell ⟨c,k,none⟩ u) b t l:=(Below.heap_setCell w ⟨c,k,none⟩ u b hne).trans h
theorem Bk.alloc (h:Bk w b t l) (o:Obj):Bk (w.alloc o) b t l:=(Below.heap_alloc w o b h.lt).trans h
theorem Bk.drew (h:Bk w b t l):Bk w.drew b t l:=h
theorem Bk.drewN (h:Bk w b t l) (n:Nat):Bk (w.drewN n) b t l:=h
theorem Bk.below {B:Nat} (h:Bk w b t l) (hb:Below B w w') (hB:b<B):Bk w' b t l:=(hb.block b hB).trans h
theorem Bk.new (w:World) (t:TypeId) (l:List Nat):Bk (w.alloc (.cells (bts l) t)) w.heap.size t l:=heap_alloc_new w _
theorem Bk.row (h:Bk w b t l) (l':List Nat):Bk (w.setRow b (bts l')) b t l':=setRow_heap w b _ _ t _ h
theorem Bk.rowFar (h:Bk w b t l) {c:Nat} (hne:b≠c) (cs:Array Value):Bk (w.setRow c cs) b t l:=(setRow_other w c b cs hne).trans h
end
theorem Below.row {B:Nat} {a w:World} (h:Below B a w) {g:Nat} (hg:B≤g) (cs:Array Value):Below B a (w.setRow g cs):=
 h.trans ⟨rfl,rfl,rfl,by simp,fun k hk=>setRow_other w g k cs (by omega)⟩
section
variable {P:Program}
theorem wp_loadB {o:Oper} {a:Act} {w:World} {K:Act→World→Prop} {Q:Exit→Act→World→Prop} (ty:TypeId) (x:Operand) (ho:o.op = .load ty x)
 (g:Nat) (hx:a.eval x = .pointer (some ⟨g,0,none⟩)) {t:TypeId} {l:List Nat} (hg:Bk w g t l) {m:Nat} {e:TypeId}
 (hu:P.underlying ty=some (.array m e)) (hi:(P.info? ty).map (·.size)=some l.length)
 (h:K (a.put o.dst (.agg (bts l))) w):o.wp P a w K Q:=
 wp_load_row ty x ho g hx t _ (0,0) _ hg hu rfl (by rw[bts_size];exact hi) h
theorem wpList_loadB {ops:Array Oper} {rest:List Oper} {o:Oper} {a:Act} {w:World} {Q:Exit→Act→World→Prop} (hgd:o.guard=none) (ty:TypeId) (x:Operand) (ho:o.op = .load ty x)
 (g:Nat) (hx:a.eval x = .pointer (some ⟨g,0,none⟩)) {t:TypeId} {l:List Nat} (hg:Bk w g t l) {m:Nat} {e:TypeId}
 (hu:P.underlying ty=some (.array m e)) (hi:(P.info? ty).map (·.size)=some l.length)
 (h:wpList P ops Q rest (a.put o.dst (.agg (bts l))) w):wpList P ops Q (o::rest) a w:=
 wpList_plain hgd fun _ hK=>wp_loadB ty x ho g hx hg hu hi (hK _ _ h)
theorem wp_storeB {o:Oper} {a:Act} {w:World} {K:Act→World→Prop} {Q:Exit→Act→World→Prop} (ty:TypeId) (x y:Operand) (ho:o.op = .store ty x y)
 (g:Nat) (hx:a.eval x = .pointer (some ⟨g,0,none⟩)) (l':List Nat) (hy:a.eval y = .agg (bts l')) {t:TypeId} {l:List Nat} (hg:Bk w g t l)
 (hi:(P.info? ty).map (·.size)=some l'.length) (hl:l.length=l'.length)
 (h:K (a.put o.dst undef) (w.setRow g (bts l'))):o.wp P a w K Q:=by
 have hrun:=run_storeVar_row (P:=P) w g t ty (bts l) (bts l') hg (by rw[bts_size];exact hi) (by rw[bts_size,bts_size];exact hl) (bts_one l')
 unfold Oper.wp execOp
 simp only[ho,hx,hy,Instr.storeAt,Instr.sureAddr,Sem.run_bind,Sem.run_pure,Result.andThen_ok,hrun]
 exact h
theorem wpList_storeB {ops:Array Oper} {rest:List Oper} {o:Oper} {a:Act} {w:World} {Q:Exit→Act→World→Prop} (hgd:o.guard=none) (ty:TypeId) (x y:Operand) (ho:o.op = .store ty x y)
 (g:Nat) (hx:a.eval x = .pointer (some ⟨g,0,none⟩)) (l':List Nat) (hy:a.eval y = .agg (bts l')) {t:TypeId} {l:List Nat} (hg:Bk w g t l)
 (hi:(P.info? ty).map (·.size)=some l'.length) (hl:l.length=l'.length)
 (h:wpList P ops Q rest (a.put o.dst undef) (w.setRow g (bts l'))):wpList P ops Q (o::rest) a w:=
 wpList_plain hgd fun _ hK=>wp_storeB ty x y ho g hx l' hy hg hi hl (hK _ _ h)
theorem results_bts {fn:Func} {p:Tmp} {ty:TypeId} (h:fn.results = #[.cell p ty]) (tmps:Array Value) (w:World) (g:Nat) {t:TypeId} {l:List Nat}
 (hp:tmps.getD p undef = .pointer (some ⟨g,0,none⟩)) (hg:Bk w g t l) {m:Nat} {e:TypeId} (hu:P.underlying ty=some (.array m e)) (hi:(P.info? ty).map (·.size)=some l.length):
 (results fn tmps).run P w = .ok (.agg (bts l)) w:=
 results_cell_row h tmps w g t _ (0,0) _ hp hg hu rfl (by rw[bts_size];exact hi)
end
theorem Bk.newAt {w:World} {n:Nat} (t:TypeId) (l:List Nat) (h:n=w.heap.size):Bk (w.alloc (.cells (bts l) t)) n t l:=by subst h;exact Bk.new w t l
section
variable {P:Program}
theorem run_index_byte (w:World) {t e:TypeId} {n:Nat} {i:TypeInfo} (l:List Nat) (k:Nat) (hu:P.underlying t=some (.array n e)) (he:P.underlying e=some (.int .u8)) (hi:P.info? e=some i) (hs:i.size=1) (hk:k<n) (hl:l.length=n):
 (Instr.index t (.agg (bts l)) (.int .i64 (k:Int))).run P w = .ok (.int .u8 (l[k]?.getD 0:Nat)) w:=by
 have h1:¬((n:Int)≤(k:Int)):=by omega
 have hg:=bts_get l k (by omega)
 have h2:(k:Int)<(n:Int):=by omega
 simp only[Instr.index,asIntOf,Sem.run_bind,Sem.run_pure,Result.andThen_ok,run_underlying hu]
 rw[if_pos ⟨by omega,h2⟩]
 simp[part,isAgg,sizeOf,typeInfo,run_underlying he,hi,hs,hg]
theorem run_index_row (w:World) {t e u:TypeId} {n m:Nat} {i:TypeInfo} (l:List Nat) (k:Nat) (hu:P.underlying t=some (.array n e)) (he:P.underlying e=some (.array m u)) (hi:P.info? e=some i) (hs:i.size=m) (hk:k<n):
 (Instr.index t (.agg (bts l)) (.int .i64 (k:Int))).run P w = .ok (.agg (bts ((l.drop (k*m)).take m))) w:=by
 have h2:(k:Int)<(n:Int):=by omega
 have hx:(bts l).extract (k*m) (k*m+m)=bts ((l.drop (k*m)).take m):=by
  rw[bts_extract,Nat.add_sub_cancel_left]
 simp only[Instr.index,asIntOf,Sem.run_bind,Sem.run_pure,Result.andThen_ok,run_underlying hu]
 rw[if_pos ⟨by omega,h2⟩]
 simp[part,isAgg,sizeOf,typeInfo,run_underlying he,hi,hs,hx]
end
theorem wp_still_tail {P:Program} {id:Nat} {Q:Exit→Act→World→Prop} {a:Act} {w:World} {l:List Oper} (n:Nat) (hm:P.follows .mixedOrders=true) (hB:Region.lexTailB .any l.toArray n=true)
 (h:wpStill P l.toArray w.drew (fun a'=>wpList P l.toArray Q (l.drop n) a' w.drew) (l.take n) a):(Code.region id l.toArray true).wp P Q a w:=
 wp_region_still_tail n hm hB h
theorem same_of {P:Program} {f:FuncId} {args:Array Value} {w:World} {v:Value} (h:Calls P f args w fun e w'=>e = .returned v∧w=w'):Calls P f args w fun e w'=>e = .returned v∧w'=w:=
 h.mono fun _ _ hh=>⟨hh.1,hh.2.symm⟩
def upd (f:Nat→Nat) (s:List Nat) (k:Nat):List Nat:=(List.range s.length).map fun i=>if i<k then f i else s[i]?.getD 0
theorem upd_len (f:Nat→Nat) (s:List Nat) (k:Nat):(upd f s k).length=s.length:=by simp[upd]
theorem upd_zero (f:Nat→Nat) (s:List Nat):upd f s 0=s:=by
 apply List.ext_getElem (by simp[upd])
 intro i h1 h2
 simp[upd,List.getElem?_eq_getElem h2]
theorem upd_get (f:Nat→Nat) (s:List Nat) (k i:Nat) (hi:i<s.length):(upd f s k)[i]?.getD 0=if i<k then f i else s[i]?.getD 0:=by
 simp[upd,hi]
theorem upd_step (f:Nat→Nat) (s:List Nat) (k:Nat) (hk:k<s.length):(upd f s k).set k (f k)=upd f s (k+1):=by
 apply List.ext_getElem (by simp[upd])
 intro i h1 h2
 rw[List.getElem_set]
 simp only[upd,List.getElem_map,List.getElem_range]
 by_cases h:k=i
 · subst h;simp
 · rw[if_neg h]
   have e:(i<k+1)↔(i<k):=by omega
   simp[e]
theorem upd_all (f:Nat→Nat) (s:List Nat):upd f s s.length=(List.range s.length).map f:=by
 unfold upd
 refine List.map_congr_left fun i hi=>?_
 rw[if_pos (by simpa using hi)]
end Go.Proofs.YtlobgddnlnffbaaGreat
