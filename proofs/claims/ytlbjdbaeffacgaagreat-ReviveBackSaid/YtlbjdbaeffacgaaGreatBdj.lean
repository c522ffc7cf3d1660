/-
  Parts of the proof, joined.
-/
import Derived.Test.YtlbjdbaeffacgaaGreatBdi
import Derived.Maps.AppendAt
import Derived.Laws.OwnMore
import Derived.BigQuiet
import Derived.Test.YtlbjdbaeffacgaaGreatBda
import Derived.Deep.Slices
import Derived.OpenShut
import Derived.Test.YtlbjdbaeffacgaaGreatBdd
import Derived.ChangeSame
import Derived.ChangeSlices
import Derived.Test.YtlbjdbaeffacgaaGreatBdh
namespace Go.Proofs.YtlbjdbaeffacgaaGreat
set_option maxHeartbeats 4000000
open Go.RowKit
set_option linter.unusedVariables false
theorem below_grownR {B:Nat} {a b c:World} {r:Option Nat} (h:Below B a b) (k:b.grownBy c r) (hr:∀g,r=some g→B≤g) (hs:B≤b.heap.size):Below B a c:=h.trans ⟨k.os,k.tape,k.output,k.size,fun i hi=>k.block i (by omega) (fun e=>by have:=hr i e.symm;omega)⟩
abbrev RnL:=List (Nat×Nat)
def runVs:RnL→List Value
 | []=>[]
 | r::l=>.int .u32 (r.1:Int) :: .int .u32 (r.2:Int)::runVs l
theorem runVs_len:∀l,(runVs l).length=l.length*2
 | []=>rfl
 | r::l=>by simp only[runVs,List.length_cons,runVs_len l];omega
theorem runVs_app:∀a b,runVs (a++b)=runVs a++runVs b
 | [],b=>rfl
 | r::l,b=>by simp[runVs,runVs_app l b]
theorem runVs_at:∀(l:RnL) (i:Nat) (r:Nat×Nat),l[i]? = some r→(runVs l)[i*2]? = some (.int .u32 (r.1:Int))∧(runVs l)[i*2+1]? = some (.int .u32 (r.2:Int))
 | [],i,r,h=>by simp at h
 | t::l,0,r,h=>by
   simp only[List.getElem?_cons_zero,Option.some.injEq] at h
   subst h
   exact⟨rfl,rfl⟩
 | t::l,i+1,r,h=>by
   have:=runVs_at l i r (by simpa using h)
   rw[show (i+1)*2=i*2+1+1 by omega]
   simpa[runVs] using this
theorem runVs_take:∀(l:RnL) (m:Nat),(runVs l).take (m*2)=runVs (l.take m)
 | [],m=>by simp[runVs]
 | r::l,0=>by simp[runVs]
 | r::l,m+1=>by
   rw[show (m+1)*2=m*2+1+1 by omega]
   simp[runVs,runVs_take l m]
theorem runVs_drop:∀(l:RnL) (m:Nat),(runVs l).drop (m*2)=runVs (l.drop m)
 | [],m=>by simp[runVs]
 | r::l,0=>by simp[runVs]
 | r::l,m+1=>by
   rw[show (m+1)*2=m*2+1+1 by omega]
   simp[runVs,runVs_drop l m]
theorem runVs_one (l:RnL):∀u∈runVs l,u.oneCell'=true:=by
 induction l with
 | nil=>intro u hu;cases hu
 | cons r l ih=>
   intro u hu
   simp only[runVs,List.mem_cons] at hu
   rcases hu with rfl | rfl | hu
   · rfl
   · rfl
   · exact ih u hu
theorem addr_zero (x:Addr):x.add 0=x:=by
 have h:=add_zero' (some x)
 simpa using h
structure RnB (w:World) (A:Option Addr) (n c:Nat) (l:RnL):Prop where
 len:l.length=n
 cap:n≤c
 max:c≤maxLen
 cel:0<n→∃x,A=some x∧x.block<w.heap.size∧∀(j:Nat) (u:Value),(runVs l)[j]? = some u→w.cell? (x.add j)=some u
 nil:A=none→c=0
section
variable {w w':World} {A:Option Addr} {n c:Nat} {l:RnL}
theorem RnB.ab (h:RnB w A n c l) (hb:Below w.heap.size w w'):RnB w' A n c l:=
 ⟨h.len,h.cap,h.max,fun h0=>by
  obtain⟨x,h1,h2,h3⟩:=h.cel h0
  exact⟨x,h1,Nat.lt_of_lt_of_le h2 hb.size,fun j u hu=>by rw[←h3 j u hu];exact World.cell?_of_block (hb.block _ (by rw[add_block];exact h2))⟩,h.nil⟩
theorem RnB.take (h:RnB w A n c l) {m:Nat} (hm:m≤n):RnB w A m c (l.take m):=by
 refine⟨by have:=h.len;rw[List.length_take];omega,Nat.le_trans hm h.cap,h.max,fun h0=>?_,h.nil⟩
 obtain⟨x,h1,h2,h3⟩:=h.cel (by omega)
 refine⟨x,h1,h2,fun j u hu=>h3 j u ?_⟩
 rw[←runVs_take,List.getElem?_take] at hu
 split at hu
 · exact hu
 · cases hu
def dropR2 (A:Option Addr) (c m:Nat):Option Addr:=if c=m then A else A.map (·.add (m*2))
theorem RnB.drop (h:RnB w A n c l) {m:Nat} (hm:m≤n):RnB w (dropR2 A c m) (n-m) (c-m) (l.drop m):=by
 have hc:=h.cap
 refine⟨by have:=h.len;rw[List.length_drop];omega,by omega,by have:=h.max;omega,fun h0=>?_,fun hA=>?_⟩
 · obtain⟨x,rfl,h2,h3⟩:=h.cel (by omega)
   unfold dropR2
   rw[if_neg (by omega)]
   refine⟨x.add (m*2),rfl,by rw[add_block];exact h2,fun j u hu=>?_⟩
   rw[←runVs_drop,List.getElem?_drop] at hu
   rw[Go.Deep.add_add]
   exact h3 _ _ hu
 · unfold dropR2 at hA
   split at hA
   · omega
   · cases A with
     | none=>have:=h.nil rfl;omega
     | some x=>cases hA
theorem RnB.nilB (w:World):RnB w none 0 0 []:=⟨rfl,Nat.le_refl _,Nat.zero_le _,fun h=>absurd h (Nat.lt_irrefl 0),fun _=>rfl⟩
theorem RnB.at (h:RnB w A n c l) {i:Nat} {r:Nat×Nat} (hr:l[i]? = some r):∃x,A=some x∧x.block<w.heap.size∧∀W,Below w.heap.size w W→W.cell? (x.add (i*2))=some (.int .u32 (r.1:Int))∧W.cell? ⟨(x.add (i*2)).block,(x.add (i*2)).off+1,none⟩=some (.int .u32 (r.2:Int)):=by
 have hi:=(List.getElem?_eq_some_iff.1 hr).1
 have hlen:=h.len
 obtain⟨x,h1,h2,_⟩:=h.cel (by omega)
 refine⟨x,h1,h2,fun W hW=>?_⟩
 obtain⟨x',h1',_,h3⟩:=(h.ab hW).cel (by omega)
 rw[h1] at h1'
 injection h1' with h1'
 subst h1'
 obtain⟨a,b⟩:=runVs_at l i r hr
 refine⟨h3 _ _ a,?_⟩
 have:=h3 _ _ b
 rw[←Go.Deep.add_add] at this
 exact this
end
def RuB (w:World) (B:Nat) (v:Value) (l:RnL):Prop:=w.ownsRow B 42 2 v l.length (runVs l)
theorem RuB.rn {w:World} {B:Nat} {v:Value} {l:RnL} (h:RuB w B v l):∃A c,v = .slice A l.length c∧RnB w A l.length c l∧(∀x,A=some x→B≤x.block∧v.ownBlock=some x.block):=by
 rcases h.2 with ⟨rfl,h0⟩ | ⟨g,cap,cur,rfl,hg,hh,hnc,hcm,hcs,htk⟩
 · have hl:l=[]:=List.eq_nil_of_length_eq_zero h0
   subst hl
   exact⟨none,0,rfl,RnB.nilB w,fun x hx=>by cases hx⟩
 · refine⟨_,cap,rfl,⟨rfl,hnc,hcm,fun _=>⟨_,rfl,(Array.getElem?_eq_some_iff.1 hh).1,fun j u hu=>World.ownsRow.cells h (g:=g) rfl j u hu⟩,fun hx=>(by cases hx)⟩,fun x hx=>?_⟩
   injection hx with hx
   subst hx
   exact⟨hg,rfl⟩
theorem RuB.ab {w w':World} {B:Nat} {v:Value} {l:RnL} (h:RuB w B v l) (hb:Below w.heap.size w w'):RuB w' B v l:=World.ownsRow.kept (row:=none) h (grown_of hb none) (by cases hv:v.ownBlock <;> simp)
theorem RuB.nil (w:World) (B:Nat):RuB w B (.slice none 0 0) []:=World.ownsRow_nil _ _ _ _
theorem RuB.lower {w:World} {B B':Nat} {v:Value} {l:RnL} (h:RuB w B v l) (hB:B'≤B):RuB w B' v l:=row_low h hB
theorem infoRun:(Tryz.prog.info? 42).map (fun i=>(i.zero,i.size,i.bytes))=some (some (.agg #[.int .u32 0,.int .u32 0]),2,8):=by kernel_rfl
theorem runR_elem:Tryz.prog.underlying 43=some (.slice (Tryz.prog.elem 43)):=by kernel_rfl
theorem runR_size (W:World):(sizeOf (Tryz.prog.elem 43)).run Tryz.prog W = .ok 2 W:=by
 have h:(Tryz.prog.info? (Tryz.prog.elem 43)).map (·.size)=some 2:=by kernel_rfl
 cases hq:Tryz.prog.info? (Tryz.prog.elem 43) with
 | none=>rw[hq] at h;cases h
 | some i=>rw[hq] at h;simp only[Option.map_some,Option.some.injEq] at h;simp[sizeOf,typeInfo,hq,h]
set_option maxRecDepth 100000 in
theorem sl_fromR (W:World) (A:Option Addr) (n c m:Nat) (hm:m≤n):(Instr.sliceAt 43 (.slice A n c) (some (.int .i64 (m:Int))) none none).run Tryz.prog W = .ok (.slice (dropR2 A c m) (n-m) (c-m)) W:=by
 rw[run_sliceAt_slice W _ _ _ _ _ runR_elem,run_slice_l W _ _ _ _ runR_elem .i64 (m:Int) (by omega) (by omega),runR_size]
 simp only[Result.andThen_ok,sliced,Int.toNat_natCast]
 unfold dropR2
 rfl
set_option maxRecDepth 100000 in
theorem sl_uptoR (W:World) (A:Option Addr) (n c m:Nat) (hm:m≤c):(Instr.sliceAt 43 (.slice A n c) none (some (.int .i64 (m:Int))) none).run Tryz.prog W = .ok (.slice A m c) W:=by
 rw[run_sliceAt_slice W _ _ _ _ _ runR_elem,run_slice_h W _ _ _ _ runR_elem .i64 (m:Int) (by omega) (by omega),runR_size]
 simp only[Result.andThen_ok,sliced,Nat.zero_mul,Int.toNat_natCast,Nat.sub_zero,add_zero',ite_self]
set_option maxRecDepth 100000 in
theorem wpList_appR {rest:List Oper} {ops:Array Oper} {o:Oper} {a:Act} {w:World} {Q:Exit→Act→World→Prop} (hgd:o.guard=none) (s x:Operand)
 (ho:o.op = .call { callee:=.builtin .append,args:=#[s,x],argTypes:=#[43,43] })
 {B:Nat} {v:Value} {l m:RnL} (hown:RuB w B v l) (hs:a.eval s=v) {A:Option Addr} {n c:Nat} (hx:a.eval x = .slice A n c) (hr:RnB w A n c m) (hl:l.length+n≤1000000) (hB:B≤w.heap.size)
 (h:∀v' w',RuB w' B v' (l++m)→w.grownBy w' v.ownBlock→wpList Tryz.prog ops Q rest (a.put o.dst v') w'):wpList Tryz.prog ops Q (o::rest) a w:=by
 obtain⟨i0,hi0,hz0,hz1,hz2⟩:=info_parts infoRun
 have hlen:=hr.len
 have hap:∃v' w',(Builtin.append_ #[43,43] o.type #[v,.slice A n c]).run Tryz.prog w = .ok v' w'∧RuB w' B v' (l++m)∧w.grownBy w' v.ownBlock:=by
  cases A with
  | none=>
    have hc:=hr.nil rfl
    have hcap:=hr.cap
    have hn0:n=0:=by omega
    have hm0:m=[]:=List.eq_nil_of_length_eq_zero (by omega)
    subst hc hn0 hm0
    exact⟨v,w,run_append_owned_none (P:=Tryz.prog) w B 43 o.type 42 i0 2 Tryz.underlying43 hi0 v _ _ hown,by simpa using hown,World.grownBy.refl w _⟩
  | some y=>
    have hcells:∀j u,(runVs m)[j]? = some u→w.cell? (y.add j)=some u:=fun j u hu=>by
     have hj:=(List.getElem?_eq_some_iff.1 hu).1
     rw[runVs_len] at hj
     obtain⟨x,h1,_,h3⟩:=hr.cel (by omega)
     injection h1 with h1
     subst h1
     exact h3 j u hu
    obtain⟨v1,W1,hrun,r1,r2,_⟩:=run_append_own_at (P:=Tryz.prog) w B 43 o.type 42 i0 _ 2 8 Tryz.underlying43 hi0 hz0 hz1 hz2 rfl (by decide) v l.length (runVs l) hown y n c (runVs m) (by rw[runVs_len,hlen]) hcells (runVs_one m) (by simp only[maxLen];omega) (by omega) hB
    refine⟨v1,W1,hrun,?_,r2⟩
    unfold RuB
    rw[runVs_app,List.length_append,hlen]
    exact r1
 obtain⟨v',w',hrun,h1,h2⟩:=hap
 refine wpList_plain hgd fun K hK=>?_
 unfold Oper.wp execOp
 simp only[ho,resolve,invoke,builtin,Sem.run_bind,Sem.run_pure,Result.andThen_ok,List.map_toArray,List.map_cons,List.map_nil,hs,hx,hrun]
 exact hK _ _ (h v' w' h1 h2)
set_option maxRecDepth 100000 in
theorem RuB.one (w:World) (a b:Nat):RuB (w.alloc (.cells #[.int .u32 (a:Int),.int .u32 (b:Int)] 42)) w.heap.size (.slice (some ⟨w.heap.size,0,none⟩) 1 1) [(a,b)]:=by
 refine⟨by simp[runVs],.inr ⟨w.heap.size,1,#[.int .u32 (a:Int),.int .u32 (b:Int)],rfl,Nat.le_refl _,heap_alloc_new w _,Nat.le_refl _,by decide,rfl,rfl⟩⟩
set_option maxRecDepth 100000 in
theorem RuB.empty (w:World):RuB (w.alloc (.cells #[] 42)) w.heap.size (.slice (some ⟨w.heap.size,0,none⟩) 0 0) []:=by
 refine⟨by simp[runVs],.inr ⟨w.heap.size,0,#[],rfl,Nat.le_refl _,heap_alloc_new w _,Nat.le_refl _,by decide,rfl,rfl⟩⟩
def mkR (a b:Nat):RnL:=if a<b then [(a,b)] else []
def rightI (l:RnL) (i:Nat):Bool:=decide ((l.getD i (0,0)).1<(l.getD i (0,0)).2)&&(decide (i=0)||decide ((l.getD (i-1) (0,0)).2<(l.getD i (0,0)).1))
def rightR (l:RnL):Bool:=(List.range l.length).all (rightI l)
def placeR (l:RnL) (p:Nat):Nat:=l.findIdx fun r=>decide (p<r.2)
set_option maxRecDepth 100000 in
theorem make_any (a b:Nat) (w:World):Calls Tryz.prog 64 #[.int .u32 (a:Int),.int .u32 (b:Int)] w fun e w'=>∃v,e = .returned v∧RuB w' w.heap.size v (mkR a b)∧Below w.heap.size w w':=by
 unfold mkR
 by_cases h:a<b
 · have h1:¬(b:Int)≤(a:Int):=by omega
   rw[if_pos h]
   clear h
   go_enter Tryz.func64,Tryz.ntmps64
   go_wp2_with fail
   go_ret
   exact⟨_,rfl,RuB.one w a b,(Below.refl _ _).alloc (Nat.le_refl _) _⟩
 · have h1:(b:Int)≤(a:Int):=by omega
   rw[if_neg h]
   clear h
   go_enter Tryz.func64,Tryz.ntmps64
   go_wp2_with fail
   go_ret
   exact⟨_,rfl,RuB.nil w _,Below.refl _ _⟩
theorem all_snoc {l:RnL} {i:Nat} (h:(List.range i).all (rightI l)=true) (h2:rightI l i=true):(List.range (i+1)).all (rightI l)=true:=by
 rw[List.range_succ,List.all_append,h]
 simp[h2]
theorem all_not {l:RnL} {i:Nat} (hi:i<l.length) (h2:rightI l i=false):rightR l=false:=by
 unfold rightR
 rw[List.all_eq_false]
 exact⟨i,List.mem_range.2 hi,by rw[h2];decide⟩
set_option maxRecDepth 100000 in
theorem right_any' (A:Option Addr) (n c:Nat) (l:RnL) (w:World) (h:RnB w A n c l):
 Calls Tryz.prog 29 #[.slice A n c] w fun e w'=>e = .returned (.bool (rightR l))∧Below w.heap.size w w':=by
 have hn:(n:Int)≤9223372036854775807:=by have:=h.cap;have:=h.max;unfold maxLen at this;omega
 have HR:=Lib.hid h
 clear h
 go_enter Tryz.func29,Tryz.ntmps29
 go_wp2_with fail
 go_loopw [7] (fun z wx=>∃i:Nat,i≤n∧z = .int .i64 (i:Int)∧(List.range i).all (rightI l)=true∧Below w.heap.size w wx) (fun z _=>n-(intOf z).toNat)
 case atStart=>exact⟨0,Nat.zero_le _,rfl,rfl,Below.refl _ _⟩
 case round=>
  obtain⟨i,hi,rfl,hal,hb⟩:=hrel
  have HB:=Lib.hid hb
  have HA:=Lib.hid hal
  clear hb hal
  by_cases hlt:i<n
  · obtain⟨r,hr⟩:∃r,l[i]? = some r:=⟨_,List.getElem?_eq_getElem (by rw[HR.out.len];exact hlt)⟩
    obtain⟨x,rfl,hxl,hcel⟩:=HR.out.at hr
    have hlti:(i:Int)<(n:Int):=by omega
    have HLT:=Lib.hid hlt
    have HL:Hid (i<l.length):=Lib.hid (by rw[HR.out.len];exact hlt)
    have hgd:l.getD i (0,0)=r:=by rw[List.getD_eq_getElem?_getD,hr];rfl
    have KC:=Lib.hid hcel
    have BA:Hid (Below w.heap.size w (wr.alloc (.cells #[.int .u32 (r.1:Int),.int .u32 (r.2:Int)] 42))):=Lib.hid (HB.out.alloc HB.out.size _)
    have hq:rightI l i=(decide (r.1<r.2)&&(decide (i=0)||decide ((l.getD (i-1) (0,0)).2<r.1))):=by unfold rightI;rw[hgd]
    have HQ:=Lib.hid hq
    have HRI:=Lib.hid hr
    have r0:wr.cell? (x.add (i*2))=some (.int .u32 (r.1:Int)):=(KC.out _ HB.out).1
    have r1:wr.cell? ⟨(x.add (i*2)).block,(x.add (i*2)).off+1,none⟩=some (.int .u32 (r.2:Int)):=(KC.out _ HB.out).2
    clear hlt hi hr hxl hcel hgd hq
    by_cases h1:r.1<r.2
    · have e1:decide (r.2≤r.1)=false:=decide_eq_false (by omega)
      have E1:=Lib.hid h1
      clear h1
      by_cases h0:i=0
      · subst h0
        simp only[Nat.zero_mul,addr_zero] at r0 r1
        have hs:Hid ((List.range (0+1)).all (rightI l)=true):=Lib.hid (all_snoc HA.out (by rw[HQ.out];simp[E1.out]))
        go_wp2_with fail
        go_quiet (fail)
        go_wp2_with fail
        go_roundw
        case rel=>exact⟨0+1,HLT.out,by go_num,hs.out,below_dn BA.out _⟩
        case measure=>simp[intOf];have:=HLT.out;omega
      · obtain⟨j,rfl⟩:∃j,i=j+1:=⟨i-1,by omega⟩
        have hi0:(0:Int)<(j:Int)+1:=by omega
        have hi1:decide ((0:Int)<(j:Int)+1)=true:=decide_eq_true hi0
        have hsub:(j:Int)+1-1=(j:Int):=by omega
        have hjw:IntKind.i64.wrap (j:Int)=(j:Int):=by rw[IntWalk.i64_in _ (by omega)]
        have hjn:(j:Int)<(n:Int):=by omega
        obtain⟨q,hq⟩:∃q,l[j]? = some q:=⟨_,List.getElem?_eq_getElem (by have:=HL.out;omega)⟩
        obtain⟨x',hx',_,hcq⟩:=HR.out.at hq
        injection hx' with hx'
        subst hx'
        have hg2:l.getD j (0,0)=q:=by rw[List.getD_eq_getElem?_getD,hq];rfl
        have HQ2:Hid (rightI l (j+1)=decide (q.2<r.1)):=Lib.hid (by rw[HQ.out,Nat.add_sub_cancel,hg2];simp[E1.out])
        have q1:(wr.alloc (.cells #[.int .u32 (r.1:Int),.int .u32 (r.2:Int)] 42)).cell? ⟨(x.add (j*2)).block,(x.add (j*2)).off+1,none⟩=some (.int .u32 (q.2:Int)):=(hcq _ BA.out).2
        clear h0 hq hcq hg2
        by_cases h2:q.2<r.1
        · have e2:decide (r.1≤q.2)=false:=decide_eq_false (by omega)
          have hs:Hid ((List.range (j+1+1)).all (rightI l)=true):=Lib.hid (all_snoc HA.out (by rw[HQ2.out];simp[h2]))
          clear h2
          go_wp2_with fail
          go_quiet (fail)
          go_wp2_with fail
          go_roundw
          case rel=>exact⟨j+1+1,HLT.out,by go_num,hs.out,below_dn BA.out _⟩
          case measure=>simp[intOf];have:=HLT.out;omega
        · have e2:decide (r.1≤q.2)=true:=decide_eq_true (by omega)
          have hs:Hid (rightR l=false):=Lib.hid (all_not HL.out (by rw[HQ2.out];simp[h2]))
          clear h2
          go_wp2_with fail
          go_quiet (fail)
          go_wp2_with fail
          go_ret
          exact⟨by rw[hs.out];rfl,below_dn BA.out _⟩
    · have e1:decide (r.2≤r.1)=true:=decide_eq_true (by omega)
      have hs:Hid (rightR l=false):=Lib.hid (all_not HL.out (by rw[HQ.out];simp[h1]))
      clear h1
      go_wp2_with fail
      go_quiet (fail)
      go_wp2_with fail
      go_ret
      exact⟨by rw[hs.out];rfl,below_dn BA.out _⟩
  · obtain rfl:i=n:=by omega
    have hs:Hid (rightR l=true):=Lib.hid (by unfold rightR;rw[HR.out.len];exact HA.out)
    clear hlt hi
    go_wp2_with fail
    go_ret
    exact⟨by rw[hs.out];rfl,HB.out⟩
set_option maxRecDepth 100000 in
theorem place_any (A:Option Addr) (n c p:Nat) (l:RnL) (w:World) (h:RnB w A n c l):
 Calls Tryz.prog 89 #[.slice A n c,.int .u32 (p:Int)] w fun e w'=>e = .returned (.int .i64 (placeR l p:Int))∧Below w.heap.size w w':=by
 have hn:(n:Int)≤9223372036854775807:=by have:=h.cap;have:=h.max;unfold maxLen at this;omega
 have HR:=Lib.hid h
 clear h
 go_enter Tryz.func89,Tryz.ntmps89
 go_wp2_with fail
 go_loopw [9] (fun z wx=>∃i:Nat,i≤n∧z = .int .i64 (i:Int)∧(∀j r,j<i→l[j]? = some r→¬p<r.2)∧Below w.heap.size w wx) (fun z _=>n-(intOf z).toNat)
 case atStart=>exact⟨0,Nat.zero_le _,rfl,fun j r hj=>absurd hj (Nat.not_lt_zero j),Below.refl _ _⟩
 case round=>
  obtain⟨i,hi,rfl,hal,hb⟩:=hrel
  have HB:=Lib.hid hb
  have HA:=Lib.hid hal
  clear hb hal
  by_cases hlt:i<n
  · obtain⟨r,hr⟩:∃r,l[i]? = some r:=⟨_,List.getElem?_eq_getElem (by rw[HR.out.len];exact hlt)⟩
    obtain⟨x,rfl,hxl,hcel⟩:=HR.out.at hr
    have hlti:(i:Int)<(n:Int):=by omega
    have HLT:=Lib.hid hlt
    have HRI:=Lib.hid hr
    have BA:Hid (Below w.heap.size w (wr.alloc (.cells #[.int .u32 (r.1:Int),.int .u32 (r.2:Int)] 42))):=Lib.hid (HB.out.alloc HB.out.size _)
    have r0:wr.cell? (x.add (i*2))=some (.int .u32 (r.1:Int)):=(hcel _ HB.out).1
    have r1:wr.cell? ⟨(x.add (i*2)).block,(x.add (i*2)).off+1,none⟩=some (.int .u32 (r.2:Int)):=(hcel _ HB.out).2
    clear hlt hi hr hxl hcel
    by_cases h1:p<r.2
    · have e1:(p:Int)<(r.2:Int):=by omega
      have hs:Hid (placeR l p=i):=Lib.hid (by
       have hil:=(List.getElem?_eq_some_iff.1 HRI.out).1
       have hie:=(List.getElem?_eq_some_iff.1 HRI.out).2
       unfold placeR
       rw[List.findIdx_eq hil]
       refine⟨by rw[hie];exact decide_eq_true h1,fun j hj=>?_⟩
       exact decide_eq_false (HA.out j _ hj (List.getElem?_eq_getElem (by omega))))
      clear h1
      go_wp2_with fail
      go_ret
      exact⟨by rw[hs.out];rfl,BA.out⟩
    · have e1:¬(p:Int)<(r.2:Int):=by omega
      have hs:Hid (∀j r,j<i+1→l[j]? = some r→¬p<r.2):=Lib.hid fun j r' hj hr'=>by
       by_cases hji:j=i
       · subst hji
         rw[HRI.out] at hr'
         injection hr' with hr'
         subst hr'
         exact h1
       · exact HA.out j r' (by omega) hr'
      clear h1
      go_wp2_with fail
      go_roundw
      case rel=>exact⟨i+1,HLT.out,by go_num,hs.out,BA.out⟩
      case measure=>simp[intOf];have:=HLT.out;omega
  · obtain rfl:i=n:=by omega
    have hs:Hid (placeR l p=i):=Lib.hid (by
     unfold placeR
     rw[←HR.out.len]
     refine List.findIdx_eq_length.2 fun r hr=>?_
     obtain⟨j,hj,he⟩:=List.getElem_of_mem hr
     exact decide_eq_false (HA.out j r (by have:=HR.out.len;omega) (by rw[List.getElem?_eq_getElem hj,he])))
    clear hlt hi
    go_wp2_with fail
    go_ret
    exact⟨by rw[hs.out];rfl,HB.out⟩
def hasR (l:RnL) (p:Nat):Bool:=decide (placeR l p<l.length)&&decide ((l.getD (placeR l p) (0,0)).1≤p)
theorem placeR_le (l:RnL) (p:Nat):placeR l p≤l.length:=List.findIdx_le_length
set_option maxRecDepth 100000 in
theorem has_any' (A:Option Addr) (n c p:Nat) (l:RnL) (w:World) (h:RnB w A n c l) (hr:rightR l=true):
 Calls Tryz.prog 79 #[.slice A n c,.int .u32 (p:Int)] w fun e w'=>e = .returned (.tuple #[.bool (hasR l p),.int .i64 0])∧Below w.heap.size w w':=by
 have HL:=Lib.hid h.len
 have H0:=Lib.hid h
 have H1:=Lib.hid (right_any' A n c l w h)
 rw[hr] at H1
 have H2:=Lib.hid fun W hW=>place_any A n c p l W hW
 have hple:=placeR_le l p
 have hd:Hid (hasR l p=(decide (placeR l p<n)&&decide ((l.getD (placeR l p) (0,0)).1≤p))):=Lib.hid (by unfold hasR;rw[h.len])
 have hget:placeR l p<n→∃r,l[placeR l p]? = some r∧l.getD (placeR l p) (0,0)=r:=fun hlt=>by
  obtain⟨r,hr⟩:∃r,l[placeR l p]? = some r:=⟨_,List.getElem?_eq_getElem (by rw[HL.out];exact hlt)⟩
  exact⟨r,hr,by rw[List.getD_eq_getElem?_getD,hr];rfl⟩
 generalize placeR l p=i at *
 rw[HL.out] at hple
 by_cases hlt:i<n
 · obtain⟨r,hri,hgd⟩:=hget hlt
   rw[hgd,decide_eq_true hlt,Bool.true_and] at hd
   obtain⟨x,rfl,hxl,hcel⟩:=h.at hri
   have KC:=Lib.hid hcel
   have hlti:(i:Int)<(n:Int):=by omega
   have HD:=hd
   clear h hr hple hget hgd hri hlt hcel hxl
   go_enter Tryz.func79,Tryz.ntmps79
   go_wp2_with fail
   refine H1.out.mono ?_
   rintro e w1 ⟨rfl,hb1⟩
   have B1:=Lib.hid hb1
   clear hb1
   go_wp2_with fail
   refine (H2.out _ (H0.out.ab B1.out)).mono ?_
   rintro e w2 ⟨rfl,hb2⟩
   have B2:=Lib.hid (below_tr B1.out hb2 B1.out.size)
   clear hb2 H1 H2
   have r0:=(KC.out _ B2.out).1
   go_wp2_with fail
   go_ret2
   exact⟨by rw[HD.out];simp,B2.out⟩
 · obtain rfl:i=n:=by omega
   have HD:Hid (hasR l p=false):=Lib.hid (by rw[hd.out];simp)
   clear h hr hple hget hd hlt
   go_enter Tryz.func79,Tryz.ntmps79
   go_wp2_with fail
   refine H1.out.mono ?_
   rintro e w1 ⟨rfl,hb1⟩
   have B1:=Lib.hid hb1
   clear hb1
   go_wp2_with fail
   refine (H2.out _ (H0.out.ab B1.out)).mono ?_
   rintro e w2 ⟨rfl,hb2⟩
   have B2:=Lib.hid (below_tr B1.out hb2 B1.out.size)
   clear hb2 H1 H2
   go_wp2_with fail
   go_ret2
   exact⟨by rw[HD.out];rfl,B2.out⟩
def dropP (l:RnL) (p:Nat):RnL:=l.take (placeR l p)++mkR (l.getD (placeR l p) (0,0)).1 p++mkR (p+1) (l.getD (placeR l p) (0,0)).2++l.drop (placeR l p+1)
theorem mkR_le (a b:Nat):(mkR a b).length≤1:=by unfold mkR;split <;> simp
set_option maxRecDepth 100000 in
theorem drop_ok (A:Option Addr) (n c p:Nat) (l:RnL) (w:World) (h:RnB w A n c l) (hr:rightR l=true) (hh:hasR l p=true) (hok:∀r∈l,r.2<4294967296) (hn:n≤100000):
 Calls Tryz.prog 65 #[.slice A n c,.int .u32 (p:Int)] w fun e w'=>∃v,e = .returned (.tuple #[v,.int .i64 0])∧RuB w' w.heap.size v (dropP l p)∧Below w.heap.size w w':=by
 have HL:=Lib.hid h.len
 have H0:=Lib.hid h
 have H1:=Lib.hid (has_any' A n c p l w h hr)
 rw[hh] at H1
 have H2:=Lib.hid fun W hW=>place_any A n c p l W hW
 have HD:Hid (dropP l p=l.take (placeR l p)++mkR (l.getD (placeR l p) (0,0)).1 p++mkR (p+1) (l.getD (placeR l p) (0,0)).2++l.drop (placeR l p+1)):=Lib.hid rfl
 have hlt:placeR l p<n:=by
  unfold hasR at hh
  rw[Bool.and_eq_true,decide_eq_true_eq] at hh
  rw[←HL.out];exact hh.1
 have hpr:∀r,l[placeR l p]? = some r→p<r.2:=fun r hr=>by
  have h1:=(List.getElem?_eq_some_iff.1 hr).1
  have h2:=(List.getElem?_eq_some_iff.1 hr).2
  have:=List.findIdx_getElem (p:=fun r:Nat×Nat=>decide (p<r.2)) (xs:=l) (w:=h1)
  rw[decide_eq_true_eq] at this
  change p<(l[placeR l p]).2 at this
  rw[h2] at this
  exact this
 generalize placeR l p=i at *
 obtain⟨r,hri⟩:∃r,l[i]? = some r:=⟨_,List.getElem?_eq_getElem (by rw[HL.out];exact hlt)⟩
 have hgd:l.getD i (0,0)=r:=by rw[List.getD_eq_getElem?_getD,hri];rfl
 rw[hgd] at HD
 have hp2:=hpr r hri
 have hr2:=hok r (List.mem_of_getElem? hri)
 obtain⟨x,rfl,hxl,hcel⟩:=h.at hri
 have KC:=Lib.hid hcel
 have HM:=Lib.hid (Nat.le_of_lt hlt)
 have HI:=Lib.hid hlt
 have HN:=Lib.hid hn
 have hlti:(i:Int)<(n:Int):=by omega
 have hnb:(n:Int)≤100000:=by omega
 have hwp:IntKind.u32.wrap ((p:Int)+1)=((p+1:Nat):Int):=wrap_u32 _ (by omega) (by omega)
 have hcap:=h.cap
 have hsu:=fun W=>sl_uptoR W (some x) n c i (by omega)
 have hsf:=fun W=>sl_fromR W (some x) n c (i+1) (by omega)
 rw[show ((i+1:Nat):Int)=(i:Int)+1 from by omega] at hsf
 clear h hr hh hok hn hpr hgd hri hlt hcel hxl hcap
 go_enter Tryz.func65,Tryz.ntmps65
 go_wp2_with fail
 refine H1.out.mono ?_
 rintro e w1 ⟨rfl,hb1⟩
 have B1:=Lib.hid hb1
 clear hb1
 go_wp2_with fail
 refine (H2.out _ (H0.out.ab B1.out)).mono ?_
 rintro e w2 ⟨rfl,hb2⟩
 have B2:=Lib.hid (below_tr B1.out hb2 B1.out.size)
 have A2:=Lib.hid (B2.out.alloc B2.out.size (.cells #[] 42))
 clear hb2 H1 H2 B1
 go_wp2_with (first
  | (refine wpList_appR rfl (.tmp 26) (.tmp 29) rfl ((RuB.empty _).lower B2.out.size) rfl rfl ((H0.out.ab A2.out).take HM.out) (by have:=HM.out;have:=HN.out;simp;omega) A2.out.size ?_
     intro v3 w3 hv3 hg3
     have V3:Hid (RuB w3 w.heap.size v3 (l.take i)):=Lib.hid (by simpa using hv3)
     have B3:=Lib.hid (below_grownR A2.out hg3 (own_ge9 ((RuB.empty w2).lower B2.out.size)) A2.out.size)
     have r0:=(KC.out _ B3.out).1
     clear hv3 hg3))
 refine (make_any r.1 p w3).mono ?_
 rintro e w4 ⟨v4,rfl,hv4,hb4⟩
 obtain⟨A4,c4,rfl,hr4,_⟩:=hv4.rn
 have B4:=Lib.hid (below_tr B3.out hb4 B3.out.size)
 have V4:=Lib.hid (V3.out.ab hb4)
 have R4:=Lib.hid hr4
 clear hv4 hb4 hr4 V3 B3 r0 A2
 go_wp2_with (first
  | (refine wpList_appR rfl (.tmp 31) (.tmp 38) rfl V4.out rfl rfl R4.out (by have:=mkR_le r.1 p;have:=HN.out;have:=HM.out;rw[List.length_take];omega) B4.out.size ?_
     intro v5 w5 hv5 hg5
     have V5:=Lib.hid hv5
     have B5:=Lib.hid (below_grownR B4.out hg5 (own_ge9 V4.out) B4.out.size)
     have r1:=(KC.out _ B5.out).2
     clear hv5 hg5))
 refine (make_any (p+1) r.2 w5).mono ?_
 rintro e w6 ⟨v6,rfl,hv6,hb6⟩
 obtain⟨A6,c6,rfl,hr6,_⟩:=hv6.rn
 have B6:=Lib.hid (below_tr B5.out hb6 B5.out.size)
 have V6:=Lib.hid (V5.out.ab hb6)
 have R6:=Lib.hid hr6
 clear hv6 hb6 hr6 V5 B5 r1 V4 R4 B4
 go_wp2_with (first
  | (refine wpList_appR rfl (.tmp 40) (.tmp 48) rfl V6.out rfl rfl R6.out (by have:=mkR_le r.1 p;have:=mkR_le (p+1) r.2;have:=HN.out;have:=HM.out;rw[List.length_append,List.length_take];omega) B6.out.size ?_
     intro v7 w7 hv7 hg7
     have V7:=Lib.hid hv7
     have B7:=Lib.hid (below_grownR B6.out hg7 (own_ge9 V6.out) B6.out.size)
     clear hv7 hg7)
  | (refine wpList_appR rfl (.tmp 50) (.tmp 54) rfl V7.out rfl rfl ((H0.out.ab B7.out).drop (m:=i+1) HI.out) (by have:=mkR_le r.1 p;have:=mkR_le (p+1) r.2;have:=HN.out;have:=HM.out;rw[List.length_append,List.length_append,List.length_take];omega) B7.out.size ?_
     intro v8 w8 hv8 hg8
     have V8:=Lib.hid hv8
     have B8:=Lib.hid (below_grownR B7.out hg8 (own_ge9 V7.out) B7.out.size)
     clear hv8 hg8))
 go_ret2
 exact⟨_,rfl,by rw[HD.out];exact V8.out,B8.out⟩
def Rgt (l:RnL):Prop:=l.Pairwise (fun r s=>r.2<s.1)∧∀r∈l,r.1<r.2
theorem Rgt.right {l:RnL} (h:Rgt l):rightR l=true:=by
 unfold rightR
 rw[List.all_eq_true]
 intro i hi
 rw[List.mem_range] at hi
 unfold rightI
 have hg:∀j (hj:j<l.length),l.getD j (0,0)=l[j]:=fun j hj=>by rw[List.getD_eq_getElem?_getD,List.getElem?_eq_getElem hj];rfl
 rw[hg i hi,Bool.and_eq_true]
 refine⟨decide_eq_true (h.2 _ (List.getElem_mem hi)),?_⟩
 by_cases h0:i=0
 · simp[h0]
 · rw[hg (i-1) (by omega),Bool.or_eq_true]
   exact .inr (decide_eq_true (List.pairwise_iff_getElem.1 h.1 (i-1) i (by omega) hi (by omega)))
theorem Rgt.nil:Rgt []:=⟨List.Pairwise.nil,fun r hr=>by cases hr⟩
theorem Rgt.mk (a b:Nat):Rgt (mkR a b):=by
 unfold mkR
 split
 · exact⟨List.pairwise_singleton _ _,fun r hr=>by rw[List.mem_singleton] at hr;subst hr;assumption⟩
 · exact Rgt.nil
def pagesR (l:RnL):List Nat:=l.flatMap fun r=>List.range' r.1 (r.2-r.1)
theorem pagesR_app (a b:RnL):pagesR (a++b)=pagesR a++pagesR b:=by unfold pagesR;rw[List.flatMap_append]
theorem pagesR_mk (a b:Nat):pagesR (mkR a b)=List.range' a (b-a):=by
 unfold mkR
 split
 · simp[pagesR]
 · rw[show b-a=0 by omega];rfl
theorem mem_pagesR {l:RnL} {p:Nat}:p∈pagesR l↔∃r∈l,r.1≤p∧p<r.2:=by
 unfold pagesR
 rw[List.mem_flatMap]
 constructor
 · rintro ⟨r,hr,hp⟩
   rw[List.mem_range'_1] at hp
   exact⟨r,hr,by omega,by omega⟩
 · rintro ⟨r,hr,h1,h2⟩
   exact⟨r,hr,List.mem_range'_1.2 ⟨h1,by omega⟩⟩
theorem Rgt.split {l:RnL} (h:Rgt l) {p:Nat} (hp:p∈pagesR l):∃a r b,l=a++r::b∧r.1≤p∧p<r.2∧(∀q∈a,q.2<r.1)∧(∀q∈b,r.2<q.1):=by
 obtain⟨r,hr,h1,h2⟩:=mem_pagesR.1 hp
 obtain⟨a,b,rfl⟩:=List.append_of_mem hr
 have h3:=h.1
 rw[List.pairwise_append] at h3
 obtain⟨_,h4,h5⟩:=h3
 rw[List.pairwise_cons] at h4
 exact⟨a,r,b,rfl,h1,h2,fun q hq=>h5 q hq r (List.mem_cons_self ..),h4.1⟩
theorem place_split {a b:RnL} {r:Nat×Nat} {p:Nat} (h2:p<r.2) (ha:∀q∈a,q.2≤p):placeR (a++r::b) p=a.length:=by
 have hlt:a.length<(a++r::b).length:=by simp
 unfold placeR
 rw[List.findIdx_eq hlt]
 refine⟨by simp[h2],fun j hj=>?_⟩
 rw[List.getElem_append_left hj]
 exact decide_eq_false (by have:=ha _ (List.getElem_mem hj);omega)
theorem has_split {a b:RnL} {r:Nat×Nat} {p:Nat} (h1:r.1≤p) (h2:p<r.2) (ha:∀q∈a,q.2≤p):hasR (a++r::b) p=true:=by
 unfold hasR
 rw[place_split h2 ha]
 have hg:(a++r::b).getD a.length (0,0)=r:=by rw[List.getD_eq_getElem?_getD];simp
 rw[hg]
 simp[h1]
theorem drop_split {a b:RnL} {r:Nat×Nat} {p:Nat} (h2:p<r.2) (ha:∀q∈a,q.2≤p):dropP (a++r::b) p=a++mkR r.1 p++mkR (p+1) r.2++b:=by
 unfold dropP
 rw[place_split h2 ha]
 have hg:(a++r::b).getD a.length (0,0)=r:=by rw[List.getD_eq_getElem?_getD];simp
 rw[hg]
 have h3:(a++r::b).take a.length=a:=by simp
 have h4:(a++r::b).drop (a.length+1)=b:=by
  rw[show a++r::b=(a++[r])++b by simp,List.drop_append_of_le_length (by simp)]
  simp
 rw[h3,h4]
theorem mkR_mem {a b:Nat} {r:Nat×Nat} (h:r∈mkR a b):r=(a,b)∧a<b:=by
 unfold mkR at h
 split at h
 · rw[List.mem_singleton] at h
   exact⟨h,by assumption⟩
 · cases h
theorem Rgt.drop {l:RnL} (h:Rgt l) {p:Nat} (hp:p∈pagesR l):hasR l p=true∧Rgt (dropP l p)∧pagesR (dropP l p)=(pagesR l).filter (fun q=>decide (q≠p)):=by
 obtain⟨a,r,b,rfl,h1,h2,ha,hb⟩:=h.split hp
 have ha':∀q∈a,q.2≤p:=fun q hq=>by have:=ha q hq;omega
 refine⟨has_split h1 h2 ha',?_,?_⟩
 · rw[drop_split h2 ha']
   have hp1:=h.1
   rw[List.pairwise_append] at hp1
   obtain⟨pa,pb,_⟩:=hp1
   rw[List.pairwise_cons] at pb
   have hab:∀x∈a,∀y∈b,x.2<y.1:=fun x hx y hy=>by
    have:=ha x hx;have:=hb y hy;omega
   refine⟨?_,fun q hq=>?_⟩
   · rw[List.pairwise_append,List.pairwise_append,List.pairwise_append]
     refine⟨⟨⟨pa,(Rgt.mk _ _).1,fun x hx y hy=>?_⟩,(Rgt.mk _ _).1,fun x hx y hy=>?_⟩,pb.2,fun x hx y hy=>?_⟩
     · obtain⟨rfl,_⟩:=mkR_mem hy
       exact ha x hx
     · obtain⟨rfl,_⟩:=mkR_mem hy
       rcases List.mem_append.1 hx with hx | hx
       · have:=ha x hx;show x.2<p+1;omega
       · obtain⟨rfl,_⟩:=mkR_mem hx
         show p<p+1;omega
     · have:=hb y hy
       rcases List.mem_append.1 hx with hx | hx
       · rcases List.mem_append.1 hx with hx | hx
         · exact hab x hx y hy
         · obtain⟨rfl,_⟩:=mkR_mem hx
           show p<y.1;omega
       · obtain⟨rfl,_⟩:=mkR_mem hx
         show r.2<y.1;omega
   · rcases List.mem_append.1 hq with hq | hq
     · rcases List.mem_append.1 hq with hq | hq
       · rcases List.mem_append.1 hq with hq | hq
         · exact h.2 q (List.mem_append_left _ hq)
         · obtain⟨rfl,h3⟩:=mkR_mem hq
           exact h3
       · obtain⟨rfl,h3⟩:=mkR_mem hq
         exact h3
     · exact h.2 q (List.mem_append_right _ (List.mem_cons_of_mem _ hq))
 · rw[drop_split h2 ha',pagesR_app,pagesR_app,pagesR_app,pagesR_mk,pagesR_mk,show a++r::b=a++([r]++b) by simp,pagesR_app,pagesR_app,List.filter_append,List.filter_append]
   have fa:(pagesR a).filter (fun q=>decide (q≠p))=pagesR a:=List.filter_eq_self.2 fun q hq=>by
    obtain⟨s,hs,h3,h4⟩:=mem_pagesR.1 hq
    have:=ha s hs
    exact decide_eq_true (by omega)
   have fb:(pagesR b).filter (fun q=>decide (q≠p))=pagesR b:=List.filter_eq_self.2 fun q hq=>by
    obtain⟨s,hs,h3,h4⟩:=mem_pagesR.1 hq
    have:=hb s hs
    exact decide_eq_true (by omega)
   have fr:(pagesR [r]).filter (fun q=>decide (q≠p))=List.range' r.1 (p-r.1)++List.range' (p+1) (r.2-(p+1)):=by
    have e1:pagesR [r]=List.range' r.1 (p-r.1)++([p]++List.range' (p+1) (r.2-(p+1))):=by
     have e2:List.range' r.1 (p-r.1)++List.range' p (r.2-p)=List.range' r.1 (r.2-r.1):=by
      have:=List.range'_append_1 (s:=r.1) (m:=p-r.1) (n:=r.2-p)
      rw[show r.1+(p-r.1)=p by omega,show p-r.1+(r.2-p)=r.2-r.1 by omega] at this
      exact this
     have e3:List.range' p (r.2-p)=[p]++List.range' (p+1) (r.2-(p+1)):=by
      rw[show r.2-p=(r.2-(p+1))+1 by omega,List.range'_succ]
      rfl
     unfold pagesR
     rw[←e3,e2]
     simp
    rw[e1,List.filter_append,List.filter_append]
    have g1:(List.range' r.1 (p-r.1)).filter (fun q=>decide (q≠p))=List.range' r.1 (p-r.1):=List.filter_eq_self.2 fun q hq=>by
     rw[List.mem_range'_1] at hq
     exact decide_eq_true (by omega)
    have g2:(List.range' (p+1) (r.2-(p+1))).filter (fun q=>decide (q≠p))=List.range' (p+1) (r.2-(p+1)):=List.filter_eq_self.2 fun q hq=>by
     rw[List.mem_range'_1] at hq
     exact decide_eq_true (by omega)
    rw[g1,g2]
    simp
   rw[fa,fb,fr]
   simp[List.append_assoc]
def stepO (l:RnL) (p:Nat):RnL:=match l.getLast? with
 | some r=>if r.2=p then l.dropLast++[(r.1,p+1)] else l++[(p,p+1)]
 | none=>[(p,p+1)]
def ofR (ps:List Nat):RnL:=ps.foldl stepO []
theorem stepO_far {l:RnL} {p:Nat} (h:∀r∈l,r.2<p):stepO l p=l++[(p,p+1)]:=by
 unfold stepO
 cases hl:l.getLast? with
 | none=>rw[List.getLast?_eq_none_iff.1 hl];rfl
 | some r=>
   have:=h r (List.mem_of_getLast? hl)
   simp only
   rw[if_neg (by omega)]
theorem stepO_near (l:RnL) (a p:Nat):stepO (l++[(a,p)]) p=l++[(a,p+1)]:=by
 unfold stepO
 simp
theorem foldO_run (l:RnL) (a:Nat):∀(k m:Nat),(List.range' (a+m) k).foldl stepO (l++[(a,a+m)])=l++[(a,a+m+k)]
 | 0,m=>rfl
 | k+1,m=>by
   have ih:=foldO_run l a k (m+1)
   rw[show a+(m+1)=a+m+1 by omega] at ih
   rw[List.range'_succ,List.foldl_cons,stepO_near,ih]
   rw[show a+m+1+k=a+m+(k+1) by omega]
theorem foldO {l:RnL}:∀{m:RnL},Rgt (l++m)→(pagesR m).foldl stepO l=l++m:=by
 intro m
 induction m generalizing l with
 | nil=>intro _;simp[pagesR]
 | cons r m ih=>
   intro h
   have hr:r.1<r.2:=h.2 r (by simp)
   have hl:∀q∈l,q.2<r.1:=fun q hq=>by
    have:=h.1
    rw[List.pairwise_append] at this
    exact this.2.2 q hq r (List.mem_cons_self ..)
   rw[show r::m=[r]++m from rfl,pagesR_app,List.foldl_append]
   have h1:(pagesR [r]).foldl stepO l=l++[r]:=by
    have e:pagesR [r]=r.1::List.range' (r.1+1) (r.2-(r.1+1)):=by
     have e0:pagesR [r]=List.range' r.1 (r.2-r.1):=by simp[pagesR]
     rw[e0,show r.2-r.1=(r.2-(r.1+1))+1 by omega,List.range'_succ]
    rw[e,List.foldl_cons,stepO_far hl,foldO_run l r.1 (r.2-(r.1+1)) 1]
    rw[show r.1+1+(r.2-(r.1+1))=r.2 by omega]
   rw[h1,ih (by simpa using h)]
   simp
theorem ofR_pages {l:RnL} (h:Rgt l):ofR (pagesR l)=l:=by
 have:=foldO (l:=[]) (m:=l) (by simpa using h)
 simpa[ofR] using this
def foldD (l:RnL):List Nat→RnL
 | []=>l
 | p::r=>foldD (dropP l p) r
theorem foldD_snoc (p:Nat):∀(ps:List Nat) (l:RnL),foldD l (ps++[p])=dropP (foldD l ps) p
 | [],l=>rfl
 | q::r,l=>foldD_snoc p r _
theorem foldD_law:∀(ps:List Nat) (l:RnL),Rgt l→ps.Nodup→(∀p∈ps,p∈pagesR l)→Rgt (foldD l ps)∧pagesR (foldD l ps)=(pagesR l).filter (fun q=>decide (q∉ps))
 | [],l,h,_,_=>⟨h,by
   have:(pagesR l).filter (fun q=>decide (q∉([]:List Nat)))=pagesR l:=List.filter_eq_self.2 fun q _=>by simp
   rw[this];rfl⟩
 | p :: r,l,h,hn,hm=>by
   obtain⟨h1,h2,h3⟩:=h.drop (hm p (List.mem_cons_self ..))
   rw[List.nodup_cons] at hn
   have h4:=foldD_law r (dropP l p) h2 hn.2 fun q hq=>by
    rw[h3,List.mem_filter]
    exact⟨hm q (List.mem_cons_of_mem _ hq),decide_eq_true fun e=>hn.1 (e▸hq)⟩
   refine⟨h4.1,?_⟩
   rw[foldD,h4.2,h3,List.filter_filter]
   congr 1
   funext q
   simp only[List.mem_cons,not_or,←Bool.decide_and]
   rw[decide_eq_decide]
   exact And.comm
def leftO (blocks:Nat) (ps:List Nat):RnL:=ofR ((List.range' 2 (blocks-2)).filter fun q=>decide (q∉ps))
theorem free_law {blocks:Nat} {ps:List Nat} (hb:2≤blocks) (hn:ps.Nodup) (hm:∀p∈ps,2≤p∧p<blocks):foldD (mkR 2 blocks) ps=leftO blocks ps:=by
 have h:=foldD_law ps (mkR 2 blocks) (Rgt.mk _ _) hn fun p hp=>by
  rw[pagesR_mk,List.mem_range'_1]
  have:=hm p hp
  omega
 rw[pagesR_mk] at h
 unfold leftO
 rw[←h.2,ofR_pages h.1]
def freeP (blocks:Int) (ps:List Nat):RnL×Nat:=
 if blocks<8∨4096<blocks then ([],2) else if ps.any (fun p=>decide (p<2)||decide (blocks.toNat≤p))=true then ([],2) else if ps.Nodup then (leftO blocks.toNat ps,0) else ([],8)
theorem lsealA_len (key:List Nat) (l:Lb) {text:List Nat} (h:text.length=224):(headL l++sealA key (nonceL l) (aadL l) text).length=256:=by rw[List.length_append,headL_len,sealA_len,h]
theorem lseal_take (l:Lb) (X:List Nat):(headL l++X).take 16=headL l:=by
 have:=headL_len l
 rw[List.take_append_of_le_length (by omega),List.take_of_length_le (by omega)]
theorem lseal_drop (l:Lb) (X:List Nat):(headL l++X).drop 16=X:=by
 have:=headL_len l
 rw[List.drop_append_of_le_length (by omega),List.drop_of_length_le (by omega),List.nil_append]
theorem openP_seal {key text:List Nat} {l:Lb} (h:SOk key l) (ht:text.length=224):openP key l (headL l++sealA key (nonceL l) (aadL l) text)=(text,0):=by
 unfold openP
 rw[if_pos ⟨h,lsealA_len key l ht⟩,lseal_take,if_pos rfl,lseal_drop]
 exact open_seal ⟨h.1,nonceL_len l⟩ (by rw[aadL_len];decide) (by omega)
theorem sealP_ok {key text:List Nat} {l:Lb} (h:SOk key l) (ht:text.length=224):sealP key l text=(headL l++sealA key (nonceL l) (aadL l) text,0):=by
 unfold sealP
 rw[if_pos ⟨h,ht⟩]
theorem digB_one {k:Nat} (h:k<256):digB k 1=[k]:=by
 show []++[k%256]=[k]
 rw[List.nil_append,Nat.mod_eq_of_lt h]
theorem byt_map_inj {a b:List Nat} (ha:Byt a) (hb:Byt b) (h:a.map UInt8.ofNat=b.map UInt8.ofNat):a=b:=(strOf_inj ha hb).1 (by unfold strOf;rw[h])
def magL:List Nat:=[67,72,84,49]
structure ToldR where
 k:Nat
 lv:Nat
 gn:Nat
 cm:Nat
 err:Nat
def toldOk (s:List Nat):Prop:=s.take 4=magL∧1≤at' s 4∧at' s 4≤4
instance (s:List Nat):Decidable (toldOk s):=by unfold toldOk;infer_instance
def toldP (s:List Nat):ToldR:=
 if s.length=256 then if toldOk s then ⟨at' s 4,at' s 5,numB ((s.drop 6).take 2),numB ((s.drop 8).take 8),0⟩ else ⟨0,0,0,0,100⟩ else ⟨0,0,0,0,2⟩
def toldV (t:ToldR):Value:=.tuple #[.int .u8 (t.k:Int),.int .u8 (t.lv:Int),.int .u16 (t.gn:Int),.int .u64 (t.cm:Int),.int .i64 (t.err:Int)]
set_option maxRecDepth 100000 in
theorem getB_any (A:Option Addr) (n c:Nat) (l:List Nat) (w:World) (hin:IsB w A n c l) (h1:1≤n) (h8:n≤8):
 Calls Tryz.prog 82 #[.slice A n c] w fun e w'=>e = .returned (.tuple #[.int .u64 (numB l:Int),.int .i64 0])∧w=w':=by
 obtain⟨x0,rfl,hx0,hcl⟩:=hin.cell (by omega)
 have HC:=Lib.hid hcl
 have HL:=Lib.hid hin.len
 have HB:=Lib.hid hin.2
 have hn1:(1:Int)≤(n:Int):=by omega
 have hn8:(n:Int)≤8:=by omega
 have hd1:decide ((n:Int)<1)=false:=by simp;omega
 have hd2:decide (8<(n:Int))=false:=by simp;omega
 clear hin hcl
 go_enter Tryz.func82,Tryz.ntmps82
 go_wp2_with fail
 go_loop [4,6,17] (fun v _ j=>∃i:Nat,i≤n∧j = .int .i64 i∧v = .int .u64 (numB (l.take i):Nat)) (fun _ _ j=>n-(intOf j).toNat)
 case atStart=>exact⟨0,by omega,rfl,rfl⟩
 case round=>
  obtain⟨i,hi,rfl,rfl⟩:=hrel
  by_cases hlt:i<n
  · have hii:(i:Int)<(n:Int):=by omega
    have hcl:=HC.out i hlt
    have hx:=HB.out.at' i
    have hm:=numB_take HB.out (by rw[HL.out];exact h8) (p:=i) (by rw[HL.out];exact hlt)
    have hs:=take_snoc' (l:=l) (p:=i) (by rw[HL.out];exact hlt)
    have hnum:numB (l.take (i+1))=256*numB (l.take i)+at' l i:=by rw[hs,numB_snoc]
    generalize at' l i=x at hcl hx hnum
    generalize numB (l.take i)=m at hm hnum
    have hor:=or_byte m x hm hx
    have hw1:=wrap_u64' (n:=18446744073709551615) (by decide) ((m:Int)*256) (by omega) (by omega)
    have hw2:=wrap_u64' (n:=256) (by decide) (x:Int) (by omega) (by omega)
    have HN:=Lib.hid hnum
    clear hs hnum
    go_wp2
    go_round
    case rel=>exact⟨i+1,by omega,by go_num,by rw[HN.out];go_num⟩
    case measure=>simp[intOf];omega
  · obtain rfl:i=n:=by omega
    have he:l.take i=l:=List.take_of_length_le (by rw[HL.out];omega)
    rw[he]
    clear he
    generalize hme:numB l=m
    have HME:=Lib.hid hme
    clear hme
    go_wp2
    go_ret2
    exact⟨by rw[HME.out];rfl,rfl⟩
theorem strOf_toList (l:List Nat):(strOf l).toList=l.map UInt8.ofNat:=ByteArray.toList_mk _
theorem str_eq {x y:List Nat} (hx:Byt x) (hy:Byt y):((strOf x).toList==(strOf y).toList)=decide (x=y):=by
 rw[strOf_toList,strOf_toList]
 by_cases h:x=y
 · rw[decide_eq_true h,h];simp
 · rw[decide_eq_false h,beq_eq_false_iff_ne]
   exact fun e=>h (byt_map_inj hx hy e)
theorem magL_byt:Byt magL:=by unfold Byt magL;decide
theorem str_mag {x:List Nat} (hx:Byt x):((strOf x).toList==[67,72,84,49])=decide (x=magL):=by
 have:=str_eq hx magL_byt
 rw[strOf_toList magL] at this
 exact this
theorem sl_mid (W:World) (A:Option Addr) (n c l h:Nat) (hlh:l≤h) (hh:h≤c):(Instr.sliceAt 22 (.slice A n c) (some (.int .i64 (l:Int))) (some (.int .i64 (h:Int))) none).run Tryz.prog W = .ok (.slice (dropA A c l) (h-l) (c-l)) W:=by
 have hu:Tryz.prog.underlying 22=some (.slice (Tryz.prog.elem 22)):=by kernel_rfl
 rw[run_sliceAt_slice W _ _ _ _ _ hu,run_slice_lh W _ _ _ _ hu .i64 .i64 (l:Int) (h:Int) (by omega) (by omega) (by omega),sl_size]
 simp only[Result.andThen_ok,sliced,Nat.mul_one,Int.toNat_natCast]
 unfold dropA
 rfl
theorem numB_lt2 {l:List Nat} (hb:Byt l) (hl:l.length=2):numB l<65536:=by
 have:=numB_lt hb
 rw[hl] at this
 exact this
set_option maxRecDepth 100000 in
theorem told_ok (A:Option Addr) (c:Nat) (s:List Nat) (w:World) (h:IsB w A 256 c s) (hok:toldOk s):
 Calls Tryz.prog 59 #[.slice A 256 c] w fun e w'=>e = .returned (toldV ⟨at' s 4,at' s 5,numB ((s.drop 6).take 2),numB ((s.drop 8).take 8),0⟩)∧Below w.heap.size w w':=by
 have hcap:=h.1.lenCap
 have hlen:=h.len
 obtain⟨o1,o2,o3⟩:=hok
 have h4:=h.take (m:=4) (by decide)
 rw[o1] at h4
 have hst:(convert 22 9 (.slice A 4 c)).run Tryz.prog w = .ok (.string (strOf magL)) w:=run_str h4 _ _ _ Tryz.underlying22 Tryz.underlying5 Tryz.underlying9
 have hs4:∀W,(Instr.sliceAt 22 (.slice A 256 c) none (some (.int .i64 4)) none).run Tryz.prog W = .ok (.slice A 4 c) W:=fun W=>sl_upto W A 256 c 4 (by omega)
 have hmg:((strOf magL).toList==[67,72,84,49])=true:=by rw[str_mag magL_byt];decide
 have hs6:∀W,(Instr.sliceAt 22 (.slice A 256 c) (some (.int .i64 6)) (some (.int .i64 8)) none).run Tryz.prog W = .ok (.slice (dropA A c 6) 2 (c-6)) W:=fun W=>sl_mid W A 256 c 6 8 (by decide) (by omega)
 have hs8:∀W,(Instr.sliceAt 22 (.slice A 256 c) (some (.int .i64 8)) (some (.int .i64 16)) none).run Tryz.prog W = .ok (.slice (dropA A c 8) 8 (c-8)) W:=fun W=>sl_mid W A 256 c 8 16 (by decide) (by omega)
 have i6:=(isB_drop h (m:=6) (by decide)).take (m:=2) (by decide)
 have i8:=(isB_drop h (m:=8) (by decide)).take (m:=8) (by decide)
 obtain⟨x,rfl,hxb,hxc⟩:=h.cell (by decide)
 have c4:w.cell? ⟨x.block,x.off+4,none⟩=some (.int .u8 (at' s 4:Nat)):=hxc 4 (by decide)
 have c5:w.cell? ⟨x.block,x.off+5,none⟩=some (.int .u8 (at' s 5:Nat)):=hxc 5 (by decide)
 have k1:decide (((at' s 4:Nat):Int)<1)=false:=by simp;omega
 have k2:decide ((4:Int)<((at' s 4:Nat):Int))=false:=by simp;omega
 have n2:=numB_lt2 i6.2 i6.len
 have HG6:=Lib.hid (getB_any _ 2 (c-6) _ w i6 (by decide) (by decide))
 have HG8:=Lib.hid (getB_any _ 8 (c-8) _ w i8 (by decide) (by decide))
 generalize numB ((s.drop 6).take 2)=gn at *
 generalize numB ((s.drop 8).take 8)=cm at *
 generalize at' s 4=a4 at *
 generalize at' s 5=a5 at *
 have hw:IntKind.u16.wrap (gn:Int)=(gn:Int):=by
  have e1:IntKind.u16.min=0∧IntKind.u16.max=65535:=⟨rfl,rfl⟩
  show (gn:Int)%65536=(gn:Int)
  omega
 generalize dropA (some x) c 6=D6 at *
 generalize dropA (some x) c 8=D8 at *
 clear h h4 o1 o2 o3 i6 i8 hxc hlen
 go_enter Tryz.func59,Tryz.ntmps59
 go_wp2_with fail
 refine HG6.out.mono ?_
 rintro e w' ⟨rfl,rfl⟩
 go_wp2_with fail
 refine HG8.out.mono ?_
 rintro e w' ⟨rfl,rfl⟩
 go_wp2_with fail
 refine wp_still_tail 13 (by kernel_rfl) (by kernel_rfl) ?_
 simp only[List.take_succ_cons,List.take_zero,List.drop_succ_cons,List.drop_zero]
 repeat still_step
 refine wpStill_nil ?_
 go_wp2_with fail
 exact bodyPost_ret (v:=.tuple #[.int .u8 (a4:Int),.int .u8 (a5:Int),.int .u16 (gn:Int),.int .u64 (cm:Int),.int .i64 0]) (by simp[results,Tryz.results59,go_sem]) rfl ⟨rfl,(Below.refl _ _).drew⟩
set_option maxRecDepth 100000 in
theorem told_short (A:Option Addr) (n c:Nat) (w:World) (h:n≠256):
 Calls Tryz.prog 59 #[.slice A n c] w fun e w'=>e = .returned (toldV ⟨0,0,0,0,2⟩)∧Below w.heap.size w w':=by
 have h1:((n:Int) != 256)=true:=by simp;omega
 go_enter Tryz.func59,Tryz.ntmps59
 go_wp2_with fail
 exact bodyPost_ret (v:=.tuple #[.int .u8 0,.int .u8 0,.int .u16 0,.int .u64 0,.int .i64 2]) (by simp[results,Tryz.results59,go_sem]) rfl ⟨rfl,Below.refl _ _⟩
set_option maxRecDepth 100000 in
theorem told_bad (A:Option Addr) (c:Nat) (s:List Nat) (w:World) (h:IsB w A 256 c s) (hok:¬toldOk s):
 Calls Tryz.prog 59 #[.slice A 256 c] w fun e w'=>e = .returned (toldV ⟨0,0,0,0,100⟩)∧Below w.heap.size w w':=by
 have hcap:=h.1.lenCap
 have h4:=h.take (m:=4) (by decide)
 have hst:(convert 22 9 (.slice A 4 c)).run Tryz.prog w = .ok (.string (strOf (s.take 4))) w:=run_str h4 _ _ _ Tryz.underlying22 Tryz.underlying5 Tryz.underlying9
 have hs4:∀W,(Instr.sliceAt 22 (.slice A 256 c) none (some (.int .i64 4)) none).run Tryz.prog W = .ok (.slice A 4 c) W:=fun W=>sl_upto W A 256 c 4 (by omega)
 have hmg:=str_mag h4.2
 obtain⟨x,rfl,hxb,hxc⟩:=h.cell (by decide)
 have c4:w.cell? ⟨x.block,x.off+4,none⟩=some (.int .u8 (at' s 4:Nat)):=hxc 4 (by decide)
 have hcase:decide (s.take 4=magL)=false∨(decide (s.take 4=magL)=true∧decide (((at' s 4:Nat):Int)<1)=true)∨(decide (s.take 4=magL)=true∧decide (((at' s 4:Nat):Int)<1)=false∧decide ((4:Int)<((at' s 4:Nat):Int))=true):=by
  by_cases h1:s.take 4=magL
  · right
    rw[decide_eq_true h1]
    by_cases h2:1≤at' s 4
    · right
      refine⟨rfl,by simp;omega,?_⟩
      have:¬at' s 4≤4:=fun h3=>hok ⟨h1,h2,h3⟩
      simp;omega
    · left
      exact⟨rfl,by simp;omega⟩
  · left
    exact decide_eq_false h1
 generalize at' s 4=a4 at *
 generalize s.take 4=s4 at *
 clear h h4 hok hxc
 rcases hcase with h1 | ⟨h1,h2⟩ | ⟨h1,h2,h3⟩
 all_goals
  rw[h1] at hmg
  clear h1
  go_enter Tryz.func59,Tryz.ntmps59
  go_wp2_with fail
  exact bodyPost_ret (v:=.tuple #[.int .u8 0,.int .u8 0,.int .u16 0,.int .u64 0,.int .i64 100]) (by simp[results,Tryz.results59,go_sem]) rfl ⟨rfl,Below.refl _ _⟩
theorem told_any (A:Option Addr) (n c:Nat) (s:List Nat) (w:World) (h:IsB w A n c s):
 Calls Tryz.prog 59 #[.slice A n c] w fun e w'=>e = .returned (toldV (toldP s))∧Below w.heap.size w w':=by
 have hl:=h.len
 unfold toldP
 by_cases hn:n=256
 · subst hn
   rw[if_pos hl]
   by_cases ho:toldOk s
   · rw[if_pos ho]
     exact told_ok A c s w h ho
   · rw[if_neg ho]
     exact told_bad A c s w h ho
 · rw[if_neg (by omega)]
   exact told_short A n c w hn
end Go.Proofs.YtlbjdbaeffacgaaGreat
