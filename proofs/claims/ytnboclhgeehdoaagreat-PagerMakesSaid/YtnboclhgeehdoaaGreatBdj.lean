/-
  Parts of the proof, joined.
-/
import Derived.Test.YtnboclhgeehdoaaGreatBdi
import Derived.Maps.AppendAt
import Derived.Laws.OwnMore
import Derived.BigQuiet
import Derived.Test.YtnboclhgeehdoaaGreatBda
import Derived.Deep.Slices
import Derived.OpenShut
import Derived.Test.YtnboclhgeehdoaaGreatBdd
import Derived.ChangeSame
import Derived.ChangeSlices
import Derived.Test.YtnboclhgeehdoaaGreatBdh
namespace Go.Proofs.YtnboclhgeehdoaaGreat
set_option maxHeartbeats 4000000
open Go.RowKit
set_option linter.unusedVariables false
theorem below_grownR {B:Nat} {a b c:World} {r:Option Nat} (h:Below B a b) (k:b.grownBy c r) (hr:∀g,r=some g→B≤g) (hs:B≤b.heap.size):Below B a c:=h.trans ⟨k.os,k.tape,k.output,k.size,fun i hi=>k.block i (by omega) (fun e=>by have:=hr i e.symm;omega)⟩
abbrev RnL:=List (Nat×Nat)
def runVs:RnL→List Value
 | []=>[]
 | r::l=>.int .u32 (r.1:Int) :: .int .u32 (r.2:Int)::runVs l
theorem runVs_len:∀l,(runVs l).length=l.length*2
 | []=>rfl
 | r::l=>by simp only[runVs,List.length_cons,runVs_len l];omega
theorem runVs_app:∀a b,runVs (a++b)=runVs a++runVs b
 | [],b=>rfl
 | r::l,b=>by simp[runVs,runVs_app l b]
theorem runVs_at:∀(l:RnL) (i:Nat) (r:Nat×Nat),l[i]? = some r→(runVs l)[i*2]? = some (.int .u32 (r.1:Int))∧(runVs l)[i*2+1]? = some (.int .u32 (r.2:Int))
 | [],i,r,h=>by simp at h
 | t::l,0,r,h=>by
   simp only[List.getElem?_cons_zero,Option.some.injEq] at h
   subst h
   exact⟨rfl,rfl⟩
 | t::l,i+1,r,h=>by
   have:=runVs_at l i r (by simpa using h)
   rw[show (i+1)*2=i*2+1+1 by omega]
   simpa[runVs] using this
theorem runVs_take:∀(l:RnL) (m:Nat),(runVs l).take (m*2)=runVs (l.take m)
 | [],m=>by simp[runVs]
 | r::l,0=>by simp[runVs]
 | r::l,m+1=>by
   rw[show (m+1)*2=m*2+1+1 by omega]
   simp[runVs,runVs_take l m]
theorem runVs_drop:∀(l:RnL) (m:Nat),(runVs l).drop (m*2)=runVs (l.drop m)
 | [],m=>by simp[runVs]
 | r::l,0=>by simp[runVs]
 | r::l,m+1=>by
   rw[show (m+1)*2=m*2+1+1 by omega]
   simp[runVs,runVs_drop l m]
theorem runVs_one (l:RnL):∀u∈runVs l,u.oneCell'=true:=by
 induction l with
 | nil=>intro u hu;cases hu
 | cons r l ih=>
   intro u hu
   simp only[runVs,List.mem_cons] at hu
   rcases hu with rfl | rfl | hu
   · rfl
   · rfl
   · exact ih u hu
theorem addr_zero (x:Addr):x.add 0=x:=by
 have h:=add_zero' (some x)
 simpa using h
structure RnB (w:World) (A:Option Addr) (n c:Nat) (l:RnL):Prop where
 len:l.length=n
 cap:n≤c
 max:c≤maxLen
 cel:0<n→∃x,A=some x∧x.block<w.heap.size∧∀(j:Nat) (u:Value),(runVs l)[j]? = some u→w.cell? (x.add j)=some u
 nil:A=none→c=0
section
variable {w w':World} {A:Option Addr} {n c:Nat} {l:RnL}
theorem RnB.ab (h:RnB w A n c l) (hb:Below w.heap.size w w'):RnB w' A n c l:=
 ⟨h.len,h.cap,h.max,fun h0=>by
  obtain⟨x,h1,h2,h3⟩:=h.cel h0
  exact⟨x,h1,Nat.lt_of_lt_of_le h2 hb.size,fun j u hu=>by rw[←h3 j u hu];exact World.cell?_of_block (hb.block _ (by rw[add_block];exact h2))⟩,h.nil⟩
theorem RnB.fr {F:Nat→Prop} (h:RnB w A n c l) (hf:Fr w w' F) (hn:∀x,A=some x→¬F x.block):RnB w' A n c l:=
 ⟨h.len,h.cap,h.max,fun h0=>by
  obtain⟨x,h1,h2,h3⟩:=h.cel h0
  exact⟨x,h1,Nat.lt_of_lt_of_le h2 hf.size,fun j u hu=>by rw[←h3 j u hu];exact World.cell?_of_block (hf.block _ (by rw[add_block];exact h2) (by rw[add_block];exact hn x h1))⟩,h.nil⟩
def dropR2 (A:Option Addr) (c m:Nat):Option Addr:=if c=m then A else A.map (·.add (m*2))
theorem RnB.drop (h:RnB w A n c l) {m:Nat} (hm:m≤n):RnB w (dropR2 A c m) (n-m) (c-m) (l.drop m):=by
 have hc:=h.cap
 refine⟨by have:=h.len;rw[List.length_drop];omega,by omega,by have:=h.max;omega,fun h0=>?_,fun hA=>?_⟩
 · obtain⟨x,rfl,h2,h3⟩:=h.cel (by omega)
   unfold dropR2
   rw[if_neg (by omega)]
   refine⟨x.add (m*2),rfl,by rw[add_block];exact h2,fun j u hu=>?_⟩
   rw[←runVs_drop,List.getElem?_drop] at hu
   rw[Go.Deep.add_add]
   exact h3 _ _ hu
 · unfold dropR2 at hA
   split at hA
   · omega
   · cases A with
     | none=>have:=h.nil rfl;omega
     | some x=>cases hA
theorem RnB.nilB (w:World):RnB w none 0 0 []:=⟨rfl,Nat.le_refl _,Nat.zero_le _,fun h=>absurd h (Nat.lt_irrefl 0),fun _=>rfl⟩
theorem RnB.at (h:RnB w A n c l) {i:Nat} {r:Nat×Nat} (hr:l[i]? = some r):∃x,A=some x∧x.block<w.heap.size∧∀W,Below w.heap.size w W→W.cell? (x.add (i*2))=some (.int .u32 (r.1:Int))∧W.cell? ⟨(x.add (i*2)).block,(x.add (i*2)).off+1,none⟩=some (.int .u32 (r.2:Int)):=by
 have hi:=(List.getElem?_eq_some_iff.1 hr).1
 have hlen:=h.len
 obtain⟨x,h1,h2,_⟩:=h.cel (by omega)
 refine⟨x,h1,h2,fun W hW=>?_⟩
 obtain⟨x',h1',_,h3⟩:=(h.ab hW).cel (by omega)
 rw[h1] at h1'
 injection h1' with h1'
 subst h1'
 obtain⟨a,b⟩:=runVs_at l i r hr
 refine⟨h3 _ _ a,?_⟩
 have:=h3 _ _ b
 rw[←Go.Deep.add_add] at this
 exact this
end
def RuB (w:World) (B:Nat) (v:Value) (l:RnL):Prop:=w.ownsRow B 72 2 v l.length (runVs l)
theorem RuB.rn {w:World} {B:Nat} {v:Value} {l:RnL} (h:RuB w B v l):∃A c,v = .slice A l.length c∧RnB w A l.length c l∧(∀x,A=some x→B≤x.block∧v.ownBlock=some x.block):=by
 rcases h.2 with ⟨rfl,h0⟩ | ⟨g,cap,cur,rfl,hg,hh,hnc,hcm,hcs,htk⟩
 · have hl:l=[]:=List.eq_nil_of_length_eq_zero h0
   subst hl
   exact⟨none,0,rfl,RnB.nilB w,fun x hx=>by cases hx⟩
 · refine⟨_,cap,rfl,⟨rfl,hnc,hcm,fun _=>⟨_,rfl,(Array.getElem?_eq_some_iff.1 hh).1,fun j u hu=>World.ownsRow.cells h (g:=g) rfl j u hu⟩,fun hx=>(by cases hx)⟩,fun x hx=>?_⟩
   injection hx with hx
   subst hx
   exact⟨hg,rfl⟩
theorem RuB.nil (w:World) (B:Nat):RuB w B (.slice none 0 0) []:=World.ownsRow_nil _ _ _ _
theorem RuB.lower {w:World} {B B':Nat} {v:Value} {l:RnL} (h:RuB w B v l) (hB:B'≤B):RuB w B' v l:=row_low h hB
theorem infoRun:(Tryz.prog.info? 72).map (fun i=>(i.zero,i.size,i.bytes))=some (some (.agg #[.int .u32 0,.int .u32 0]),2,8):=by kernel_rfl
theorem runR_elem:Tryz.prog.underlying 22=some (.slice (Tryz.prog.elem 22)):=by kernel_rfl
theorem runR_size (W:World):(sizeOf (Tryz.prog.elem 22)).run Tryz.prog W = .ok 2 W:=by
 have h:(Tryz.prog.info? (Tryz.prog.elem 22)).map (·.size)=some 2:=by kernel_rfl
 cases hq:Tryz.prog.info? (Tryz.prog.elem 22) with
 | none=>rw[hq] at h;cases h
 | some i=>rw[hq] at h;simp only[Option.map_some,Option.some.injEq] at h;simp[sizeOf,typeInfo,hq,h]
set_option maxRecDepth 100000 in
theorem sl_fromR (W:World) (A:Option Addr) (n c m:Nat) (hm:m≤n):(Instr.sliceAt 22 (.slice A n c) (some (.int .i64 (m:Int))) none none).run Tryz.prog W = .ok (.slice (dropR2 A c m) (n-m) (c-m)) W:=by
 rw[run_sliceAt_slice W _ _ _ _ _ runR_elem,run_slice_l W _ _ _ _ runR_elem .i64 (m:Int) (by omega) (by omega),runR_size]
 simp only[Result.andThen_ok,sliced,Int.toNat_natCast]
 unfold dropR2
 rfl
set_option maxRecDepth 100000 in
theorem wpList_appR {rest:List Oper} {ops:Array Oper} {o:Oper} {a:Act} {w:World} {Q:Exit→Act→World→Prop} (hgd:o.guard=none) (s x:Operand)
 (ho:o.op = .call { callee:=.builtin .append,args:=#[s,x],argTypes:=#[22,22] })
 {B:Nat} {v:Value} {l m:RnL} (hown:RuB w B v l) (hs:a.eval s=v) {A:Option Addr} {n c:Nat} (hx:a.eval x = .slice A n c) (hr:RnB w A n c m) (hl:l.length+n≤1000000) (hB:B≤w.heap.size)
 (h:∀v' w',RuB w' B v' (l++m)→w.grownBy w' v.ownBlock→wpList Tryz.prog ops Q rest (a.put o.dst v') w'):wpList Tryz.prog ops Q (o::rest) a w:=by
 obtain⟨i0,hi0,hz0,hz1,hz2⟩:=info_parts infoRun
 have hlen:=hr.len
 have hap:∃v' w',(Builtin.append_ #[22,22] o.type #[v,.slice A n c]).run Tryz.prog w = .ok v' w'∧RuB w' B v' (l++m)∧w.grownBy w' v.ownBlock:=by
  cases A with
  | none=>
    have hc:=hr.nil rfl
    have hcap:=hr.cap
    have hn0:n=0:=by omega
    have hm0:m=[]:=List.eq_nil_of_length_eq_zero (by omega)
    subst hc hn0 hm0
    exact⟨v,w,run_append_owned_none (P:=Tryz.prog) w B 22 o.type 72 i0 2 Tryz.underlying22 hi0 v _ _ hown,by simpa using hown,World.grownBy.refl w _⟩
  | some y=>
    have hcells:∀j u,(runVs m)[j]? = some u→w.cell? (y.add j)=some u:=fun j u hu=>by
     have hj:=(List.getElem?_eq_some_iff.1 hu).1
     rw[runVs_len] at hj
     obtain⟨x,h1,_,h3⟩:=hr.cel (by omega)
     injection h1 with h1
     subst h1
     exact h3 j u hu
    obtain⟨v1,W1,hrun,r1,r2,_⟩:=run_append_own_at (P:=Tryz.prog) w B 22 o.type 72 i0 _ 2 8 Tryz.underlying22 hi0 hz0 hz1 hz2 rfl (by decide) v l.length (runVs l) hown y n c (runVs m) (by rw[runVs_len,hlen]) hcells (runVs_one m) (by simp only[maxLen];omega) (by omega) hB
    refine⟨v1,W1,hrun,?_,r2⟩
    unfold RuB
    rw[runVs_app,List.length_append,hlen]
    exact r1
 obtain⟨v',w',hrun,h1,h2⟩:=hap
 refine wpList_plain hgd fun K hK=>?_
 unfold Oper.wp execOp
 simp only[ho,resolve,invoke,builtin,Sem.run_bind,Sem.run_pure,Result.andThen_ok,List.map_toArray,List.map_cons,List.map_nil,hs,hx,hrun]
 exact hK _ _ (h v' w' h1 h2)
set_option maxRecDepth 100000 in
theorem RuB.one (w:World) (a b:Nat):RuB (w.alloc (.cells #[.int .u32 (a:Int),.int .u32 (b:Int)] 72)) w.heap.size (.slice (some ⟨w.heap.size,0,none⟩) 1 1) [(a,b)]:=by
 refine⟨by simp[runVs],.inr ⟨w.heap.size,1,#[.int .u32 (a:Int),.int .u32 (b:Int)],rfl,Nat.le_refl _,heap_alloc_new w _,Nat.le_refl _,by decide,rfl,rfl⟩⟩
set_option maxRecDepth 100000 in
theorem RuB.empty (w:World):RuB (w.alloc (.cells #[] 72)) w.heap.size (.slice (some ⟨w.heap.size,0,none⟩) 0 0) []:=by
 refine⟨by simp[runVs],.inr ⟨w.heap.size,0,#[],rfl,Nat.le_refl _,heap_alloc_new w _,Nat.le_refl _,by decide,rfl,rfl⟩⟩
def mkR (a b:Nat):RnL:=if a<b then [(a,b)] else []
def rightI (l:RnL) (i:Nat):Bool:=decide ((l.getD i (0,0)).1<(l.getD i (0,0)).2)&&(decide (i=0)||decide ((l.getD (i-1) (0,0)).2<(l.getD i (0,0)).1))
def rightR (l:RnL):Bool:=(List.range l.length).all (rightI l)
def placeR (l:RnL) (p:Nat):Nat:=l.findIdx fun r=>decide (p<r.2)
set_option maxRecDepth 100000 in
theorem make_any (a b:Nat) (w:World):Calls Tryz.prog 82 #[.int .u32 (a:Int),.int .u32 (b:Int)] w fun e w'=>∃v,e = .returned v∧RuB w' w.heap.size v (mkR a b)∧Below w.heap.size w w':=by
 unfold mkR
 by_cases h:a<b
 · have h1:¬(b:Int)≤(a:Int):=by omega
   rw[if_pos h]
   clear h
   go_enter Tryz.func82,Tryz.ntmps82
   go_wp2_with fail
   go_ret
   exact⟨_,rfl,RuB.one w a b,(Below.refl _ _).alloc (Nat.le_refl _) _⟩
 · have h1:(b:Int)≤(a:Int):=by omega
   rw[if_neg h]
   clear h
   go_enter Tryz.func82,Tryz.ntmps82
   go_wp2_with fail
   go_ret
   exact⟨_,rfl,RuB.nil w _,Below.refl _ _⟩
theorem all_snoc {l:RnL} {i:Nat} (h:(List.range i).all (rightI l)=true) (h2:rightI l i=true):(List.range (i+1)).all (rightI l)=true:=by
 rw[List.range_succ,List.all_append,h]
 simp[h2]
theorem all_not {l:RnL} {i:Nat} (hi:i<l.length) (h2:rightI l i=false):rightR l=false:=by
 unfold rightR
 rw[List.all_eq_false]
 exact⟨i,List.mem_range.2 hi,by rw[h2];decide⟩
set_option maxRecDepth 100000 in
theorem right_any' (A:Option Addr) (n c:Nat) (l:RnL) (w:World) (h:RnB w A n c l):
 Calls Tryz.prog 41 #[.slice A n c] w fun e w'=>e = .returned (.bool (rightR l))∧Below w.heap.size w w':=by
 have hn:(n:Int)≤9223372036854775807:=by have:=h.cap;have:=h.max;unfold maxLen at this;omega
 have HR:=Lib.hid h
 clear h
 go_enter Tryz.func41,Tryz.ntmps41
 go_wp2_with fail
 go_loopw [7] (fun z wx=>∃i:Nat,i≤n∧z = .int .i64 (i:Int)∧(List.range i).all (rightI l)=true∧Below w.heap.size w wx) (fun z _=>n-(intOf z).toNat)
 case atStart=>exact⟨0,Nat.zero_le _,rfl,rfl,Below.refl _ _⟩
 case round=>
  obtain⟨i,hi,rfl,hal,hb⟩:=hrel
  have HB:=Lib.hid hb
  have HA:=Lib.hid hal
  clear hb hal
  by_cases hlt:i<n
  · obtain⟨r,hr⟩:∃r,l[i]? = some r:=⟨_,List.getElem?_eq_getElem (by rw[HR.out.len];exact hlt)⟩
    obtain⟨x,rfl,hxl,hcel⟩:=HR.out.at hr
    have hlti:(i:Int)<(n:Int):=by omega
    have HLT:=Lib.hid hlt
    have HL:Hid (i<l.length):=Lib.hid (by rw[HR.out.len];exact hlt)
    have hgd:l.getD i (0,0)=r:=by rw[List.getD_eq_getElem?_getD,hr];rfl
    have KC:=Lib.hid hcel
    have BA:Hid (Below w.heap.size w (wr.alloc (.cells #[.int .u32 (r.1:Int),.int .u32 (r.2:Int)] 72))):=Lib.hid (HB.out.alloc HB.out.size _)
    have hq:rightI l i=(decide (r.1<r.2)&&(decide (i=0)||decide ((l.getD (i-1) (0,0)).2<r.1))):=by unfold rightI;rw[hgd]
    have HQ:=Lib.hid hq
    have HRI:=Lib.hid hr
    have r0:wr.cell? (x.add (i*2))=some (.int .u32 (r.1:Int)):=(KC.out _ HB.out).1
    have r1:wr.cell? ⟨(x.add (i*2)).block,(x.add (i*2)).off+1,none⟩=some (.int .u32 (r.2:Int)):=(KC.out _ HB.out).2
    clear hlt hi hr hxl hcel hgd hq
    by_cases h1:r.1<r.2
    · have e1:decide (r.2≤r.1)=false:=decide_eq_false (by omega)
      have E1:=Lib.hid h1
      clear h1
      by_cases h0:i=0
      · subst h0
        simp only[Nat.zero_mul,addr_zero] at r0 r1
        have hs:Hid ((List.range (0+1)).all (rightI l)=true):=Lib.hid (all_snoc HA.out (by rw[HQ.out];simp[E1.out]))
        go_wp2_with fail
        go_quiet (fail)
        go_wp2_with fail
        go_roundw
        case rel=>exact⟨0+1,HLT.out,by go_num,hs.out,below_dn BA.out _⟩
        case measure=>simp[intOf];have:=HLT.out;omega
      · obtain⟨j,rfl⟩:∃j,i=j+1:=⟨i-1,by omega⟩
        have hi0:(0:Int)<(j:Int)+1:=by omega
        have hi1:decide ((0:Int)<(j:Int)+1)=true:=decide_eq_true hi0
        have hsub:(j:Int)+1-1=(j:Int):=by omega
        have hjw:IntKind.i64.wrap (j:Int)=(j:Int):=by rw[IntWalk.i64_in _ (by omega)]
        have hjn:(j:Int)<(n:Int):=by omega
        obtain⟨q,hq⟩:∃q,l[j]? = some q:=⟨_,List.getElem?_eq_getElem (by have:=HL.out;omega)⟩
        obtain⟨x',hx',_,hcq⟩:=HR.out.at hq
        injection hx' with hx'
        subst hx'
        have hg2:l.getD j (0,0)=q:=by rw[List.getD_eq_getElem?_getD,hq];rfl
        have HQ2:Hid (rightI l (j+1)=decide (q.2<r.1)):=Lib.hid (by rw[HQ.out,Nat.add_sub_cancel,hg2];simp[E1.out])
        have q1:(wr.alloc (.cells #[.int .u32 (r.1:Int),.int .u32 (r.2:Int)] 72)).cell? ⟨(x.add (j*2)).block,(x.add (j*2)).off+1,none⟩=some (.int .u32 (q.2:Int)):=(hcq _ BA.out).2
        clear h0 hq hcq hg2
        by_cases h2:q.2<r.1
        · have e2:decide (r.1≤q.2)=false:=decide_eq_false (by omega)
          have hs:Hid ((List.range (j+1+1)).all (rightI l)=true):=Lib.hid (all_snoc HA.out (by rw[HQ2.out];simp[h2]))
          clear h2
          go_wp2_with fail
          go_quiet (fail)
          go_wp2_with fail
          go_roundw
          case rel=>exact⟨j+1+1,HLT.out,by go_num,hs.out,below_dn BA.out _⟩
          case measure=>simp[intOf];have:=HLT.out;omega
        · have e2:decide (r.1≤q.2)=true:=decide_eq_true (by omega)
          have hs:Hid (rightR l=false):=Lib.hid (all_not HL.out (by rw[HQ2.out];simp[h2]))
          clear h2
          go_wp2_with fail
          go_quiet (fail)
          go_wp2_with fail
          go_ret
          exact⟨by rw[hs.out];rfl,below_dn BA.out _⟩
    · have e1:decide (r.2≤r.1)=true:=decide_eq_true (by omega)
      have hs:Hid (rightR l=false):=Lib.hid (all_not HL.out (by rw[HQ.out];simp[h1]))
      clear h1
      go_wp2_with fail
      go_quiet (fail)
      go_wp2_with fail
      go_ret
      exact⟨by rw[hs.out];rfl,below_dn BA.out _⟩
  · obtain rfl:i=n:=by omega
    have hs:Hid (rightR l=true):=Lib.hid (by unfold rightR;rw[HR.out.len];exact HA.out)
    clear hlt hi
    go_wp2_with fail
    go_ret
    exact⟨by rw[hs.out];rfl,HB.out⟩
set_option maxRecDepth 100000 in
theorem place_any (A:Option Addr) (n c p:Nat) (l:RnL) (w:World) (h:RnB w A n c l):
 Calls Tryz.prog 95 #[.slice A n c,.int .u32 (p:Int)] w fun e w'=>e = .returned (.int .i64 (placeR l p:Int))∧Below w.heap.size w w':=by
 have hn:(n:Int)≤9223372036854775807:=by have:=h.cap;have:=h.max;unfold maxLen at this;omega
 have HR:=Lib.hid h
 clear h
 go_enter Tryz.func95,Tryz.ntmps95
 go_wp2_with fail
 go_loopw [9] (fun z wx=>∃i:Nat,i≤n∧z = .int .i64 (i:Int)∧(∀j r,j<i→l[j]? = some r→¬p<r.2)∧Below w.heap.size w wx) (fun z _=>n-(intOf z).toNat)
 case atStart=>exact⟨0,Nat.zero_le _,rfl,fun j r hj=>absurd hj (Nat.not_lt_zero j),Below.refl _ _⟩
 case round=>
  obtain⟨i,hi,rfl,hal,hb⟩:=hrel
  have HB:=Lib.hid hb
  have HA:=Lib.hid hal
  clear hb hal
  by_cases hlt:i<n
  · obtain⟨r,hr⟩:∃r,l[i]? = some r:=⟨_,List.getElem?_eq_getElem (by rw[HR.out.len];exact hlt)⟩
    obtain⟨x,rfl,hxl,hcel⟩:=HR.out.at hr
    have hlti:(i:Int)<(n:Int):=by omega
    have HLT:=Lib.hid hlt
    have HRI:=Lib.hid hr
    have BA:Hid (Below w.heap.size w (wr.alloc (.cells #[.int .u32 (r.1:Int),.int .u32 (r.2:Int)] 72))):=Lib.hid (HB.out.alloc HB.out.size _)
    have r0:wr.cell? (x.add (i*2))=some (.int .u32 (r.1:Int)):=(hcel _ HB.out).1
    have r1:wr.cell? ⟨(x.add (i*2)).block,(x.add (i*2)).off+1,none⟩=some (.int .u32 (r.2:Int)):=(hcel _ HB.out).2
    clear hlt hi hr hxl hcel
    by_cases h1:p<r.2
    · have e1:(p:Int)<(r.2:Int):=by omega
      have hs:Hid (placeR l p=i):=Lib.hid (by
       have hil:=(List.getElem?_eq_some_iff.1 HRI.out).1
       have hie:=(List.getElem?_eq_some_iff.1 HRI.out).2
       unfold placeR
       rw[List.findIdx_eq hil]
       refine⟨by rw[hie];exact decide_eq_true h1,fun j hj=>?_⟩
       exact decide_eq_false (HA.out j _ hj (List.getElem?_eq_getElem (by omega))))
      clear h1
      go_wp2_with fail
      go_ret
      exact⟨by rw[hs.out];rfl,BA.out⟩
    · have e1:¬(p:Int)<(r.2:Int):=by omega
      have hs:Hid (∀j r,j<i+1→l[j]? = some r→¬p<r.2):=Lib.hid fun j r' hj hr'=>by
       by_cases hji:j=i
       · subst hji
         rw[HRI.out] at hr'
         injection hr' with hr'
         subst hr'
         exact h1
       · exact HA.out j r' (by omega) hr'
      clear h1
      go_wp2_with fail
      go_roundw
      case rel=>exact⟨i+1,HLT.out,by go_num,hs.out,BA.out⟩
      case measure=>simp[intOf];have:=HLT.out;omega
  · obtain rfl:i=n:=by omega
    have hs:Hid (placeR l p=i):=Lib.hid (by
     unfold placeR
     rw[←HR.out.len]
     refine List.findIdx_eq_length.2 fun r hr=>?_
     obtain⟨j,hj,he⟩:=List.getElem_of_mem hr
     exact decide_eq_false (HA.out j r (by have:=HR.out.len;omega) (by rw[List.getElem?_eq_getElem hj,he])))
    clear hlt hi
    go_wp2_with fail
    go_ret
    exact⟨by rw[hs.out];rfl,HB.out⟩
def hasR (l:RnL) (p:Nat):Bool:=decide (placeR l p<l.length)&&decide ((l.getD (placeR l p) (0,0)).1≤p)
theorem placeR_le (l:RnL) (p:Nat):placeR l p≤l.length:=List.findIdx_le_length
set_option maxRecDepth 100000 in
theorem has_any' (A:Option Addr) (n c p:Nat) (l:RnL) (w:World) (h:RnB w A n c l) (hr:rightR l=true):
 Calls Tryz.prog 83 #[.slice A n c,.int .u32 (p:Int)] w fun e w'=>e = .returned (.tuple #[.bool (hasR l p),.int .i64 0])∧Below w.heap.size w w':=by
 have HL:=Lib.hid h.len
 have H0:=Lib.hid h
 have H1:=Lib.hid (right_any' A n c l w h)
 rw[hr] at H1
 have H2:=Lib.hid fun W hW=>place_any A n c p l W hW
 have hple:=placeR_le l p
 have hd:Hid (hasR l p=(decide (placeR l p<n)&&decide ((l.getD (placeR l p) (0,0)).1≤p))):=Lib.hid (by unfold hasR;rw[h.len])
 have hget:placeR l p<n→∃r,l[placeR l p]? = some r∧l.getD (placeR l p) (0,0)=r:=fun hlt=>by
  obtain⟨r,hr⟩:∃r,l[placeR l p]? = some r:=⟨_,List.getElem?_eq_getElem (by rw[HL.out];exact hlt)⟩
  exact⟨r,hr,by rw[List.getD_eq_getElem?_getD,hr];rfl⟩
 generalize placeR l p=i at *
 rw[HL.out] at hple
 by_cases hlt:i<n
 · obtain⟨r,hri,hgd⟩:=hget hlt
   rw[hgd,decide_eq_true hlt,Bool.true_and] at hd
   obtain⟨x,rfl,hxl,hcel⟩:=h.at hri
   have KC:=Lib.hid hcel
   have hlti:(i:Int)<(n:Int):=by omega
   have HD:=hd
   clear h hr hple hget hgd hri hlt hcel hxl
   go_enter Tryz.func83,Tryz.ntmps83
   go_wp2_with fail
   refine H1.out.mono ?_
   rintro e w1 ⟨rfl,hb1⟩
   have B1:=Lib.hid hb1
   clear hb1
   go_wp2_with fail
   refine (H2.out _ (H0.out.ab B1.out)).mono ?_
   rintro e w2 ⟨rfl,hb2⟩
   have B2:=Lib.hid (below_tr B1.out hb2 B1.out.size)
   clear hb2 H1 H2
   have r0:=(KC.out _ B2.out).1
   go_wp2_with fail
   go_ret2
   exact⟨by rw[HD.out];simp,B2.out⟩
 · obtain rfl:i=n:=by omega
   have HD:Hid (hasR l p=false):=Lib.hid (by rw[hd.out];simp)
   clear h hr hple hget hd hlt
   go_enter Tryz.func83,Tryz.ntmps83
   go_wp2_with fail
   refine H1.out.mono ?_
   rintro e w1 ⟨rfl,hb1⟩
   have B1:=Lib.hid hb1
   clear hb1
   go_wp2_with fail
   refine (H2.out _ (H0.out.ab B1.out)).mono ?_
   rintro e w2 ⟨rfl,hb2⟩
   have B2:=Lib.hid (below_tr B1.out hb2 B1.out.size)
   clear hb2 H1 H2
   go_wp2_with fail
   go_ret2
   exact⟨by rw[HD.out];rfl,B2.out⟩
theorem mkR_le (a b:Nat):(mkR a b).length≤1:=by unfold mkR;split <;> simp
theorem mkR_mem {a b:Nat} {r:Nat×Nat} (h:r∈mkR a b):r=(a,b)∧a<b:=by
 unfold mkR at h
 split at h
 · rw[List.mem_singleton] at h
   exact⟨h,by assumption⟩
 · cases h
open Go.RowKit Go.ChangeShapes Go.WideShapes
section
variable {H:Type} {enc:TypeId×Value→H} {P:Program} {W:World}
theorem nat_intX {k:IntKind} {z:Int} {m:Nat} (h:(Lit.int k z).wf=true) (h0:k.min=0) (hm:k.max<(m:Int)):∃n:Nat,z=(n:Int)∧n<m:=by
 simp only[Lit.wf,Bool.and_eq_true,decide_eq_true_eq] at h
 exact⟨z.toNat,by omega,by omega⟩
end
theorem list_ofX {α:Type} {Q:Nat→α→Prop}:∀(n:Nat),(∀i,i<n→∃q,Q i q)→∃l:List α,l.length=n∧∀(i:Nat) (q:α),l[i]? = some q→Q i q
 | 0,_=>⟨[],rfl,fun i q h=>by simp at h⟩
 | n + 1,h=>by
   obtain⟨l,hl,hq⟩:=list_ofX n fun i hi=>h i (by omega)
   obtain⟨q,hn⟩:=h n (by omega)
   refine⟨l++[q],by simp[hl],fun i p hp=>?_⟩
   rcases Nat.lt_or_ge i n with hi | hi
   · exact hq i p (by rwa [List.getElem?_append_left (by omega)] at hp)
   · rw[List.getElem?_append_right (by omega)] at hp
     obtain⟨hj,hp⟩:=List.getElem?_eq_some_iff.1 hp
     simp at hj hp
     subst hp
     obtain rfl:i=n:=by omega
     exact hn
open Go.RowKit Go.ChangeShapes
section
variable {H:Type} {enc:TypeId×Value→H} {P:Program} {W:World}
theorem int_trod {t:TypeId} {k:IntKind} {fuel:Nat} {cs:List Value} {x:DataW H×List MemPlace} (ht:P.underlying t=some (.int k))
 (h:DataW.trod enc P W 0 (fun _=>true) true fuel t cs=some x):∃z,cs=[.int k z]∧(Lit.int k z).wf=true:=by
 cases fuel with
 | zero=>simp[DataW.trod] at h
 | succ fuel=>
   unfold DataW.trod at h
   rw[ht] at h
   match cs,h with
   | [.int k' n],h=>
     simp only at h
     split at h
     · rename_i hk
       exact⟨n,by rw[hk.1],hk.2⟩
     · cases h
end
theorem lsealA_len (key:List Nat) (l:Lb) {text:List Nat} (h:text.length=224):(headL l++sealA key (nonceL l) (aadL l) text).length=256:=by rw[List.length_append,headL_len,sealA_len,h]
theorem lseal_take (l:Lb) (X:List Nat):(headL l++X).take 16=headL l:=by
 have:=headL_len l
 rw[List.take_append_of_le_length (by omega),List.take_of_length_le (by omega)]
theorem lseal_drop (l:Lb) (X:List Nat):(headL l++X).drop 16=X:=by
 have:=headL_len l
 rw[List.drop_append_of_le_length (by omega),List.drop_of_length_le (by omega),List.nil_append]
theorem openP_seal {key text:List Nat} {l:Lb} (h:SOk key l) (ht:text.length=224):openP key l (headL l++sealA key (nonceL l) (aadL l) text)=(text,0):=by
 unfold openP
 rw[if_pos ⟨h,lsealA_len key l ht⟩,lseal_take,if_pos rfl,lseal_drop]
 exact open_seal ⟨h.1,nonceL_len l⟩ (by rw[aadL_len];decide) (by omega)
def magL:List Nat:=[67,72,84,49]
def toldOk (s:List Nat):Prop:=s.take 4=magL∧1≤at' s 4∧at' s 4≤4
instance (s:List Nat):Decidable (toldOk s):=by unfold toldOk;infer_instance
set_option maxRecDepth 100000 in
theorem eq_rn (a b:Nat×Nat) (W:World):(Op.equalIn 10000 72 (.agg #[.int .u32 (a.1:Int),.int .u32 (a.2:Int)]) (.agg #[.int .u32 (b.1:Int),.int .u32 (b.2:Int)])).run Tryz.prog W = .ok (decide (a=b)) W:=by
 obtain⟨a1,a2⟩:=a
 obtain⟨b1,b2⟩:=b
 have hd:decide ((a1,a2)=(b1,b2))=(decide (a1=b1)&&decide (a2=b2)):=by
  rw[←Bool.decide_and,decide_eq_decide]
  simp
 rw[hd]
 go_simp
 by_cases h1:a1=b1
 · by_cases h2:a2=b2
   · simp[h1,h2]
   · simp[h1,h2]
     omega
 · simp[h1]
   omega
set_option maxRecDepth 100000 in
theorem sameR_any (A B:Option Addr) (n m c d:Nat) (l k:RnL) (w:World) (ha:RnB w A n c l) (hb:RnB w B m d k):
 Calls Tryz.prog 11 #[.slice A n c,.slice B m d] w fun e w'=>e = .returned (.bool (decide (l=k)))∧Below w.heap.size w w':=by
 have hn:(n:Int)≤9223372036854775807:=by have:=ha.cap;have:=ha.max;unfold maxLen at this;omega
 have HA:=Lib.hid ha
 have HB:=Lib.hid hb
 by_cases hnm:n=m
 · subst hnm
   have hne:((n:Int) != (n:Int))=false:=by simp
   clear ha hb
   go_enter Tryz.func11,Tryz.ntmps11
   go_wp2_with fail
   go_loopw [5] (fun z wx=>∃i:Nat,i≤n∧z = .int .i64 (i:Int)∧l.take i=k.take i∧Below w.heap.size w wx) (fun z _=>n-(intOf z).toNat)
   case atStart=>exact⟨0,Nat.zero_le _,rfl,by simp,Below.refl _ _⟩
   case round=>
    obtain⟨i,hi,rfl,hal,hb⟩:=hrel
    have HX:=Lib.hid hb
    have HT:=Lib.hid hal
    clear hb hal
    by_cases hlt:i<n
    · obtain⟨r,hr⟩:∃r,l[i]? = some r:=⟨_,List.getElem?_eq_getElem (by rw[HA.out.len];exact hlt)⟩
      obtain⟨q,hq⟩:∃q,k[i]? = some q:=⟨_,List.getElem?_eq_getElem (by rw[HB.out.len];exact hlt)⟩
      obtain⟨x,rfl,_,hcel⟩:=HA.out.at hr
      obtain⟨y,rfl,_,hcel2⟩:=HB.out.at hq
      have hlti:(i:Int)<(n:Int):=by omega
      have HLT:=Lib.hid hlt
      obtain⟨r0,r1⟩:=hcel _ HX.out
      obtain⟨q0,q1⟩:=hcel2 _ HX.out
      have HTK:Hid (r=q→l.take (i+1)=k.take (i+1)):=Lib.hid fun e=>by rw[List.take_add_one,List.take_add_one,HT.out,hr,hq,e]
      have HNE:Hid (r≠q→l≠k):=Lib.hid fun e h=>e (by rw[h,hq] at hr;injection hr with hr;exact hr.symm)
      have heq:=fun W=>eq_rn r q W
      clear hlt hi hr hq hcel hcel2
      by_cases hrq:r=q
      · have hs:=Lib.hid (HTK.out hrq)
        rw[decide_eq_true hrq] at heq
        clear hrq
        go_wp2_with fail
        go_quiet (fail)
        go_wp2_with fail
        go_roundw
        case rel=>exact⟨i+1,HLT.out,by go_num,hs.out,below_dn HX.out _⟩
        case measure=>simp[intOf];have:=HLT.out;omega
      · have hs:=Lib.hid (HNE.out hrq)
        rw[decide_eq_false hrq] at heq
        clear hrq
        go_wp2_with fail
        go_quiet (fail)
        go_wp2_with fail
        go_ret
        exact⟨by rw[decide_eq_false hs.out];rfl,below_dn HX.out _⟩
    · obtain rfl:i=n:=by omega
      have hs:Hid (l=k):=Lib.hid (by
       have:=HT.out
       rwa [List.take_of_length_le (by rw[HA.out.len];exact Nat.le_refl _),List.take_of_length_le (by rw[HB.out.len];exact Nat.le_refl _)] at this)
      clear hlt hi
      go_wp2_with fail
      go_ret
      exact⟨by rw[decide_eq_true hs.out];rfl,HX.out⟩
 · have hne:((n:Int) != (m:Int))=true:=by rw[bne_iff_ne];omega
   have hs:Hid (l≠k):=Lib.hid fun e=>hnm (by rw[←ha.len,←hb.len,e])
   clear ha hb hnm
   go_enter Tryz.func11,Tryz.ntmps11
   go_wp2_with fail
   go_ret
   exact⟨by rw[decide_eq_false hs.out];rfl,Below.refl _ _⟩
theorem infoDb:(Tryz.prog.info? 151).map (fun i=>(i.zero,i.size,i.bytes))=some (some (.agg (bts (zeros 256))),256,256):=by kernel_rfl
theorem made_z (n m:Nat) (hm:0<m):madeCells (bts (zeros m)) n=bts (zeros n):=by
 apply Array.ext
 · simp[madeCells,bts,zeros]
 · intro i h1 h2
   have:i%m<m:=Nat.mod_lt _ hm
   simp[madeCells,bts,zeros,this]
theorem make_db (n:Nat) (hc:n≤5000) (W:World):
 (Instr.makeSlice 99 (.int .i64 (n:Int)) (.int .i64 (n:Int))).run Tryz.prog W = .ok (.slice (some ⟨W.heap.size,0,none⟩) n n) (W.alloc (.cells (bts (zeros (n*256))) 151)):=by
 obtain⟨i0,hi0,h0,h1,h2⟩:=info_parts infoDb
 have:=run_make (P:=Tryz.prog) W 99 151 i0 _ Tryz.underlying99 hi0 h0 .i64 .i64 n n (by omega) (by omega) (by rw[h2];omega) (by omega)
 rw[this,h1]
 simp only[Int.toNat_natCast,Value.cells]
 rw[made_z _ 256 (by decide)]
def DzB (w:World) (g n:Nat):Prop:=Bk w g 151 (zeros (n*256))
def DzR (S n:Nat) (v:Value) (W:World):Prop:=∃g,v = .slice (some ⟨g,0,none⟩) n n∧DzB W g n∧S≤g
theorem DzR.mono (S n:Nat):Mono (DzR S n):=fun v W W' ⟨g,h1,h2,h3⟩ hb=>⟨g,h1,h2.below hb h2.lt,h3⟩
structure DkN (w:World) (B d b:Nat) (g1 g2:Nat):Prop where
 box:CbB w d 102 #[.slice (some ⟨g1,0,none⟩) b b,.slice (some ⟨g2,0,none⟩) b b,.slice none 0 0,.int .u64 0,.int .i64 0,.int .i64 (-1),.bool false]
 now:DzB w g1 b
 firm:DzB w g2 b
 low:B≤d∧B≤g1∧B≤g2
 ne:g1≠g2
set_option maxRecDepth 100000 in
theorem diskNew_any (b:Nat) (w:World) (hb8:8≤b) (hb4:b≤4096):
 Calls Tryz.prog 7 #[.int .i64 (b:Int)] w fun e w'=>∃d g1 g2,e = .returned (.tuple #[.pointer (some ⟨d,0,none⟩),.int .i64 0])∧DkN w' w.heap.size d b g1 g2∧Below w.heap.size w w':=by
 have h1:¬(b:Int)<8:=by omega
 have h2:¬(4096:Int)<(b:Int):=by omega
 have HB:Hid (b≤5000):=Lib.hid (by omega)
 clear hb8 hb4
 go_enter Tryz.func7,Tryz.ntmps7
 go_wp2_with fail
 refine wp_wide3 [⟨10,IsR (.int .i64 (b:Int)),[],false⟩,⟨11,DzR w.heap.size b,[0],true⟩,⟨12,IsR (.int .i64 (b:Int)),[],false⟩,⟨13,DzR w.heap.size b,[2],true⟩] (by kernel_rfl) (by kernel_rfl) rfl rfl rfl ⟨?_,?_,?_,?_,trivial⟩ ?_
 · refine⟨rfl,IsR.mono _,fun a W hA hb hd=>takes_plain rfl (yields_value _ ?_ rfl)⟩
   have h0:a.tmps[0]?.getD undef = .int .i64 (b:Int):=(eval_get a 0).trans ((hA.eval (by simp)).trans rfl)
   go_simp
 · refine⟨rfl,DzR.mono _ _,fun a W hA hb hd=>takes_plain rfl ?_⟩
   refine .inl ⟨.slice (some ⟨W.heap.size,0,none⟩) b b,W.alloc (.cells (bts (zeros (b*256))) 151),?_,⟨_,rfl,Bk.new _ _ _,hb.size⟩,(Below.refl _ _).alloc (Nat.le_refl _) _,fun _=>⟨W.heap.size,rfl,Nat.le_refl _,by simp⟩⟩
   have hx:a.eval (.tmp 10) = .int .i64 (b:Int):=hd 0 (by simp) _ rfl
   have hmk:=make_db b HB.out W
   unfold execOp
   simp only[hx,hmk,Sem.run_bind,Result.andThen_ok,Sem.run_pure]
 · refine⟨rfl,IsR.mono _,fun a W hA hb hd=>takes_plain rfl (yields_value _ ?_ rfl)⟩
   have h0:a.tmps[0]?.getD undef = .int .i64 (b:Int):=(eval_get a 0).trans ((hA.eval (by simp)).trans rfl)
   go_simp
 · refine⟨rfl,DzR.mono _ _,fun a W hA hb hd=>takes_plain rfl ?_⟩
   refine .inl ⟨.slice (some ⟨W.heap.size,0,none⟩) b b,W.alloc (.cells (bts (zeros (b*256))) 151),?_,⟨_,rfl,Bk.new _ _ _,hb.size⟩,(Below.refl _ _).alloc (Nat.le_refl _) _,fun _=>⟨W.heap.size,rfl,Nat.le_refl _,by simp⟩⟩
   have hx:a.eval (.tmp 12) = .int .i64 (b:Int):=hd 2 (by simp) _ rfl
   have hmk:=make_db b HB.out W
   unfold execOp
   simp only[hx,hmk,Sem.run_bind,Result.andThen_ok,Sem.run_pure]
 intro vs w4 hR hF hb
 obtain⟨g1,hg1,hz1,hl1⟩:DzR w.heap.size b (vs 11) w4:=hR 1 _ rfl
 obtain⟨g2,hg2,hz2,hl2⟩:DzR w.heap.size b (vs 13) w4:=hR 3 _ rfl
 have HNE:Hid (g1≠g2):=Lib.hid fun e=>hF 1 3 _ _ rfl rfl (by decide) rfl rfl (by show blk (vs 11)=blk (vs 13);rw[hg1,hg2,e])
 have e10:vs 10 = .int .i64 (b:Int):=hR 0 _ rfl
 have e12:vs 12 = .int .i64 (b:Int):=hR 2 _ rfl
 simp only[List.map_cons,List.map_nil,List.foldl_cons,List.foldl_nil,List.length_cons,List.length_nil,List.drop_succ_cons,List.drop_zero,Act.put,List.setIfInBounds_toArray,List.set_cons_zero,List.set_cons_succ,e10,e12,hg1,hg2]
 have Z1:=Lib.hid hz1
 have Z2:=Lib.hid hz2
 have L1:=Lib.hid hl1
 have L2:=Lib.hid hl2
 have B4:=Lib.hid hb
 clear hR hF hb hz1 hz2 hl1 hl2 hg1 hg2 e10 e12
 go_wp2_with fail
 go_ret2
 have ha:Below w4.heap.size w4 (w4.alloc (.cells #[.slice (some ⟨g1,0,none⟩) b b,.slice (some ⟨g2,0,none⟩) b b,.slice none 0 0,.int .u64 0,.int .i64 0,.int .i64 (-1),.bool false] 102)):=(Below.refl _ _).alloc (Nat.le_refl _) _
 exact⟨w4.heap.size,g1,g2,rfl,⟨CbB.new _ _ _,Z1.out.below ha Z1.out.lt,Z2.out.below ha Z2.out.lt,⟨B4.out.size,L1.out,L2.out⟩,HNE.out⟩,below_tr B4.out ha B4.out.size⟩
def blkL (L:List Nat) (i:Nat):List Nat:=(L.drop (i*256)).take 256
def putD (L b:List Nat) (i:Nat):List Nat:=L.take (i*256)++(b++L.drop (i*256+b.length))
theorem blkL_byt {L:List Nat} {i:Nat} (hL:Byt L):Byt (blkL L i):=fun x hx=>hL x (List.mem_of_mem_drop (List.mem_of_mem_take hx))
theorem blkL_put {L b:List Nat} {i:Nat} (hL:L.length=2048) (hi:i<8) (hb:b.length≤256):blkL (putD L b i) i=b++(blkL L i).drop b.length:=by
 apply List.ext_getElem?
 intro j
 have h1:(L.take (i*256)).length=i*256:=by rw[List.length_take];omega
 simp only[blkL,putD,List.getElem?_take,List.getElem?_drop,List.getElem?_append,h1]
 by_cases hj:j<256
 · rw[if_pos hj,if_neg (by omega)]
   have e:i*256+j-i*256=j:=by omega
   rw[e]
   by_cases hjb:j<b.length
   · rw[if_pos hjb,if_pos hjb]
   · rw[if_neg hjb,if_neg hjb,if_pos (by omega)]
     exact congrArg (fun t=>L[t]?) (by omega)
 · rw[if_neg hj,if_neg (by omega),if_neg (by omega)]
section
variable {P:Program}
theorem run_loadSub (w:World) (x:Addr) (ty:TypeId) (cs:Array Value) (d:TypeDesc) (hc:∀j v,cs[j]? = some v→w.cell? (x.add j)=some v)
 (hu:P.underlying ty=some d) (hd:(match d with | .struct _ | .array _ _=>true | _=>false)=true) (hi:(P.info? ty).map (·.size)=some cs.size):
 (loadVar ty x).run P w = .ok (.agg cs) w:=by
 have hl:(loadCells x cs.toList.length).run P w = .ok cs.toList.toArray w:=
  run_loadCells_list (P:=P) w x cs.toList (fun j v hv=>hc j v (by simpa using hv))
 cases hq:P.info? ty with
 | none=>simp[hq] at hi
 | some i=>
   have hs:i.size=cs.size:=by simpa[hq] using hi
   have hagg:(isAgg ty).run P w = .ok true w:=by
    unfold isAgg
    rw[Sem.run_bind,run_underlying hu w]
    cases d <;> simp_all
   simp only[Array.length_toList,Array.toArray_toList] at hl
   simp[loadVar,Sem.run_bind,hagg,sizeOf,typeInfo,hq,hs,hl]
theorem wpList_loadSub {ops:Array Oper} {rest:List Oper} {o:Oper} {a:Act} {w:World} {Q:Exit→Act→World→Prop} (hgd:o.guard=none) (ty:TypeId) (x:Operand) (ho:o.op = .load ty x)
 (y:Addr) (hx:a.eval x = .pointer (some y)) (cs:Array Value) (d:TypeDesc) (hc:∀j v,cs[j]? = some v→w.cell? (y.add j)=some v)
 (hu:P.underlying ty=some d) (hd:(match d with | .struct _ | .array _ _=>true | _=>false)=true) (hi:(P.info? ty).map (·.size)=some cs.size)
 (h:wpList P ops Q rest (a.put o.dst (.agg cs)) w):wpList P ops Q (o::rest) a w:=by
 refine wpList_plain hgd fun _ hK=>?_
 unfold Oper.wp execOp
 simp only[ho,hx,Instr.loadAt,Instr.sureAddr,Sem.run_bind,Sem.run_pure,Result.andThen_ok,run_loadSub w y ty cs d hc hu hd hi]
 exact hK _ _ h
end
theorem Bk.sub {w:World} {g:Nat} {T:TypeId} {L:List Nat} (h:Bk w g T L) (i:Nat):∀(j:Nat) (v:Value),(bts (blkL L i))[j]? = some v→w.cell? ((⟨g,i*256,none⟩:Addr).add j)=some v:=fun j v hv=>by
 have hj:j<(blkL L i).length:=by rw[←bts_size];exact (Array.getElem?_eq_some_iff.1 hv).1
 rw[bts_get _ _ hj] at hv
 have h1:i*256+j<L.length:=by
  simp only[blkL,List.length_take,List.length_drop] at hj
  omega
 have h2:(blkL L i)[j]? = L[i*256+j]?:=by
  have h3:j<256:=by simp only[blkL,List.length_take] at hj;omega
  simp only[blkL,List.getElem?_take,List.getElem?_drop,if_pos h3]
 rw[Addr.add_mid,h.cell h1,←h2]
 exact hv
theorem Bk.fr {w w':World} {g:Nat} {T:TypeId} {l:List Nat} {F:Nat→Prop} (h:Bk w g T l) (hf:Fr w w' F) (hn:¬F g):Bk w' g T l:=(hf.block g h.lt hn).trans h
structure RdB (w:World) (B g:Nat) (v1 v2:Value) (b1 b2:List Nat) (st cut:Int) (down:Bool) (L:List Nat):Prop where
 box:CbB w g 120 #[v1,v2,.slice none 0 0,.int .u64 st,.int .i64 0,.int .i64 cut,.bool down]
 own1:w.ownsRow B 64 1 v1 b1.length (b1.map fun b=>.slice (some ⟨b,0,none⟩) 256 256)
 own2:w.ownsRow B 64 1 v2 b2.length (b2.map fun b=>.slice (some ⟨b,0,none⟩) 256 256)
 ne12:∀k,v1.ownBlock=some k→v2.ownBlock≠some k
 at1:∀(i b:Nat),b1[i]? = some b→B≤b∧Bk w b 5 (blkL L i)
 at2:∀(i b:Nat),b2[i]? = some b→B≤b∧∃l,Bk w b 5 l∧l.length=256
 nd:(b1++b2).Nodup
 low:B≤g
set_option linter.unusedSimpArgs false
theorem fr_cell (w:World) (g k:Nat) (v:Value):Fr w (w.setCell ⟨g,k,none⟩ v) (fun q=>q=g):=(Fr.grown (grown_cell w g k v)).imp fun q hq=>by injection hq with hq;exact hq.symm
end Go.Proofs.YtnboclhgeehdoaaGreat
