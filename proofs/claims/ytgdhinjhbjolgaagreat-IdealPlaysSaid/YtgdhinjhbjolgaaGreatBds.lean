/-
  Parts of the proof, joined.
-/
import Derived.Test.YtgdhinjhbjolgaaGreatBdd
import Derived.Test.YtgdhinjhbjolgaaGreatBdr
import Derived.Maps.AppendAt
namespace Go.Proofs.YtgdhinjhbjolgaaGreat
set_option maxHeartbeats 2000000
open Go.RowKit
set_option linter.unusedVariables false
def hc1 (x:Hdl):List Value:=[.int .u8 (x.r:Int),.int .u64 (x.up:Int),.bool x.on]
def hcs:HL→List Value
 | []=>[]
 | x::r=>hc1 x++hcs r
theorem hcs_app:∀(A C:HL),hcs (A++C)=hcs A++hcs C
 | [],C=>rfl
 | x::r,C=>by simp only[List.cons_append,hcs,hcs_app r C,List.append_assoc]
theorem hcs_at:∀(A:HL) (i:Nat) (x:Hdl),A[i]? = some x→∀j u,(hc1 x)[j]? = some u→(hcs A)[i*3+j]? = some u
 | [],i,x,h,_,_,_=>by simp at h
 | y::r,0,x,h,j,u,hj=>by
   simp only[List.getElem?_cons_zero,Option.some.injEq] at h
   subst h
   have hl:j<(hc1 y).length:=(List.getElem?_eq_some_iff.1 hj).1
   simp only[hcs,Nat.zero_mul,Nat.zero_add]
   rw[List.getElem?_append_left hl]
   exact hj
 | y::r,i+1,x,h,j,u,hj=>by
   have e:(i+1)*3+j=(hc1 y).length+(i*3+j):=by simp only[hc1,List.length_cons,List.length_nil];omega
   simp only[hcs]
   rw[e,List.getElem?_append_right (by omega),Nat.add_sub_cancel_left]
   exact hcs_at r i x (by simpa using h) j u hj
structure RcB (w:World) (B g:Nat) (v:Value) (A:HL):Prop where
 box:CbB w g 80 #[v]
 own:w.ownsRow B 145 3 v A.length (hcs A)
 low:B≤w.heap.size
section
variable {w w':World} {B g:Nat} {v:Value} {A:HL}
theorem RcB.ab (h:RcB w B g v A) (hb:Below w.heap.size w w'):RcB w' B g v A:=
 ⟨h.box.ab hb,h.own.kept (row:=none) (grown_of hb none) (by cases hv:v.ownBlock <;> simp),Nat.le_trans h.low hb.size⟩
theorem RcB.fr {F:Nat→Prop} (h:RcB w B g v A) (hf:Fr w w' F) (hg:¬F g) (hv:∀k,v.ownBlock=some k→¬F k):RcB w' B g v A:=
 ⟨h.box.fr hf hg,row_fr h.own hf hv,Nat.le_trans h.low hf.size⟩
theorem RcB.shape (h:RcB w B g v A):∃C cap,v = .slice C A.length cap:=row_shape h.own
theorem RcB.form (h:RcB w B g v A) {i:Nat} {x:Hdl} (hx:A[i]? = some x):∃gb cap,v = .slice (some ⟨gb,0,none⟩) A.length cap∧w.cell? ⟨gb,i*3,none⟩=some (.int .u8 (x.r:Int))∧w.cell? ⟨gb,i*3+1,none⟩=some (.int .u64 (x.up:Int))∧w.cell? ⟨gb,i*3+2,none⟩=some (.bool x.on)∧(∀k,w.frozen? ⟨gb,k,none⟩=false):=by
 have hi:i<A.length:=(List.getElem?_eq_some_iff.1 hx).1
 rcases h.own.2 with ⟨_,h0⟩ | ⟨gb,cap,cur,rfl,_,hh,_⟩
 · omega
 · have hc:∀j u,(hc1 x)[j]? = some u→w.cell? ⟨gb,i*3+j,none⟩=some u:=fun j u hj=>by
    have:=h.own.cells (g:=gb) rfl (i*3+j) u (hcs_at A i x hx j u hj)
    rwa [Addr.add_mid,Nat.zero_add] at this
   exact⟨gb,cap,rfl,hc 0 _ rfl,hc 1 _ rfl,hc 2 _ rfl,fun k=>by simp[World.frozen?,hh]⟩
end
def hagg (x:Hdl):Value:=.agg #[.int .u8 (x.r:Int),.int .u64 (x.up:Int),.bool x.on]
def atP (A:HL) (h:Nat):Hdl×Bool:=match atH A h with | some x=>(x,true) | none=>(⟨0,0,false⟩,false)
def AtR (w:World) (x:Hdl×Bool) (e:Ending) (w':World):Prop:=e = .returned (.tuple #[hagg x.1,.bool x.2])∧Below w.heap.size w w'
set_option maxRecDepth 100000 in
theorem at_zero {B g:Nat} {v:Value} {A:HL} {w:World} (h:RcB w B g v A):Calls Tryz.prog 89 #[.pointer (some ⟨g,0,none⟩),.int .u64 0] w (AtR w (⟨0,0,false⟩,false)):=by
 clear h
 go_enter Tryz.func89,Tryz.ntmps89
 go_wp2_with fail
 (try simp only[Exit.inBlock,Exit.then])
 refine bodyPost_ret (v:=.tuple #[.agg #[.int .u8 0,.int .u64 0,.bool false],.bool false]) ?_ rfl ?_
 · rw[results_cell_tmp rfl]
   go_simp
 exact⟨rfl,alB⟩
set_option maxRecDepth 100000 in
theorem at_over {B g h:Nat} {v:Value} {A:HL} {w:World} (hc:RcB w B g v A) (h1:A.length<h) (hm:A.length<1000000):Calls Tryz.prog 89 #[.pointer (some ⟨g,0,none⟩),.int .u64 (h:Int)] w (AtR w (⟨0,0,false⟩,false)):=by
 obtain⟨C,cap,rfl⟩:=hc.shape
 have ha:Below w.heap.size w (w.alloc (.cells #[.int .u8 0,.int .u64 0,.bool false] 145)):=alB
 have hx:(w.alloc (.cells #[.int .u8 0,.int .u64 0,.bool false] 145)).cell? ⟨g,0,none⟩=some (.slice C A.length cap):=(hc.ab ha).box.cell (k:=0) rfl
 have d1:¬((h:Int)<1):=by omega
 have d2:(A.length:Int)<(h:Int):=by omega
 have d3:IntKind.u64.wrap (A.length:Int)=(A.length:Int):=wide_u64 A.length (by omega)
 have HA:=zz ha
 generalize A.length=n at *
 clear hc h1 hm ha
 go_enter Tryz.func89,Tryz.ntmps89
 go_wp2_with fail
 (try simp only[Exit.inBlock,Exit.then])
 refine bodyPost_ret (v:=.tuple #[.agg #[.int .u8 0,.int .u64 0,.bool false],.bool false]) ?_ rfl ?_
 · rw[results_cell_tmp rfl]
   go_simp
 exact⟨rfl,HA.out⟩
set_option maxRecDepth 100000 in
theorem at_in {B g i:Nat} {v:Value} {A:HL} {w:World} {x:Hdl} (hc:RcB w B g v A) (hx:A[i]? = some x) (hm:A.length<1000000):Calls Tryz.prog 89 #[.pointer (some ⟨g,0,none⟩),.int .u64 ((i:Int)+1)] w (AtR w (bif x.on then (x,true) else (⟨0,0,false⟩,false))):=by
 have ha:Below w.heap.size w (w.alloc (.cells #[.int .u8 0,.int .u64 0,.bool false] 145)):=alB
 have hg:=(hc.ab ha).box.cell (k:=0) rfl
 obtain⟨gb,cap,rfl,x0,x1,x2,_⟩:=(hc.ab ha).form hx
 have hi:i<A.length:=(List.getElem?_eq_some_iff.1 hx).1
 have d1:¬((i:Int)+1<1):=by omega
 have d2:¬(A.length:Int)<(i:Int)+1:=by omega
 have d3:IntKind.u64.wrap (A.length:Int)=(A.length:Int):=wide_u64 A.length (by omega)
 have d4:IntKind.u64.wrap ((i:Int)+1-1)=(i:Int):=by rw[show (i:Int)+1-1=(i:Int) by omega];exact wide_u64 i (by omega)
 have d5:IntKind.u64.wrap (i:Int)=(i:Int):=wide_u64 i (by omega)
 have d6:(i:Int)<(A.length:Int):=by omega
 have HA:=zz ha
 obtain⟨r,u,on⟩:=x
 try simp only at x0 x1 x2⊢
 generalize A.length=n at *
 clear hc hx hm ha hi
 cases on
 all_goals
  go_enter Tryz.func89,Tryz.ntmps89
  go_wp2_with fail
  (try simp only[Exit.inBlock,Exit.then])
 · refine bodyPost_ret (v:=.tuple #[.agg #[.int .u8 0,.int .u64 0,.bool false],.bool false]) ?_ rfl ?_
   · rw[results_cell_tmp rfl]
     go_simp
   exact⟨rfl,HA.out⟩
 · refine bodyPost_ret (v:=.tuple #[.agg #[.int .u8 (r:Int),.int .u64 (u:Int),.bool true],.bool true]) ?_ rfl ?_
   · rw[results_cell_tmp rfl]
     go_simp
   exact⟨rfl,alB⟩
theorem rat25_any {B g h:Nat} {v:Value} {A:HL} {w:World} (hc:RcB w B g v A) (hm:A.length<1000000):Calls Tryz.prog 89 #[.pointer (some ⟨g,0,none⟩),.int .u64 (h:Int)] w (AtR w (atP A h)):=by
 unfold atP atH nthH
 cases h with
 | zero=>exact at_zero hc
 | succ i=>
   rw[if_neg (by omega),Nat.add_sub_cancel]
   have e:((i+1:Nat):Int)=(i:Int)+1:=by omega
   rw[e]
   rcases Nat.lt_or_ge i A.length with hi | hi
   · rw[List.getElem?_eq_getElem hi]
     have h1:=at_in hc (List.getElem?_eq_getElem hi) hm
     cases hon:(A[i]).on
     · rw[hon] at h1
       simp only[Option.filter,hon]
       exact h1
     · rw[hon] at h1
       simp only[Option.filter,hon]
       exact h1
   · rw[List.getElem?_eq_none hi]
     have h1:=at_over (h:=i+1) hc (by omega) hm
     rw[e] at h1
     exact h1
theorem ns_row_ne {w:World} {B B' g:Nat} {v lv:Value} {A:HL} {l:List Nat} (h:RcB w B g v A) (hn:U64.NsB w B' lv l):(∀k,lv.ownBlock=some k→v.ownBlock≠some k)∧lv.ownBlock≠some g:=by
 refine⟨fun k hk hv=>?_,row_ne hn h.box (by decide)⟩
 rcases hn.2 with ⟨rfl,_⟩ | ⟨g1,cap,cur,rfl,_,hb,_⟩
 · cases hk
 · rcases h.own.2 with ⟨rfl,_⟩ | ⟨g2,cap2,cur2,rfl,_,hb2,_⟩
   · cases hv
   · simp only[Value.ownBlock,Option.some.injEq] at hk hv
     subst hk
     subst hv
     rw[hb] at hb2
     injection hb2 with hb2
     injection hb2 with _ hb2
     exact absurd hb2 (by decide)
set_option maxRecDepth 100000 in
theorem ralive_any {B g:Nat} {v:Value} {A:HL} {w:World} (hc:RcB w B g v A) (hm:A.length<1000):Calls Tryz.prog 113 #[.pointer (some ⟨g,0,none⟩)] w fun e w'=>∃lv,e = .returned lv∧U64.NsB w' w.heap.size lv (aliveH A)∧Below w.heap.size w w':=by
 obtain⟨C,cap,hv⟩:=hc.shape
 have HC:=zz hc
 have HV:=zz hv
 obtain⟨n,hn⟩:∃n,A.length=n:=⟨_,rfl⟩
 have HN:=zz hn
 rw[hn] at hv hm
 have hmb:(n:Int)<1000:=by omega
 clear hc hn hm
 go_enter Tryz.func113,Tryz.ntmps113
 go_wp2_with fail
 go_loopw [3,4] (fun lv z wr=>∃i:Nat,i≤n∧z = .int .i64 (i:Int)∧U64.NsB wr w.heap.size lv (aliveF 0 (A.take i))∧Below w.heap.size w wr) (fun _ z _=>n-(intOf z).toNat)
 case atStart=>exact⟨0,Nat.zero_le _,rfl,U64.NsB.nil _ _,Below.refl _ _⟩
 case round =>
  obtain⟨i,hi,rfl,hns,hb⟩:=hrel
  have C1:=zz (HC.out.ab hb)
  have N1:=zz hns
  have B1:=zz hb
  have hg:wr.cell? ⟨g,0,none⟩=some (.slice C n cap):=by
   have:=C1.out.box.cell (k:=0) rfl
   rw[hv] at this
   exact this
  clear hns hb
  by_cases hlt:i<n
  · obtain ⟨x,hx⟩:∃x,A[i]? = some x:=⟨_,List.getElem?_eq_getElem (by rw[HN.out];exact hlt)⟩
    obtain⟨gb,cap',hv',x0,x1,x2,_⟩:=C1.out.form hx
    rw[hv,HN.out] at hv'
    injection hv' with hv1 _ hv2
    subst hv1 hv2
    have HX:=zz hx
    have HLT:=zz hlt
    have hlti:(i:Int)<(n:Int):=by omega
    have hw:IntKind.u64.wrap ((i:Int)+1)=((i+1:Nat):Int):=wide_u64 (i+1) (by omega)
    have LN:Hid ((aliveF 0 (A.take i)).length≤100000):=zz (by have:=aliveF_len (A.take i) 0;have:=List.length_take_le i A;omega)
    have TK:Hid (A.take (i+1)=A.take i++[x]):=zz (by rw[List.take_add_one,hx];rfl)
    have TL:Hid ((A.take i).length=i):=zz (by rw[List.length_take,HN.out];omega)
    obtain⟨r,u,on⟩:=x
    try simp only at x0 x1 x2
    clear hx hlt hi x0 x1
    cases on
    · have AL:Hid (aliveF 0 (A.take (i+1))=aliveF 0 (A.take i)):=zz (by rw[TK.out,aliveF_snoc];simp)
      clear TK TL
      go_wp2_with fail
      go_roundw
      case rel=>exact⟨i+1,HLT.out,by go_num,by rw[AL.out];exact N1.out,B1.out⟩
      case measure=>simp[intOf];have:=HLT.out;omega
    · obtain⟨i1,hi1⟩:∃i1:Nat,i1=i+1:=⟨_,rfl⟩
      have hw1:IntKind.u64.wrap ((i:Int)+1)=(i1:Int):=by rw[hi1];exact hw
      have AL:Hid (aliveF 0 (A.take (i+1))=aliveF 0 (A.take i)++[i1]):=zz (by rw[TK.out,aliveF_snoc,TL.out,hi1];simp)
      have GC:Hid (CbB (wr.alloc (.cells #[.int .u64 (i1:Int)] 33)) wr.heap.size 33 #[.int .u64 (i1:Int)]):=zz (CbB.new _ _ _)
      have b3:Below wr.heap.size wr (wr.alloc (.cells #[.int .u64 (i1:Int)] 33)):=alB
      have N3:=zz (N1.out.ab b3)
      have B3:=zz (below_tr B1.out b3 B1.out.size)
      clear TK TL b3 hi1 hw
      go_wp2_with (first
       | (refine U64.wpList_appN rfl (.tmp 22) (.tmp 26) rfl (B:=w.heap.size) N3.out rfl i1 rfl GC.out LN.out (Nat.le_trans B1.out.size (by simp)) ?_
          intro v5 w5 h5 g5
          have N5:=zz h5
          have B5:=zz (U64.below_grownO B3.out g5 (own_ge9 N3.out) B3.out.size)
          clear h5 g5))
      go_roundw
      case rel=>exact⟨i+1,HLT.out,by go_num,by rw[AL.out];exact N5.out,B5.out⟩
      case measure=>simp[intOf];have:=HLT.out;omega
  · obtain rfl:i=n:=by omega
    have AL:Hid (aliveF 0 (A.take i)=aliveH A):=zz (by rw[←HN.out,List.take_length];rfl)
    clear hlt hi
    go_wp2_with fail
    go_ret
    exact⟨_,rfl,by rw[←AL.out];exact N1.out,B1.out⟩
theorem infoH:(Tryz.prog.info? 145).map (fun i=>(i.zero,i.size,i.bytes))=some (some (.agg #[.int .u8 0,.int .u64 0,.bool false]),3,24):=by kernel_rfl
set_option maxRecDepth 100000 in
theorem rcheck_any {B g h need:Nat} {v:Value} {A:HL} {w:World} (hc:RcB w B g v A) (hm:A.length<900):Calls Tryz.prog 58 #[.pointer (some ⟨g,0,none⟩),.int .u64 (h:Int),.int .u8 (need:Int)] w fun e w'=>e = .returned (.int .i64 (checkH A h need:Int))∧Below w.heap.size w w':=by
 have HT:=zz (rat25_any (h:=h) hc (by omega))
 unfold AtR atP hagg at HT
 unfold checkH
 clear hc hm
 cases ha:atH A h with
 | none=>
   rw[ha] at HT
   clear ha
   go_enter Tryz.func58,Tryz.ntmps58
   go_wp2_with fail
   refine HT.out.mono ?_
   rintro e w1 ⟨rfl,hb⟩
   have B1:=zz hb
   clear hb HT
   go_wp2_with fail
   go_ret
   exact⟨rfl,B1.out.alloc B1.out.size _⟩
 | some x=>
   rw[ha] at HT
   try simp only at HT⊢
   have d2:(bits .andNot .u8 (need:Int) (x.r:Int) != 0)=overR need x.r:=rfl
   generalize overR need x.r=b2 at *
   clear ha
   cases b2
   all_goals
    go_enter Tryz.func58,Tryz.ntmps58
    go_wp2_with fail
    refine HT.out.mono ?_
    rintro e w1 ⟨rfl,hb⟩
    have B1:=zz hb
    clear hb HT
    go_wp2_with fail
    go_ret
    exact⟨rfl,B1.out.alloc B1.out.size _⟩
def offL (A:HL) (L:List Nat):HL:=A.mapIdx fun j x=>⟨x.r,x.up,x.on && !decide (j+1∈L)⟩
theorem offL_len (A:HL) (L:List Nat):(offL A L).length=A.length:=by simp[offL]
theorem offL_at (A:HL) (L:List Nat) (i:Nat):(offL A L)[i]? = (A[i]?).map fun x=>⟨x.r,x.up,x.on && !decide (i+1∈L)⟩:=by
 unfold offL
 rw[List.getElem?_mapIdx]
theorem offL_nil (A:HL):offL A []=A:=by
 apply List.ext_getElem?
 intro i
 rw[offL_at]
 cases A[i]? <;> simp
theorem offL_snoc {A:HL} {L:List Nat} {i:Nat} {x:Hdl} (h:A[i]? = some x):(offL A L).set i ⟨x.r,x.up,false⟩=offL A (L++[i+1]):=by
 have hi:i<A.length:=(List.getElem?_eq_some_iff.1 h).1
 apply List.ext_getElem?
 intro j
 rw[List.getElem?_set,offL_len]
 by_cases e:i=j
 · subst e
   rw[if_pos rfl,if_pos hi,offL_at,h]
   simp
 · rw[if_neg e,offL_at,offL_at]
   cases A[j]? with
   | none=>rfl
   | some y=>
     have:(j+1∈L++[i+1])↔j+1∈L:=by
      rw[List.mem_append,List.mem_singleton]
      constructor
      · rintro (h | h)
        · exact h
        · omega
      · exact .inl
     simp[this]
theorem offL_kill {A:HL} {L:List Nat} {v:Nat} (h:∀i,i<A.length→(i+1∈L↔klH A v (i+1)=true)):offL A L=killH A v:=by
 apply List.ext_getElem?
 intro j
 rw[offL_at,killH_at]
 cases hj:A[j]? with
 | none=>rfl
 | some y=>
   have h1:=h j (List.getElem?_eq_some_iff.1 hj).1
   unfold klH at h1
   have h2:decide (j+1∈L)=(decide (j+1=v)||belowH A v (j+1)):=by
    rw[Bool.eq_iff_iff,decide_eq_true_eq]
    exact h1
   simp only[Option.map_some]
   rw[h2]
theorem hcs_set:∀{A:HL} {i:Nat} {x:Hdl},A[i]? = some x→hcs (A.set i ⟨x.r,x.up,false⟩)=(hcs A).set (i*3+2) (.bool false)
 | [],i,x,h=>by simp at h
 | y::r,0,x,h=>by
   simp only[List.getElem?_cons_zero,Option.some.injEq] at h
   subst h
   simp[hcs,hc1]
 | y::r,i+1,x,h=>by
   have ih:=hcs_set (A:=r) (i:=i) (x:=x) (by simpa using h)
   have e:(i+1)*3+2=(hc1 y).length+(i*3+2):=by simp only[hc1,List.length_cons,List.length_nil];omega
   rw[List.set_cons_succ]
   simp only[hcs]
   rw[ih,e,List.set_append,if_neg (by omega),Nat.add_sub_cancel_left]
theorem row_set {w:World} {B n s g c k:Nat} {e:TypeId} {xs:List Value} (h:w.ownsRow B e s (.slice (some ⟨g,0,none⟩) n c) n xs) (hk:k<n*s) (u:Value):(w.setCell ⟨g,k,none⟩ u).ownsRow B e s (.slice (some ⟨g,0,none⟩) n c) n (xs.set k u):=by
 obtain⟨hl,h2⟩:=h
 refine⟨by rw[List.length_set];exact hl,?_⟩
 rcases h2 with ⟨h3,_⟩ | ⟨g',cap,cur,h3,hB,hb,hn,hc,hs,ht⟩
 · cases h3
 · injection h3 with h3 _ h4
   injection h3 with h3
   injection h3 with h3
   subst h3 h4
   refine .inr ⟨g,c,cur.setIfInBounds k u,rfl,hB,heap_setCell_same w g k _ _ u hb,hn,hc,by simpa using hs,?_⟩
   rw[Array.toList_setIfInBounds,List.take_set,ht]
theorem RcB.off {w:World} {B g gb cap i:Nat} {A:HL} {x:Hdl} (h:RcB w B g (.slice (some ⟨gb,0,none⟩) A.length cap) A) (hx:A[i]? = some x):RcB (w.setCell ⟨gb,i*3+2,none⟩ (.bool false)) B g (.slice (some ⟨gb,0,none⟩) A.length cap) (A.set i ⟨x.r,x.up,false⟩):=by
 have hi:i<A.length:=(List.getElem?_eq_some_iff.1 hx).1
 have hne:g≠gb:=fun e=>row_ne h.own h.box (by decide) (by rw[e];rfl)
 refine⟨h.box.far hne _,?_,by simpa using h.low⟩
 rw[List.length_set,hcs_set hx]
 exact row_set h.own (by omega) _
theorem belowF_none {A:HL} {h k:Nat} (ha:atH A k=none):∀n,belowF n A h k=false
 | 0=>rfl
 | n+1=>by simp[belowF,upH,ha]
set_option maxRecDepth 100000 in
theorem rbelow_yes {B g h k:Nat} {v:Value} {A:HL} {w:World} {x0 y0:Hdl} (hc:RcB w B g v A) (hA:RightA A) (hm:A.length<900) (hh:atH A h=some x0) (hk:atH A k=some y0):Calls Tryz.prog 90 #[.pointer (some ⟨g,0,none⟩),.int .u64 (h:Int),.int .u64 (k:Int)] w fun e w'=>e = .returned (.bool (belowF A.length A h k))∧Below w.heap.size w w':=by
 have H1:=zz (rat25_any (h:=h) hc (by omega))
 have H2:=zz fun W (hW:Below w.heap.size w W)=>rat25_any (h:=k) (hc.ab hW) (by omega)
 have HC:=zz hc
 have HA:=zz hA
 have HK:=zz hk
 unfold AtR atP hagg at H1 H2
 rw[hh] at H1
 rw[hk] at H2
 try simp only at H1 H2
 have HM:=zz hm
 clear hc hA hm hh hk
 go_enter Tryz.func90,Tryz.ntmps90
 go_wp2_with fail
 refine H1.out.mono ?_
 rintro e w1 ⟨rfl,hb⟩
 have B2:=zz (hb.alloc hb.size (.cells #[.int .u8 (x0.r:Int),.int .u64 (x0.up:Int),.bool x0.on] 145))
 clear hb H1
 go_wp2_with fail
 refine (H2.out _ B2.out).mono ?_
 rintro e w3 ⟨rfl,hb⟩
 have B3:=zz (below_tr B2.out hb B2.out.size)
 have B4:=zz (B3.out.alloc B3.out.size (.cells #[.int .u8 (y0.r:Int),.int .u64 (y0.up:Int),.bool y0.on] 145))
 have C4:=zz (CbB.new w3 145 #[.int .u8 (y0.r:Int),.int .u64 (y0.up:Int),.bool y0.on])
 have S3:=zz B3.out.size
 clear hb H2
 go_wp2_with fail
 generalize w3.heap.size=bx at *
 go_loopg [] k (fun z wr=>∃(k':Nat) (y:Hdl),k'≤z∧atH A k'=some y∧belowF A.length A h k'=belowF A.length A h k∧CbB wr bx 145 #[.int .u8 (y.r:Int),.int .u64 (y.up:Int),.bool y.on]∧Below w.heap.size w wr)
 case atStart=>exact⟨k,y0,Nat.le_refl _,HK.out,rfl,C4.out,B4.out⟩
 case round=>
  obtain⟨k',y,hz,hy,hE,hb,hbw⟩:=hrel
  have HZ:=zz hz
  have CB:=zz hb
  have BW:=zz hbw
  have hup:upH A k'=y.up:=by unfold upH;rw[hy]
  have hst:=belowF_step HA.out h k'
  rw[hE,hup] at hst
  have c0:wr.cell? ⟨bx,0,none⟩=some (.int .u8 (y.r:Int)):=CB.out.cell (k:=0) rfl
  have c1:wr.cell? ⟨bx,1,none⟩=some (.int .u64 (y.up:Int)):=CB.out.cell (k:=1) rfl
  have c2:wr.cell? ⟨bx,2,none⟩=some (.bool y.on):=CB.out.cell (k:=2) rfl
  have f0:=CB.out.free 0
  have f1:=CB.out.free 1
  have f2:=CB.out.free 2
  by_cases h0:y.up=0
  · have d1:((y.up:Int) != 0)=false:=by simp[h0]
    have HR:Hid (belowF A.length A h k=false):=zz (by rw[hst];simp[h0])
    clear hz hy hE hb hbw hup hst h0
    go_wp2_with fail
    go_ret
    exact⟨by rw[HR.out];rfl,BW.out⟩
  · have d1:((y.up:Int) != 0)=true:=by simp[h0]
    by_cases h1:y.up=h
    · have d2:((y.up:Int)==(h:Int))=true:=by simp[h1]
      have HR:Hid (belowF A.length A h k=true):=zz (by rw[hst];simp[h1];exact h1▸h0)
      clear hz hy hE hb hbw hup hst h0 h1
      go_wp2_with fail
      go_ret
      exact⟨by rw[HR.out];rfl,BW.out⟩
    · have d2:((y.up:Int)==(h:Int))=false:=by simp;omega
      have hlt:y.up<k':=by
       rcases HA.out.upLt k' with h2 | ⟨h2,_⟩
       · rw[hup] at h2;exact absurd h2 h0
       · rwa [hup] at h2
      obtain⟨q1,q2,q3⟩:=atH_some.1 hy
      obtain⟨y2,hy2⟩:=Option.isSome_iff_exists.1 (HA.out.on _ _ q2 q3 h0)
      obtain⟨p1,p2,p3⟩:=atH_some.1 hy2
      obtain⟨i,hi⟩:∃i,i=y.up-1:=⟨_,rfl⟩
      rw[←hi] at p2
      have d3:IntKind.u64.wrap ((y.up:Int)-1)=(i:Int):=by rw[show (y.up:Int)-1=(i:Int) by omega];exact wide_u64 i (by have:=(List.getElem?_eq_some_iff.1 p2).1;have:=HM.out;omega)
      have RC:=HC.out.ab hbw
      obtain⟨gb,cap,rfl,e0,e1,e2,_⟩:=RC.form p2
      have hg:wr.cell? ⟨g,0,none⟩=some (.slice (some ⟨gb,0,none⟩) A.length cap):=RC.box.cell (k:=0) rfl
      have hil:i<A.length:=(List.getElem?_eq_some_iff.1 p2).1
      have d4:(i:Int)<(A.length:Int):=by omega
      have HL:=zz hlt
      have HY2:=zz hy2
      have HE2:Hid (belowF A.length A h y.up=belowF A.length A h k):=zz (by
       have e1:(y.up != 0)=true:=by simpa using h0
       have e2:(y.up==h)=false:=by simpa using h1
       rw[e1,e2,Bool.true_and,Bool.false_or] at hst
       exact hst.symm)
      clear hz hy hE hb hbw hup hst h0 h1 hlt q1 q2 q3 hy2 p1 p2 p3 hi RC hil
      generalize A.length=n at *
      go_wp2_with fail
      go_region
      have CN:Hid (CbB ((((wr.setCell ⟨bx,0,none⟩ (.int .u8 (y2.r:Int))).setCell ⟨bx,1,none⟩ (.int .u64 (y2.up:Int))).setCell ⟨bx,2,none⟩ (.bool y2.on)).drew) bx 145 #[.int .u8 (y2.r:Int),.int .u64 (y2.up:Int),.bool y2.on]):=zz (((CB.out.set 0 (.int .u8 (y2.r:Int))).set 1 (.int .u64 (y2.up:Int))).set 2 (.bool y2.on))
      have BN:Hid (Below w.heap.size w ((((wr.setCell ⟨bx,0,none⟩ (.int .u8 (y2.r:Int))).setCell ⟨bx,1,none⟩ (.int .u64 (y2.up:Int))).setCell ⟨bx,2,none⟩ (.bool y2.on)).drew)):=zz (((BW.out.setCell (p:=⟨bx,0,none⟩) S3.out _).setCell (p:=⟨bx,1,none⟩) S3.out _).setCell (p:=⟨bx,2,none⟩) S3.out _).drew
      go_wp2_with fail
      go_roundg y.up
      case measure=>have:=HL.out;have:=HZ.out;omega
      case rel=>exact⟨y.up,y2,Nat.le_refl _,HY2.out,HE2.out,CN.out,BN.out⟩
theorem rbelow_no {B g h k:Nat} {v:Value} {A:HL} {w:World} (hc:RcB w B g v A) (hm:A.length<900) (hh:¬((atP A h).2=true∧(atP A k).2=true)):Calls Tryz.prog 90 #[.pointer (some ⟨g,0,none⟩),.int .u64 (h:Int),.int .u64 (k:Int)] w fun e w'=>e = .returned (.bool false)∧Below w.heap.size w w':=by
 have H1:=zz (rat25_any (h:=h) hc (by omega))
 have H2:=zz fun W (hW:Below w.heap.size w W)=>rat25_any (h:=k) (hc.ab hW) (by omega)
 unfold AtR hagg at H1 H2
 generalize atP A h=x0 at *
 generalize atP A k=y0 at *
 obtain⟨x0,b0⟩:=x0
 obtain⟨y0,b1⟩:=y0
 try simp only at H1 H2 hh
 have d1:(b0=false∧b1=false)∨(b0=false∧b1=true)∨(b0=true∧b1=false):=by
  cases b0 <;> cases b1 <;> simp at hh⊢
 clear hh hc hm
 rcases d1 with ⟨rfl,rfl⟩ | ⟨rfl,rfl⟩ | ⟨rfl,rfl⟩
 all_goals
  go_enter Tryz.func90,Tryz.ntmps90
  go_wp2_with fail
  refine H1.out.mono ?_
  rintro e w1 ⟨rfl,hb⟩
  have B2:=zz (hb.alloc hb.size (.cells #[.int .u8 (x0.r:Int),.int .u64 (x0.up:Int),.bool x0.on] 145))
  clear hb H1
  go_wp2_with fail
  refine (H2.out _ B2.out).mono ?_
  rintro e w3 ⟨rfl,hb⟩
  have B3:=zz (below_tr B2.out hb B2.out.size)
  clear hb H2
  go_wp2_with fail
  go_ret
  exact⟨rfl,B3.out.alloc B3.out.size _⟩
theorem rbelow_any {B g h k:Nat} {v:Value} {A:HL} {w:World} (hc:RcB w B g v A) (hA:RightA A) (hm:A.length<900):Calls Tryz.prog 90 #[.pointer (some ⟨g,0,none⟩),.int .u64 (h:Int),.int .u64 (k:Int)] w fun e w'=>e = .returned (.bool (belowH A h k))∧Below w.heap.size w w':=by
 unfold belowH
 cases hh:atH A h with
 | none=>exact rbelow_no hc hm (fun ⟨h1,_⟩=>by unfold atP at h1;rw[hh] at h1;cases h1)
 | some x0=>
   cases hk:atH A k with
   | none=>
     rw[belowF_none hk]
     exact rbelow_no hc hm (fun ⟨_,h1⟩=>by unfold atP at h1;rw[hk] at h1;cases h1)
   | some y0=>exact rbelow_yes hc hA hm hh hk
def gonL (A:HL) (v i:Nat):List Nat:=((List.range i).map (· + 1)).filter (klH A v)
theorem gonL_succ (A:HL) (v i:Nat):gonL A v (i+1)=gonL A v i++(bif klH A v (i+1) then [i+1] else []):=by
 unfold gonL
 rw[List.range_succ,List.map_append,List.filter_append]
 cases h:klH A v (i+1) <;> simp[h]
theorem gonL_len (A:HL) (v i:Nat):(gonL A v i).length≤i:=by
 unfold gonL
 exact Nat.le_trans (List.length_filter_le _ _) (by simp)
theorem gonL_mem (A:HL) (v i j:Nat):j+1∈gonL A v i↔j<i∧klH A v (j+1)=true:=by
 unfold gonL
 rw[List.mem_filter,List.mem_map]
 constructor
 · rintro ⟨⟨q,h1,h2⟩,h3⟩
   have h4:=List.mem_range.1 h1
   exact⟨by omega,h3⟩
 · rintro ⟨h1,h2⟩
   exact⟨⟨j,List.mem_range.2 h1,rfl⟩,h2⟩
theorem gonL_in {A:HL} {v x:Nat} (h:x∈gonL A v A.length):∃j,x=j+1∧j<A.length:=by
 unfold gonL at h
 rw[List.mem_filter,List.mem_map] at h
 obtain⟨⟨q,h1,h2⟩,_⟩:=h
 exact⟨q,h2.symm,List.mem_range.1 h1⟩
set_option maxRecDepth 100000 in
theorem rrevoke_none {B g h vv:Nat} {v:Value} {A:HL} {w:World} (hc:RcB w B g v A) (hm:A.length<900) (hh:¬((atP A h).2=true∧(atP A vv).2=true)):Calls Tryz.prog 61 #[.pointer (some ⟨g,0,none⟩),.int .u64 (h:Int),.int .u64 (vv:Int)] w fun e w'=>e = .returned (.int .i64 7)∧Below w.heap.size w w':=by
 have H1:=zz (rat25_any (h:=h) hc (by omega))
 have H2:=zz fun W (hW:Below w.heap.size w W)=>rat25_any (h:=vv) (hc.ab hW) (by omega)
 unfold AtR hagg at H1 H2
 generalize atP A h=x0 at *
 generalize atP A vv=y0 at *
 obtain⟨x0,b0⟩:=x0
 obtain⟨y0,b1⟩:=y0
 try simp only at H1 H2 hh
 have d1:(b0=false∧b1=false)∨(b0=false∧b1=true)∨(b0=true∧b1=false):=by
  cases b0 <;> cases b1 <;> simp at hh⊢
 clear hh hc hm
 rcases d1 with ⟨rfl,rfl⟩ | ⟨rfl,rfl⟩ | ⟨rfl,rfl⟩
 all_goals
  go_enter Tryz.func61,Tryz.ntmps61
  go_wp2_with fail
  refine H1.out.mono ?_
  rintro e w1 ⟨rfl,hb⟩
  have B2:=zz (hb.alloc hb.size (.cells #[.int .u8 (x0.r:Int),.int .u64 (x0.up:Int),.bool x0.on] 145))
  have X2:=zz (CbB.new w1 145 #[.int .u8 (x0.r:Int),.int .u64 (x0.up:Int),.bool x0.on])
  clear hb H1
  go_wp2_with fail
  refine (H2.out _ B2.out).mono ?_
  rintro e w3 ⟨rfl,hb⟩
  have B3:=zz (below_tr B2.out hb B2.out.size)
  have B4:=zz (B3.out.alloc B3.out.size (.cells #[.int .u8 (y0.r:Int),.int .u64 (y0.up:Int),.bool y0.on] 145))
  have X4:=zz ((X2.out.ab hb).ab ((Below.refl _ _).alloc (Nat.le_refl _) (.cells #[.int .u8 (y0.r:Int),.int .u64 (y0.up:Int),.bool y0.on] 145)))
  have x40:=X4.out.cell (k:=0) rfl
  clear hb H2 X2
  go_wp2_with fail
  go_ret
  exact⟨rfl,B4.out⟩
set_option maxRecDepth 100000 in
theorem rrevoke_no {B g h vv:Nat} {v:Value} {A:HL} {w:World} {x0 y0:Hdl} (hc:RcB w B g v A) (hA:RightA A) (hm:A.length<900) (ha:atH A h=some x0) (hb:atH A vv=some y0) (hn:mayRv A x0 h vv=false):Calls Tryz.prog 61 #[.pointer (some ⟨g,0,none⟩),.int .u64 (h:Int),.int .u64 (vv:Int)] w fun e w'=>e = .returned (.int .i64 250)∧Below w.heap.size w w':=by
 have H1:=zz (rat25_any (h:=h) hc (by omega))
 have H2:=zz fun W (hW:Below w.heap.size w W)=>rat25_any (h:=vv) (hc.ab hW) (by omega)
 have HB:=zz fun W (hW:Below w.heap.size w W)=>rbelow_any (h:=h) (k:=vv) (hc.ab hW) hA hm
 unfold AtR atP hagg at H1 H2
 rw[ha] at H1
 rw[hb] at H2
 try simp only at H1 H2
 unfold mayRv at hn
 rw[Bool.or_eq_false_iff,decide_eq_false_iff_not] at hn
 have d0:((h:Int) != (vv:Int))=true:=by have:=hn.1;simp;omega
 have d1:(bits .and .u8 (x0.r:Int) 8==0)=noGive x0.r:=rfl
 have hn2:=hn.2
 generalize noGive x0.r=b1 at *
 generalize belowH A h vv=b2 at *
 clear hc ha hb hm hn hA
 cases b1
 · obtain rfl:b2=false:=by simpa using hn2
   clear hn2
   go_enter Tryz.func61,Tryz.ntmps61
   go_wp2_with fail
   refine H1.out.mono ?_
   rintro e w1 ⟨rfl,hb⟩
   have B2:=zz (hb.alloc hb.size (.cells #[.int .u8 (x0.r:Int),.int .u64 (x0.up:Int),.bool x0.on] 145))
   have X2:=zz (CbB.new w1 145 #[.int .u8 (x0.r:Int),.int .u64 (x0.up:Int),.bool x0.on])
   clear hb H1
   go_wp2_with fail
   refine (H2.out _ B2.out).mono ?_
   rintro e w3 ⟨rfl,hb⟩
   have B3:=zz (below_tr B2.out hb B2.out.size)
   have B4:=zz (B3.out.alloc B3.out.size (.cells #[.int .u8 (y0.r:Int),.int .u64 (y0.up:Int),.bool y0.on] 145))
   have X4:=zz ((X2.out.ab hb).ab ((Below.refl _ _).alloc (Nat.le_refl _) (.cells #[.int .u8 (y0.r:Int),.int .u64 (y0.up:Int),.bool y0.on] 145)))
   have x40:=X4.out.cell (k:=0) rfl
   clear hb H2 X2
   go_wp2_with fail
   refine (HB.out _ B4.out).mono ?_
   rintro e w5 ⟨rfl,hb⟩
   have B5:=zz (below_tr B4.out hb B4.out.size)
   clear hb HB
   go_wp2_with fail
   go_ret
   exact⟨rfl,B5.out⟩
 · clear hn2 HB
   go_enter Tryz.func61,Tryz.ntmps61
   go_wp2_with fail
   refine H1.out.mono ?_
   rintro e w1 ⟨rfl,hb⟩
   have B2:=zz (hb.alloc hb.size (.cells #[.int .u8 (x0.r:Int),.int .u64 (x0.up:Int),.bool x0.on] 145))
   have X2:=zz (CbB.new w1 145 #[.int .u8 (x0.r:Int),.int .u64 (x0.up:Int),.bool x0.on])
   clear hb H1
   go_wp2_with fail
   refine (H2.out _ B2.out).mono ?_
   rintro e w3 ⟨rfl,hb⟩
   have B3:=zz (below_tr B2.out hb B2.out.size)
   have B4:=zz (B3.out.alloc B3.out.size (.cells #[.int .u8 (y0.r:Int),.int .u64 (y0.up:Int),.bool y0.on] 145))
   have X4:=zz ((X2.out.ab hb).ab ((Below.refl _ _).alloc (Nat.le_refl _) (.cells #[.int .u8 (y0.r:Int),.int .u64 (y0.up:Int),.bool y0.on] 145)))
   have x40:=X4.out.cell (k:=0) rfl
   clear hb H2 X2
   go_wp2_with fail
   go_ret
   exact⟨rfl,B4.out⟩
open Go.RowKit Go.Sort
set_option linter.unusedSimpArgs false
structure RyB (w:World) (O:Tg) (v:Value) (l:List Nat):Prop where
 own:OwB w 0 v l
 tag:∀g,v.ownBlock=some g→O g=none
 le:l.length≤100000
def PrO (w:World) (C:Nat) (O:Tg) (v:Value) (l:Bk2):Prop:=
 ∃ vs:List (Value×Value),w.ownsRow C 87 2 v l.length (vs.flatMap fun p=>[p.1,p.2])∧vs.length=l.length∧
   ∀(i:Nat) (p:Value×Value) (q:Ky×List Nat),vs[i]? = some p→l[i]? = some q→(∃k,RyB w O p.1 k∧k8 k=q.1)∧RyB w O p.2 q.2
structure PrI (w:World) (O:Tg) (v:Value) (l:Bk2):Prop where
 own:PrO w 0 O v l
 tag:∀g,v.ownBlock=some g→O g=none
def AscB (l:Bk2):Prop:=(l.map (·.1)).Pairwise (· < ·)
def OkB (l:Bk2):Prop:=∀p∈l,1≤p.1.length∧p.1.length≤32∧p.2.length≤1024
structure MpR (w:World) (O:Tg) (v:Value) (S l:Bk2):Prop where
 prs:PrI w O v l
 asc:AscB l
 ok:OkB l
 prm:l.Perm S
def SnR (w:World) (O:Tg) (v:Value) (sn:List (Bk2×Bool)):Prop:=
 ∃ vs:List (Value×Value),w.ownsRow 0 117 2 v sn.length (vs.flatMap fun p=>[p.1,p.2])∧vs.length=sn.length∧
   ∀(i:Nat) (q:Value×Value) (p:Bk2×Bool),vs[i]? = some q→sn[i]? = some p→q.2 = .bool p.2∧∃l,MpR w O q.1 p.1 l
structure RtM (w:World) (O:Tg) (r b:Nat) (t:TnP) (mv:Value) (l:Bk2) (c:Nat) (cv sv:Value):Prop where
 box:CbB w b 83 #[.int .u32 (t.n:Int),.string (strOf t.sec),.int .i64 (t.q:Int),mv,.pointer (some ⟨c,0,none⟩),sv,.bool t.tu]
 now:MpR w O mv t.now l
 caps:RcB w 0 c cv t.A
 ra:RightA t.A
 sns:SnR w O sv t.sn
 tb:O b=some (r,t.n)
 tc:O c=some (r,t.n)
 tv:∀g,cv.ownBlock=some g→O g=some (r,t.n)
 ts:∀g,sv.ownBlock=some g→O g=some (r,t.n)
def RtB (w:World) (O:Tg) (r b:Nat) (t:TnP):Prop:=∃mv l c cv sv,RtM w O r b t mv l c cv sv
structure RfM (w:World) (O:Tg) (r blocks:Nat) (T:List TnP) (av:Value) (bs:List (Nat×TnP)):Prop where
 box:CbB w r 64 #[.int .i64 (blocks:Int),av]
 row:w.ownsRow 0 84 1 av bs.length (bs.map fun x=>ptrV x.1)
 rtag:∀g,av.ownBlock=some g→O g=none
 asc:(bs.map fun x=>x.2.n).Pairwise (· < ·)
 prm:(bs.map (·.2)).Perm T
 all:∀x∈bs,RtB w O r x.1 x.2
 ok:∀x∈bs,TnOk x.2
 tr:O r=some (r,0)
 pos:0<r
def RfB (w:World) (O:Tg) (r blocks:Nat) (T:List TnP):Prop:=∃av bs,RfM w O r blocks T av bs
section
variable {P:Nat×Nat→Prop} {w w':World} {O O':Tg} {C:Nat} {v:Value} {l:Bk2}
theorem row_ltR {w:World} {B n s:Nat} {e:TypeId} {v:Value} {xs:List Value} (h:w.ownsRow B e s v n xs):∀k,v.ownBlock=some k→k<w.heap.size:=fun k hk=>by
 rcases h.2 with ⟨rfl,_⟩ | ⟨g',cap,cur,rfl,_,hb,_⟩
 · cases hk
 · simp only[Value.ownBlock,Option.some.injEq] at hk
   subst hk
   exact lt_of_block hb
theorem row_tg {n s:Nat} {e:TypeId} {xs:List Value} {τ:Option (Nat×Nat)} (h:w.ownsRow C e s v n xs) (ho:∀g,v.ownBlock=some g→O g=τ) (k:Stp P w O w' O') (hn:∀t,τ=some t→¬P t):
 w'.ownsRow C e s v n xs∧∀g,v.ownBlock=some g→O' g=τ:=by
 refine⟨row_fr h k.fr fun g hg=>?_,fun g hg=>(k.tg g (row_ltR h g hg)).trans (ho g hg)⟩
 rintro ⟨t,e1,e2⟩
 rw[ho g hg] at e1
 exact hn t e1 e2
theorem RyB.stp {u:List Nat} (h:RyB w O v u) (k:Stp P w O w' O'):RyB w' O' v u:=by
 obtain⟨h1,h2⟩:=row_tg h.own.own h.tag k (fun t e=>by cases e)
 exact⟨⟨h1,h.own.byt⟩,h2,h.le⟩
theorem RyB.isB {A:Option Addr} {n c:Nat} {u:List Nat} (h:RyB w O (.slice A n c) u):IsB w A n c u:=by
 obtain⟨X,cx,e,_⟩:=h.own.shape
 simp only[Value.slice.injEq] at e
 obtain⟨rfl,rfl,rfl⟩:=e
 exact h.own.isB rfl
theorem RyB.sl {u:List Nat} (h:RyB w O v u):∃A c,v = .slice A u.length c∧IsB w A u.length c u:=by
 obtain⟨A,c,e,_⟩:=h.own.shape
 subst e
 exact⟨A,c,rfl,h.isB⟩
theorem PrO.stp (h:PrO w C O v l) {τ:Option (Nat×Nat)} (ho:∀g,v.ownBlock=some g→O g=τ) (k:Stp P w O w' O') (hn:∀t,τ=some t→¬P t):PrO w' C O' v l:=by
 obtain⟨vs,h1,h2,h3⟩:=h
 refine⟨vs,(row_tg h1 ho k hn).1,h2,fun i p q hp hq=>?_⟩
 obtain⟨⟨kl,a1,a2⟩,a3⟩:=h3 i p q hp hq
 exact⟨⟨kl,a1.stp k,a2⟩,a3.stp k⟩
theorem PrO.low {C':Nat} (h:PrO w C O v l) (hc:C'≤C):PrO w C' O v l:=by
 obtain⟨vs,h1,h2⟩:=h
 exact⟨vs,row_low h1 hc,h2⟩
theorem PrO.nil (w:World) (C:Nat) (O:Tg):PrO w C O (.slice none 0 0) []:=⟨[],World.ownsRow_nil _ _ _ _,rfl,fun i p q hi=>(by simp at hi)⟩
theorem PrI.nil (w:World) (O:Tg):PrI w O (.slice none 0 0) []:=⟨PrO.nil _ _ _,fun g hg=>(by cases hg)⟩
theorem PrI.stp (h:PrI w O v l) (k:Stp P w O w' O'):PrI w' O' v l:=by
 refine⟨h.own.stp h.tag k (fun t e=>by cases e),?_⟩
 obtain⟨vs,h1,_⟩:=h.own
 exact (row_tg h1 h.tag k (fun t e=>by cases e)).2
theorem PrO.sl (h:PrO w C O v l):∃A c,v = .slice A l.length c:=by
 obtain⟨vs,h1,_⟩:=h
 obtain⟨A,c,e⟩:=row_shape h1
 exact⟨A,c,e⟩
theorem PrO.rd {A:Option Addr} {n c:Nat} (h:PrO w C O (.slice A n c) l) (hl:l.length≤1000000):PrR w A n c l:=by
 obtain⟨B,cb,e⟩:=h.sl
 obtain⟨vs,h1,h3,h4⟩:=h
 simp only[Value.slice.injEq] at e
 obtain⟨rfl,rfl,rfl⟩:=e
 refine⟨rfl,hl,fun i q hq=>?_⟩
 have hi:=(List.getElem?_eq_some_iff.1 hq).1
 obtain⟨g,hA,hc⟩:=row_cells h1 (by omega)
 obtain⟨p,hp⟩:∃p,vs[i]? = some p:=⟨_,List.getElem?_eq_getElem (by omega)⟩
 obtain⟨⟨kl,k1,k2⟩,k3⟩:=h4 i p q hp hq
 obtain⟨f1,f2⟩:=flat_at vs i p hp
 obtain⟨kA,kc,e1,i1⟩:=k1.sl
 obtain⟨vA,vc,e2,i2⟩:=k3.sl
 exact⟨g,kA,_,kc,vA,_,vc,kl,hA,by rw[←e1];exact hc _ _ f1,by rw[←e2];exact hc _ _ f2,i1,k2,i2⟩
theorem MpR.stp {S:Bk2} (h:MpR w O v S l) (k:Stp P w O w' O'):MpR w' O' v S l:=⟨h.prs.stp k,h.asc,h.ok,h.prm⟩
theorem SnR.stp {sn:List (Bk2×Bool)} {τ:Option (Nat×Nat)} (h:SnR w O v sn) (ho:∀g,v.ownBlock=some g→O g=τ) (k:Stp P w O w' O') (hn:∀t,τ=some t→¬P t):SnR w' O' v sn:=by
 obtain⟨ms,h1,h2,h3⟩:=h
 refine⟨ms,(row_tg h1 ho k hn).1,h2,fun i m p hm hp=>?_⟩
 obtain⟨h4,l,hl⟩:=h3 i m p hm hp
 exact⟨h4,l,hl.stp k⟩
theorem SnR.own {sn:List (Bk2×Bool)} (h:SnR w O v sn):∃xs,w.ownsRow 0 117 2 v sn.length xs:=by
 obtain⟨ms,h1,_⟩:=h
 exact⟨_,h1⟩
theorem RcB.stp {c:Nat} {A:HL} {τ:Nat×Nat} (h:RcB w 0 c v A) (hc:O c=some τ) (hv:∀g,v.ownBlock=some g→O g=some τ) (k:Stp P w O w' O') (hn:¬P τ):RcB w' 0 c v A:=by
 refine h.fr k.fr (fun ⟨t,e1,e2⟩=>?_) fun g hg ⟨t,e1,e2⟩=>?_
 · rw[hc] at e1;injection e1 with e1;exact hn (e1▸e2)
 · rw[hv g hg] at e1;injection e1 with e1;exact hn (e1▸e2)
theorem RtM.stp {r b c:Nat} {t:TnP} {mv cv sv:Value} (h:RtM w O r b t mv l c cv sv) (k:Stp P w O w' O') (hn:¬P (r,t.n)):RtM w' O' r b t mv l c cv sv:=by
 obtain⟨xs,hs⟩:=h.sns.own
 exact⟨(k.ot h.box.lt h.tb hn).1.trans h.box,h.now.stp k,h.caps.stp h.tc h.tv k hn,h.ra,h.sns.stp h.ts k (fun t e=>by injection e with e;exact e▸hn),
  (k.ot h.box.lt h.tb hn).2,(k.ot h.caps.box.lt h.tc hn).2,(row_tg h.caps.own h.tv k (fun t e=>by injection e with e;exact e▸hn)).2,(row_tg hs h.ts k (fun t e=>by injection e with e;exact e▸hn)).2⟩
theorem RtB.stp {r b:Nat} {t:TnP} (h:RtB w O r b t) (k:Stp P w O w' O') (hn:¬P (r,t.n)):RtB w' O' r b t:=by
 obtain⟨mv,l,c,cv,sv,h⟩:=h
 exact⟨mv,l,c,cv,sv,h.stp k hn⟩
theorem RfM.stp {r blocks:Nat} {T:List TnP} {av:Value} {bs:List (Nat×TnP)} (h:RfM w O r blocks T av bs) (k:Stp P w O w' O') (hn:∀i,¬P (r,i)):RfM w' O' r blocks T av bs:=by
 obtain⟨h1,h2⟩:=row_tg h.row h.rtag k (fun t e=>by cases e)
 exact⟨(k.ot h.box.lt h.tr (hn 0)).1.trans h.box,h1,h2,h.asc,h.prm,fun x hx=>(h.all x hx).stp k (hn _),h.ok,(k.ot h.box.lt h.tr (hn 0)).2,h.pos⟩
theorem RfB.stp {r blocks:Nat} {T:List TnP} (h:RfB w O r blocks T) (k:Stp P w O w' O') (hn:∀i,¬P (r,i)):RfB w' O' r blocks T:=by
 obtain⟨av,bs,h⟩:=h
 exact⟨av,bs,h.stp k hn⟩
theorem RfM.ab {r blocks:Nat} {T:List TnP} {av:Value} {bs:List (Nat×TnP)} (h:RfM w O r blocks T av bs) (hb:Below w.heap.size w w'):RfM w' O r blocks T av bs:=h.stp (Stp.of hb (fun _=>False) fun _ _=>rfl) fun _ h=>h
theorem RtM.ab {r b c:Nat} {t:TnP} {mv cv sv:Value} (h:RtM w O r b t mv l c cv sv) (hb:Below w.heap.size w w'):RtM w' O r b t mv l c cv sv:=h.stp (Stp.of hb (fun _=>False) fun _ _=>rfl) fun h=>h
theorem RfM.nodup {r blocks:Nat} {T:List TnP} {av:Value} {bs:List (Nat×TnP)} (h:RfM w O r blocks T av bs):(bs.map fun x=>x.2.n).Nodup:=h.asc.imp fun e=>Nat.ne_of_lt e
end
theorem ky_tri (a b:Ky):a<b∨a=b∨b<a:=by
 by_cases h1:a<b
 · exact .inl h1
 · by_cases h2:b<a
   · exact .inr (.inr h2)
   · exact .inr (.inl (List.le_antisymm (List.not_lt.1 h2) (List.not_lt.1 h1)))
theorem ky_irr {a b:Ky} (h:a<b):a≠b:=fun e=>List.lt_irrefl b (e▸h)
theorem AscB.tail {p:Ky×List Nat} {r:Bk2} (h:AscB (p::r)):AscB r:=(List.pairwise_cons.1 h).2
theorem AscB.head {p:Ky×List Nat} {r:Bk2} (h:AscB (p::r)):∀q∈r,p.1<q.1:=fun q hq=>(List.pairwise_cons.1 h).1 _ (List.mem_map.2 ⟨q,hq,rfl⟩)
theorem AscB.nodup {l:Bk2} (h:AscB l):(l.map (·.1)).Nodup:=h.imp fun e=>ky_irr e
def plcL (l:Bk2) (k:Ky):Nat:=(l.takeWhile fun p=>decide (p.1<k)).length
theorem plcL_pos {p:Ky×List Nat} {r:Bk2} {k:Ky} (h:p.1<k):plcL (p::r) k=plcL r k+1:=by
 unfold plcL;rw[List.takeWhile_cons_of_pos (by simpa using h)];rfl
theorem plcL_neg {p:Ky×List Nat} {r:Bk2} {k:Ky} (h:¬p.1<k):plcL (p::r) k=0:=by
 unfold plcL;rw[List.takeWhile_cons_of_neg (by simpa using h)];rfl
theorem plcL_le (l:Bk2) (k:Ky):plcL l k≤l.length:=by
 unfold plcL;exact (List.takeWhile_sublist _).length_le
theorem plcL_step {k:Ky}:∀{l:Bk2} {i:Nat} {p:Ky×List Nat},i≤plcL l k→l[i]? = some p→(p.1<k→i+1≤plcL l k)∧(¬p.1<k→plcL l k=i)
 | [],i,p,_,h=>by simp at h
 | q::r,0,p,_,h=>by
   simp only[List.getElem?_cons_zero,Option.some.injEq] at h
   subst h
   exact⟨fun e=>by rw[plcL_pos e];omega,fun e=>plcL_neg e⟩
 | q :: r,i+1,p,hi,h=>by
   by_cases e:q.1<k
   · rw[plcL_pos e] at hi⊢
     obtain⟨h1,h2⟩:=plcL_step (k:=k) (l:=r) (i:=i) (p:=p) (by omega) (by simpa using h)
     exact⟨fun e=>by have:=h1 e;omega,fun e=>by rw[h2 e]⟩
   · rw[plcL_neg e] at hi;omega
theorem getK_cons_ne {k:Ky} {p:Ky×List Nat} {r:Bk2} (h:p.1≠k):getK k (p::r)=getK k r:=by
 unfold getK;rw[List.find?_cons_of_neg (by simpa using h)]
theorem getK_cons_eq {k:Ky} {p:Ky×List Nat} {r:Bk2} (h:p.1=k):getK k (p::r)=some p.2:=by
 unfold getK;rw[List.find?_cons_of_pos (by simpa using h)];rfl
theorem at_plc (k:Ky):∀{l:Bk2},AscB l→(∃v,l[plcL l k]? = some (k,v)∧getK k l=some v)∨((∀q,l[plcL l k]? = some q→q.1≠k)∧getK k l=none)
 | [],_=>.inr ⟨fun q h=>by simp at h,rfl⟩
 | p :: r,h=>by
   by_cases e:p.1<k
   · rw[plcL_pos e,getK_cons_ne (ky_irr e)]
     simpa using at_plc k h.tail
   · rw[plcL_neg e]
     by_cases e2:p.1=k
     · refine .inl ⟨p.2,?_,getK_cons_eq e2⟩
       subst e2
       rfl
     · refine .inr ⟨fun q hq=>?_,?_⟩
       · simp only[List.getElem?_cons_zero,Option.some.injEq] at hq
         subst hq
         exact e2
       · rw[getK_cons_ne e2]
         refine getK_none fun q hq=>?_
         have h1:=h.head q hq
         rcases ky_tri p.1 k with h2 | h2 | h2
         · exact absurd h2 e
         · exact absurd h2 e2
         · exact fun e3=>ky_irr (List.lt_trans h2 h1) e3.symm
def withL (l:Bk2) (k:Ky) (v:List Nat) (d:Bool):Bk2:=l.take (plcL l k)++(bif d then [] else [(k,v)])++l.drop (plcL l k+(bif (getK k l).isSome then 1 else 0))
theorem withL_cons {k:Ky} {p:Ky×List Nat} {r:Bk2} (h:p.1<k) (v:List Nat) (d:Bool):withL (p::r) k v d=p::withL r k v d:=by
 unfold withL
 rw[plcL_pos h,getK_cons_ne (ky_irr h),List.take_succ_cons,show plcL r k+1+(bif (getK k r).isSome then 1 else 0)=plcL r k+(bif (getK k r).isSome then 1 else 0)+1 by omega,List.drop_succ_cons]
 rfl
theorem withL_eq {k:Ky} {p:Ky×List Nat} {r:Bk2} (h:p.1=k) (v:List Nat) (d:Bool):withL (p::r) k v d=(bif d then [] else [(k,v)])++r:=by
 unfold withL
 rw[plcL_neg (fun e=>ky_irr e h),getK_cons_eq h]
 simp
theorem withL_gt {k:Ky} {p:Ky×List Nat} {r:Bk2} (hs:AscB (p::r)) (h:k<p.1) (v:List Nat) (d:Bool):withL (p::r) k v d=(bif d then [] else [(k,v)])++p::r∧∀q∈p::r,q.1≠k:=by
 have hn:∀q∈p::r,q.1≠k:=fun q hq=>by
  rcases List.mem_cons.1 hq with rfl | hq
  · exact fun e=>ky_irr h e.symm
  · exact fun e=>ky_irr (List.lt_trans h (hs.head q hq)) e.symm
 refine⟨?_,hn⟩
 unfold withL
 rw[plcL_neg (fun e=>absurd (List.lt_trans e h) (List.lt_irrefl _)),getK_none hn]
 simp
theorem withL_mem {l:Bk2} {k:Ky} {v:List Nat} {d:Bool} {q:Ky×List Nat} (h:q∈withL l k v d):(d=false∧q=(k,v))∨q∈l:=by
 unfold withL at h
 rcases List.mem_append.1 h with h | h
 · rcases List.mem_append.1 h with h | h
   · exact .inr (List.mem_of_mem_take h)
   · cases d
     · exact .inl ⟨rfl,by simpa using h⟩
     · simp at h
 · exact .inr (List.mem_of_mem_drop h)
theorem withL_asc {k:Ky} {v:List Nat} {d:Bool}:∀{l:Bk2},AscB l→AscB (withL l k v d)
 | [],_=>by unfold withL;cases d <;> simp[AscB,plcL,getK]
 | p :: r,h=>by
   rcases ky_tri p.1 k with e | e | e
   · rw[withL_cons e]
     refine List.pairwise_cons.2 ⟨fun x hx=>?_,withL_asc h.tail⟩
     obtain⟨q,hq,rfl⟩:=List.mem_map.1 hx
     rcases withL_mem hq with ⟨_,rfl⟩ | hq
     · exact e
     · exact h.head q hq
   · rw[withL_eq e]
     cases d
     · refine List.pairwise_cons.2 ⟨fun x hx=>?_,h.tail⟩
       obtain⟨q,hq,rfl⟩:=List.mem_map.1 hx
       subst e
       exact h.head q hq
     · exact h.tail
   · rw[(withL_gt h e v d).1]
     cases d
     · refine List.pairwise_cons.2 ⟨fun x hx=>?_,h⟩
       obtain⟨q,hq,rfl⟩:=List.mem_map.1 hx
       rcases List.mem_cons.1 hq with rfl | hq
       · exact e
       · exact List.lt_trans e (h.head q hq)
     · exact h
theorem dropK_none {k:Ky} {l:Bk2} (h:∀q∈l,q.1≠k):dropK k l=l:=by
 unfold dropK
 exact List.filter_eq_self.2 fun q hq=>by simpa using h q hq
theorem mapK_none {k:Ky} {v:List Nat} {l:Bk2} (h:∀q∈l,q.1≠k):(l.map fun p=>if p.1=k then (k,v) else p)=l:=by
 have:(l.map fun p=>if p.1=k then (k,v) else p)=l.map id:=List.map_congr_left fun q hq=>by rw[if_neg (h q hq)];rfl
 rw[this,List.map_id]
theorem asc_ne {p:Ky×List Nat} {r:Bk2} (h:AscB (p::r)) {k:Ky} (e:p.1=k):∀q∈r,q.1≠k:=fun q hq e2=>ky_irr (h.head q hq) (e.trans e2.symm)
theorem withL_drop {k:Ky} {v:List Nat}:∀{l:Bk2},AscB l→withL l k v true=dropK k l
 | [],_=>rfl
 | p :: r,h=>by
   rcases ky_tri p.1 k with e | e | e
   · rw[withL_cons e,withL_drop h.tail]
     unfold dropK
     rw[List.filter_cons_of_pos (by simpa using ky_irr e)]
   · rw[withL_eq e]
     have h1:=dropK_none (asc_ne h e)
     unfold dropK at h1⊢
     rw[List.filter_cons_of_neg (by simpa using e),h1]
     rfl
   · obtain⟨h1,h2⟩:=withL_gt h e v true
     rw[h1,dropK_none h2]
     rfl
theorem putK_cons {k:Ky} {v:List Nat} {p:Ky×List Nat} {r:Bk2} (h:p.1≠k):putK k v (p::r)=p::putK k v r:=by
 unfold putK
 rw[getK_cons_ne h]
 split
 · rw[List.map_cons,if_neg h]
 · rfl
theorem withL_put {k:Ky} {v:List Nat}:∀{l:Bk2},AscB l→(withL l k v false).Perm (putK k v l)
 | [],_=>List.Perm.refl _
 | p :: r,h=>by
   rcases ky_tri p.1 k with e | e | e
   · rw[withL_cons e,putK_cons (ky_irr e)]
     exact (withL_put h.tail).cons _
   · rw[withL_eq e]
     unfold putK
     rw[getK_cons_eq e]
     simp only[Option.isSome_some,if_true,List.map_cons]
     rw[if_pos e,mapK_none (asc_ne h e)]
     exact List.Perm.refl _
   · obtain⟨h1,h2⟩:=withL_gt h e v false
     rw[h1]
     unfold putK
     rw[getK_none h2]
     exact (List.perm_append_comm (l₁:=[(k,v)]) (l₂:=p::r))
theorem withL_doK {l S:Bk2} (h:AscB l) (hp:l.Perm S) (o:OpP):(withL l (k8 o.k.l) o.v.l o.d).Perm (doK S o):=by
 have hn:=h.nodup
 unfold doK
 cases o.d with
 | true=>
   rw[withL_drop h]
   exact hp.filter _
 | false=>exact (withL_put h).trans (putK_perm hp hn)
def applyL (l:Bk2) (ops:List OpP):Bk2:=ops.foldl (fun l o=>withL l (k8 o.k.l) o.v.l o.d) l
theorem applyL_asc {l:Bk2} (ops:List OpP) (h:AscB l):AscB (applyL l ops):=by
 induction ops generalizing l with
 | nil=>exact h
 | cons o r ih=>exact ih (withL_asc h)
theorem applyL_do {l S:Bk2} (ops:List OpP) (h:AscB l) (hp:l.Perm S):(applyL l ops).Perm (doAll S ops):=by
 induction ops generalizing l S with
 | nil=>exact hp
 | cons o r ih=>exact ih (withL_asc h) (withL_doK h hp o)
theorem applyL_ok {l:Bk2} (ops:List OpP) (h:OkB l) (ho:∀o∈ops,1≤o.k.l.length∧o.k.l.length≤32∧o.v.l.length≤1024):OkB (applyL l ops):=by
 induction ops generalizing l with
 | nil=>exact h
 | cons o r ih=>
   refine ih (fun p hp=>?_) fun x hx=>ho x (List.mem_cons_of_mem _ hx)
   rcases withL_mem hp with ⟨_,rfl⟩ | hp
   · obtain⟨h1,h2,h3⟩:=ho o List.mem_cons_self
     exact⟨by simp only[k8_len];exact h1,by simp only[k8_len];exact h2,h3⟩
   · exact h p hp
theorem applyL_snoc (l:Bk2) (ops:List OpP) (o:OpP):applyL l (ops++[o])=withL (applyL l ops) (k8 o.k.l) o.v.l o.d:=by simp[applyL]
theorem withL_len (l:Bk2) (k:Ky) (v:List Nat) (d:Bool):(withL l k v d).length≤l.length+1:=by
 unfold withL
 simp only[List.length_append,List.length_take,List.length_drop]
 have:=plcL_le l k
 cases d <;> simp <;> omega
theorem applyL_len (l:Bk2) (ops:List OpP):(applyL l ops).length≤l.length+ops.length:=by
 induction ops generalizing l with
 | nil=>exact Nat.le_refl _
 | cons o r ih=>
   have h1:=ih (withL l (k8 o.k.l) o.v.l o.d)
   have h2:=withL_len l (k8 o.k.l) o.v.l o.d
   simp only[List.length_cons]
   show (applyL (withL l (k8 o.k.l) o.v.l o.d) r).length≤_
   omega
theorem kysK_asc {l S:Bk2} (h:AscB l) (hp:l.Perm S):kysK S=l.map (·.1):=by
 have tr:∀a b c:List UInt8,leB a b=true→leB b c=true→leB a c=true:=fun a b c h1 h2=>by simp only[leB,decide_eq_true_eq] at *;exact List.le_trans h1 h2
 have tot:∀a b:List UInt8,(leB a b||leB b a)=true:=fun a b=>by simp only[leB,Bool.or_eq_true,decide_eq_true_eq];exact List.le_total a b
 unfold kysK
 rw[←mergeSort_of_perm (hp.map (·.1))]
 refine List.mergeSort_of_pairwise (h.imp fun {a b} e=>?_)
 simp only[leB,decide_eq_true_eq]
 exact List.le_of_lt e
theorem prsK_of {l S:Bk2} (h:AscB l) (hp:l.Perm S) {m:Bk2} (hm:∀q∈m,q∈l):prsK S (m.map (·.1))=m:=by
 unfold prsK
 rw[List.map_map]
 have:m.map ((fun k=>(k,(getK k S).getD []))∘(·.1))=m.map id:=List.map_congr_left fun q hq=>by
  have h1:=getK_of (l:=l) h.nodup (x:=q.1) (v:=q.2) (hm q hq)
  rw[getK_perm hp h.nodup] at h1
  simp[h1]
 rw[this,List.map_id]
def rngL (c:CallP) (l:Bk2):Bk2:=((bif c.back then l.reverse else l).filter fun p=>!delP c.frm.l c.upto.l p.1).take c.n.toNat
theorem rngL_scan {l S:Bk2} (h:AscB l) (hp:l.Perm S) (c:CallP):prsK S (scanK c S)=rngL c l:=by
 have e:scanK c S=(rngL c l).map (·.1):=by
  unfold scanK rngL
  rw[kysK_asc h hp,List.map_take]
  congr 1
  cases c.back
  · simp only[cond_false,List.filter_map]
    rfl
  · simp only[cond_true,List.filter_map,List.filter_reverse,List.map_reverse]
    rfl
 rw[e]
 refine prsK_of h hp fun q hq=>?_
 have h1:=(List.mem_filter.1 (List.mem_of_mem_take hq)).1
 cases hb:c.back <;> rw[hb] at h1 <;> simpa using h1
theorem prsK_all {l S:Bk2} (h:AscB l) (hp:l.Perm S):prsK S (kysK S)=l:=by rw[kysK_asc h hp,prsK_of h hp fun q hq=>hq]
theorem wpList_appRow {rest:List Oper} {ops:Array Oper} {o:Oper} {a:Act} {w:World} {Q:Exit→Act→World→Prop} (hgd:o.guard=none) (s x:Operand) {T e:TypeId}
 (ho:o.op = .call { callee:=.builtin .append,args:=#[s,x],argTypes:=#[T,T] })
 (ht:Tryz.prog.underlying T=some (.slice e)) {z:Value} {sz by_:Nat} (hinf:(Tryz.prog.info? e).map (fun i=>(i.zero,i.size,i.bytes))=some (some z,sz,by_)) (hzs:z.cells.size=sz) (hsz:0<sz)
 {B n:Nat} {v:Value} {xs ys:List Value} (hown:w.ownsRow B e sz v n xs) (hs:a.eval s=v) {A:Option Addr} {m c:Nat} (hx:a.eval x = .slice A m c)
 (hA:A=none→m=0∧c=0) (hl:ys.length=m*sz) (hc:∀y,A=some y→∀j u,ys[j]? = some u→w.cell? (y.add j)=some u) (h1:∀u∈ys,u.oneCell'=true) (hb:n+m≤1000000) (hby:by_≤100) (hB:B≤w.heap.size)
 (h:∀v' w',w'.ownsRow B e sz v' (n+m) (xs++ys)→w.grownBy w' v.ownBlock→(v'.ownBlock=v.ownBlock∨v'.ownBlock=some w.heap.size)→wpList Tryz.prog ops Q rest (a.put o.dst v') w'):wpList Tryz.prog ops Q (o::rest) a w:=by
 obtain⟨i0,hi0,hz0,hz1,hz2⟩:=info_parts hinf
 have hap:∃v' w',(Builtin.append_ #[T,T] o.type #[v,.slice A m c]).run Tryz.prog w = .ok v' w'∧w'.ownsRow B e sz v' (n+m) (xs++ys)∧w.grownBy w' v.ownBlock∧(v'.ownBlock=v.ownBlock∨v'.ownBlock=some w.heap.size):=by
  cases A with
  | none=>
    obtain⟨rfl,rfl⟩:=hA rfl
    have hy:ys=[]:=List.eq_nil_of_length_eq_zero (by omega)
    subst hy
    exact⟨v,w,run_append_owned_none (P:=Tryz.prog) w B T o.type e i0 sz ht hi0 v _ _ hown,by simpa using hown,World.grownBy.refl w _,.inl rfl⟩
  | some y=>
    have hm:(n+m)*by_≤1000000*100:=Nat.mul_le_mul hb hby
    obtain⟨v1,W1,hrun,r1,r2,_,r3⟩:=run_append_own_at (P:=Tryz.prog) w B T o.type e i0 _ sz by_ ht hi0 hz0 hz1 hz2 hzs hsz v n xs hown y m c ys hl (hc y rfl) h1 (by simp only[maxLen];omega) (by omega) hB
    exact⟨v1,W1,hrun,r1,r2,r3⟩
 obtain⟨v',w',hrun,h2,h3,h4⟩:=hap
 refine wpList_plain hgd fun K hK=>?_
 unfold Oper.wp execOp
 simp only[ho,resolve,invoke,builtin,Sem.run_bind,Sem.run_pure,Result.andThen_ok,List.map_toArray,List.map_cons,List.map_nil,hs,hx,hrun]
 exact hK _ _ (h v' w' h2 h3 h4)
theorem infoPair:(Tryz.prog.info? 87).map (fun i=>(i.zero,i.size,i.bytes))=some (some (.agg #[.slice none 0 0,.slice none 0 0]),2,48):=by kernel_rfl
theorem infoTen:(Tryz.prog.info? 84).map (fun i=>(i.zero,i.size,i.bytes))=some (some (.pointer none),1,8):=by kernel_rfl
theorem infoSnp:(Tryz.prog.info? 117).map (fun i=>(i.zero,i.size,i.bytes))=some (some (.agg #[.slice none 0 0,.bool false]),2,32):=by kernel_rfl
def Grows (f:TnP→CallP→AnsP×TnP):Prop:=∀k t c,c.ops.length=c.oN→LimK k t→LimK (k+1) (f t c).2
theorem LimK.up {k m:Nat} {t:TnP} (h:LimK k t) (hk:k≤m):LimK m t:=⟨by have:=h.now;omega,by have:=h.sn;omega,fun p hp=>by have:=h.sns p hp;omega,by have:=h.A;omega⟩
theorem putH_len (A:HL) (r u:Nat):(putH A r u).2.length≤A.length+1:=by
 unfold putH
 split <;> simp
theorem giveH_len (A:HL) (h r:Nat):(giveH A h r).2.length≤A.length+1:=by
 unfold giveH
 split
 · exact Nat.le_succ _
 · next x _=>
   cases noGive x.r||overR r x.r
   · exact putH_len _ _ _
   · exact Nat.le_succ _
theorem revokeH_len (A:HL) (h v:Nat):(revokeH A h v).2.length=A.length:=by
 unfold revokeH
 split
 · rfl
 · next x _=>
   split
   · rfl
   · cases mayRv A x h v
     · rfl
     · simp[killH]
theorem g_tur:Grows turP:=fun k t c _ h=>by unfold turP;have h:=h.up (Nat.le_succ k);cases t.tu <;> exact⟨h.now,h.sn,h.sns,h.A⟩
theorem g_stp:Grows stpP:=fun k t c _ h=>by unfold stpP;have h:=h.up (Nat.le_succ k);split <;> exact h
theorem g_fin:Grows finP:=fun k t c _ h=>by unfold finP;have h:=h.up (Nat.le_succ k);split <;> exact⟨h.now,h.sn,h.sns,h.A⟩
theorem g_setA {k:Nat} {t:TnP} {A:HL} (h:LimK k t) (hA:A.length≤t.A.length+1):LimK (k+1) (setA t A):=by
 have h9:=h.A
 have h:=h.up (Nat.le_succ k)
 exact⟨h.now,h.sn,h.sns,by show A.length≤_;omega⟩
theorem g_att:Grows attP:=fun k t c _ h=>by
 unfold attP
 have h1:LimK (k+1) (attT t):=g_setA (A:=(putH t.A 15 0).2) h (putH_len _ _ _)
 have h:=h.up (Nat.le_succ k)
 split
 · exact h
 · exact h1
 · exact h1
theorem g_giv:Grows givP:=fun k t c _ h=>by
 unfold givP
 have h1:=g_setA (A:=(giveH t.A (c.hd%4294967296) c.rt).2) h (giveH_len _ _ _)
 split <;> exact h1
theorem g_rev:Grows revP:=fun k t c _ h=>by
 unfold revP
 have h1:=g_setA (A:=(revokeH t.A (c.hd%4294967296) (c.oth%4294967296)).2) h (by rw[revokeH_len];omega)
 have h:=h.up (Nat.le_succ k)
 split
 · exact h
 · exact h1
theorem g_bat:Grows batP:=fun k t c hl h=>by
 unfold batP
 have h2:=h.up (Nat.le_succ k)
 split
 · exact h2
 · exact h2
 · next h3 _=>
   unfold batQ
   cases overB (t.q:Int) (chg (doAll t.now c.ops)) (liveC t.sn) with
   | true=>exact h2
   | false=>
     refine⟨?_,h2.sn,h2.sns,h2.A⟩
     show (doAll t.now c.ops).length≤_
     have h4:=doAll_len c.ops t.now
     have h5:=h.now
     have h6:¬100<c.oN:=of_decide_eq_false h3
     omega
theorem g_get:Grows getP:=fun k t c _ h=>by have h:=h.up (Nat.le_succ k);unfold getP;split <;> first | exact h | (split <;> exact h)
theorem g_scn:Grows scnP:=fun k t c _ h=>by have h:=h.up (Nat.le_succ k);unfold scnP;split <;> exact h
theorem g_snp:Grows snpP:=fun k t c _ h=>by
 unfold snpP snapQ
 have h2:=h.up (Nat.le_succ k)
 cases overB (t.q:Int) (chg t.now) (liveC t.sn++[chg t.now]) with
 | true=>exact h2
 | false=>
   refine⟨h2.now,by show (t.sn++[(t.now,false)]).length≤_;have:=h.sn;simp;omega,fun p hp=>?_,h2.A⟩
   rcases List.mem_append.1 hp with hp | hp
   · exact h2.sns p hp
   · simp only[List.mem_singleton] at hp
     subst hp
     exact h2.now
theorem g_rel:Grows relP:=fun k t c _ h=>by
 have h:=h.up (Nat.le_succ k)
 unfold relP
 split
 · exact h
 · refine⟨h.now,?_,fun p hp=>?_,h.A⟩
   · show (relL t.sn c.sn).length≤_
     have:(relL t.sn c.sn).length=t.sn.length:=by unfold relL;split <;> simp
     rw[this]
     exact h.sn
   · have hp:p∈relL t.sn c.sn:=hp
     unfold relL at hp
     split at hp
     · next q hq=>
       rcases List.mem_or_eq_of_mem_set hp with h1 | h1
       · exact h.sns p h1
       · subst h1
         exact h.sns q (List.mem_of_getElem? hq)
     · exact h.sns p hp
theorem g_use:Grows useP:=fun k t c _ h=>h.up (Nat.le_succ k)
theorem step_ind {Q:AnsP×List TnP→Prop} (bk:Nat) {T:List TnP} {c:CallP} (h1:Q (creP bk T c)) (h2:Q (remP T c)) (h3:Q (tenC1 T c turP)) (h4:Q (tenC1 T c stpP)) (h5:Q (tenC1 T c finP)) (h6:Q (errA 0,T)) (h7:Q (lstA (U32.srt (T.map (·.n))),T))
 (h8:Q (tenC1 T c attP)) (h9:Q (tenH1 T c 0 givP)) (h10:Q (tenH1 T c 0 revP)) (h11:Q (tenH1 T c 2 batP)) (h12:Q (tenH1 T c 1 getP)) (h13:Q (tenH1 T c 1 scnP)) (h14:Q (tenH1 T c 4 snpP)) (h15:Q (tenH1 T c 4 relP)) (h16:Q (tenH1 T c 1 useP)) (h17:Q (errA 2,T)):Q (stepP bk T c):=by
 unfold stepP
 by_cases e1:c.kind=1
 · rw[if_pos e1];exact h1
 rw[if_neg e1]
 by_cases e2:c.kind=2
 · rw[if_pos e2];exact h2
 rw[if_neg e2]
 by_cases e3:c.kind=3
 · rw[if_pos e3];exact h3
 rw[if_neg e3]
 by_cases e4:c.kind=4
 · rw[if_pos e4];exact h4
 rw[if_neg e4]
 by_cases e5:c.kind=5
 · rw[if_pos e5];exact h5
 rw[if_neg e5]
 by_cases e6:c.kind=6
 · rw[if_pos e6];exact h6
 rw[if_neg e6]
 by_cases e7:c.kind=7
 · rw[if_pos e7];exact h7
 rw[if_neg e7]
 by_cases e8:c.kind=8
 · rw[if_pos e8];exact h8
 rw[if_neg e8]
 by_cases e9:c.kind=9
 · rw[if_pos e9];exact h9
 rw[if_neg e9]
 by_cases e10:c.kind=10
 · rw[if_pos e10];exact h10
 rw[if_neg e10]
 by_cases e11:c.kind=11
 · rw[if_pos e11];exact h11
 rw[if_neg e11]
 by_cases e12:c.kind=12
 · rw[if_pos e12];exact h12
 rw[if_neg e12]
 by_cases e13:c.kind=13
 · rw[if_pos e13];exact h13
 rw[if_neg e13]
 by_cases e14:c.kind=14
 · rw[if_pos e14];exact h14
 rw[if_neg e14]
 by_cases e15:c.kind=15
 · rw[if_pos e15];exact h15
 rw[if_neg e15]
 by_cases e16:c.kind=16
 · rw[if_pos e16];exact h16
 rw[if_neg e16]
 exact h17
section
variable {k:Nat} {T:List TnP} {c:CallP}
structure LimT2 (k:Nat) (T:List TnP):Prop where
 all:∀t∈T,LimK k t
 len:T.length≤k
theorem LimT2.up {m:Nat} (h:LimT2 k T) (hk:k≤m):LimT2 m T:=⟨fun t ht=>(h.all t ht).up hk,by have:=h.len;omega⟩
theorem upd_lim (h:LimT2 k T) {m:Nat} {t':TnP} (ht:LimK (k+1) t'):LimT2 (k+1) (updT m t' T):=⟨fun x hx=>by
 obtain⟨y,hy,rfl⟩:=List.mem_map.1 hx
 by_cases e:y.n=m
 · rw[if_pos e];exact ht
 · rw[if_neg e];exact (h.all y hy).up (Nat.le_succ k),by unfold updT;rw[List.length_map];have:=h.len;omega⟩
theorem tenC1_lim (h:LimT2 k T) (hl:c.ops.length=c.oN) {f:TnP→CallP→AnsP×TnP} (hf:Grows f):LimT2 (k+1) (tenC1 T c f).2:=by
 unfold tenC1
 cases hx:fndT T c.ten with
 | none=>exact h.up (Nat.le_succ k)
 | some t=>exact upd_lim h (hf k t c hl (h.all t (fndT_mem hx).1))
theorem tenH1_lim (h:LimT2 k T) (hl:c.ops.length=c.oN) {f:TnP→CallP→AnsP×TnP} (hf:Grows f) (nd:Nat):LimT2 (k+1) (tenH1 T c nd f).2:=by
 unfold tenH1
 cases hx:fndT T (c.hd/4294967296) with
 | none=>exact h.up (Nat.le_succ k)
 | some t=>
   simp only
   split
   · exact upd_lim h (hf k t c hl (h.all t (fndT_mem hx).1))
   · exact h.up (Nat.le_succ k)
theorem cre_lim (h:LimT2 k T) (bk:Nat):LimT2 (k+1) (creP bk T c).2:=by
 have h2:=h.up (Nat.le_succ k)
 unfold creP
 split
 · exact h2
 · exact h2
 · exact h2
 · exact h2
 · cases fndT T c.ten with
   | some t=>exact h2
   | none=>
     simp only
     cases fitsQ (bk:Int) (c.quota::T.map fun t=>(t.q:Int)) with
     | false=>exact h2
     | true=>
       simp only[cond_true]
       refine⟨fun t ht=>?_,by have:=h.len;simp;omega⟩
       rcases List.mem_append.1 ht with ht | ht
       · exact h2.all t ht
       · simp only[List.mem_singleton] at ht
         subst ht
         exact⟨Nat.zero_le _,Nat.zero_le _,fun p hp=>(by cases hp),Nat.zero_le _⟩
theorem rem_lim (h:LimT2 k T):LimT2 (k+1) (remP T c).2:=by
 have h2:=h.up (Nat.le_succ k)
 unfold remP
 cases fndT T c.ten with
 | none=>exact h2
 | some t=>exact⟨fun t ht=>h2.all t (List.mem_filter.1 ht).1,by have:=h.len;have:=List.length_filter_le (fun t=>!decide (t.n=c.ten)) T;show (T.filter fun t=>!decide (t.n=c.ten)).length≤_;omega⟩
theorem step_lim (h:LimT2 k T) (hl:c.ops.length=c.oN) (bk:Nat):LimT2 (k+1) (stepP bk T c).2:=by
 have h2:=h.up (Nat.le_succ k)
 exact step_ind (Q:=fun x=>LimT2 (k+1) x.2) bk (cre_lim h bk) (rem_lim h) (tenC1_lim h hl g_tur) (tenC1_lim h hl g_stp) (tenC1_lim h hl g_fin) h2 h2 (tenC1_lim h hl g_att) (tenH1_lim h hl g_giv 0) (tenH1_lim h hl g_rev 0) (tenH1_lim h hl g_bat 2) (tenH1_lim h hl g_get 1) (tenH1_lim h hl g_scn 1) (tenH1_lim h hl g_snp 4) (tenH1_lim h hl g_rel 4) (tenH1_lim h hl g_use 1) h2
structure AnsL (a:AnsP):Prop where
 prs:a.prs.length≤1000000
 lst:a.lst.length≤1000000
theorem ansL_err (e:Int):AnsL (errA e):=⟨Nat.zero_le _,Nat.zero_le _⟩
theorem ansL_hd (e:Nat):AnsL (hdA e):=⟨Nat.zero_le _,Nat.zero_le _⟩
def Short (f:TnP→CallP→AnsP×TnP):Prop:=∀t c,AnsL (f t c).1
theorem s_tur:Short turP:=fun t c=>by unfold turP;cases t.tu <;> exact ansL_err _
theorem s_stp:Short stpP:=fun t c=>by unfold stpP;split <;> exact ansL_err _
theorem s_fin:Short finP:=fun t c=>by unfold finP;split <;> exact ansL_err _
theorem s_att:Short attP:=fun t c=>by unfold attP;split <;> first | exact ansL_err _ | exact ansL_hd _
theorem s_giv:Short givP:=fun t c=>by unfold givP;split <;> first | exact ansL_err _ | exact ansL_hd _
theorem s_rev:Short revP:=fun t c=>by unfold revP;split <;> exact ansL_err _
theorem s_bat:Short batP:=fun t c=>by
 unfold batP
 split
 · exact ansL_err _
 · exact ansL_err _
 · unfold batA
   cases overB (t.q:Int) (chg (doAll t.now c.ops)) (liveC t.sn) <;> exact ansL_err _
theorem s_get:Short getP:=fun t c=>by unfold getP;split <;> first | exact ansL_err _ | (split <;> exact⟨Nat.zero_le _,Nat.zero_le _⟩)
theorem s_scn:Short scnP:=fun t c=>by
 unfold scnP
 split
 · exact ansL_err _
 · exact ansL_err _
 · exact ansL_err _
 · next h1 h2 _=>
   refine⟨?_,Nat.zero_le _⟩
   show (prsK _ (scanK c _)).length≤_
   unfold prsK
   rw[List.length_map]
   unfold scanK
   have h3:¬(100:Int)<c.n:=of_decide_eq_false h2
   exact Nat.le_trans (List.length_take_le _ _) (by omega)
theorem s_snp:Short snpP:=fun t c=>by
 unfold snpP snapA
 cases overB (t.q:Int) (chg t.now) (liveC t.sn++[chg t.now]) <;> exact⟨Nat.zero_le _,Nat.zero_le _⟩
theorem s_rel:Short relP:=fun t c=>by unfold relP;split <;> exact ansL_err _
theorem s_use:Short useP:=fun t c=>⟨Nat.zero_le _,Nat.zero_le _⟩
theorem tenC1_sh {f:TnP→CallP→AnsP×TnP} (hf:Short f):AnsL (tenC1 T c f).1:=by
 unfold tenC1
 split
 · exact ansL_err _
 · exact hf _ _
theorem tenH1_sh {f:TnP→CallP→AnsP×TnP} (hf:Short f) (nd:Nat):AnsL (tenH1 T c nd f).1:=by
 unfold tenH1
 split
 · exact ansL_err _
 · split
   · exact hf _ _
   · exact ansL_err _
theorem cre_sh (bk:Nat):AnsL (creP bk T c).1:=by
 unfold creP
 split
 · exact ansL_err _
 · exact ansL_err _
 · exact ansL_err _
 · exact ansL_err _
 · cases fndT T c.ten with
   | some t=>exact ansL_err _
   | none=>
     simp only
     cases fitsQ (bk:Int) (c.quota::T.map fun t=>(t.q:Int)) <;> exact ansL_err _
theorem step_sh (h:T.length≤1000000) (bk:Nat):AnsL (stepP bk T c).1:=
 step_ind (Q:=fun x=>AnsL x.1) bk (cre_sh bk) (by unfold remP;cases fndT T c.ten <;> exact ansL_err _) (tenC1_sh s_tur) (tenC1_sh s_stp) (tenC1_sh s_fin) (ansL_err _)
  ⟨Nat.zero_le _,by
   show (U32.srt (T.map (·.n))).length≤_
   unfold U32.srt
   rw[List.length_mergeSort,List.length_map]
   exact h⟩ (tenC1_sh s_att) (tenH1_sh s_giv 0) (tenH1_sh s_rev 0) (tenH1_sh s_bat 2) (tenH1_sh s_get 1) (tenH1_sh s_scn 1) (tenH1_sh s_snp 4) (tenH1_sh s_rel 4) (tenH1_sh s_use 1) (ansL_err _)
end
def SlA.er (x:SlA):SlA:=⟨none,x.n,0,x.l⟩
def OpP.er (o:OpP):OpP:=⟨o.k.er,o.v.er,o.d⟩
def CallP.er (c:CallP):CallP:=⟨c.kind,c.ten,c.sec.er,c.quota,c.n,c.hd,c.oth,c.sn,c.rt,none,c.oN,0,c.ops.map OpP.er,c.key.er,c.frm.er,c.upto.er,c.back⟩
theorem doAll_er (ops:List OpP):∀S:Bk2,doAll S (ops.map OpP.er)=doAll S ops:=by
 induction ops with
 | nil=>exact fun S=>rfl
 | cons o r ih=>exact fun S=>ih (doK S o)
theorem opOk_er (ops:List OpP):(ops.map OpP.er).all opOk=ops.all opOk:=by
 rw[List.all_map]
 rfl
theorem bat_er (t:TnP) (c:CallP):batP t c.er=batP t c:=by
 unfold batP batA batQ
 show (match decide (100<c.oN),(c.ops.map OpP.er).all opOk with | true,_=>_ | false,false=>_ | false,true=>_)=_
 rw[opOk_er]
 show (match decide (100<c.oN),c.ops.all opOk with
  | true,_=>(errA 2,t) | false,false=>(errA 2,t)
  | false,true=>(bif overB (t.q:Int) (chg (doAll t.now (c.ops.map OpP.er))) (liveC t.sn) then errA 261 else errA 0,bif overB (t.q:Int) (chg (doAll t.now (c.ops.map OpP.er))) (liveC t.sn) then t else batT t (doAll t.now (c.ops.map OpP.er))))=_
 rw[doAll_er]
 cases decide (100<c.oN) <;> cases c.ops.all opOk <;> rfl
theorem step_er (bk:Nat) (T:List TnP) (c:CallP):stepP bk T c.er=stepP bk T c:=by
 have h11:tenH1 T c.er 2 batP=tenH1 T c 2 batP:=by
  unfold tenH1
  show (match fndT T (c.hd/4294967296) with | none=>_ | some t=>_)=_
  cases fndT T (c.hd/4294967296) with
  | none=>rfl
  | some t=>
    simp only
    show (match checkH t.A (c.hd%4294967296) 2 with | 0=>((batP t c.er).1,updT (c.hd/4294967296) (batP t c.er).2 T) | er+1=>_)=_
    rw[bat_er]
    rfl
 unfold stepP
 rw[h11]
 rfl
theorem step_alike {c c':CallP} (h:c'.er=c.er) (bk:Nat) (T:List TnP):stepP bk T c'=stepP bk T c:=by rw[←step_er bk T c',h,step_er]
def opnT (t:TnP):TnP:=⟨t.n,t.sec,t.q,t.now,[],[],t.tu⟩
end Go.Proofs.YtgdhinjhbjolgaaGreat
