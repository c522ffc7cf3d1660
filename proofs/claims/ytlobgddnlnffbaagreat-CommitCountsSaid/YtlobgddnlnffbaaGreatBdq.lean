/-
  Parts of the proof, joined.
-/
import Derived.Test.YtlobgddnlnffbaaGreatBdc
import Derived.Lib.AppendZeros
import Derived.Lib.AppendZerosOnto
import Derived.Test.YtlobgddnlnffbaaGreatBdi
import Derived.Test.YtlobgddnlnffbaaGreatBdk
import Derived.BigRegion
import Derived.Test.YtlobgddnlnffbaaGreatBdo
namespace Go.Proofs.YtlobgddnlnffbaaGreat
set_option maxHeartbeats 4000000
open Go.RowKit
set_option linter.unusedVariables false
theorem zeroCells_u8 (k:Nat):Builtin.zeroCells #[Value.int .u8 0] k=bts (zeros k):=by
 apply Array.ext
 · simp[Builtin.zeroCells,bts,zeros]
 · intro i h1 h2
   simp[Builtin.zeroCells,bts,zeros,Nat.mod_one]
section
variable {P:Program} (w:World)
theorem run_append_zroom (t tn ty e:TypeId) (i:TypeInfo) (z:Value) (ht:P.underlying t=some (.slice e)) (htn:P.underlying tn=some (.int .i64)) (hi:P.info? e=some i) (hz:i.zero=some z) (hsz:i.size=1) (hby:i.bytes=1) (hzc:z.cells = #[.int .u8 0])
 (g sLen sCap k:Nat) (cur:Array Value) (hg:w.heap[g]? = some (.cells cur e (0,0))) (h0:0<k) (hk:k≤140737488355328)
 (hroom:sLen+k≤sCap) (hfit:sLen+k≤cur.size):
 (Builtin.append_ #[t,tn] ty #[.slice (some ⟨g,0,none⟩) sLen sCap,.int .i64 (k:Int)]).run P w =
   .ok (.slice (some ⟨g,0,none⟩) (sLen+k) sCap) (w.setRow g (cur.toList.take sLen++bvals (zeros k)++cur.toList.drop (sLen+k)).toArray):=by
 have hst:=run_storeCells_at P g sLen e (bvals (zeros k)) 0 cur w hg (by simp[bvals,zeros];omega) (by simp[bvals,Value.oneCell'])
 have hl:(bvals (zeros k)).length=k:=by simp[bvals,zeros]
 simp only[Nat.add_zero,hl] at hst
 have hw:IntKind.i64.wrap (k:Int)=k:=IntWalk.i64_in _ (by omega)
 have hneg:¬((k:Int)<0):=by omega
 have h48:¬(281474976710656<(k:Int)*((1:Nat):Int)):=by omega
 have hne:k≠0:=by omega
 have hzz:(Builtin.zeroCells #[Value.int .u8 0] k).toList=bvals (zeros k):=by rw[zeroCells_u8,bts_list];rfl
 simp[Builtin.append_,run_underlying ht,run_underlying htn,sizeOf,typeInfo,zeroValue,hi,hz,asInt,asIntOf,hw,hneg,hne,hsz,hby,hroom,Addr.add_lit,hzc,hzz,hst]
 omega
theorem run_appZ {B:Nat} {t tn ty:TypeId} {i:TypeInfo} {z:Value} (ht:P.underlying t=some (.slice 5)) (htn:P.underlying tn=some (.int .i64)) (hi:P.info? 5=some i) (hz:i.zero=some z) (hsz:i.size=1) (hby:i.bytes=1) (hzc:z.cells = #[.int .u8 0])
 {v:Value} {l:List Nat} (hown:OwB w B v l) (k:Nat) (h0:0<k) (hm:l.length+k≤140737488355328) (hbase:B≤w.heap.size):
 ∃v' w',(Builtin.append_ #[t,tn] ty #[v,.int .i64 (k:Int)]).run P w = .ok v' w'∧OwB w' B v' (l++zeros k)∧Below B w w'∧w.grownBy w' v.ownBlock:=by
 have hz0:Byt (zeros k):=fun x hx=>by rw[List.eq_of_mem_replicate hx];decide
 have ho:=hown.own
 have hzl:(zeros k).length=k:=zeros_len k
 have hlen:(l++zeros k).length=l.length+k:=by rw[List.length_append,hzl]
 have hbv:bvals (l++zeros k)=bvals l++bvals (zeros k):=by simp[bvals]
 have grown:∀(old:Nat) (row:Option Nat),
  OwB (w.drew.alloc (.cells ((bvals l).toArray++bts (zeros k)++bts (zeros (grownCap w (l.length+k) old 5-(l.length+k)))) 5)) B (.slice (some ⟨w.heap.size,0,none⟩) (l.length+k) (grownCap w (l.length+k) old 5)) (l++zeros k)∧
  w.grownBy (w.drew.alloc (.cells ((bvals l).toArray++bts (zeros k)++bts (zeros (grownCap w (l.length+k) old 5-(l.length+k)))) 5)) row:=by
  intro old row
  have hge:=grownCap_ge w (l.length+k) old 5
  have hcm:grownCap w (l.length+k) old 5≤maxLen:=grownCap_le_maxLen w (l.length+k) old 5 (by simp only[maxLen];omega)
  refine⟨OwB.ofBk (l':=l++zeros k++zeros (grownCap w (l.length+k) old 5-(l.length+k))) ?_ hbase hlen hge ?_ hcm ?_ (byt_app hown.byt hz0),⟨rfl,rfl,rfl,by simp,fun j hj _=>heap_alloc_old w.drew _ hj⟩⟩
  · have e:(bvals l).toArray++bts (zeros k)++bts (zeros (grownCap w (l.length+k) old 5-(l.length+k)))=bts (l++zeros k++zeros (grownCap w (l.length+k) old 5-(l.length+k))):=by
     apply Array.ext'
     simp[bts,bvals]
    rw[e]
    exact Bk.newAt _ _ rfl
  · rw[List.length_append,hlen,zeros_len]
    omega
  · rw[List.take_append_of_le_length (by omega),List.take_of_length_le (by omega)]
 rcases ho.2 with ⟨rfl,hx⟩ | ⟨g,cap,cur,rfl,hbg,hg,hnc,hcm,hcs,htake⟩
 · have hl0:l=[]:=List.eq_nil_of_length_eq_zero hx
   subst hl0
   have hr:=Lib.run_append_nil_zeros (P:=P) w t tn ty 5 i z .i64 .i64 ht htn hi hz k h0 (by omega) (by simp at hm;omega) (by rw[hby];simp at hm;omega)
   have hg:=grown 0 none
   simp only[List.length_nil,Nat.zero_add,List.nil_append,bvals,List.map_nil,Array.empty_append] at hg
   rw[hzc,zeroCells_u8,zeroCells_u8] at hr
   refine⟨_,_,hr,hg.1,⟨hg.2.os,hg.2.tape,hg.2.output,hg.2.size,fun j hj=>hg.2.block j (by omega) (by simp)⟩,⟨hg.2.os,hg.2.tape,hg.2.output,hg.2.size,fun j hj _=>hg.2.block j hj (by simp)⟩⟩
 · by_cases hroom:l.length+k≤cap
   · have hr:=run_append_zroom (P:=P) w t tn ty 5 i z ht htn hi hz hsz hby hzc g l.length cap k cur hg h0 (by omega) hroom (by rw[hcs];omega)
     refine⟨_,_,hr,⟨⟨?_,.inr ⟨g,cap,_,?_,hbg,setRow_heap w g cur _ 5 _ hg,?_,hcm,?_,?_⟩⟩,byt_app hown.byt hz0⟩,Below.row (Below.refl _ _) hbg _,⟨rfl,rfl,rfl,by simp,fun j _ hj=>setRow_other w g j _ (fun e=>hj (by simp[Value.ownBlock,e]))⟩⟩
     · simp[bvals]
     · rw[hlen]
     · rw[hlen];exact hroom
     · simp only[List.size_toArray,List.length_append,List.length_take,List.length_drop,Array.length_toList,bvals,List.length_map,hzl]
       omega
     · rw[hbv]
       have e1:(bvals l).length=l.length:=by simp[bvals]
       have e2:(bvals (zeros k)).length=k:=by simp[bvals,zeros]
       have e3:cur.toList.take l.length=bvals l:=by
        have:=htake
        simpa using this
       rw[e3,List.take_append_of_le_length (by rw[List.length_append,List.length_append,e1,e2,hzl];omega),List.take_of_length_le (by rw[List.length_append,List.length_append,e1,e2,hzl];omega)]
   · have hcells:=hown.rw
     have hold:(Builtin.firstCells i.size l.length (.slice (some ⟨g,0,none⟩) l.length cap)).run P w.drew = .ok (bvals l).toArray w.drew:=by
      refine run_firstCells_some (P:=P) w.drew i.size l.length ⟨g,0,none⟩ l.length cap (bvals l) (by rw[hsz];simp[bvals]) fun j u hj=>?_
      have hjl:j<l.length:=by
       rcases Nat.lt_or_ge j l.length with h | h
       · exact h
       · rw[List.getElem?_eq_none (by simp[bvals];omega)] at hj;cases hj
      have h1:=hcells j hjl
      have e1:(Addr.mk g 0 none).add j=⟨g,j,none⟩:=by rw[Addr.add_mid,Nat.zero_add]
      rw[e1]
      show w.cell? _=_
      rw[h1,←hj]
      simp[bvals,at',List.getElem?_eq_getElem hjl]
     have hr:=Lib.run_append_grow_zeros (P:=P) w t tn ty 5 i z .i64 .i64 ht htn hi hz (some ⟨g,0,none⟩) l.length cap (bvals l) hold k h0 (by omega) (by omega) (by omega) (by rw[hby];omega) (growslice_fits (by omega) (by rw[hby];omega))
     rw[hzc,zeroCells_u8,zeroCells_u8] at hr
     have hg2:=grown cap none
     refine⟨_,_,hr,hg2.1,⟨hg2.2.os,hg2.2.tape,hg2.2.output,hg2.2.size,fun j hj=>hg2.2.block j (by omega) (by simp)⟩,⟨hg2.2.os,hg2.2.tape,hg2.2.output,hg2.2.size,fun j hj _=>hg2.2.block j hj (by simp)⟩⟩
theorem wpList_appZ {ops:Array Oper} {rest:List Oper} {o:Oper} {a:Act} {Q:Exit→Act→World→Prop} (hgd:o.guard=none) (s x:Operand) {t tn:TypeId}
 (ho:o.op = .call { callee:=.builtin .append,args:=#[s,x],argTypes:=#[t,tn] })
 {B:Nat} {i:TypeInfo} {z:Value} (ht:P.underlying t=some (.slice 5)) (htn:P.underlying tn=some (.int .i64)) (hi:P.info? 5=some i) (hz:i.zero=some z)
 (hsz:i.size=1) (hby:i.bytes=1) (hzc:z.cells = #[.int .u8 0])
 {v:Value} {l:List Nat} (hown:OwB w B v l) (hs:a.eval s=v) (k:Nat) (hx:a.eval x = .int .i64 (k:Int)) (h0:0<k)
 (hm:l.length+k≤140737488355328) (hbase:B≤w.heap.size)
 (h:∀v' w',OwB w' B v' (l++zeros k)→Below B w w'→w.grownBy w' v.ownBlock→wpList P ops Q rest (a.put o.dst v') w'):wpList P ops Q (o::rest) a w:=by
 obtain⟨v',w',hrun,h2,h3,h4⟩:=run_appZ (P:=P) w (ty:=o.type) ht htn hi hz hsz hby hzc hown k h0 hm hbase
 refine wpList_plain hgd fun K hK=>?_
 unfold Oper.wp execOp
 simp only[ho,resolve,invoke,builtin,Sem.run_bind,Sem.run_pure,Result.andThen_ok,List.map_toArray,List.map_cons,List.map_nil,hs,hx,hrun]
 exact hK _ _ (h v' w' h2 h3 h4)
end
def fldM (m:Mp):List (Nat×Nat):=[(m.cm,8),(m.pg,4),(m.rc,8),(m.rg,2),(m.lv,1),(m.gn,2),(m.tn,4)]
def mbytes (m:Mp):List Nat:=flatN (fldM m)++zeros 195
theorem fldM_len (m:Mp):(flatN (fldM m)).length=29:=by simp[fldM,flatN,digB_len]
theorem mbytes_len (m:Mp):(mbytes m).length=224:=by rw[mbytes,List.length_append,fldM_len,zeros_len]
theorem fldM_ok {m:Mp} (h:m.Ok):NumOk (fldM m):=by
 have h1:=h.cm;have h2:=h.pg;have h3:=h.rc;have h4:=h.rg;have h5:=h.lv;have h6:=h.gn;have h7:=h.tn
 intro p hp
 simp only[fldM,List.mem_cons,List.not_mem_nil,or_false] at hp
 rcases hp with rfl | rfl | rfl | rfl | rfl | rfl | rfl <;> simp only <;> omega
def rowF (ps:List (Nat×Nat)):Array Value:=(ps.flatMap fun p=>[Value.int .u64 (p.1:Int),Value.int .i64 (p.2:Int)]).toArray
theorem rowF_at:∀(ps:List (Nat×Nat)) (j:Nat) (p:Nat×Nat),ps[j]? = some p→(ps.flatMap fun p=>[Value.int .u64 (p.1:Int),Value.int .i64 (p.2:Int)])[j*2]? = some (.int .u64 (p.1:Int))∧(ps.flatMap fun p=>[Value.int .u64 (p.1:Int),Value.int .i64 (p.2:Int)])[j*2+1]? = some (.int .i64 (p.2:Int))
 | [],j,p,h=>by simp at h
 | q::ps,0,p,h=>by
   simp only[List.getElem?_cons_zero,Option.some.injEq] at h
   subst h
   exact⟨rfl,rfl⟩
 | q::ps,j+1,p,h=>by
   have:=rowF_at ps j p (by simpa using h)
   rw[show (j+1)*2=j*2+1+1 by omega]
   exact this
def FldB (w:World) (g:Nat) (ps:List (Nat×Nat)):Prop:=w.heap[g]? = some (.cells (rowF ps) 256 (0,0))
theorem FldB.lt {w:World} {g:Nat} {ps:List (Nat×Nat)} (h:FldB w g ps):g<w.heap.size:=lt_of_block h
theorem FldB.low {w w':World} {g C:Nat} {ps:List (Nat×Nat)} (h:FldB w g ps) (hb:Below C w w') (hC:g<C):FldB w' g ps:=(hb.block g hC).trans h
theorem FldB.at {w:World} {g:Nat} {ps:List (Nat×Nat)} (h:FldB w g ps) {j:Nat} {p:Nat×Nat} (hj:ps[j]? = some p):w.cell? ⟨g,j*2,none⟩=some (.int .u64 (p.1:Int))∧w.cell? ⟨g,j*2+1,none⟩=some (.int .i64 (p.2:Int)):=by
 have:=rowF_at ps j p hj
 rw[cell_of_row w g _ _ _ (0,0) h,cell_of_row w g _ _ _ (0,0) h]
 simpa[rowF] using this
def encP (m:Mp):List Nat×Nat:=bif rightB m then (mbytes m,0) else ([],2)
set_option maxRecDepth 100000 in
theorem encode_any (m:Mp) (w:World) (hm:m.Ok):
 Calls Tryz.prog 165 #[.agg (mpv m)] w (OutB w (encP m).1 (encP m).2):=by
 obtain⟨i0,hi0,hz0,hz1,hz2⟩:=info_parts infoU8
 have hz3:(Value.int .u8 0).cells = #[.int .u8 0]:=rfl
 have HM:=Lib.hid fun W=>right_any m W
 have HO:=Lib.hid (fldM_ok hm)
 have HL:=Lib.hid (fldM_len m)
 unfold encP rightE at *
 cases hr:rightB m
 · simp only[cond_false]
   rw[hr] at HM
   obtain⟨cm,pg,rc,rg,lv,gn,tn⟩:=m
   simp only[mpv] at HM⊢
   clear hr hm
   go_enter Tryz.func165,Tryz.ntmps165
   go_wp2_with fail
   refine (HM.out _).mono ?_
   rintro e w1 ⟨rfl,hb⟩
   have B1:Hid (Below w.heap.size w w1):=Lib.hid (((Below.refl _ _).alloc (Nat.le_refl _) _).trans (hb.mono (by simp)))
   clear hb
   go_wp2_with fail
   go_ret2
   exact OutB.refused 2 B1.out
 · simp only[cond_true]
   rw[hr] at HM
   have M0:=Lib.hid (MpB.new w m)
   have z1:IntKind.u64.wrap (m.pg:Int)=(m.pg:Int):=wide_u64 m.pg (by have:=hm.pg;omega)
   have z2:IntKind.u64.wrap (m.rg:Int)=(m.rg:Int):=wide_u64 m.rg (by have:=hm.rg;omega)
   have z3:IntKind.u64.wrap (m.lv:Int)=(m.lv:Int):=wide_u64 m.lv (by have:=hm.lv;omega)
   have z4:IntKind.u64.wrap (m.gn:Int)=(m.gn:Int):=wide_u64 m.gn (by have:=hm.gn;omega)
   have z5:IntKind.u64.wrap (m.tn:Int)=(m.tn:Int):=wide_u64 m.tn (by have:=hm.tn;omega)
   have HE:Hid (mbytes m=flatN (fldM m)++zeros 195):=Lib.hid rfl
   have HF:Hid (rowF (fldM m) = #[.int .u64 (m.cm:Int),.int .i64 8,.int .u64 (m.pg:Int),.int .i64 4,.int .u64 (m.rc:Int),.int .i64 8,.int .u64 (m.rg:Int),.int .i64 2,.int .u64 (m.lv:Int),.int .i64 1,.int .u64 (m.gn:Int),.int .i64 2,.int .u64 (m.tn:Int),.int .i64 4]):=Lib.hid rfl
   have HN:Hid ((fldM m).length=7):=Lib.hid rfl
   generalize mbytes m=MB at *
   generalize fldM m=ps at *
   obtain⟨cm,pg,rc,rg,lv,gn,tn⟩:=m
   simp only[mpv] at HM M0 z1 z2 z3 z4 z5⊢
   clear hr hm
   go_enter Tryz.func165,Tryz.ntmps165
   go_wp2_with fail
   refine (HM.out _).mono ?_
   rintro e w1 ⟨rfl,hb⟩
   have B1:Hid (Below w.heap.size w w1):=Lib.hid (((Below.refl _ _).alloc (Nat.le_refl _) _).trans (hb.mono (by simp)))
   obtain⟨c0,c1,c2,c3,c4,c5,c6⟩:=(M0.out.ab hb).cells
   have hz:w.heap.size<w1.heap.size:=by have:=hb.size;simp at this;omega
   clear hb
   go_wp2_with fail
   have F0:Hid (FldB ((w1.alloc (.cells #[.int .u32 (pg:Int),.int .u64 (rc:Int),.int .u16 (rg:Int)] 34)).alloc (.cells #[.int .u64 (cm:Int),.int .i64 8,.int .u64 (pg:Int),.int .i64 4,.int .u64 (rc:Int),.int .i64 8,.int .u64 (rg:Int),.int .i64 2,.int .u64 (lv:Int),.int .i64 1,.int .u64 (gn:Int),.int .i64 2,.int .u64 (tn:Int),.int .i64 4] 256)) (w1.heap.size+1) ps):=Lib.hid (by
    unfold FldB
    rw[HF.out]
    have:=heap_alloc_new (w1.alloc (.cells #[.int .u32 (pg:Int),.int .u64 (rc:Int),.int .u16 (rg:Int)] 34)) (.cells #[.int .u64 (cm:Int),.int .i64 8,.int .u64 (pg:Int),.int .i64 4,.int .u64 (rc:Int),.int .i64 8,.int .u64 (rg:Int),.int .i64 2,.int .u64 (lv:Int),.int .i64 1,.int .u64 (gn:Int),.int .i64 2,.int .u64 (tn:Int),.int .i64 4] 256)
    simpa using this)
   have B2:Hid (Below w.heap.size w ((w1.alloc (.cells #[.int .u32 (pg:Int),.int .u64 (rc:Int),.int .u16 (rg:Int)] 34)).alloc (.cells #[.int .u64 (cm:Int),.int .i64 8,.int .u64 (pg:Int),.int .i64 4,.int .u64 (rc:Int),.int .i64 8,.int .u64 (rg:Int),.int .i64 2,.int .u64 (lv:Int),.int .i64 1,.int .u64 (gn:Int),.int .i64 2,.int .u64 (tn:Int),.int .i64 4] 256))):=Lib.hid ((B1.out.alloc B1.out.size _).alloc (by have:=B1.out.size;simp;omega) _)
   generalize hW2:((w1.alloc (.cells #[.int .u32 (pg:Int),.int .u64 (rc:Int),.int .u16 (rg:Int)] 34)).alloc (.cells #[.int .u64 (cm:Int),.int .i64 8,.int .u64 (pg:Int),.int .i64 4,.int .u64 (rc:Int),.int .i64 8,.int .u64 (rg:Int),.int .i64 2,.int .u64 (lv:Int),.int .i64 1,.int .u64 (gn:Int),.int .i64 2,.int .u64 (tn:Int),.int .i64 4] 256))=w2 at *
   have hz2':w2.heap.size=w1.heap.size+2:=by rw[←hW2];simp
   have HZ2:=Lib.hid hz2'
   clear hW2 hz2' c0 c1 c2 c3 c4 c5 c6 HF M0 HM B1 z1 z2 z3 z4 z5
   go_loopw [6,8,9,10,48] (fun v _ _ _ j wr=>∃q:Nat,q≤7∧j = .int .i64 q∧OwB wr (w1.heap.size+2) v (flatN (ps.take q))∧FldB wr (w1.heap.size+1) ps∧Below w.heap.size w wr∧w1.heap.size+2≤wr.heap.size) (fun _ _ _ _ j _=>7-(intOf j).toNat)
   case atStart=>exact⟨0,Nat.zero_le _,rfl,OwB.nil _ _,F0.out,B2.out,by rw[HZ2.out];exact Nat.le_refl _⟩
   case round=>
    obtain⟨q,hq,rfl,ho,hf,kb,hs⟩:=hrel
    by_cases hlt:q<7
    · have hqi:(q:Int)<7:=by omega
      obtain⟨p,hp⟩:∃p,ps[q]? = some p:=⟨_,List.getElem?_eq_getElem (by rw[HN.out];exact hlt)⟩
      obtain⟨p1,p2,p3,p4⟩:=HO.out p (List.mem_of_getElem? hp)
      have hts:ps.take (q+1)=ps.take q++[p]:=by rw[List.take_add_one,hp];rfl
      have hfl:=flatN_snoc (ps.take q) p
      rw[←hts] at hfl
      obtain⟨a0,a1⟩:=hf.at hp
      have hle:=flatN_le (ps:=ps.take q) (fun r hr=>HO.out r (List.mem_of_mem_take hr))
      rw[List.length_take] at hle
      obtain⟨x,sz⟩:=p
      simp only at p1 p2 p3 p4 a0 a1 hfl
      have HPU:=Lib.hid fun W=>put_any x sz W p1 p2 p3 p4
      have FF:=Lib.hid hf
      have KB:=Lib.hid kb
      have OO:=Lib.hid ho
      have HFL:=Lib.hid hfl
      have HLE:=Lib.hid hle
      have HQ:=Lib.hid hlt
      have P3:=Lib.hid p3
      have HS:=Lib.hid hs
      clear ho hf kb hfl hle hlt hts hp p1 p2 p3 p4 hq hs
      go_wp2_with fail
      refine (HPU.out _).mono ?_
      rintro e w3 ⟨rfl,hk,hb⟩
      have hb2:=((Below.refl wr.heap.size wr).alloc (Nat.le_refl _) (.cells #[.int .u64 (x:Int),.int .i64 (sz:Int)] 256)).trans (hb.mono (by simp))
      have K3:Hid (IsB w3 (some ⟨wr.heap.size+1,0,none⟩) sz sz (digB x sz)):=Lib.hid (by
       have:=isB_whole hk (digB_byt _ _) (digB_len _ _) (by have:=P3.out;omega)
       simpa using this)
      have O3:=Lib.hid (OO.out.ab hb2)
      have F3:=Lib.hid (FF.out.low hb2 FF.out.lt)
      have KB3:=Lib.hid (below_tr KB.out hb2 KB.out.size)
      have HS3:Hid (w1.heap.size+2≤w3.heap.size):=Lib.hid (Nat.le_trans HS.out hb2.size)
      clear hk hb hb2
      go_wp2_with (refine wpList_appB _ rfl (.tmp 60) (.tmp 61) rfl Tryz.underlying41 hi0 hz0 hz1 hz2 rfl O3.out rfl K3.out rfl (by have:=HLE.out;have:=HQ.out;have:=P3.out;omega) HS3.out ?_
                   intro v6 w6 hv6 hb6 hg6 hat6
                   rw[←HFL.out] at hv6
                   have V6:=Lib.hid hv6
                   have F6:=Lib.hid (F3.out.low hb6 (by omega))
                   have B6:=Lib.hid (KB3.out.trans (hb6.mono (by have:=hz;omega)))
                   have S6:=Lib.hid (Nat.le_trans HS3.out hb6.size)
                   clear hv6 hb6 hg6 hat6)
      go_roundw
      case rel=>exact⟨q+1,HQ.out,by go_num,V6.out,F6.out,B6.out,S6.out⟩
      case measure=>simp[intOf];have:=HQ.out;omega
    · obtain rfl : q=7:=by omega
      rw[List.take_of_length_le (by rw[HN.out];exact Nat.le_refl _)] at ho
      obtain⟨A,cap,rfl,_,_⟩:=ho.shape
      have hl29:=HL.out
      rw[hl29] at ho⊢
      have OO:=Lib.hid ho
      have KB:=Lib.hid kb
      have HS:=Lib.hid hs
      clear ho kb hlt hq hf hs hl29
      go_wp2_with (refine wpList_appZ _ rfl (.tmp 64) (.tmp 67) rfl Tryz.underlying41 Tryz.underlying3 hi0 hz0 hz1 hz2 hz3 OO.out rfl 195 rfl (by decide) (by rw[HL.out];decide) HS.out ?_
                   intro v6 w6 hv6 hb6 hg6
                   rw[←HE.out] at hv6
                   have V6:=Lib.hid hv6
                   have B6:=Lib.hid (KB.out.trans (hb6.mono (by have:=hz;omega)))
                   clear hv6 hb6 hg6)
      go_ret2
      exact⟨_,rfl,V6.out.lower (by have:=hz;omega),B6.out⟩
def nzFrom (l:List Nat):Nat→Nat→Option Nat
 | 0,_=>none
 | f+1,i=>if at' l i=0 then nzFrom l f (i+1) else some i
def nAt (l:List Nat) (k s:Nat):Nat:=numB ((l.drop k).take s)
def mpOf (l:List Nat):Mp:=⟨nAt l 0 8,nAt l 8 4,nAt l 12 8,nAt l 20 2,nAt l 22 1,nAt l 23 2,nAt l 25 4⟩
structure DecR where
 m:Mp
 err:Nat
 pos:Nat
deriving DecidableEq
def decP (l:List Nat):DecR:=
 if l.length=224 then
  (if (mpOf l).cm=0 then ⟨mp0,5,0⟩
  else bif rightB (mpOf l) then (match nzFrom l 195 29 with | some i=>⟨mp0,5,i⟩ | none=>⟨mpOf l,0,0⟩) else ⟨mp0,5,22⟩)
 else ⟨mp0,2,0⟩
def decV (d:DecR):Value:=.tuple #[.agg (mpv d.m),.int .i64 (d.err:Int),.int .i64 (d.pos:Int)]
set_option maxRecDepth 100000 in
theorem dnext_any (A:Option Addr) (n c bx ax k s:Nat) (l:List Nat) (w:World) (hi:IsB w A n c l) (hx:CbB w bx 41 #[.slice A n c]) (ha:CbB w ax 3 #[.int .i64 (k:Int)]) (hks:k+s≤n) (h1:1≤s) (h8:s≤8) (hn:n≤4096):
 Calls Tryz.prog 141 #[.int .i64 (s:Int),.pointer (some ⟨bx,0,none⟩),.pointer (some ⟨ax,0,none⟩)] w fun e w'=>e = .returned (.int .u64 (nAt l k s:Int))∧w'=w.setCell ⟨ax,0,none⟩ (.int .i64 ((k+s:Nat):Int)):=by
 have c1:=hx.cell (k:=0) rfl
 have c2:=ha.cell (k:=0) rfl
 have f2:=ha.free 0
 have hcap:=hi.1.lenCap
 have hsl:(Instr.sliceAt 41 (.slice A n c) (some (.int .i64 (k:Int))) (some (.int .i64 ((k:Int)+(s:Int)))) none).run Tryz.prog w = .ok (.slice (dropA A c k) s (c-k)) w:=by
  have:=sl_mid w A n c k (k+s) (by omega) (by omega)
  rw[show ((k+s:Nat):Int)=(k:Int)+(s:Int) by omega,show k+s-k=s by omega] at this
  exact this
 have hI:=(isB_drop hi (m:=k) (by omega)).take (m:=s) (by omega)
 have HG:=Lib.hid (getB_any _ s (c-k) _ w hI h1 h8)
 have hk1:(k:Int)≤4096:=by omega
 have hs1:(s:Int)≤8:=by omega
 rw[show ((k+s:Nat):Int)=(k:Int)+(s:Int) by omega]
 unfold nAt
 generalize numB ((l.drop k).take s)=N at *
 generalize dropA A c k=D at *
 clear hi hx ha hcap hI hks h1 h8 hn
 go_enter Tryz.func141,Tryz.ntmps141
 go_wp2_with fail
 refine HG.out.mono ?_
 rintro e w' ⟨rfl,rfl⟩
 go_wp2_with fail
 go_ret
 exact⟨rfl,rfl⟩
theorem MpB.wipe {w:World} {g:Nat} {m:Mp} (h:MpB w g m):MpB (((((((w.setCell ⟨g,0,none⟩ (.int .u64 0)).setCell ⟨g,1,none⟩ (.int .u32 0)).setCell ⟨g,2,none⟩ (.int .u64 0)).setCell ⟨g,3,none⟩ (.int .u16 0)).setCell ⟨g,4,none⟩ (.int .u8 0)).setCell ⟨g,5,none⟩ (.int .u16 0)).setCell ⟨g,6,none⟩ (.int .u32 0)) g mp0:=by
 have h7:=(((((((show CbB w g 40 (mpv m) from h).set 0 (.int .u64 0)).set 1 (.int .u32 0)).set 2 (.int .u64 0)).set 3 (.int .u16 0)).set 4 (.int .u8 0)).set 5 (.int .u16 0)).set 6 (.int .u32 0)
 have e:(((((((mpv m).setIfInBounds 0 (.int .u64 0)).setIfInBounds 1 (.int .u32 0)).setIfInBounds 2 (.int .u64 0)).setIfInBounds 3 (.int .u16 0)).setIfInBounds 4 (.int .u8 0)).setIfInBounds 5 (.int .u16 0)).setIfInBounds 6 (.int .u32 0)=mpv mp0:=by simp[mpv,mp0]
 rw[e] at h7
 exact h7
theorem MpB.far {w:World} {g c k:Nat} {m:Mp} (h:MpB w g m) (hne:g≠c) (u:Value):MpB (w.setCell ⟨c,k,none⟩ u) g m:=CbB.far h hne u
theorem MpB.drew {w:World} {g:Nat} {m:Mp} (h:MpB w g m):MpB w.drew g m:=h
theorem CbB.drew {w:World} {g:Nat} {T:TypeId} {cs:Array Value} (h:CbB w g T cs):CbB w.drew g T cs:=h
theorem CbB.wipe {w:World} {g c:Nat} {T:TypeId} {cs:Array Value} (h:CbB w c T cs) (hn:c≠g):CbB (((((((w.setCell ⟨g,0,none⟩ (.int .u64 0)).setCell ⟨g,1,none⟩ (.int .u32 0)).setCell ⟨g,2,none⟩ (.int .u64 0)).setCell ⟨g,3,none⟩ (.int .u16 0)).setCell ⟨g,4,none⟩ (.int .u8 0)).setCell ⟨g,5,none⟩ (.int .u16 0)).setCell ⟨g,6,none⟩ (.int .u32 0)) c T cs:=
 ((((((h.far hn _).far hn _).far hn _).far hn _).far hn _).far hn _).far hn _
theorem below_wipe {B g:Nat} {a w:World} (h:Below B a w) (hg:B≤g):Below B a (((((((w.setCell ⟨g,0,none⟩ (.int .u64 0)).setCell ⟨g,1,none⟩ (.int .u32 0)).setCell ⟨g,2,none⟩ (.int .u64 0)).setCell ⟨g,3,none⟩ (.int .u16 0)).setCell ⟨g,4,none⟩ (.int .u8 0)).setCell ⟨g,5,none⟩ (.int .u16 0)).setCell ⟨g,6,none⟩ (.int .u32 0)):=
 ((((((h.setCell hg _).setCell hg _).setCell hg _).setCell hg _).setCell hg _).setCell hg _).setCell hg _
theorem three (w:World) (x y z:Array Value) (X Y Z:TypeId):CbB (((w.alloc (.cells x X)).alloc (.cells y Y)).alloc (.cells z Z)) w.heap.size X x∧CbB (((w.alloc (.cells x X)).alloc (.cells y Y)).alloc (.cells z Z)) (w.heap.size+1) Y y∧CbB (((w.alloc (.cells x X)).alloc (.cells y Y)).alloc (.cells z Z)) (w.heap.size+1+1) Z z∧Below w.heap.size w (((w.alloc (.cells x X)).alloc (.cells y Y)).alloc (.cells z Z)):=by
 refine⟨((CbB.new w X x).ab ((Below.refl _ _).alloc (Nat.le_refl _) _)).ab ((Below.refl _ _).alloc (Nat.le_refl _) _),?_,?_,(((Below.refl _ _).alloc (Nat.le_refl _) _).alloc (by simp) _).alloc (by simp;omega) _⟩
 · have:=(CbB.new (w.alloc (.cells x X)) Y y).ab ((Below.refl _ _).alloc (Nat.le_refl _) (.cells z Z))
   simpa using this
 · have:=CbB.new ((w.alloc (.cells x X)).alloc (.cells y Y)) Z z
   simpa using this
theorem nAt_lt {l:List Nat} (hb:Byt l) (hl:l.length=224) (k s:Nat) (h:k+s≤224):nAt l k s<256 ^ s:=by
 unfold nAt
 have h1:((l.drop k).take s).length=s:=by rw[List.length_take,List.length_drop];omega
 have:=numB_lt (l:=(l.drop k).take s) (fun x hx=>hb x (List.mem_of_mem_drop (List.mem_of_mem_take hx)))
 rwa [h1] at this
set_option maxRecDepth 100000 in
theorem dec_results (tmps:Array Value) (g2 g4:Nat) (W:World) (m:Mp) (err pos:Nat) (h2:tmps[2]?.getD undef = .pointer (some ⟨g2,0,none⟩)) (h3:tmps[3]?.getD undef = .int .i64 (err:Int)) (h4:tmps[4]?.getD undef = .pointer (some ⟨g4,0,none⟩))
 (hm:MpB W g2 m) (hp:CbB W g4 3 #[.int .i64 (pos:Int)]):(results Tryz.f83 tmps).run Tryz.prog W = .ok (decV ⟨m,err,pos⟩) W:=by
 obtain⟨c0,c1,c2,c3,c4,c5,c6⟩:=hm.cells
 have d0:=hp.cell (k:=0) rfl
 simp[results,Tryz.results83,h2,h3,h4,go_sem,c0,c1,c2,c3,c4,c5,c6,d0,decV,mpv]
set_option maxRecDepth 100000 in
theorem decode_short (A:Option Addr) (n c:Nat) (w:World) (h:n≠224):
 Calls Tryz.prog 83 #[.slice A n c] w fun e w'=>e = .returned (decV ⟨mp0,2,0⟩)∧Below w.heap.size w w':=by
 have h1:((n:Int) != 224)=true:=by simp;omega
 clear h
 go_enter Tryz.func83,Tryz.ntmps83
 go_wp2_with fail
 refine bodyPost_ret (dec_results _ (w.heap.size+1) (w.heap.size+1+1) _ mp0 2 0 rfl rfl rfl ?_ ?_) rfl ⟨rfl,?_⟩
 · exact (three w _ _ _ _ _ _).2.1
 · exact (three w _ _ _ _ _ _).2.2.1
 · exact (three w _ _ _ _ _ _).2.2.2
set_option maxRecDepth 100000 in
theorem dnext_lit (A:Option Addr) (c:Nat) (l:List Nat) (w:World) (hi:IsB w A 224 c l) (k s t:Nat) (K S T:Int) (hK:K=(k:Int)) (hS:S=(s:Int)) (hT:T=(t:Int)) (ht:k+s=t) (h1:1≤s) (h8:s≤8) (h224:t≤224) (mc:Array Value):
 Calls Tryz.prog 141 #[.int .i64 S,.pointer (some ⟨w.heap.size,0,none⟩),.pointer (some ⟨w.heap.size+1+1,0,none⟩)] (((w.alloc (.cells #[.slice A 224 c] 41)).alloc (.cells mc 40)).alloc (.cells #[.int .i64 K] 3)) fun e w'=>
  e = .returned (.int .u64 (nAt l k s:Int))∧w'=(((w.alloc (.cells #[.slice A 224 c] 41)).alloc (.cells mc 40)).alloc (.cells #[.int .i64 T] 3)):=by
 subst hK hS hT ht
 have h0:CbB (((w.alloc (.cells #[.slice A 224 c] 41)).alloc (.cells mc 40)).alloc (.cells #[.int .i64 (k:Int)] 3)) w.heap.size 41 #[.slice A 224 c]:=
  ((CbB.new w 41 #[.slice A 224 c]).ab ((Below.refl _ _).alloc (Nat.le_refl _) _)).ab ((Below.refl _ _).alloc (Nat.le_refl _) _)
 have h2:CbB (((w.alloc (.cells #[.slice A 224 c] 41)).alloc (.cells mc 40)).alloc (.cells #[.int .i64 (k:Int)] 3)) (w.heap.size+1+1) 3 #[.int .i64 (k:Int)]:=by
  have:=CbB.new ((w.alloc (.cells #[.slice A 224 c] 41)).alloc (.cells mc 40)) 3 #[.int .i64 (k:Int)]
  simpa using this
 refine (dnext_any A 224 c w.heap.size (w.heap.size+1+1) k s l _ (((hi.alloc _).alloc _).alloc _) h0 h2 h224 h1 h8 (by decide)).mono ?_
 rintro e w' ⟨rfl,rfl⟩
 refine⟨rfl,?_⟩
 have e2:w.heap.size+1+1=((w.alloc (.cells #[.slice A 224 c] 41)).alloc (.cells mc 40)).heap.size:=by simp
 rw[World.setCell_alloc_at _ _ _ _ _ e2]
 rfl
set_option maxRecDepth 100000 in
theorem decode_ok (A : Option Addr) (c:Nat) (l:List Nat) (w:World) (hi:IsB w A 224 c l):
 Calls Tryz.prog 83 #[.slice A 224 c] w fun e w'=>e = .returned (decV (decP l))∧Below w.heap.size w w':=by
 have H1:=Lib.hid fun mc=>dnext_lit A c l w hi 0 8 8 0 8 8 rfl rfl rfl rfl (by decide) (by decide) (by decide) mc
 have H2:=Lib.hid fun mc=>dnext_lit A c l w hi 8 4 12 8 4 12 rfl rfl rfl rfl (by decide) (by decide) (by decide) mc
 have H3:=Lib.hid fun mc=>dnext_lit A c l w hi 12 8 20 12 8 20 rfl rfl rfl rfl (by decide) (by decide) (by decide) mc
 have H4:=Lib.hid fun mc=>dnext_lit A c l w hi 20 2 22 20 2 22 rfl rfl rfl rfl (by decide) (by decide) (by decide) mc
 have H5:=Lib.hid fun mc=>dnext_lit A c l w hi 22 1 23 22 1 23 rfl rfl rfl rfl (by decide) (by decide) (by decide) mc
 have H6:=Lib.hid fun mc=>dnext_lit A c l w hi 23 2 25 23 2 25 rfl rfl rfl rfl (by decide) (by decide) (by decide) mc
 have H7:=Lib.hid fun mc=>dnext_lit A c l w hi 25 4 29 25 4 29 rfl rfl rfl rfl (by decide) (by decide) (by decide) mc
 have b1:nAt l 8 4<4294967296:=nAt_lt hi.2 hi.len 8 4 (by decide)
 have b3:nAt l 20 2<65536:=nAt_lt hi.2 hi.len 20 2 (by decide)
 have b4:nAt l 22 1<256:=nAt_lt hi.2 hi.len 22 1 (by decide)
 have b5:nAt l 23 2<65536:=nAt_lt hi.2 hi.len 23 2 (by decide)
 have b6:nAt l 25 4<4294967296:=nAt_lt hi.2 hi.len 25 4 (by decide)
 have e1:IntKind.u32.wrap (nAt l 8 4:Int)=(nAt l 8 4:Int):=by show (nAt l 8 4:Int)%4294967296=_;omega
 have e3:IntKind.u16.wrap (nAt l 20 2:Int)=(nAt l 20 2:Int):=by show (nAt l 20 2:Int)%65536=_;omega
 have e4:IntKind.u8.wrap (nAt l 22 1:Int)=(nAt l 22 1:Int):=by show (nAt l 22 1:Int)%256=_;omega
 have e5:IntKind.u16.wrap (nAt l 23 2:Int)=(nAt l 23 2:Int):=by show (nAt l 23 2:Int)%65536=_;omega
 have e6:IntKind.u32.wrap (nAt l 25 4:Int)=(nAt l 25 4:Int):=by show (nAt l 25 4:Int)%4294967296=_;omega
 have HM:=Lib.hid fun W=>right_any (mpOf l) W
 have HD:Hid (decP l=if (mpOf l).cm=0 then ⟨mp0,5,0⟩ else bif rightB (mpOf l) then (match nzFrom l 195 29 with | some i=>⟨mp0,5,i⟩ | none=>⟨mpOf l,0,0⟩) else ⟨mp0,5,22⟩):=Lib.hid (if_pos hi.len)
 have HC:Hid ((mpOf l).cm=nAt l 0 8):=Lib.hid rfl
 have HV:Hid (mpv (mpOf l) = #[.int .u64 (nAt l 0 8:Int),.int .u32 (nAt l 8 4:Int),.int .u64 (nAt l 12 8:Int),.int .u16 (nAt l 20 2:Int),.int .u8 (nAt l 22 1:Int),.int .u16 (nAt l 23 2:Int),.int .u32 (nAt l 25 4:Int)]):=Lib.hid rfl
 have HI:=Lib.hid hi
 clear hi b1 b3 b4 b5 b6
 generalize mpOf l=m at *
 generalize decP l=D at *
 generalize nAt l 0 8=d0 at *
 generalize nAt l 8 4=d1 at *
 generalize nAt l 12 8=d2 at *
 generalize nAt l 20 2=d3 at *
 generalize nAt l 22 1=d4 at *
 generalize nAt l 23 2=d5 at *
 generalize nAt l 25 4=d6 at *
 rw[HV.out] at HM
 go_enter Tryz.func83,Tryz.ntmps83
 go_wp2_with fail
 refine (H1.out _).mono ?_
 rintro e w' ⟨rfl,rfl⟩
 go_wp2_with fail
 refine (H2.out _).mono ?_
 rintro e w' ⟨rfl,rfl⟩
 go_wp2_with fail
 refine (H3.out _).mono ?_
 rintro e w' ⟨rfl,rfl⟩
 go_wp2_with fail
 refine (H4.out _).mono ?_
 rintro e w' ⟨rfl,rfl⟩
 go_wp2_with fail
 refine (H5.out _).mono ?_
 rintro e w' ⟨rfl,rfl⟩
 go_wp2_with fail
 refine (H6.out _).mono ?_
 rintro e w' ⟨rfl,rfl⟩
 go_wp2_with fail
 refine (H7.out _).mono ?_
 rintro e w' ⟨rfl,rfl⟩
 go_wp2_with fail
 refine (HM.out _).mono ?_
 rintro e w1 ⟨rfl,hb⟩
 have T3:=three w #[.slice A 224 c] (mpv m) #[.int .i64 29] 41 40 3
 rw[HV.out] at T3
 have C1:=Lib.hid (T3.1.ab hb)
 have M1:Hid (MpB w1 (w.heap.size+1) m):=Lib.hid (by
  have:=T3.2.1.ab hb
  rw[←HV.out] at this
  exact this)
 have P1:=Lib.hid (T3.2.2.1.ab hb)
 have B1:=Lib.hid (below_tr T3.2.2.2 hb T3.2.2.2.size)
 clear hb T3 H1 H2 H3 H4 H5 H6 H7 HM e1 e3 e4 e5 e6
 have p0:=P1.out.cell (k:=0) rfl
 have p1:=P1.out.free 0
 cases hr:rightB m
 · rw[show rightE m=2 by unfold rightE;rw[hr];rfl]
   have m0:w1.cell? ⟨w.heap.size+1,0,none⟩=some (.int .u64 (d0:Int)):=by rw[←HC.out];exact M1.out.cells.1
   have HDD:=HD.out
   rw[HC.out,hr] at HDD
   by_cases h0:d0=0
   · rw[if_pos h0] at HDD
     subst h0
     subst HDD
     clear hr
     go_wp2_with (refine wpList_storeC rfl 40 (.tmp 2) (.tmp 42) rfl (w.heap.size+1) rfl (mpv mp0) rfl (cs:=mpv m) (t:=40) M1.out (szMp mp0) rfl (mpv_one _) ?_
                  intro w2 hw2
                  have M2:Hid (CbB w2 (w.heap.size+1) 40 (mpv mp0)):=Lib.hid (by rw[hw2];exact CbB.row M1.out _)
                  have P2:Hid (CbB w2 (w.heap.size+1+1) 3 #[.int .i64 29]):=Lib.hid (by rw[hw2];exact P1.out.rowFar (by omega) _)
                  have B2:Hid (Below w.heap.size w w2):=Lib.hid (by rw[hw2];exact Below.row B1.out (by omega) _)
                  clear hw2 p0 p1 m0 M1 P1 B1
                  have p0:=P2.out.cell (k:=0) rfl
                  have p1:=P2.out.free 0)
     exact bodyPost_ret (dec_results _ (w.heap.size+1) (w.heap.size+1+1) _ mp0 5 0 rfl rfl rfl (CbB.far M2.out (by omega) _) (P2.out.set 0 (.int .i64 0))) rfl ⟨rfl,B2.out.setCell (by simp;omega) _⟩
   · rw[if_neg h0,cond_false] at HDD
     subst HDD
     have hne:((d0:Int)==0)=false:=by simp;omega
     clear hr h0
     go_wp2_with (refine wpList_storeC rfl 40 (.tmp 2) (.tmp 43) rfl (w.heap.size+1) rfl (mpv mp0) rfl (cs:=mpv m) (t:=40) M1.out (szMp mp0) rfl (mpv_one _) ?_
                  intro w2 hw2
                  have M2:Hid (CbB w2 (w.heap.size+1) 40 (mpv mp0)):=Lib.hid (by rw[hw2];exact CbB.row M1.out _)
                  have P2:Hid (CbB w2 (w.heap.size+1+1) 3 #[.int .i64 29]):=Lib.hid (by rw[hw2];exact P1.out.rowFar (by omega) _)
                  have B2:Hid (Below w.heap.size w w2):=Lib.hid (by rw[hw2];exact Below.row B1.out (by omega) _)
                  clear hw2 p0 p1 m0 M1 P1 B1
                  have p0:=P2.out.cell (k:=0) rfl
                  have p1:=P2.out.free 0)
     exact bodyPost_ret (dec_results _ (w.heap.size+1) (w.heap.size+1+1) _ mp0 5 22 rfl rfl rfl (CbB.far M2.out (by omega) _) (P2.out.set 0 (.int .i64 22))) rfl ⟨rfl,B2.out.setCell (by simp;omega) _⟩
 · rw[show rightE m=0 by unfold rightE;rw[hr];rfl]
   have HDD:Hid (D=match nzFrom l 195 29 with | some i=>⟨mp0,5,i⟩ | none=>⟨m,0,0⟩):=Lib.hid (by
    have:=HD.out
    rw[hr] at this
    rw[this,if_neg]
    · rfl
    · intro e
      unfold rightB at hr
      rw[e] at hr
      simp at hr)
   clear hr p0 p1 HD HC HV
   go_wp2_with fail
   go_loopw [44] (fun _ wr=>∃i:Nat,29≤i∧i≤224∧nzFrom l (224-i) i=nzFrom l 195 29∧CbB wr w.heap.size 41 #[.slice A 224 c]∧MpB wr (w.heap.size+1) m∧CbB wr (w.heap.size+1+1) 3 #[.int .i64 (i:Int)]∧Below w.heap.size w wr)
    (fun _ wr=>224-(match wr.cell? ⟨w.heap.size+1+1,0,none⟩ with | some v=>(intOf v).toNat | none=>0))
   case atStart=>exact⟨29,by decide,by decide,rfl,C1.out,M1.out,P1.out,B1.out⟩
   case round=>
    obtain⟨i,h29,h224,hnz,hC,hM,hP,hB⟩:=hrel
    have C2:=Lib.hid hC
    have M2:=Lib.hid hM
    have P2:=Lib.hid hP
    have B2:=Lib.hid hB
    have NZ:=Lib.hid hnz
    have L29:=Lib.hid h29
    have c0:=hC.cell (k:=0) rfl
    have p0:=hP.cell (k:=0) rfl
    have p1:=hP.free 0
    have hi1:(i:Int)≤224:=by omega
    clear hC hM hP hB hnz h29 C1 M1 P1 B1
    by_cases hlt:i<224
    · have hlt2:(i:Int)<224:=by omega
      obtain⟨x,rfl,hxb,hxc⟩:=(HI.out.ab B2.out).cell (by decide)
      have hx:wr.cell? (x.add i)=some (.int .u8 (at' l i:Nat)):=hxc i (by omega)
      have hst:nzFrom l (224-i) i=if at' l i=0 then nzFrom l (224-(i+1)) (i+1) else some i:=by
       rw[show 224-i=(224-(i+1))+1 by omega,nzFrom]
      by_cases hz:at' l i=0
      · have hz1:(((at' l i:Nat):Int) != 0)=false:=by rw[hz];rfl
        rw[if_pos hz] at hst
        have HST:=Lib.hid hst
        have HLT:=Lib.hid hlt
        generalize at' l i=ai at *
        clear hst hz hlt hxc hxb h224
        go_wp2_with fail
        refine⟨⟨i+1,by have:=L29.out;omega,HLT.out,?_,C2.out.far (by omega) _,CbB.far M2.out (by omega) _,?_,B2.out.setCell (by simp;omega) _⟩,?_⟩
        · rw[←HST.out];exact NZ.out
        · have:=P2.out.set 0 (.int .i64 ((i:Int)+1))
          rw[show ((i+1:Nat):Int)=(i:Int)+1 by omega]
          exact this
        · have q1:(wr.setCell ⟨w.heap.size+1+1,0,none⟩ (.int .i64 ((i:Int)+1))).cell? ⟨w.heap.size+1+1,0,none⟩=some (.int .i64 ((i:Int)+1)):=(P2.out.set 0 (.int .i64 ((i:Int)+1))).cell (k:=0) rfl
          have q0:wr.cell? ⟨w.heap.size+1+1,0,none⟩=some (.int .i64 (i:Int)):=P2.out.cell (k:=0) rfl
          rw[q1,q0]
          have:=HLT.out
          simp only[intOf]
          omega
      · have hz1:(((at' l i:Nat):Int) != 0)=true:=by simp[hz]
        rw[if_neg hz] at hst
        have HST:=Lib.hid hst
        generalize at' l i=ai at *
        clear hst hz hlt hxc hxb h224
        go_wp2_with fail
        obtain⟨m0,m1,m2,m3,m4,m5,m6⟩:=M2.out.cells
        have f0:=CbB.free M2.out 0
        have f1:=CbB.free M2.out 1
        have f2:=CbB.free M2.out 2
        have f3:=CbB.free M2.out 3
        have f4:=CbB.free M2.out 4
        have f5:=CbB.free M2.out 5
        have f6:=CbB.free M2.out 6
        have HE:Hid (D=⟨mp0,5,i⟩):=Lib.hid (by
         have h1:=HDD.out
         have h2:=NZ.out
         rw[HST.out] at h2
         rw[←h2] at h1
         exact h1)
        go_region
        all_goals
         go_wp2_with fail
         rw[HE.out]
         refine bodyPost_ret (dec_results _ (w.heap.size+1) (w.heap.size+1+1) _ mp0 5 i rfl rfl rfl ?_ ?_) rfl ⟨rfl,?_⟩
         · exact MpB.drew (MpB.far (MpB.wipe M2.out) (by omega) _)
         · exact CbB.drew (CbB.set (CbB.wipe P2.out (by omega)) 0 (.int .i64 (i:Int)))
         · exact ((below_wipe B2.out (by omega)).setCell (by simp;omega) _).drew
    · obtain rfl : i=224:=by omega
      have HE:Hid (D=⟨m,0,0⟩):=Lib.hid (by
       have h1:=HDD.out
       have h2:=NZ.out
       rw[show 224-224=0 from rfl,nzFrom] at h2
       rw[←h2] at h1
       exact h1)
      clear hlt h224 NZ HDD
      obtain⟨m0,m1,m2,m3,m4,m5,m6⟩:=M2.out.cells
      have f0:=CbB.free M2.out 0
      have f1:=CbB.free M2.out 1
      have f2:=CbB.free M2.out 2
      have f3:=CbB.free M2.out 3
      have f4:=CbB.free M2.out 4
      have f5:=CbB.free M2.out 5
      have f6:=CbB.free M2.out 6
      go_wp2_with (refine wpList_storeC rfl 40 (.tmp 2) (.tmp 57) rfl (w.heap.size+1) rfl (mpv m) rfl (cs:=mpv m) (t:=40) M2.out (szMp m) rfl (mpv_one _) ?_
                   intro w2 hw2
                   have M3:Hid (CbB w2 (w.heap.size+1) 40 (mpv m)):=Lib.hid (by rw[hw2];exact CbB.row M2.out _)
                   have P3:Hid (CbB w2 (w.heap.size+1+1) 3 #[.int .i64 ((224:Nat):Int)]):=Lib.hid (by rw[hw2];exact P2.out.rowFar (by omega) _)
                   have B3:Hid (Below w.heap.size w w2):=Lib.hid (by rw[hw2];exact Below.row B2.out (by omega) _)
                   clear hw2 p0 p1 c0 m0 m1 m2 m3 m4 m5 m6 f0 f1 f2 f3 f4 f5 f6
                   have p0:=P3.out.cell (k:=0) rfl
                   have p1:=P3.out.free 0)
      rw[HE.out]
      exact bodyPost_ret (dec_results _ (w.heap.size+1) (w.heap.size+1+1) _ m 0 0 rfl rfl rfl (CbB.far M3.out (by omega) _) (P3.out.set 0 (.int .i64 0))) rfl ⟨rfl,B3.out.setCell (by simp;omega) _⟩
theorem decode_any (A:Option Addr) (n c:Nat) (l:List Nat) (w:World) (hi:IsB w A n c l):
 Calls Tryz.prog 83 #[.slice A n c] w fun e w'=>e = .returned (decV (decP l))∧Below w.heap.size w w':=by
 have hl:=hi.len
 by_cases hn:n=224
 · subst hn
   exact decode_ok A c l w hi
 · rw[show decP l=⟨mp0,2,0⟩ from if_neg (by omega)]
   exact decode_short A n c w hn
def mSealP (l:RgL) (m:Mp):List Nat×Nat:=bif rightB m then (match getR (0,m.gn) l with | some k=>sealP k (labM m) (mbytes m) | none=>([],7)) else ([],2)
theorem sealM_ok {k:List Nat} (hk:KeyOk k) (m:Mp):SOk k (labM m):=⟨hk,by simp[labM],by simp[labM]⟩
theorem sealM {k:List Nat} (hk:KeyOk k) (m:Mp):sealP k (labM m) (mbytes m)=(headL (labM m)++sealA k (nonceL (labM m)) (aadL (labM m)) (mbytes m),0):=sealP_ok (sealM_ok hk m) (mbytes_len m)
structure OpnR where
 m:Mp
 err:Nat
deriving DecidableEq
def labT (s:Nat) (t:ToldR):Lb:=⟨0,4,0,t.cm%2,t.cm,t.gn⟩
def mOpenB (l:RgL) (t:ToldR) (b:List Nat):OpnR:=
 match getR (0,t.gn) l with
 | none=>⟨mp0,7⟩
 | some k=>if (openP k (labT 0 t) b).2=0 then
    (if (decP (openP k (labT 0 t) b).1).err=0∧(decP (openP k (labT 0 t) b).1).m.cm=t.cm∧(decP (openP k (labT 0 t) b).1).m.gn=t.gn then ⟨(decP (openP k (labT 0 t) b).1).m,0⟩ else ⟨mp0,5⟩)
   else ⟨mp0,(openP k (labT 0 t) b).2⟩
def headM (sl:Int) (t:ToldR):Prop:=t.err=0∧t.k=4∧t.lv=0∧((t.cm%2:Nat):Int)=sl
instance (sl:Int) (t:ToldR):Decidable (headM sl t):=by unfold headM;infer_instance
def mOpenP (l:RgL) (sl:Int) (b:List Nat):OpnR:=
 if (sl=0∨sl=1)∧b.length=256 then (if headM sl (toldP b) then mOpenB l (toldP b) b else ⟨mp0,100⟩) else ⟨mp0,2⟩
def opnV (r:OpnR):Value:=.tuple #[.agg (mpv r.m),.int .i64 (r.err:Int)]
set_option maxRecDepth 100000 in
theorem opn_results (tmps:Array Value) (g6:Nat) (W:World) (m:Mp) (err:Nat) (h6:tmps[6]?.getD undef = .pointer (some ⟨g6,0,none⟩)) (h7:tmps[7]?.getD undef = .int .i64 (err:Int))
 (hm:MpB W g6 m):(results Tryz.f32 tmps).run Tryz.prog W = .ok (opnV ⟨m,err⟩) W:=by
 obtain⟨c0,c1,c2,c3,c4,c5,c6⟩:=hm.cells
 simp[results,Tryz.results32,h6,h7,go_sem,c0,c1,c2,c3,c4,c5,c6,opnV,mpv]
set_option maxRecDepth 100000 in
theorem mOpen_arg (g:Nat) (sl:Int) (A:Option Addr) (n c:Nat) (w:World) (h:¬((sl=0∨sl=1)∧n=256)):
 Calls Tryz.prog 32 #[.pointer (some ⟨g,0,none⟩),.int .i64 sl,.slice A n c] w fun e w'=>e = .returned (opnV ⟨mp0,2⟩)∧Below w.heap.size w w':=by
 have hc:(sl<0∧decide (sl<0)=true)∨(decide (sl<0)=false∧decide (1<sl)=true)∨(decide (sl<0)=false∧decide (1<sl)=false∧((n:Int) != 256)=true):=by
  by_cases h1:sl<0
  · exact .inl ⟨h1,decide_eq_true h1⟩
  · by_cases h2:1<sl
    · exact .inr (.inl ⟨decide_eq_false h1,decide_eq_true h2⟩)
    · refine .inr (.inr ⟨decide_eq_false h1,decide_eq_false h2,?_⟩)
      have:n≠256:=fun e=>h ⟨by omega,e⟩
      simp
      omega
 clear h
 have Q0:Hid (CbB (w.alloc (.cells (mpv mp0) 40)) w.heap.size 40 (mpv mp0)):=Lib.hid (CbB.new _ _ _)
 have B0:Hid (Below w.heap.size w (w.alloc (.cells (mpv mp0) 40))):=Lib.hid ((Below.refl _ _).alloc (Nat.le_refl _) _)
 rcases hc with ⟨_,h1⟩ | ⟨h1,h2⟩ | ⟨h1,h2,h3⟩
 all_goals
  go_enter Tryz.func32,Tryz.ntmps32
  go_wp2_with fail
  exact bodyPost_ret (opn_results _ w.heap.size _ mp0 2 rfl rfl Q0.out) rfl ⟨rfl,B0.out⟩
theorem told_bound {b:List Nat} (hb:Byt b):(toldP b).gn<65536∧(toldP b).cm<18446744073709551616:=by
 unfold toldP
 by_cases h:b.length=256
 · rw[if_pos h]
   by_cases h2:toldOk b
   · rw[if_pos h2]
     have h3:((b.drop 6).take 2).length=2:=by rw[List.length_take,List.length_drop];omega
     have h4:((b.drop 8).take 8).length=8:=by rw[List.length_take,List.length_drop];omega
     have n2:=numB_lt (l:=(b.drop 6).take 2) fun x hx=>hb x (List.mem_of_mem_drop (List.mem_of_mem_take hx))
     have n8:=numB_lt (l:=(b.drop 8).take 8) fun x hx=>hb x (List.mem_of_mem_drop (List.mem_of_mem_take hx))
     rw[h3] at n2
     rw[h4] at n8
     exact⟨n2,n8⟩
   · rw[if_neg h2]
     exact⟨by decide,by decide⟩
 · rw[if_neg h]
   exact⟨by decide,by decide⟩
theorem labT_M (s cm gn:Nat) (t:ToldR) (h1:t.cm=cm) (h2:t.gn=gn):labM ⟨cm,0,0,0,0,gn,0⟩=labT s t:=by subst h1 h2;rfl
set_option maxRecDepth 100000 in
theorem mOpen_ok (B g mm s:Nat) (l:RgL) (A:Option Addr) (c:Nat) (b:List Nat) (w:World) (hr:RgB w B g mm l) (hs:s≤1) (hi:IsB w A 256 c b):
 Calls Tryz.prog 32 #[.pointer (some ⟨g,0,none⟩),.int .i64 (s:Int),.slice A 256 c] w fun e w'=>e = .returned (opnV (if headM (s:Int) (toldP b) then mOpenB l (toldP b) b else ⟨mp0,100⟩))∧Below w.heap.size w w':=by
 have Q0:Hid (CbB (w.alloc (.cells (mpv mp0) 40)) w.heap.size 40 (mpv mp0)):=Lib.hid (CbB.new _ _ _)
 have B0:Hid (Below w.heap.size w (w.alloc (.cells (mpv mp0) 40))):=Lib.hid ((Below.refl _ _).alloc (Nat.le_refl _) _)
 have HT:=Lib.hid fun W h=>told_any A 256 c b W h
 have h1:decide ((s:Int)<0)=false:=by simp
 have h2:decide (1<(s:Int))=false:=by simp;omega
 have h2':decide (1<s)=false:=by simp;omega
 have h3:IntKind.u64.wrap (s:Int)=(s:Int):=wide_u64 s (by omega)
 have HI:=Lib.hid hi
 have HR:=Lib.hid hr
 by_cases hh:headM (s:Int) (toldP b)
 · rw[if_pos hh]
   have hbd:=told_bound hi.2
   unfold mOpenB
   generalize toldP b=t at *
   obtain⟨k,lv,gn,cm,err⟩:=t
   simp only[headM] at hh hbd⊢
   obtain⟨rfl,rfl,rfl,hsl⟩:=hh
   have e4:(((cm:Int)%2) != (s:Int))=false:=by simp;omega
   have HK:=Lib.hid fun W h=>ringKey_any B g mm 0 gn l W h (by decide) hbd.1
   have HL:=Lib.hid fun W=>labelOf_any ⟨cm,0,0,0,0,gn,0⟩ W
   have LO:=Lib.hid (labM_ok (m:=⟨cm,0,0,0,0,gn,0⟩) ⟨hbd.2,Nat.succ_pos _,Nat.succ_pos _,Nat.succ_pos _,Nat.succ_pos _,hbd.1,Nat.succ_pos _⟩)
   rw[labT_M 0 cm gn ⟨4,0,gn,cm,0⟩ rfl rfl] at HL LO
   simp only[mpv,toldV] at HL HT
   unfold keyP at HK
   cases hk:getR (0,gn) l with
   | none=>
     rw[hk] at HK
     simp only at HK⊢
     clear hs hi hr hbd hsl HL LO hk
     go_enter Tryz.func32,Tryz.ntmps32
     go_wp2_with fail
     refine (HT.out _ (HI.out.ab B0.out)).mono ?_
     rintro e w1 ⟨rfl,hb⟩
     have Q1:=Lib.hid (Q0.out.ab hb)
     have B1:=Lib.hid (below_tr B0.out hb B0.out.size)
     clear hb
     go_wp2_with fail
     refine (HK.out _ (HR.out.ab B1.out)).mono ?_
     rintro e w2 ⟨v2,rfl,hv,hb⟩
     have Q2:=Lib.hid (Q1.out.ab hb)
     have B2:=Lib.hid (below_tr B1.out hb B1.out.size)
     clear hv hb
     go_wp2_with (refine wpList_storeC rfl 40 (.tmp 6) (.tmp 66) rfl w.heap.size rfl (mpv mp0) rfl (cs:=mpv mp0) (t:=40) Q2.out (szMp _) rfl (mpv_one _) ?_
                  intro w3 hw3
                  have Q3:Hid (MpB w3 w.heap.size mp0):=Lib.hid (by rw[hw3];exact CbB.row Q2.out _)
                  have B3:Hid (Below w.heap.size w w3):=Lib.hid (by rw[hw3];exact Below.row B2.out (Nat.le_refl _) _)
                  clear hw3)
     exact bodyPost_ret (opn_results _ w.heap.size _ mp0 7 rfl rfl Q3.out) rfl ⟨rfl,B3.out⟩
   | some k=>
     have hkk:=hr.ne _ (getR_mem hk)
     rw[hk] at HK
     simp only at HK⊢
     have HO:=Lib.hid fun kA kc W h1 tA tc h2=>lopen_any kA tA k.length kc 256 tc (labT 0 ⟨4,0,gn,cm,0⟩) k b W LO.out h1 h2
     have hob:(openP k (labT 0 ⟨4,0,gn,cm,0⟩) b).2≠0∨(openP k (labT 0 ⟨4,0,gn,cm,0⟩) b).2=0:=by omega
     generalize openP k (labT 0 ⟨4,0,gn,cm,0⟩) b=X at *
     obtain⟨pay,er⟩:=X
     simp only at hob HO⊢
     have HD:=Lib.hid fun A n c W h=>decode_any A n c pay W h
     generalize decP pay=d at *
     obtain⟨⟨d0,d1,d2,d3,d4,d5,d6⟩,der,dpos⟩:=d
     simp only[decV,mpv] at HD
     simp only
     generalize labT 0 ⟨4,0,gn,cm,0⟩=LT at *
     rw[lab_cells] at HL HO
     clear hs hi hr hbd hsl hk hkk LO
     rcases hob with hne | rfl
     · rw[if_neg hne]
       have t1:((er:Int) != 0)=true:=by simp[hne]
       clear hne
       go_enter Tryz.func32,Tryz.ntmps32
       go_wp2_with fail
       refine (HT.out _ (HI.out.ab B0.out)).mono ?_
       rintro e w1 ⟨rfl,hb⟩
       have Q1:=Lib.hid (Q0.out.ab hb)
       have B1:=Lib.hid (below_tr B0.out hb B0.out.size)
       clear hb
       go_wp2_with fail
       refine (HK.out _ (HR.out.ab B1.out)).mono ?_
       rintro e w2 ⟨v2,rfl,hv,hb⟩
       obtain⟨A2,c2,rfl,_,_⟩:=hv.shape
       have I2:=Lib.hid (hv.isB rfl)
       have Q2:=Lib.hid (Q1.out.ab hb)
       have B2:=Lib.hid (below_tr B1.out hb B1.out.size)
       clear hv hb
       go_wp2_with fail
       refine (HL.out _).mono ?_
       rintro e w3 ⟨rfl,hb⟩
       have I3:=Lib.hid (I2.out.ab hb)
       have Q3:=Lib.hid (Q2.out.ab hb)
       have B3:=Lib.hid (below_tr B2.out hb B2.out.size)
       clear hb
       go_wp2_with fail
       refine (HO.out _ _ _ I3.out _ _ (HI.out.ab B3.out)).mono ?_
       rintro e w4 ⟨v4,rfl,hv,hb⟩
       have Q4:=Lib.hid (Q3.out.ab hb)
       have B4:=Lib.hid (below_tr B3.out hb B3.out.size)
       clear hv hb
       go_wp2_with (refine wpList_storeC rfl 40 (.tmp 6) (.tmp 80) rfl w.heap.size rfl (mpv mp0) rfl (cs:=mpv mp0) (t:=40) Q4.out (szMp _) rfl (mpv_one _) ?_
                    intro w5 hw5
                    have Q5:Hid (MpB w5 w.heap.size mp0):=Lib.hid (by rw[hw5];exact CbB.row Q4.out _)
                    have B5:Hid (Below w.heap.size w w5):=Lib.hid (by rw[hw5];exact Below.row B4.out (Nat.le_refl _) _)
                    clear hw5)
       exact bodyPost_ret (opn_results _ w.heap.size _ mp0 er rfl rfl Q5.out) rfl ⟨rfl,B5.out⟩
     · rw[if_pos rfl]
       obtain⟨r,hrr⟩:∃r:OpnR,r=(if der=0∧d0=cm∧d5=gn then ⟨⟨d0,d1,d2,d3,d4,d5,d6⟩,0⟩ else ⟨mp0,5⟩):=⟨_,rfl⟩
       rw[←hrr]
       have HRR:=Lib.hid hrr
       clear hrr
       go_enter Tryz.func32,Tryz.ntmps32
       go_wp2_with fail
       refine (HT.out _ (HI.out.ab B0.out)).mono ?_
       rintro e w1 ⟨rfl,hb⟩
       have Q1:=Lib.hid (Q0.out.ab hb)
       have B1:=Lib.hid (below_tr B0.out hb B0.out.size)
       clear hb
       go_wp2_with fail
       refine (HK.out _ (HR.out.ab B1.out)).mono ?_
       rintro e w2 ⟨v2,rfl,hv,hb⟩
       obtain⟨A2,c2,rfl,_,_⟩:=hv.shape
       have I2:=Lib.hid (hv.isB rfl)
       have Q2:=Lib.hid (Q1.out.ab hb)
       have B2:=Lib.hid (below_tr B1.out hb B1.out.size)
       clear hv hb
       go_wp2_with fail
       refine (HL.out _).mono ?_
       rintro e w3 ⟨rfl,hb⟩
       have I3:=Lib.hid (I2.out.ab hb)
       have Q3:=Lib.hid (Q2.out.ab hb)
       have B3:=Lib.hid (below_tr B2.out hb B2.out.size)
       clear hb
       go_wp2_with fail
       refine (HO.out _ _ _ I3.out _ _ (HI.out.ab B3.out)).mono ?_
       rintro e w4 ⟨v4,rfl,hv,hb⟩
       obtain⟨A4,c4,rfl,_,_⟩:=hv.shape
       have I4:=Lib.hid (hv.isB rfl)
       have Q4:=Lib.hid (Q3.out.ab hb)
       have B4:=Lib.hid (below_tr B3.out hb B3.out.size)
       clear hv hb
       go_wp2_with fail
       refine (HD.out _ _ _ _ I4.out).mono ?_
       rintro e w5 ⟨rfl,hb⟩
       have Q5:=Lib.hid (Q4.out.ab hb)
       have B5:=Lib.hid (below_tr B4.out hb B4.out.size)
       have Z5:Hid (w.heap.size<w5.heap.size):=Lib.hid Q5.out.lt
       clear hb Q1 Q2 Q3 Q4 B1 B2 B3 B4 I2 I3 I4 HD HO HL HK HT Q0 B0
       by_cases hok:der=0∧d0=cm∧d5=gn
       · have HRE:Hid (r=⟨⟨d0,d1,d2,d3,d4,d5,d6⟩,0⟩):=Lib.hid (HRR.out.trans (if_pos hok))
         obtain⟨rfl,rfl,rfl⟩:=hok
         clear HRR
         have Q6:Hid (MpB (w5.alloc (.cells #[.int .u64 (d0:Int),.int .u32 (d1:Int),.int .u64 (d2:Int),.int .u16 (d3:Int),.int .u8 (d4:Int),.int .u16 (d5:Int),.int .u32 (d6:Int)] 40)) w.heap.size mp0):=Lib.hid (Q5.out.ab ((Below.refl _ _).alloc (Nat.le_refl _) _))
         have B6:Hid (Below w.heap.size w (w5.alloc (.cells #[.int .u64 (d0:Int),.int .u32 (d1:Int),.int .u64 (d2:Int),.int .u16 (d3:Int),.int .u8 (d4:Int),.int .u16 (d5:Int),.int .u32 (d6:Int)] 40))):=Lib.hid (B5.out.alloc B5.out.size _)
         go_wp2_with (refine wpList_storeC rfl 40 (.tmp 6) (.tmp 103) rfl w.heap.size rfl (mpv ⟨d0,d1,d2,d3,d4,d5,d6⟩) rfl (cs:=mpv mp0) (t:=40) Q6.out (szMp _) rfl (mpv_one _) ?_
                      intro w7 hw7
                      have Q7:Hid (MpB w7 w.heap.size ⟨d0,d1,d2,d3,d4,d5,d6⟩):=Lib.hid (by rw[hw7];exact CbB.row Q6.out _)
                      have B7:Hid (Below w.heap.size w w7):=Lib.hid (by rw[hw7];exact Below.row B6.out (Nat.le_refl _) _)
                      clear hw7)
         exact bodyPost_ret (opn_results _ w.heap.size _ ⟨d0,d1,d2,d3,d4,d5,d6⟩ 0 rfl rfl Q7.out) rfl ⟨by rw[HRE.out],B7.out⟩
       · have HRE : Hid (r=⟨mp0,5⟩):=Lib.hid (HRR.out.trans (if_neg hok))
         have hc:((der:Int) != 0)=true∨(((der:Int) != 0)=false∧((d0:Int) != (cm:Int))=true)∨(((der:Int) != 0)=false∧((d0:Int) != (cm:Int))=false∧((d5:Int) != (gn:Int))=true):=by
          by_cases f1:der=0
          · by_cases f2:d0=cm
            · right;right
              have:d5≠gn:=fun e=>hok ⟨f1,f2,e⟩
              exact⟨by simp[f1],by simp[f2],by simp;omega⟩
            · right;left
              exact⟨by simp[f1],by simp;omega⟩
          · left
            simp[f1]
         have Q6:Hid (MpB (w5.alloc (.cells #[.int .u64 (d0:Int),.int .u32 (d1:Int),.int .u64 (d2:Int),.int .u16 (d3:Int),.int .u8 (d4:Int),.int .u16 (d5:Int),.int .u32 (d6:Int)] 40)) w.heap.size mp0):=Lib.hid (Q5.out.ab ((Below.refl _ _).alloc (Nat.le_refl _) _))
         have B6:Hid (Below w.heap.size w (w5.alloc (.cells #[.int .u64 (d0:Int),.int .u32 (d1:Int),.int .u64 (d2:Int),.int .u16 (d3:Int),.int .u8 (d4:Int),.int .u16 (d5:Int),.int .u32 (d6:Int)] 40))):=Lib.hid (B5.out.alloc B5.out.size _)
         clear hok
         rcases hc with f1 | ⟨f1,f2⟩ | ⟨f1,f2,f3⟩
         all_goals
          go_wp2_with (refine wpList_storeC rfl 40 (.tmp 6) (.tmp 102) rfl w.heap.size rfl (mpv mp0) rfl (cs:=mpv mp0) (t:=40) Q6.out (szMp _) rfl (mpv_one _) ?_
                       intro w7 hw7
                       have Q7:Hid (MpB w7 w.heap.size mp0):=Lib.hid (by rw[hw7];exact CbB.row Q6.out _)
                       have B7:Hid (Below w.heap.size w w7):=Lib.hid (by rw[hw7];exact Below.row B6.out (Nat.le_refl _) _)
                       clear hw7)
          exact bodyPost_ret (opn_results _ w.heap.size _ mp0 5 rfl rfl Q7.out) rfl ⟨by rw[HRE.out],B7.out⟩
 · rw[if_neg hh]
   generalize toldP b=t at *
   obtain⟨k,lv,gn,cm,err⟩:=t
   simp only[headM,toldV] at hh HT
   have hc : ((err:Int) != 0)=true∨(((err:Int) != 0)=false∧((k:Int) != 4)=true)∨(((err:Int) != 0)=false∧((k:Int) != 4)=false∧((lv:Int) != 0)=true)∨(((err:Int) != 0)=false∧((k:Int) != 4)=false∧((lv:Int) != 0)=false∧(((cm:Int)%2) != (s:Int))=true):=by
    by_cases e1:err=0
    · by_cases e2:k=4
      · by_cases e3:lv=0
        · right;right;right
          have:((cm%2:Nat):Int)≠(s:Int):=fun e=>hh ⟨e1,e2,e3,e⟩
          refine⟨by simp[e1],by simp[e2],by simp[e3],?_⟩
          simp
          omega
        · right;right;left
          exact⟨by simp[e1],by simp[e2],by simp[e3]⟩
      · right;left
        exact⟨by simp[e1],by simp;omega⟩
    · left
      simp[e1]
   clear hh hs hi hr
   rcases hc with e1 | ⟨e1,e2⟩ | ⟨e1,e2,e3⟩ | ⟨e1,e2,e3,e4⟩
   all_goals
    go_enter Tryz.func32,Tryz.ntmps32
    go_wp2_with fail
    refine (HT.out _ (HI.out.ab B0.out)).mono ?_
    rintro e w1 ⟨rfl,hb⟩
    have Q1:=Lib.hid (Q0.out.ab hb)
    have B1:=Lib.hid (below_tr B0.out hb B0.out.size)
    clear hb
    go_wp2_with (refine wpList_storeC rfl 40 (.tmp 6) (.tmp 57) rfl w.heap.size rfl (mpv mp0) rfl (cs:=mpv mp0) (t:=40) Q1.out (szMp _) rfl (mpv_one _) ?_
                 intro w2 hw2
                 have Q2:Hid (MpB w2 w.heap.size mp0):=Lib.hid (by rw[hw2];exact CbB.row Q1.out _)
                 have B2:Hid (Below w.heap.size w w2):=Lib.hid (by rw[hw2];exact Below.row B1.out (Nat.le_refl _) _)
                 clear hw2)
    exact bodyPost_ret (opn_results _ w.heap.size _ mp0 100 rfl rfl Q2.out) rfl ⟨rfl,B2.out⟩
theorem zeros_el (n i:Nat) (h:i<(zeros n).length):(zeros n)[i]=0:=List.getElem_replicate _
theorem nAt_mid (a r:List Nat) (x s k:Nat) (hk:a.length=k) (h:x<256 ^ s):nAt (a++(digB x s++r)) k s=x:=by
 subst hk
 unfold nAt
 rw[List.drop_left,List.take_left' (digB_len x s),numB_digB x s h]
theorem mbytes_split (m:Mp):mbytes m=digB m.cm 8++(digB m.pg 4++(digB m.rc 8++(digB m.rg 2++(digB m.lv 1++(digB m.gn 2++(digB m.tn 4++zeros 195)))))):=by
 simp only[mbytes,fldM,flatN,List.append_nil,List.append_assoc]
theorem mpOf_mbytes {m:Mp} (h:m.Ok):mpOf (mbytes m)=m:=by
 have h1:=h.cm;have h2:=h.pg;have h3:=h.rc;have h4:=h.rg;have h5:=h.lv;have h6:=h.gn;have h7:=h.tn
 rw[mbytes_split]
 obtain⟨cm,pg,rc,rg,lv,gn,tn⟩:=m
 simp only at h1 h2 h3 h4 h5 h6 h7⊢
 have f1:=nAt_mid [] (digB pg 4++(digB rc 8++(digB rg 2++(digB lv 1++(digB gn 2++(digB tn 4++zeros 195)))))) cm 8 0 rfl h1
 have f2:=nAt_mid (digB cm 8) (digB rc 8++(digB rg 2++(digB lv 1++(digB gn 2++(digB tn 4++zeros 195))))) pg 4 8 (by simp[digB_len]) h2
 have f3:=nAt_mid (digB cm 8++digB pg 4) (digB rg 2++(digB lv 1++(digB gn 2++(digB tn 4++zeros 195)))) rc 8 12 (by simp[digB_len]) h3
 have f4:=nAt_mid (digB cm 8++digB pg 4++digB rc 8) (digB lv 1++(digB gn 2++(digB tn 4++zeros 195))) rg 2 20 (by simp[digB_len]) h4
 have f5:=nAt_mid (digB cm 8++digB pg 4++digB rc 8++digB rg 2) (digB gn 2++(digB tn 4++zeros 195)) lv 1 22 (by simp[digB_len]) h5
 have f6:=nAt_mid (digB cm 8++digB pg 4++digB rc 8++digB rg 2++digB lv 1) (digB tn 4++zeros 195) gn 2 23 (by simp[digB_len]) h6
 have f7:=nAt_mid (digB cm 8++digB pg 4++digB rc 8++digB rg 2++digB lv 1++digB gn 2) (zeros 195) tn 4 25 (by simp[digB_len]) h7
 simp only[List.nil_append,List.append_assoc] at f1 f2 f3 f4 f5 f6 f7
 unfold mpOf
 rw[f1,f2,f3,f4,f5,f6,f7]
theorem nz_none {l:List Nat}:∀(f k:Nat),(∀i,k≤i→i<k+f→at' l i=0)→nzFrom l f k=none
 | 0,k,_=>rfl
 | f+1,k,h=>by
   rw[nzFrom,if_pos (h k (Nat.le_refl _) (by omega))]
   exact nz_none f (k+1) fun i h1 h2=>h i (by omega) (by omega)
theorem right_cm {m:Mp} (h:rightB m=true):m.cm≠0:=fun e=>by
 unfold rightB at h
 rw[e] at h
 simp at h
theorem decP_mbytes {m:Mp} (h:m.Ok) (hr:rightB m=true):decP (mbytes m)=⟨m,0,0⟩:=by
 unfold decP
 have hz:nzFrom (mbytes m) 195 29=none:=nz_none 195 29 fun i h1 h2=>by
  rw[mbytes,at',List.getElem?_append_right (by rw[fldM_len];omega),fldM_len,List.getElem?_eq_getElem (by rw[zeros_len];omega),zeros_el]
  rfl
 rw[if_pos (mbytes_len m),mpOf_mbytes h,if_neg (right_cm hr),hr,cond_true,hz]
theorem mOpen_seal {l:RgL} {m:Mp} {k:List Nat} (hm:m.Ok) (hr:rightB m=true) (hk:getR (0,m.gn) l=some k) (hkk:KeyOk k) (s:Int):
 mOpenP l s (mSealP l m).1=if s=0∨s=1 then (if ((m.cm%2:Nat):Int)=s then ⟨m,0⟩ else ⟨mp0,100⟩) else ⟨mp0,2⟩:=by
 unfold mSealP
 rw[hr,cond_true,hk]
 simp only
 rw[sealM hkk m]
 simp only
 have hX:(sealA k (nonceL (labM m)) (aadL (labM m)) (mbytes m)).length=240:=by rw[sealA_len,mbytes_len]
 have hl:(headL (labM m)++sealA k (nonceL (labM m)) (aadL (labM m)) (mbytes m)).length=256:=by rw[List.length_append,headL_len,hX]
 have ht:toldP (headL (labM m)++sealA k (nonceL (labM m)) (aadL (labM m)) (mbytes m))=⟨4,0,m.gn,m.cm,0⟩:=told_seal (labM_ok hm) (by simp[labM]) (by simp[labM]) hX
 unfold mOpenP
 rw[ht]
 by_cases hs:s=0∨s=1
 · rw[if_pos ⟨hs,hl⟩,if_pos hs]
   by_cases he:((m.cm%2:Nat):Int)=s
   · rw[if_pos he,if_pos ⟨rfl,rfl,rfl,he⟩]
     unfold mOpenB
     simp only
     rw[hk]
     simp only
     have hlab:labT 0 ⟨4,0,m.gn,m.cm,0⟩=labM m:=rfl
     rw[hlab,openP_seal (sealM_ok hkk m) (mbytes_len m)]
     simp only[if_true]
     rw[decP_mbytes hm hr]
     simp
   · rw[if_neg he,if_neg (fun h=>he h.2.2.2)]
 · rw[if_neg (fun h=>hs h.1),if_neg hs]
theorem mOpen_any (B g mm:Nat) (sl:Int) (l:RgL) (A:Option Addr) (n c:Nat) (b:List Nat) (w:World) (hr:RgB w B g mm l) (hi:IsB w A n c b):
 Calls Tryz.prog 32 #[.pointer (some ⟨g,0,none⟩),.int .i64 sl,.slice A n c] w fun e w'=>e = .returned (opnV (mOpenP l sl b))∧Below w.heap.size w w':=by
 have hl:=hi.len
 unfold mOpenP
 by_cases h:(sl=0∨sl=1)∧b.length=256
 · rw[if_pos h]
   obtain⟨hs,h2⟩:=h
   obtain rfl:n=256:=by omega
   obtain⟨s,rfl,hs1⟩:∃s:Nat,sl=(s:Int)∧s≤1:=by
    rcases hs with rfl | rfl
    · exact⟨0,rfl,by decide⟩
    · exact⟨1,rfl,by decide⟩
   exact mOpen_ok B g mm s l A c b w hr hs1 hi
 · rw[if_neg h]
   exact mOpen_arg g sl A n c w (fun q=>h ⟨q.1,by omega⟩)
end Go.Proofs.YtlobgddnlnffbaaGreat
