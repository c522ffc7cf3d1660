/-
  Parts of the proof, joined.
-/
import Derived.Test.YtnboclhgeehdoaaGreatBdc
import Derived.Lib.AppendZeros
import Derived.Lib.AppendZerosOnto
import Derived.Test.YtnboclhgeehdoaaGreatBdh
import Derived.Test.YtnboclhgeehdoaaGreatBdi
import Derived.BigRegion
import Derived.Test.YtnboclhgeehdoaaGreatBdm
import Derived.Test.YtnboclhgeehdoaaGreatBdo
import Derived.Deep.QuietTactic
import Derived.BigQuiet
namespace Go.Proofs.YtnboclhgeehdoaaGreat
set_option maxHeartbeats 16000000
open Go.RowKit
set_option linter.unusedVariables false
theorem zeroCells_u8 (k:Nat):Builtin.zeroCells #[Value.int .u8 0] k=bts (zeros k):=by
 apply Array.ext
 · simp[Builtin.zeroCells,bts,zeros]
 · intro i h1 h2
   simp[Builtin.zeroCells,bts,zeros,Nat.mod_one]
section
variable {P:Program} (w:World)
theorem run_append_zroom (t tn ty e:TypeId) (i:TypeInfo) (z:Value) (ht:P.underlying t=some (.slice e)) (htn:P.underlying tn=some (.int .i64)) (hi:P.info? e=some i) (hz:i.zero=some z) (hsz:i.size=1) (hby:i.bytes=1) (hzc:z.cells = #[.int .u8 0])
 (g sLen sCap k:Nat) (cur:Array Value) (hg:w.heap[g]? = some (.cells cur e (0,0))) (h0:0<k) (hk:k≤140737488355328)
 (hroom:sLen+k≤sCap) (hfit:sLen+k≤cur.size):
 (Builtin.append_ #[t,tn] ty #[.slice (some ⟨g,0,none⟩) sLen sCap,.int .i64 (k:Int)]).run P w =
   .ok (.slice (some ⟨g,0,none⟩) (sLen+k) sCap) (w.setRow g (cur.toList.take sLen++bvals (zeros k)++cur.toList.drop (sLen+k)).toArray):=by
 have hst:=run_storeCells_at P g sLen e (bvals (zeros k)) 0 cur w hg (by simp[bvals,zeros];omega) (by simp[bvals,Value.oneCell'])
 have hl:(bvals (zeros k)).length=k:=by simp[bvals,zeros]
 simp only[Nat.add_zero,hl] at hst
 have hw:IntKind.i64.wrap (k:Int)=k:=IntWalk.i64_in _ (by omega)
 have hneg:¬((k:Int)<0):=by omega
 have h48:¬(281474976710656<(k:Int)*((1:Nat):Int)):=by omega
 have hne:k≠0:=by omega
 have hzz:(Builtin.zeroCells #[Value.int .u8 0] k).toList=bvals (zeros k):=by rw[zeroCells_u8,bts_list];rfl
 simp[Builtin.append_,run_underlying ht,run_underlying htn,sizeOf,typeInfo,zeroValue,hi,hz,asInt,asIntOf,hw,hneg,hne,hsz,hby,hroom,Addr.add_lit,hzc,hzz,hst]
 omega
theorem run_appZ {B:Nat} {t tn ty:TypeId} {i:TypeInfo} {z:Value} (ht:P.underlying t=some (.slice 5)) (htn:P.underlying tn=some (.int .i64)) (hi:P.info? 5=some i) (hz:i.zero=some z) (hsz:i.size=1) (hby:i.bytes=1) (hzc:z.cells = #[.int .u8 0])
 {v:Value} {l:List Nat} (hown:OwB w B v l) (k:Nat) (h0:0<k) (hm:l.length+k≤140737488355328) (hbase:B≤w.heap.size):
 ∃v' w',(Builtin.append_ #[t,tn] ty #[v,.int .i64 (k:Int)]).run P w = .ok v' w'∧OwB w' B v' (l++zeros k)∧Below B w w'∧w.grownBy w' v.ownBlock:=by
 have hz0:Byt (zeros k):=fun x hx=>by rw[List.eq_of_mem_replicate hx];decide
 have ho:=hown.own
 have hzl:(zeros k).length=k:=zeros_len k
 have hlen:(l++zeros k).length=l.length+k:=by rw[List.length_append,hzl]
 have hbv:bvals (l++zeros k)=bvals l++bvals (zeros k):=by simp[bvals]
 have grown:∀(old:Nat) (row:Option Nat),
  OwB (w.drew.alloc (.cells ((bvals l).toArray++bts (zeros k)++bts (zeros (grownCap w (l.length+k) old 5-(l.length+k)))) 5)) B (.slice (some ⟨w.heap.size,0,none⟩) (l.length+k) (grownCap w (l.length+k) old 5)) (l++zeros k)∧
  w.grownBy (w.drew.alloc (.cells ((bvals l).toArray++bts (zeros k)++bts (zeros (grownCap w (l.length+k) old 5-(l.length+k)))) 5)) row:=by
  intro old row
  have hge:=grownCap_ge w (l.length+k) old 5
  have hcm:grownCap w (l.length+k) old 5≤maxLen:=grownCap_le_maxLen w (l.length+k) old 5 (by simp only[maxLen];omega)
  refine⟨OwB.ofBk (l':=l++zeros k++zeros (grownCap w (l.length+k) old 5-(l.length+k))) ?_ hbase hlen hge ?_ hcm ?_ (byt_app hown.byt hz0),⟨rfl,rfl,rfl,by simp,fun j hj _=>heap_alloc_old w.drew _ hj⟩⟩
  · have e:(bvals l).toArray++bts (zeros k)++bts (zeros (grownCap w (l.length+k) old 5-(l.length+k)))=bts (l++zeros k++zeros (grownCap w (l.length+k) old 5-(l.length+k))):=by
     apply Array.ext'
     simp[bts,bvals]
    rw[e]
    exact Bk.newAt _ _ rfl
  · rw[List.length_append,hlen,zeros_len]
    omega
  · rw[List.take_append_of_le_length (by omega),List.take_of_length_le (by omega)]
 rcases ho.2 with ⟨rfl,hx⟩ | ⟨g,cap,cur,rfl,hbg,hg,hnc,hcm,hcs,htake⟩
 · have hl0:l=[]:=List.eq_nil_of_length_eq_zero hx
   subst hl0
   have hr:=Lib.run_append_nil_zeros (P:=P) w t tn ty 5 i z .i64 .i64 ht htn hi hz k h0 (by omega) (by simp at hm;omega) (by rw[hby];simp at hm;omega)
   have hg:=grown 0 none
   simp only[List.length_nil,Nat.zero_add,List.nil_append,bvals,List.map_nil,Array.empty_append] at hg
   rw[hzc,zeroCells_u8,zeroCells_u8] at hr
   refine⟨_,_,hr,hg.1,⟨hg.2.os,hg.2.tape,hg.2.output,hg.2.size,fun j hj=>hg.2.block j (by omega) (by simp)⟩,⟨hg.2.os,hg.2.tape,hg.2.output,hg.2.size,fun j hj _=>hg.2.block j hj (by simp)⟩⟩
 · by_cases hroom:l.length+k≤cap
   · have hr:=run_append_zroom (P:=P) w t tn ty 5 i z ht htn hi hz hsz hby hzc g l.length cap k cur hg h0 (by omega) hroom (by rw[hcs];omega)
     refine⟨_,_,hr,⟨⟨?_,.inr ⟨g,cap,_,?_,hbg,setRow_heap w g cur _ 5 _ hg,?_,hcm,?_,?_⟩⟩,byt_app hown.byt hz0⟩,Below.row (Below.refl _ _) hbg _,⟨rfl,rfl,rfl,by simp,fun j _ hj=>setRow_other w g j _ (fun e=>hj (by simp[Value.ownBlock,e]))⟩⟩
     · simp[bvals]
     · rw[hlen]
     · rw[hlen];exact hroom
     · simp only[List.size_toArray,List.length_append,List.length_take,List.length_drop,Array.length_toList,bvals,List.length_map,hzl]
       omega
     · rw[hbv]
       have e1:(bvals l).length=l.length:=by simp[bvals]
       have e2:(bvals (zeros k)).length=k:=by simp[bvals,zeros]
       have e3:cur.toList.take l.length=bvals l:=by
        have:=htake
        simpa using this
       rw[e3,List.take_append_of_le_length (by rw[List.length_append,List.length_append,e1,e2,hzl];omega),List.take_of_length_le (by rw[List.length_append,List.length_append,e1,e2,hzl];omega)]
   · have hcells:=hown.rw
     have hold:(Builtin.firstCells i.size l.length (.slice (some ⟨g,0,none⟩) l.length cap)).run P w.drew = .ok (bvals l).toArray w.drew:=by
      refine run_firstCells_some (P:=P) w.drew i.size l.length ⟨g,0,none⟩ l.length cap (bvals l) (by rw[hsz];simp[bvals]) fun j u hj=>?_
      have hjl:j<l.length:=by
       rcases Nat.lt_or_ge j l.length with h | h
       · exact h
       · rw[List.getElem?_eq_none (by simp[bvals];omega)] at hj;cases hj
      have h1:=hcells j hjl
      have e1:(Addr.mk g 0 none).add j=⟨g,j,none⟩:=by rw[Addr.add_mid,Nat.zero_add]
      rw[e1]
      show w.cell? _=_
      rw[h1,←hj]
      simp[bvals,at',List.getElem?_eq_getElem hjl]
     have hr:=Lib.run_append_grow_zeros (P:=P) w t tn ty 5 i z .i64 .i64 ht htn hi hz (some ⟨g,0,none⟩) l.length cap (bvals l) hold k h0 (by omega) (by omega) (by omega) (by rw[hby];omega) (growslice_fits (by omega) (by rw[hby];omega))
     rw[hzc,zeroCells_u8,zeroCells_u8] at hr
     have hg2:=grown cap none
     refine⟨_,_,hr,hg2.1,⟨hg2.2.os,hg2.2.tape,hg2.2.output,hg2.2.size,fun j hj=>hg2.2.block j (by omega) (by simp)⟩,⟨hg2.2.os,hg2.2.tape,hg2.2.output,hg2.2.size,fun j hj _=>hg2.2.block j hj (by simp)⟩⟩
theorem wpList_appZ {ops:Array Oper} {rest:List Oper} {o:Oper} {a:Act} {Q:Exit→Act→World→Prop} (hgd:o.guard=none) (s x:Operand) {t tn:TypeId}
 (ho:o.op = .call { callee:=.builtin .append,args:=#[s,x],argTypes:=#[t,tn] })
 {B:Nat} {i:TypeInfo} {z:Value} (ht:P.underlying t=some (.slice 5)) (htn:P.underlying tn=some (.int .i64)) (hi:P.info? 5=some i) (hz:i.zero=some z)
 (hsz:i.size=1) (hby:i.bytes=1) (hzc:z.cells = #[.int .u8 0])
 {v:Value} {l:List Nat} (hown:OwB w B v l) (hs:a.eval s=v) (k:Nat) (hx:a.eval x = .int .i64 (k:Int)) (h0:0<k)
 (hm:l.length+k≤140737488355328) (hbase:B≤w.heap.size)
 (h:∀v' w',OwB w' B v' (l++zeros k)→Below B w w'→w.grownBy w' v.ownBlock→wpList P ops Q rest (a.put o.dst v') w'):wpList P ops Q (o::rest) a w:=by
 obtain⟨v',w',hrun,h2,h3,h4⟩:=run_appZ (P:=P) w (ty:=o.type) ht htn hi hz hsz hby hzc hown k h0 hm hbase
 refine wpList_plain hgd fun K hK=>?_
 unfold Oper.wp execOp
 simp only[ho,resolve,invoke,builtin,Sem.run_bind,Sem.run_pure,Result.andThen_ok,List.map_toArray,List.map_cons,List.map_nil,hs,hx,hrun]
 exact hK _ _ (h v' w' h2 h3 h4)
end
def fldM (m:Mp):List (Nat×Nat):=[(m.cm,8),(m.pg,4),(m.rc,8),(m.rg,2),(m.lv,1),(m.gn,2),(m.tn,4)]
def mbytes (m:Mp):List Nat:=flatN (fldM m)++zeros 195
theorem fldM_len (m:Mp):(flatN (fldM m)).length=29:=by simp[fldM,flatN,digB_len]
theorem mbytes_len (m:Mp):(mbytes m).length=224:=by rw[mbytes,List.length_append,fldM_len,zeros_len]
theorem fldM_ok {m:Mp} (h:m.Ok):NumOk (fldM m):=by
 have h1:=h.cm;have h2:=h.pg;have h3:=h.rc;have h4:=h.rg;have h5:=h.lv;have h6:=h.gn;have h7:=h.tn
 intro p hp
 simp only[fldM,List.mem_cons,List.not_mem_nil,or_false] at hp
 rcases hp with rfl | rfl | rfl | rfl | rfl | rfl | rfl <;> simp only <;> omega
def rowF (ps:List (Nat×Nat)):Array Value:=(ps.flatMap fun p=>[Value.int .u64 (p.1:Int),Value.int .i64 (p.2:Int)]).toArray
theorem rowF_at:∀(ps:List (Nat×Nat)) (j:Nat) (p:Nat×Nat),ps[j]? = some p→(ps.flatMap fun p=>[Value.int .u64 (p.1:Int),Value.int .i64 (p.2:Int)])[j*2]? = some (.int .u64 (p.1:Int))∧(ps.flatMap fun p=>[Value.int .u64 (p.1:Int),Value.int .i64 (p.2:Int)])[j*2+1]? = some (.int .i64 (p.2:Int))
 | [],j,p,h=>by simp at h
 | q::ps,0,p,h=>by
   simp only[List.getElem?_cons_zero,Option.some.injEq] at h
   subst h
   exact⟨rfl,rfl⟩
 | q::ps,j+1,p,h=>by
   have:=rowF_at ps j p (by simpa using h)
   rw[show (j+1)*2=j*2+1+1 by omega]
   exact this
def FldB (w:World) (g:Nat) (ps:List (Nat×Nat)):Prop:=w.heap[g]? = some (.cells (rowF ps) 195 (0,0))
theorem FldB.lt {w:World} {g:Nat} {ps:List (Nat×Nat)} (h:FldB w g ps):g<w.heap.size:=lt_of_block h
theorem FldB.low {w w':World} {g C:Nat} {ps:List (Nat×Nat)} (h:FldB w g ps) (hb:Below C w w') (hC:g<C):FldB w' g ps:=(hb.block g hC).trans h
theorem FldB.at {w:World} {g:Nat} {ps:List (Nat×Nat)} (h:FldB w g ps) {j:Nat} {p:Nat×Nat} (hj:ps[j]? = some p):w.cell? ⟨g,j*2,none⟩=some (.int .u64 (p.1:Int))∧w.cell? ⟨g,j*2+1,none⟩=some (.int .i64 (p.2:Int)):=by
 have:=rowF_at ps j p hj
 rw[cell_of_row w g _ _ _ (0,0) h,cell_of_row w g _ _ _ (0,0) h]
 simpa[rowF] using this
def encP (m:Mp):List Nat×Nat:=bif rightB m then (mbytes m,0) else ([],2)
set_option maxRecDepth 100000 in
theorem encode_any (m:Mp) (w:World) (hm:m.Ok):
 Calls Tryz.prog 93 #[.agg (mpv m)] w (OutB w (encP m).1 (encP m).2):=by
 obtain⟨i0,hi0,hz0,hz1,hz2⟩:=info_parts infoU8
 have hz3:(Value.int .u8 0).cells = #[.int .u8 0]:=rfl
 have HM:=Lib.hid fun W=>right_any m W
 have HO:=Lib.hid (fldM_ok hm)
 have HL:=Lib.hid (fldM_len m)
 unfold encP rightE at *
 cases hr:rightB m
 · simp only[cond_false]
   rw[hr] at HM
   obtain⟨cm,pg,rc,rg,lv,gn,tn⟩:=m
   simp only[mpv] at HM⊢
   clear hr hm
   go_enter Tryz.func93,Tryz.ntmps93
   go_wp2_with fail
   refine (HM.out _).mono ?_
   rintro e w1 ⟨rfl,hb⟩
   have B1:Hid (Below w.heap.size w w1):=Lib.hid (((Below.refl _ _).alloc (Nat.le_refl _) _).trans (hb.mono (by simp)))
   clear hb
   go_wp2_with fail
   go_ret2
   exact OutB.refused 2 B1.out
 · simp only[cond_true]
   rw[hr] at HM
   have M0:=Lib.hid (MpB.new w m)
   have z1:IntKind.u64.wrap (m.pg:Int)=(m.pg:Int):=wide_u64 m.pg (by have:=hm.pg;omega)
   have z2:IntKind.u64.wrap (m.rg:Int)=(m.rg:Int):=wide_u64 m.rg (by have:=hm.rg;omega)
   have z3:IntKind.u64.wrap (m.lv:Int)=(m.lv:Int):=wide_u64 m.lv (by have:=hm.lv;omega)
   have z4:IntKind.u64.wrap (m.gn:Int)=(m.gn:Int):=wide_u64 m.gn (by have:=hm.gn;omega)
   have z5:IntKind.u64.wrap (m.tn:Int)=(m.tn:Int):=wide_u64 m.tn (by have:=hm.tn;omega)
   have HE:Hid (mbytes m=flatN (fldM m)++zeros 195):=Lib.hid rfl
   have HF:Hid (rowF (fldM m) = #[.int .u64 (m.cm:Int),.int .i64 8,.int .u64 (m.pg:Int),.int .i64 4,.int .u64 (m.rc:Int),.int .i64 8,.int .u64 (m.rg:Int),.int .i64 2,.int .u64 (m.lv:Int),.int .i64 1,.int .u64 (m.gn:Int),.int .i64 2,.int .u64 (m.tn:Int),.int .i64 4]):=Lib.hid rfl
   have HN:Hid ((fldM m).length=7):=Lib.hid rfl
   generalize mbytes m=MB at *
   generalize fldM m=ps at *
   obtain⟨cm,pg,rc,rg,lv,gn,tn⟩:=m
   simp only[mpv] at HM M0 z1 z2 z3 z4 z5⊢
   clear hr hm
   go_enter Tryz.func93,Tryz.ntmps93
   go_wp2_with fail
   refine (HM.out _).mono ?_
   rintro e w1 ⟨rfl,hb⟩
   have B1:Hid (Below w.heap.size w w1):=Lib.hid (((Below.refl _ _).alloc (Nat.le_refl _) _).trans (hb.mono (by simp)))
   obtain⟨c0,c1,c2,c3,c4,c5,c6⟩:=(M0.out.ab hb).cells
   have hz:w.heap.size<w1.heap.size:=by have:=hb.size;simp at this;omega
   clear hb
   go_wp2_with fail
   have F0:Hid (FldB ((w1.alloc (.cells #[.int .u32 (pg:Int),.int .u64 (rc:Int),.int .u16 (rg:Int)] 45)).alloc (.cells #[.int .u64 (cm:Int),.int .i64 8,.int .u64 (pg:Int),.int .i64 4,.int .u64 (rc:Int),.int .i64 8,.int .u64 (rg:Int),.int .i64 2,.int .u64 (lv:Int),.int .i64 1,.int .u64 (gn:Int),.int .i64 2,.int .u64 (tn:Int),.int .i64 4] 195)) (w1.heap.size+1) ps):=Lib.hid (by
    unfold FldB
    rw[HF.out]
    have:=heap_alloc_new (w1.alloc (.cells #[.int .u32 (pg:Int),.int .u64 (rc:Int),.int .u16 (rg:Int)] 45)) (.cells #[.int .u64 (cm:Int),.int .i64 8,.int .u64 (pg:Int),.int .i64 4,.int .u64 (rc:Int),.int .i64 8,.int .u64 (rg:Int),.int .i64 2,.int .u64 (lv:Int),.int .i64 1,.int .u64 (gn:Int),.int .i64 2,.int .u64 (tn:Int),.int .i64 4] 195)
    simpa using this)
   have B2:Hid (Below w.heap.size w ((w1.alloc (.cells #[.int .u32 (pg:Int),.int .u64 (rc:Int),.int .u16 (rg:Int)] 45)).alloc (.cells #[.int .u64 (cm:Int),.int .i64 8,.int .u64 (pg:Int),.int .i64 4,.int .u64 (rc:Int),.int .i64 8,.int .u64 (rg:Int),.int .i64 2,.int .u64 (lv:Int),.int .i64 1,.int .u64 (gn:Int),.int .i64 2,.int .u64 (tn:Int),.int .i64 4] 195))):=Lib.hid ((B1.out.alloc B1.out.size _).alloc (by have:=B1.out.size;simp;omega) _)
   generalize hW2:((w1.alloc (.cells #[.int .u32 (pg:Int),.int .u64 (rc:Int),.int .u16 (rg:Int)] 45)).alloc (.cells #[.int .u64 (cm:Int),.int .i64 8,.int .u64 (pg:Int),.int .i64 4,.int .u64 (rc:Int),.int .i64 8,.int .u64 (rg:Int),.int .i64 2,.int .u64 (lv:Int),.int .i64 1,.int .u64 (gn:Int),.int .i64 2,.int .u64 (tn:Int),.int .i64 4] 195))=w2 at *
   have hz2':w2.heap.size=w1.heap.size+2:=by rw[←hW2];simp
   have HZ2:=Lib.hid hz2'
   clear hW2 hz2' c0 c1 c2 c3 c4 c5 c6 HF M0 HM B1 z1 z2 z3 z4 z5
   go_loopw [6,8,9,10,48] (fun v _ _ _ j wr=>∃q:Nat,q≤7∧j = .int .i64 q∧OwB wr (w1.heap.size+2) v (flatN (ps.take q))∧FldB wr (w1.heap.size+1) ps∧Below w.heap.size w wr∧w1.heap.size+2≤wr.heap.size) (fun _ _ _ _ j _=>7-(intOf j).toNat)
   case atStart=>exact⟨0,Nat.zero_le _,rfl,OwB.nil _ _,F0.out,B2.out,by rw[HZ2.out];exact Nat.le_refl _⟩
   case round=>
    obtain⟨q,hq,rfl,ho,hf,kb,hs⟩:=hrel
    by_cases hlt:q<7
    · have hqi:(q:Int)<7:=by omega
      obtain⟨p,hp⟩:∃p,ps[q]? = some p:=⟨_,List.getElem?_eq_getElem (by rw[HN.out];exact hlt)⟩
      obtain⟨p1,p2,p3,p4⟩:=HO.out p (List.mem_of_getElem? hp)
      have hts:ps.take (q+1)=ps.take q++[p]:=by rw[List.take_add_one,hp];rfl
      have hfl:=flatN_snoc (ps.take q) p
      rw[←hts] at hfl
      obtain⟨a0,a1⟩:=hf.at hp
      have hle:=flatN_le (ps:=ps.take q) (fun r hr=>HO.out r (List.mem_of_mem_take hr))
      rw[List.length_take] at hle
      obtain⟨x,sz⟩:=p
      simp only at p1 p2 p3 p4 a0 a1 hfl
      have HPU:=Lib.hid fun W=>put_any x sz W p1 p2 p3 p4
      have FF:=Lib.hid hf
      have KB:=Lib.hid kb
      have OO:=Lib.hid ho
      have HFL:=Lib.hid hfl
      have HLE:=Lib.hid hle
      have HQ:=Lib.hid hlt
      have P3:=Lib.hid p3
      have HS:=Lib.hid hs
      clear ho hf kb hfl hle hlt hts hp p1 p2 p3 p4 hq hs
      go_wp2_with fail
      refine (HPU.out _).mono ?_
      rintro e w3 ⟨rfl,hk,hb⟩
      have hb2:=((Below.refl wr.heap.size wr).alloc (Nat.le_refl _) (.cells #[.int .u64 (x:Int),.int .i64 (sz:Int)] 195)).trans (hb.mono (by simp))
      have K3:Hid (IsB w3 (some ⟨wr.heap.size+1,0,none⟩) sz sz (digB x sz)):=Lib.hid (by
       have:=isB_whole hk (digB_byt _ _) (digB_len _ _) (by have:=P3.out;omega)
       simpa using this)
      have O3:=Lib.hid (OO.out.ab hb2)
      have F3:=Lib.hid (FF.out.low hb2 FF.out.lt)
      have KB3:=Lib.hid (below_tr KB.out hb2 KB.out.size)
      have HS3:Hid (w1.heap.size+2≤w3.heap.size):=Lib.hid (Nat.le_trans HS.out hb2.size)
      clear hk hb hb2
      go_wp2_with (refine wpList_appB _ rfl (.tmp 60) (.tmp 61) rfl Tryz.underlying64 hi0 hz0 hz1 hz2 rfl O3.out rfl K3.out rfl (by have:=HLE.out;have:=HQ.out;have:=P3.out;omega) HS3.out ?_
                   intro v6 w6 hv6 hb6 hg6 hat6
                   rw[←HFL.out] at hv6
                   have V6:=Lib.hid hv6
                   have F6:=Lib.hid (F3.out.low hb6 (by omega))
                   have B6:=Lib.hid (KB3.out.trans (hb6.mono (by have:=hz;omega)))
                   have S6:=Lib.hid (Nat.le_trans HS3.out hb6.size)
                   clear hv6 hb6 hg6 hat6)
      go_roundw
      case rel=>exact⟨q+1,HQ.out,by go_num,V6.out,F6.out,B6.out,S6.out⟩
      case measure=>simp[intOf];have:=HQ.out;omega
    · obtain rfl : q=7:=by omega
      rw[List.take_of_length_le (by rw[HN.out];exact Nat.le_refl _)] at ho
      obtain⟨A,cap,rfl,_,_⟩:=ho.shape
      have hl29:=HL.out
      rw[hl29] at ho⊢
      have OO:=Lib.hid ho
      have KB:=Lib.hid kb
      have HS:=Lib.hid hs
      clear ho kb hlt hq hf hs hl29
      go_wp2_with (refine wpList_appZ _ rfl (.tmp 64) (.tmp 67) rfl Tryz.underlying64 Tryz.underlying3 hi0 hz0 hz1 hz2 hz3 OO.out rfl 195 rfl (by decide) (by rw[HL.out];decide) HS.out ?_
                   intro v6 w6 hv6 hb6 hg6
                   rw[←HE.out] at hv6
                   have V6:=Lib.hid hv6
                   have B6:=Lib.hid (KB.out.trans (hb6.mono (by have:=hz;omega)))
                   clear hv6 hb6 hg6)
      go_ret2
      exact⟨_,rfl,V6.out.lower (by have:=hz;omega),B6.out⟩
theorem three (w:World) (x y z:Array Value) (X Y Z:TypeId):CbB (((w.alloc (.cells x X)).alloc (.cells y Y)).alloc (.cells z Z)) w.heap.size X x∧CbB (((w.alloc (.cells x X)).alloc (.cells y Y)).alloc (.cells z Z)) (w.heap.size+1) Y y∧CbB (((w.alloc (.cells x X)).alloc (.cells y Y)).alloc (.cells z Z)) (w.heap.size+1+1) Z z∧Below w.heap.size w (((w.alloc (.cells x X)).alloc (.cells y Y)).alloc (.cells z Z)):=by
 refine⟨((CbB.new w X x).ab ((Below.refl _ _).alloc (Nat.le_refl _) _)).ab ((Below.refl _ _).alloc (Nat.le_refl _) _),?_,?_,(((Below.refl _ _).alloc (Nat.le_refl _) _).alloc (by simp) _).alloc (by simp;omega) _⟩
 · have:=(CbB.new (w.alloc (.cells x X)) Y y).ab ((Below.refl _ _).alloc (Nat.le_refl _) (.cells z Z))
   simpa using this
 · have:=CbB.new ((w.alloc (.cells x X)).alloc (.cells y Y)) Z z
   simpa using this
def mSealP (l:RgL) (m:Mp):List Nat×Nat:=bif rightB m then (match getR (0,m.gn) l with | some k=>sealP k (labM m) (mbytes m) | none=>([],7)) else ([],2)
theorem sealM_ok {k:List Nat} (hk:KeyOk k) (m:Mp):SOk k (labM m):=⟨hk,by simp[labM],by simp[labM]⟩
theorem sealM {k:List Nat} (hk:KeyOk k) (m:Mp):sealP k (labM m) (mbytes m)=(headL (labM m)++sealA k (nonceL (labM m)) (aadL (labM m)) (mbytes m),0):=sealP_ok (sealM_ok hk m) (mbytes_len m)
set_option linter.unusedSimpArgs false
theorem OwB.lowA {w:World} {B n c:Nat} {A:Option Addr} {l:List Nat} (h:OwB w B (.slice A n c) l):∀x,A=Option.some x→B≤x.block:=fun x hx=>by
 subst hx
 rcases h.own.2 with ⟨e1,_⟩ | ⟨g,cap,cur,e1,hge,_⟩
 · cases e1
 · injection e1 with e1 _ _
   injection e1 with e1
   subst e1
   exact hge
def MsW (N:Nat) (O:Tgm) (g:Nat) (all:List Sl) (R:List Nat) (err:Nat) (v:Value) (W:World):Prop:=
 (∃x,v = .tuple #[x,.int .i64 (err:Int)]∧OwB W N x R)∧∃r,LgM W (markO O N r (0,2)) g all∧∀k,r=some k→N≤k∧∃cs fr,W.heap[k]? = some (.cells cs 179 fr)
theorem MsW.ab {N g err:Nat} {O:Tgm} {all:List Sl} {R:List Nat} {v:Value} {W W':World} (h:MsW N O g all R err v W) (hb:Below W.heap.size W W'):MsW N O g all R err v W':=by
 obtain⟨⟨x,h1,h2⟩,r,h3,h4⟩:=h
 refine⟨⟨x,h1,h2.ab hb⟩,r,h3.wr (Wr.of hb (fun _=>False) (fun _ _=>rfl)) id,fun k hk=>?_⟩
 obtain⟨h5,cs,fr,h6⟩:=h4 k hk
 exact⟨h5,cs,fr,(hb.block k (lt_of_block h6)).trans h6⟩
theorem MsW.own {N g err:Nat} {O:Tgm} {all:List Sl} {R R2:List Nat} {v x:Value} {W:World} (h:MsW N O g all R err v W) (hx:OwB W N x R2):∃O',LgM W O' g all∧(∀k,k<N→O' k=O k)∧∀k,x.ownBlock=some k→O' k=(0,0):=by
 obtain⟨_,r,h3,h4⟩:=h
 refine⟨_,h3,fun k hk=>markO_old hk,fun k hk=>?_⟩
 have hge:=own_ge9 hx.own k hk
 unfold markO
 rw[if_neg (by omega),if_neg]
 intro e
 obtain⟨_,cs,fr,h5⟩:=h4 k e
 obtain⟨cs2,fr2,h6⟩:=row_ty9 hx.own k hk
 rw[h6] at h5
 injection h5 with h5
 injection h5 with _ h5
 exact absurd h5 (by decide)
theorem MsW.of {N g err:Nat} {O O':Tgm} {all:List Sl} {R:List Nat} {x:Value} {W:World} (hx:OwB W N x R) (hl:LgM W O' g all) (ho:∀k,k<N→O' k=O k) (hg:g<N):MsW N O g all R err (.tuple #[x,.int .i64 (err:Int)]) W:=by
 refine⟨⟨x,rfl,hx⟩,?_⟩
 obtain⟨v,h1,h2,t1,t2⟩:=hl
 by_cases hv:∃k,v.ownBlock=some k∧N≤k
 · obtain⟨k,hk,hN⟩:=hv
   refine⟨some k,⟨v,h1,h2,(markO_old hg).trans ((ho g hg).symm.trans t1),fun q hq=>?_⟩,fun q hq=>?_⟩
   · rw[hk] at hq
     injection hq with hq
     subst hq
     exact markO_new hN
   · injection hq with hq
     subst hq
     exact⟨hN,row_ty9 h2 _ hk⟩
 · refine⟨none,⟨v,h1,h2,(markO_old hg).trans ((ho g hg).symm.trans t1),fun q hq=>?_⟩,fun q hq=>by cases hq⟩
   have hq2:q<N:=Nat.lt_of_not_le fun e=>hv ⟨q,hq,e⟩
   exact (markO_old hq2).trans ((ho q hq2).symm.trans (t2 q hq))
def lgM (l:RgL) (m:Mp):List Sl:=if (mSealP l m).2=0 then [⟨labM m,(getR (0,m.gn) l).getD [],mbytes m,(mSealP l m).1⟩] else []
set_option maxRecDepth 100000 in
theorem metaSealW {w W:World} {O:Tgm} {g lg:Nat} {l:RgL} {all:List Sl} {m:Mp} (hr:RgM w O g l) (hL:LgM w O lg all) (hb:Below w.heap.size w W) (h1000:all.length≤100000) (hm:m.Ok):
 Calls Tryz.prog 72 #[.pointer (some ⟨g,0,none⟩),.pointer (some ⟨lg,0,none⟩),.agg (mpv m)] W fun e w'=>∃v,e = .returned v∧MsW w.heap.size O lg (all++lgM l m) (mSealP l m).1 (mSealP l m).2 v w'∧Fr W w' (fun k=>k<w.heap.size∧O k=(0,2)):=by
 have hlg:lg<w.heap.size:=by obtain⟨v,h1,_⟩:=hL;exact h1.lt
 have NO:Hid (∀W2,Below w.heap.size w W2→∀(e:Nat),MsW w.heap.size O lg all [] e (.tuple #[.slice none 0 0,.int .i64 (e:Int)]) W2):=Lib.hid fun W2 h2 e=>MsW.of (O':=cutO O w.heap.size) (OwB.nil _ _) (hL.wr (Wr.cut h2 (fun _=>False)) id) (fun k hk=>cutO_old hk) hlg
 have LL:Hid (∀W2,Below w.heap.size w W2→LgM W2 (cutO O w.heap.size) lg all):=Lib.hid fun W2 h2=>hL.wr (Wr.cut h2 (fun _=>False)) id
 obtain⟨mm,hrg⟩:=hr.rg
 have M0:=Lib.hid (MpB.new W m)
 have BW:=Lib.hid hb
 have B0:Hid (Below W.heap.size W (W.alloc (.cells (mpv m) 49))):=Lib.hid ((Below.refl _ _).alloc (Nat.le_refl _) _)
 have HE:=Lib.hid fun W=>encode_any m W hm
 have HK:=Lib.hid fun W2 (h:Below w.heap.size w W2)=>ringKey_any 0 g mm 0 m.gn l W2 (hrg.ab h) (by decide) hm.gn
 have HL:=Lib.hid fun W=>labelOf_any m W
 have LO:=Lib.hid (labM_ok hm)
 have ML:=Lib.hid (mbytes_len m)
 have HLG:=Lib.hid hlg
 have H1:=Lib.hid h1000
 have HV:Hid (mpv m = #[.int .u64 (m.cm:Int),.int .u32 (m.pg:Int),.int .u64 (m.rc:Int),.int .u16 (m.rg:Int),.int .u8 (m.lv:Int),.int .u16 (m.gn:Int),.int .u32 (m.tn:Int)]):=Lib.hid rfl
 unfold lgM mSealP encP at *
 cases hrt:rightB m
 · simp only[cond_false]
   rw[hrt] at HE
   simp only[cond_false] at HE
   rw[if_neg (by decide),List.append_nil]
   rw[HV.out] at HE⊢
   rw[HV.out] at B0
   clear hr hL hm hrt HK HL M0 hb hrg hlg LL h1000
   go_enter Tryz.func72,Tryz.ntmps72
   go_wp2_with fail
   refine (HE.out _).mono ?_
   rintro e w1 ⟨v,rfl,hv,hb⟩
   have B1:=Lib.hid (below_tr B0.out hb B0.out.size)
   clear hv hb
   go_wp2_with fail
   go_ret2
   exact⟨_,rfl,NO.out _ (below_tr BW.out B1.out BW.out.size) 2,Fr.of B1.out _⟩
 · simp only[cond_true]
   rw[hrt] at HE
   simp only[cond_true] at HE
   unfold keyP at HK
   cases hk:getR (0,m.gn) l with
   | none=>
     rw[hk] at HK
     simp only at HK⊢
     rw[if_neg (by decide),List.append_nil]
     rw[HV.out] at HE⊢
     rw[HV.out] at B0
     clear hr hL hm hrt HL hk hb hrg hlg LL h1000
     go_enter Tryz.func72,Tryz.ntmps72
     go_wp2_with fail
     refine (HE.out _).mono ?_
     rintro e w1 ⟨v,rfl,hv,hb⟩
     have B1:=Lib.hid (below_tr B0.out hb B0.out.size)
     obtain⟨c0,c1,c2,c3,c4,c5,c6⟩:=(M0.out.ab hb).cells
     clear hv hb
     go_wp2_with fail
     refine (HK.out _ (below_tr BW.out B1.out BW.out.size)).mono ?_
     rintro e w2 ⟨v2,rfl,hv,hb⟩
     have B2:=Lib.hid (below_tr B1.out hb B1.out.size)
     clear hv hb
     go_wp2_with fail
     go_ret2
     exact⟨_,rfl,NO.out _ (below_tr BW.out B2.out BW.out.size) 7,Fr.of B2.out _⟩
   | some k=>
     have hkk:=hrg.ne _ (getR_mem hk)
     rw[hk] at HK
     simp only at HK⊢
     have HS:=sealM hkk m
     rw[HS]
     generalize hR:(headL (labM m)++sealA k (nonceL (labM m)) (aadL (labM m)) (mbytes m))=R at *
     simp only[if_true,Option.getD_some]
     have SS:=Lib.hid HS
     rw[HV.out] at HE HL M0⊢
     rw[HV.out] at B0
     clear hr hL hm hrt hk HS hkk hb hrg hlg NO h1000 hR
     go_enter Tryz.func72,Tryz.ntmps72
     go_wp2_with fail
     refine (HE.out _).mono ?_
     rintro e w1 ⟨v,rfl,hv,hb⟩
     obtain⟨A1,c1',rfl,_,_⟩:=hv.shape
     have I1:=Lib.hid (hv.isB rfl)
     have B1:=Lib.hid (below_tr B0.out hb B0.out.size)
     have T1:=Lib.hid (hv.lower B0.out.size)
     have M1:=Lib.hid (M0.out.ab hb)
     obtain⟨c0,c1,c2,c3,c4,c5,c6⟩:=M1.out.cells
     clear hv hb M0
     go_wp2_with fail
     refine (HK.out _ (below_tr BW.out B1.out BW.out.size)).mono ?_
     rintro e w2 ⟨v2,rfl,hv,hb⟩
     obtain⟨A2,c2',rfl,_,_⟩:=hv.shape
     have I2:=Lib.hid (hv.isB rfl)
     have J2:=Lib.hid (I1.out.ab hb)
     have T2:=Lib.hid (hv.lower B1.out.size)
     have B2:=Lib.hid (below_tr B1.out hb B1.out.size)
     have M2:=Lib.hid (M1.out.ab hb)
     clear hv hb M1 I1 B1 c0 c1 c2 c3 c4 c5 c6
     obtain⟨c0,c1,c2,c3,c4,c5,c6⟩:=M2.out.cells
     go_wp2_with fail
     refine (HL.out _).mono ?_
     rintro e w3 ⟨rfl,hb⟩
     have I3:=Lib.hid (I2.out.ab hb)
     have J3:=Lib.hid (J2.out.ab hb)
     have B3:=Lib.hid (below_tr B2.out hb B2.out.size)
     clear hb I2 J2 B2 M2 c0 c1 c2 c3 c4 c5 c6
     have G3:Below w.heap.size w w3:=below_tr BW.out B3.out BW.out.size
     have LS:=Lib.hid (logSealM (LL.out w3 G3) H1.out LO.out I3.out J3.out (fun x hx e=>by
      rw[cutO_at (Nat.le_trans BW.out.size (T2.out.lowA x hx))] at e
      cases e) (fun x hx e=>by
      rw[cutO_at (Nat.le_trans BW.out.size (T1.out.lowA x hx))] at e
      cases e) SS.out)
     have BG:=Lib.hid G3
     clear G3 LL HE HK HL
     go_wp2_with fail
     refine LS.out.mono ?_
     rintro e w4 ⟨v4,rfl,⟨x4,O4,rfl,ho4,ht4,hl4,ha4⟩,hf4⟩
     have P4:Hid (MsW w.heap.size O lg (all++[⟨labM m,k,mbytes m,R⟩]) R 0 (.tuple #[x4,.int .i64 ((0:Nat):Int)]) w4):=Lib.hid (MsW.of (ho4.lower BG.out.size) hl4 (fun q hq=>(ha4 q (Nat.lt_of_lt_of_le hq BG.out.size)).trans (cutO_old hq)) HLG.out)
     have F4:Hid (Fr W w4 (fun q=>q<w.heap.size∧O q=(0,2))):=Lib.hid (by
      refine (Fr.of B3.out _).trW (hf4.imp fun q hq=>?_)
      rcases Nat.lt_or_ge q w.heap.size with h | h
      · rw[cutO_old h] at hq
        exact⟨h,hq⟩
      · rw[cutO_at h] at hq
        cases hq)
     clear ho4 ht4 hl4 ha4 hf4 LS
     go_wp2_with fail
     go_ret2
     exact⟨_,rfl,P4.out,F4.out⟩
def metaP (R:RgL) (T:PgP) (D:DvS) (all:List Sl) (m:Mp):Nat×PgP×DvS×List Sl:=
 if T.fa=true then (190,T,D,all) else
 if T.cm=0∨T.fl=false∨m.cm≠T.cm then (2,T,D,all) else
 if (mSealP R m).2≠0 then ((mSealP R m).2,T,D,all) else
 match writeD D (m.cm%2) (mSealP R m).1 with
 | (0,D1)=>((syncD D1).1,{ T with fa:=!decide ((syncD D1).1=0) },(syncD D1).2,all++lgM R m)
 | (e+1,D1)=>(e+1,{ T with fa:=true },D1,all++lgM R m)
def MetR (w:World) (O:Tgm) (p d rg lg:Nat) (q:Nat×PgP×DvS×List Sl) (e:Ending) (w':World):Prop:=∃O',e = .returned (.int .i64 (q.1:Int))∧PgM w' O' p d rg lg q.2.1∧DvM w' O' d q.2.2.1∧LgM w' O' lg q.2.2.2∧Wr (fun τ=>τ=(0,1)∨τ=(0,2)∨τ=(p,1)) w O w' O'
theorem MetR.err {w w':World} {O:Tgm} {p d rg lg:Nat} {T:PgP} {D:DvS} {all:List Sl} (h:PgM w O p d rg lg T) (hD:DvM w O d D) (hL:LgM w O lg all) (hb:Below w.heap.size w w') (e:Nat):MetR w O p d rg lg (e,T,D,all) (.returned (.int .i64 (e:Int))) w':=
 ⟨_,rfl,h.wr (Wr.cut (O:=O) hb (fun _=>False)) (fun _=>id) id,hD.wr (Wr.cut hb (fun _=>False)) id,hL.wr (Wr.cut hb (fun _=>False)) id,Wr.cut hb _⟩
theorem mSealP_len {l:RgL} {m:Mp} {g:Nat} {w:World} {O:Tgm} (hr:RgM w O g l) (h:(mSealP l m).2=0):(mSealP l m).1.length=256:=by
 obtain⟨mm,hrg⟩:=hr.rg
 unfold mSealP at h⊢
 cases hrt:rightB m
 · rw[hrt] at h;cases h
 · rw[hrt] at h
   simp only[cond_true] at h⊢
   cases hk:getR (0,m.gn) l with
   | none=>rw[hk] at h;cases h
   | some k=>
     simp only
     exact (seal_ok9 (hrg.ne _ (getR_mem hk)) (by simp[labM]) (by simp[labM]) (mbytes_len m)).2
set_option maxRecDepth 100000 in
theorem run_fieldL (a b c:Int) (W:World):(Instr.field 89 (.agg #[.int .u32 0,.int .u8 4,.int .u8 0,.int .u32 a,.int .u64 b,.int .u16 c]) 3).run Tryz.prog W = .ok (.agg #[.int .u32 a,.int .u64 b,.int .u16 c]) W:=by kernel_rfl
set_option maxRecDepth 100000 in
theorem run_fieldF (a b c:Int) (W:World):(Instr.field 45 (.agg #[.int .u32 a,.int .u64 b,.int .u16 c]) 0).run Tryz.prog W = .ok (.int .u32 a) W:=by kernel_rfl
section
variable {w:World} {O:Tgm} {p d rg lg:Nat} {T:PgP} {D:DvS} {all:List Sl} {R:RgL} {m:Mp}
set_option maxRecDepth 100000 in
theorem meta_fails (h:PgM w O p d rg lg T) (hD:DvM w O d D) (hL:LgM w O lg all) (hf:T.fa=true):
 Calls Tryz.prog 36 #[.pointer (some ⟨p,0,none⟩),.agg #[.int .u64 (m.cm:Int),.int .u32 (m.pg:Int),.int .u64 (m.rc:Int),.int .u16 (m.rg:Int),.int .u8 (m.lv:Int),.int .u16 (m.gn:Int),.int .u32 (m.tn:Int)]] w (MetR w O p d rg lg (190,T,D,all)):=by
 have H0:=Lib.hid h
 have HD:=Lib.hid hD
 have HL:=Lib.hid hL
 obtain⟨b,hN,hbd,hbr,hbl⟩:=h
 have N0:=Lib.hid fun W (hW:Below w.heap.size w W)=>hN.wr (Wr.cut (O:=O) hW (fun _=>False)) (fun _=>id) id
 have HM:=Lib.hid fun W hW=>may_any (N0.out W hW).box
 have B1:Hid (Below w.heap.size w (w.alloc (.cells #[.int .u64 (m.cm:Int),.int .u32 (m.pg:Int),.int .u64 (m.rc:Int),.int .u16 (m.rg:Int),.int .u8 (m.lv:Int),.int .u16 (m.gn:Int),.int .u32 (m.tn:Int)] 49))):=Lib.hid ((Below.refl _ _).alloc (Nat.le_refl _) _)
 have M1:Hid (CbB (w.alloc (.cells #[.int .u64 (m.cm:Int),.int .u32 (m.pg:Int),.int .u64 (m.rc:Int),.int .u16 (m.rg:Int),.int .u8 (m.lv:Int),.int .u16 (m.gn:Int),.int .u32 (m.tn:Int)] 49)) w.heap.size 49 #[.int .u64 (m.cm:Int),.int .u32 (m.pg:Int),.int .u64 (m.rc:Int),.int .u16 (m.rg:Int),.int .u8 (m.lv:Int),.int .u16 (m.gn:Int),.int .u32 (m.tn:Int)]):=Lib.hid (CbB.new _ _ _)
 rw[show mayP (pcS b T)=190 from by unfold mayP pcS;rw[hf];rfl] at HM
 clear hf hN hD hL
 go_enter Tryz.func36,Tryz.ntmps36
 go_wp2_with fail
 refine (HM.out _ B1.out).mono ?_
 rintro e w1 ⟨rfl,rfl⟩
 go_wp2_with fail
 go_ret
 exact MetR.err H0.out HD.out HL.out B1.out 190
set_option maxRecDepth 100000 in
theorem meta_bad (h:PgM w O p d rg lg T) (hD:DvM w O d D) (hL:LgM w O lg all) (hf:T.fa=false) (hb:T.cm=0∨T.fl=false∨m.cm≠T.cm):
 Calls Tryz.prog 36 #[.pointer (some ⟨p,0,none⟩),.agg #[.int .u64 (m.cm:Int),.int .u32 (m.pg:Int),.int .u64 (m.rc:Int),.int .u16 (m.rg:Int),.int .u8 (m.lv:Int),.int .u16 (m.gn:Int),.int .u32 (m.tn:Int)]] w (MetR w O p d rg lg (2,T,D,all)):=by
 have H0:=Lib.hid h
 have HD:=Lib.hid hD
 have HL:=Lib.hid hL
 obtain⟨b,hN,hbd,hbr,hbl⟩:=h
 have N0:=Lib.hid fun W (hW:Below w.heap.size w W)=>hN.wr (Wr.cut (O:=O) hW (fun _=>False)) (fun _=>id) id
 have HM:=Lib.hid fun W hW=>may_any (N0.out W hW).box
 have B1:Hid (Below w.heap.size w (w.alloc (.cells #[.int .u64 (m.cm:Int),.int .u32 (m.pg:Int),.int .u64 (m.rc:Int),.int .u16 (m.rg:Int),.int .u8 (m.lv:Int),.int .u16 (m.gn:Int),.int .u32 (m.tn:Int)] 49))):=Lib.hid ((Below.refl _ _).alloc (Nat.le_refl _) _)
 have M1:Hid (CbB (w.alloc (.cells #[.int .u64 (m.cm:Int),.int .u32 (m.pg:Int),.int .u64 (m.rc:Int),.int .u16 (m.rg:Int),.int .u8 (m.lv:Int),.int .u16 (m.gn:Int),.int .u32 (m.tn:Int)] 49)) w.heap.size 49 #[.int .u64 (m.cm:Int),.int .u32 (m.pg:Int),.int .u64 (m.rc:Int),.int .u16 (m.rg:Int),.int .u8 (m.lv:Int),.int .u16 (m.gn:Int),.int .u32 (m.tn:Int)]):=Lib.hid (CbB.new _ _ _)
 rw[show mayP (pcS b T)=0 from by unfold mayP pcS;rw[hf];rfl] at HM
 have c9:(w.alloc (.cells #[.int .u64 (m.cm:Int),.int .u32 (m.pg:Int),.int .u64 (m.rc:Int),.int .u16 (m.rg:Int),.int .u8 (m.lv:Int),.int .u16 (m.gn:Int),.int .u32 (m.tn:Int)] 49)).cell? ⟨p,9,none⟩=some (.int .u64 (T.cm:Int)):=CbB.cell (N0.out _ B1.out).box (k:=9) rfl
 have c11:(w.alloc (.cells #[.int .u64 (m.cm:Int),.int .u32 (m.pg:Int),.int .u64 (m.rc:Int),.int .u16 (m.rg:Int),.int .u8 (m.lv:Int),.int .u16 (m.gn:Int),.int .u32 (m.tn:Int)] 49)).cell? ⟨p,11,none⟩=some (.bool T.fl):=CbB.cell (N0.out _ B1.out).box (k:=11) rfl
 clear hf hN hD hL
 by_cases h0:T.cm=0
 · rw[h0] at c9
   clear h0 hb
   go_enter Tryz.func36,Tryz.ntmps36
   go_wp2_with fail
   refine (HM.out _ B1.out).mono ?_
   rintro e w1 ⟨rfl,rfl⟩
   go_wp2_with fail
   go_quiet (fail)
   go_wp2_with fail
   go_ret
   exact MetR.err H0.out HD.out HL.out (bel_drewN9 B1.out _) 2
 · have e0:((T.cm:Int)==0)=false:=by simp;omega
   have e02:¬(T.cm:Int)=0:=by omega
   have e03:(T.cm==0)=false:=by simp;omega
   cases hfl:T.fl with
   | false=>
     rw[hfl] at c11
     clear h0 hb hfl
     go_enter Tryz.func36,Tryz.ntmps36
     go_wp2_with fail
     refine (HM.out _ B1.out).mono ?_
     rintro e w1 ⟨rfl,rfl⟩
     go_wp2_with fail
     go_quiet (fail)
     go_wp2_with fail
     go_ret
     exact MetR.err H0.out HD.out HL.out (bel_drewN9 B1.out _) 2
   | true=>
     have hne:m.cm≠T.cm:=by
      rcases hb with hb | hb | hb
      · exact absurd hb h0
      · rw[hfl] at hb;cases hb
      · exact hb
     rw[hfl] at c11
     have e1:((m.cm:Int) != (T.cm:Int))=true:=by simp;omega
     have e12:¬(m.cm:Int)=(T.cm:Int):=by omega
     have e13:(m.cm != T.cm)=true:=by simp;omega
     clear h0 hb hfl hne
     go_enter Tryz.func36,Tryz.ntmps36
     go_wp2_with fail
     refine (HM.out _ B1.out).mono ?_
     rintro e w1 ⟨rfl,rfl⟩
     go_wp2_with fail
     go_quiet (fail)
     go_wp2_with fail
     go_ret
     exact MetR.err H0.out HD.out HL.out (bel_drewN9 B1.out _) 2
set_option maxRecDepth 100000 in
theorem meta_go (h:PgM w O p d rg lg T) (hD:DvM w O d D) (hL:LgM w O lg all) (hR:RgM w O rg R) (okD:D.Ok) (hst:D.st≤900000000) (hws:D.ws.length≤90000) (h1000:all.length≤100000) (hm:m.Ok) (hf:T.fa=false) (ho:T.cm≠0∧T.fl=true∧m.cm=T.cm):
 Calls Tryz.prog 36 #[.pointer (some ⟨p,0,none⟩),.agg #[.int .u64 (m.cm:Int),.int .u32 (m.pg:Int),.int .u64 (m.rc:Int),.int .u16 (m.rg:Int),.int .u8 (m.lv:Int),.int .u16 (m.gn:Int),.int .u32 (m.tn:Int)]] w (MetR w O p d rg lg (if (mSealP R m).2≠0 then ((mSealP R m).2,T,D,all) else match writeD D (m.cm%2) (mSealP R m).1 with | (0,D1)=>((syncD D1).1,{ T with fa:=!decide ((syncD D1).1=0) },(syncD D1).2,all++lgM R m) | (e+1,D1)=>(e+1,{ T with fa:=true },D1,all++lgM R m))):=by
 have H0:=Lib.hid h
 have HD:=Lib.hid hD
 have HL:=Lib.hid hL
 obtain⟨b,hN,hbd,hbr,hbl⟩:=h
 have N0:=Lib.hid fun W (hW:Below w.heap.size w W)=>hN.wr (Wr.cut (O:=O) hW (fun _=>False)) (fun _=>id) id
 have HM:=Lib.hid fun W hW=>may_any (N0.out W hW).box
 have B1:Hid (Below w.heap.size w (w.alloc (.cells #[.int .u64 (m.cm:Int),.int .u32 (m.pg:Int),.int .u64 (m.rc:Int),.int .u16 (m.rg:Int),.int .u8 (m.lv:Int),.int .u16 (m.gn:Int),.int .u32 (m.tn:Int)] 49))):=Lib.hid ((Below.refl _ _).alloc (Nat.le_refl _) _)
 have M1:Hid (CbB (w.alloc (.cells #[.int .u64 (m.cm:Int),.int .u32 (m.pg:Int),.int .u64 (m.rc:Int),.int .u16 (m.rg:Int),.int .u8 (m.lv:Int),.int .u16 (m.gn:Int),.int .u32 (m.tn:Int)] 49)) w.heap.size 49 #[.int .u64 (m.cm:Int),.int .u32 (m.pg:Int),.int .u64 (m.rc:Int),.int .u16 (m.rg:Int),.int .u8 (m.lv:Int),.int .u16 (m.gn:Int),.int .u32 (m.tn:Int)]):=Lib.hid (CbB.new _ _ _)
 rw[show mayP (pcS b T)=0 from by unfold mayP pcS;rw[hf];rfl] at HM
 have c9:(w.alloc (.cells #[.int .u64 (m.cm:Int),.int .u32 (m.pg:Int),.int .u64 (m.rc:Int),.int .u16 (m.rg:Int),.int .u8 (m.lv:Int),.int .u16 (m.gn:Int),.int .u32 (m.tn:Int)] 49)).cell? ⟨p,9,none⟩=some (.int .u64 (T.cm:Int)):=CbB.cell (N0.out _ B1.out).box (k:=9) rfl
 have c11:(w.alloc (.cells #[.int .u64 (m.cm:Int),.int .u32 (m.pg:Int),.int .u64 (m.rc:Int),.int .u16 (m.rg:Int),.int .u8 (m.lv:Int),.int .u16 (m.gn:Int),.int .u32 (m.tn:Int)] 49)).cell? ⟨p,11,none⟩=some (.bool T.fl):=CbB.cell (N0.out _ B1.out).box (k:=11) rfl
 have HF:=Lib.hid hf
 have HR:=Lib.hid hR
 obtain⟨q9,hq9⟩:∃q9,(if (mSealP R m).2≠0 then ((mSealP R m).2,T,D,all) else
  match writeD D (m.cm%2) (mSealP R m).1 with
  | (0,D1)=>((syncD D1).1,{ T with fa:=!decide ((syncD D1).1=0) },(syncD D1).2,all++lgM R m)
  | (e+1,D1)=>(e+1,{ T with fa:=true },D1,all++lgM R m))=q9:=⟨_,rfl⟩
 rw[hq9]
 obtain⟨sl,hsl2⟩:∃sl,m.cm%2=sl:=⟨_,rfl⟩
 rw[hsl2] at hq9
 have HQ:=Lib.hid hq9
 have SB:Hid (sl<2):=Lib.hid (by omega)
 have LQ:Hid (∀W,Calls Tryz.prog 73 #[.agg #[.int .u64 (m.cm:Int),.int .u32 (m.pg:Int),.int .u64 (m.rc:Int),.int .u16 (m.rg:Int),.int .u8 (m.lv:Int),.int .u16 (m.gn:Int),.int .u32 (m.tn:Int)]] W fun e w'=>e = .returned (.agg #[.int .u32 0,.int .u8 4,.int .u8 0,.int .u32 (sl:Int),.int .u64 (m.cm:Int),.int .u16 (m.gn:Int)])∧Below W.heap.size W w'):=Lib.hid fun W=>by
  have h:=labelOf_any m W
  rw[lab_cells] at h
  simp only[labM] at h
  rw[hsl2] at h
  exact h
 have e0:((T.cm:Int)==0)=false:=by simp;omega
 have e02:¬(T.cm:Int)=0:=by omega
 have e03:(T.cm==0)=false:=by simp;omega
 rw[ho.2.1] at c11
 have hmc:(m.cm:Int)=(T.cm:Int):=by omega
 rw[←hmc] at c9 e0 e02
 rw[←ho.2.2] at e03
 have e1:((m.cm:Int) != (m.cm:Int))=false:=by simp
 have e13:(m.cm != m.cm)=false:=by simp
 have hsl:(mSealP R m).2=0→(mSealP R m).1.length=256:=mSealP_len hR
 have hMS:=fun W (hW:Below w.heap.size w W)=>metaSealW hR hL hW h1000 hm
 have BD:=Lib.hid (And.intro okD (And.intro hst hws))
 obtain⟨ms,hms⟩:∃ms,mSealP R m=ms:=⟨_,rfl⟩
 rw[hms] at hsl hMS
 obtain⟨blk,er⟩:=ms
 dsimp only at hsl hMS
 have HS:=Lib.hid hms
 have SL:=Lib.hid hsl
 have MQ:Hid (∀W,Below w.heap.size w W→Calls Tryz.prog 72 #[.pointer (some ⟨rg,0,none⟩),.pointer (some ⟨lg,0,none⟩),.agg #[.int .u64 (m.cm:Int),.int .u32 (m.pg:Int),.int .u64 (m.rc:Int),.int .u16 (m.rg:Int),.int .u8 (m.lv:Int),.int .u16 (m.gn:Int),.int .u32 (m.tn:Int)]] W fun e w'=>∃v,e = .returned v∧MsW w.heap.size O lg (all++lgM R m) blk er v w'∧Fr W w' (fun k=>k<w.heap.size∧O k=(0,2))):=Lib.hid hMS
 have hw2:IntKind.i64.wrap (sl:Int)=(sl:Int):=wrap_i64P (by omega) (by have:=SB.out;omega)
 have HBE:=Lib.hid (And.intro hbd (And.intro hbr hbl))
 have HPP:=Lib.hid hN.pos
 have HTB:=Lib.hid (And.intro hN.tb hN.box.lt)
 clear hsl2 hf hN hD hL hR ho hq9 hmc hsl hMS hms okD hst hws h1000 hm hbd hbr hbl
 go_enter Tryz.func36,Tryz.ntmps36
 go_wp2_with fail
 refine (HM.out _ B1.out).mono ?_
 rintro e w1 ⟨rfl,rfl⟩
 go_wp2_with fail
 go_quiet (fail)
 go_upto_region 6 with (fail)
 obtain⟨w1,hw1⟩:∃w1,((w.alloc (.cells #[.int .u64 (m.cm:Int),.int .u32 (m.pg:Int),.int .u64 (m.rc:Int),.int .u16 (m.rg:Int),.int .u8 (m.lv:Int),.int .u16 (m.gn:Int),.int .u32 (m.tn:Int)] 49)).drewN nq)=w1:=⟨_,rfl⟩
 have b1:Below w.heap.size w w1:=by rw[←hw1];exact bel_drewN9 B1.out _
 have m1:CbB w1 w.heap.size 49 #[.int .u64 (m.cm:Int),.int .u32 (m.pg:Int),.int .u64 (m.rc:Int),.int .u16 (m.rg:Int),.int .u8 (m.lv:Int),.int .u16 (m.gn:Int),.int .u32 (m.tn:Int)]:=by rw[←hw1];exact M1.out
 rw[hw1]
 have BB:=Lib.hid b1
 have MM:=Lib.hid m1
 clear hw1 b1 m1 c9 c11 e0 e02 e03 e1 e13 HM B1 M1
 have MS:Hid (∀W,Below w1.heap.size w1 W→Calls Tryz.prog 72 #[.pointer (some ⟨rg,0,none⟩),.pointer (some ⟨lg,0,none⟩),.agg #[.int .u64 (m.cm:Int),.int .u32 (m.pg:Int),.int .u64 (m.rc:Int),.int .u16 (m.rg:Int),.int .u8 (m.lv:Int),.int .u16 (m.gn:Int),.int .u32 (m.tn:Int)]] W fun e w'=>∃v,e = .returned v∧MsW w.heap.size O lg (all++lgM R m) blk er v w'∧Fr W w' (fun k=>k<w.heap.size∧O k=(0,2))):=Lib.hid fun W hW=>MQ.out W (below_tr BB.out hW BB.out.size)
 have CP:Hid (∀W,Fr w1 W (fun q=>q<w.heap.size∧O q=(0,2))→W.cell? ⟨p,1,none⟩=some (.pointer (some ⟨rg,0,none⟩))∧W.cell? ⟨p,2,none⟩=some (.pointer (some ⟨lg,0,none⟩))∧W.cell? ⟨w.heap.size,0,none⟩=some (.int .u64 (m.cm:Int))∧W.cell? ⟨w.heap.size,1,none⟩=some (.int .u32 (m.pg:Int))∧W.cell? ⟨w.heap.size,2,none⟩=some (.int .u64 (m.rc:Int))∧W.cell? ⟨w.heap.size,3,none⟩=some (.int .u16 (m.rg:Int))∧W.cell? ⟨w.heap.size,4,none⟩=some (.int .u8 (m.lv:Int))∧W.cell? ⟨w.heap.size,5,none⟩=some (.int .u16 (m.gn:Int))∧W.cell? ⟨w.heap.size,6,none⟩=some (.int .u32 (m.tn:Int))):=Lib.hid fun W hW=>by
  have q1:=CbB.fr (N0.out w1 BB.out).box hW (fun e=>by rw[HTB.out.1] at e;have:=HPP.out;obtain⟨_,e⟩:=e;injection e with e;omega)
  have q2:=MM.out.fr hW (fun e=>by omega)
  exact⟨by rw[←HBE.out.2.1];exact q1.cell (k:=1) rfl,by rw[←HBE.out.2.2];exact q1.cell (k:=2) rfl,q2.cell (k:=0) rfl,q2.cell (k:=1) rfl,q2.cell (k:=2) rfl,q2.cell (k:=3) rfl,q2.cell (k:=4) rfl,q2.cell (k:=5) rfl,q2.cell (k:=6) rfl⟩
 refine wp_wide5 (fun i q=>i=9∧q<w.heap.size∧O q=(0,2)) [⟨36,IsR (.pointer (some ⟨p,0,none⟩)),[],false⟩,⟨37,IsR (.pointer (some ⟨p,0,none⟩)),[0],false⟩,⟨38,IsR (.pointer (some ⟨p,1,none⟩)),[1],false⟩,⟨39,IsR (.pointer (some ⟨rg,0,none⟩)),[2],false⟩,⟨40,IsR (.pointer (some ⟨p,0,none⟩)),[],false⟩,⟨41,IsR (.pointer (some ⟨p,0,none⟩)),[4],false⟩,⟨42,IsR (.pointer (some ⟨p,2,none⟩)),[5],false⟩,⟨43,IsR (.pointer (some ⟨lg,0,none⟩)),[6],false⟩,⟨44,IsR (.agg #[.int .u64 (m.cm:Int),.int .u32 (m.pg:Int),.int .u64 (m.rc:Int),.int .u16 (m.rg:Int),.int .u8 (m.lv:Int),.int .u16 (m.gn:Int),.int .u32 (m.tn:Int)]),[],false⟩,⟨45,MsW w.heap.size O lg (all++lgM R m) blk er,[3,7,8],false⟩,⟨35,TupB w.heap.size er blk,[9],false⟩,⟨46,OwR w.heap.size blk,[10],false⟩,⟨47,IsR (.int .i64 (er:Int)),[10],false⟩,⟨6,OwR w.heap.size blk,[11],false⟩] (by kernel_rfl) (by kernel_rfl) rfl rfl rfl ⟨?_,?_,?_,?_,?_,?_,?_,?_,?_,?_,?_,?_,?_,?_,trivial⟩ ?_
 · refine⟨rfl,IsR.monoF _ _,fun a W hA hb hd=>Takes.to5 (takes_plain rfl (yields_value _ ?_ rfl)) _⟩
   have h0:a.tmps[0]?.getD undef = .pointer (some ⟨p,0,none⟩):=(eval_get a 0).trans ((hA.eval (by simp)).trans rfl)
   go_simp
 · refine⟨rfl,IsR.monoF _ _,fun a W hA hb hd=>Takes.to5 (takes_plain rfl (yields_value _ ?_ rfl)) _⟩
   have h36:a.tmps[36]?.getD undef = .pointer (some ⟨p,0,none⟩):=(eval_get a 36).trans (hd 0 (by simp) _ rfl)
   go_simp
 · refine⟨rfl,IsR.monoF _ _,fun a W hA hb hd=>Takes.to5 (takes_plain rfl (yields_value _ ?_ rfl)) _⟩
   have h37:a.tmps[37]?.getD undef = .pointer (some ⟨p,0,none⟩):=(eval_get a 37).trans (hd 1 (by simp) _ rfl)
   go_simp
 · refine⟨rfl,IsR.monoF _ _,fun a W hA hb hd=>Takes.to5 (takes_plain rfl (yields_value _ ?_ rfl)) _⟩
   have h38:a.tmps[38]?.getD undef = .pointer (some ⟨p,1,none⟩):=(eval_get a 38).trans (hd 2 (by simp) _ rfl)
   have hc:=(CP.out W (hb.imp fun q ⟨j,_,_,hj⟩=>hj)).1
   go_simp
 · refine⟨rfl,IsR.monoF _ _,fun a W hA hb hd=>Takes.to5 (takes_plain rfl (yields_value _ ?_ rfl)) _⟩
   have h0:a.tmps[0]?.getD undef = .pointer (some ⟨p,0,none⟩):=(eval_get a 0).trans ((hA.eval (by simp)).trans rfl)
   go_simp
 · refine⟨rfl,IsR.monoF _ _,fun a W hA hb hd=>Takes.to5 (takes_plain rfl (yields_value _ ?_ rfl)) _⟩
   have h40:a.tmps[40]?.getD undef = .pointer (some ⟨p,0,none⟩):=(eval_get a 40).trans (hd 4 (by simp) _ rfl)
   go_simp
 · refine⟨rfl,IsR.monoF _ _,fun a W hA hb hd=>Takes.to5 (takes_plain rfl (yields_value _ ?_ rfl)) _⟩
   have h41:a.tmps[41]?.getD undef = .pointer (some ⟨p,0,none⟩):=(eval_get a 41).trans (hd 5 (by simp) _ rfl)
   go_simp
 · refine⟨rfl,IsR.monoF _ _,fun a W hA hb hd=>Takes.to5 (takes_plain rfl (yields_value _ ?_ rfl)) _⟩
   have h42:a.tmps[42]?.getD undef = .pointer (some ⟨p,2,none⟩):=(eval_get a 42).trans (hd 6 (by simp) _ rfl)
   have hc:=(CP.out W (hb.imp fun q ⟨j,_,_,hj⟩=>hj)).2.1
   go_simp
 · refine⟨rfl,IsR.monoF _ _,fun a W hA hb hd=>Takes.to5 (takes_plain rfl (yields_value _ ?_ rfl)) _⟩
   have h3:a.tmps[3]?.getD undef = .pointer (some ⟨w.heap.size,0,none⟩):=(eval_get a 3).trans ((hA.eval (by simp)).trans rfl)
   obtain⟨_,_,hc0,hc1,hc2,hc3,hc4,hc5,hc6⟩:=CP.out W (hb.imp fun q ⟨j,_,_,hj⟩=>hj)
   go_simp
 · refine⟨rfl,fun v W W1 h hf=>MsW.ab h ⟨hf.os,hf.tape,hf.output,hf.size,fun q hq=>hf.block q hq (fun ⟨j,hj,hj2,_⟩=>hj hj2)⟩,fun a W hA hb hd=>takes5_plain rfl ?_⟩
   have h39:a.tmps[39]?.getD undef = .pointer (some ⟨rg,0,none⟩):=(eval_get a 39).trans (hd 3 (by simp) _ rfl)
   have h43:a.tmps[43]?.getD undef = .pointer (some ⟨lg,0,none⟩):=(eval_get a 43).trans (hd 7 (by simp) _ rfl)
   have h44:a.tmps[44]?.getD undef = .agg #[.int .u64 (m.cm:Int),.int .u32 (m.pg:Int),.int .u64 (m.rc:Int),.int .u16 (m.rg:Int),.int .u8 (m.lv:Int),.int .u16 (m.gn:Int),.int .u32 (m.tn:Int)]:=(eval_get a 44).trans (hd 8 (by simp) _ rfl)
   refine .inr ⟨72,#[.pointer (some ⟨rg,0,none⟩),.pointer (some ⟨lg,0,none⟩),.agg #[.int .u64 (m.cm:Int),.int .u32 (m.pg:Int),.int .u64 (m.rc:Int),.int .u16 (m.rg:Int),.int .u8 (m.lv:Int),.int .u16 (m.gn:Int),.int .u32 (m.tn:Int)]],by go_simp,(MS.out W ⟨hb.os,hb.tape,hb.output,hb.size,fun q hq=>hb.block q hq (fun ⟨j,hj,hj2,_⟩=>hj hj2)⟩).mono ?_⟩
   rintro e W1 ⟨v,rfl,hs,hf⟩
   exact⟨v,rfl,hs,hf.imp fun q hq=>⟨rfl,hq⟩⟩
 · refine⟨rfl,fun v W W1 h hf=>by obtain⟨v0,h1,h2⟩:=h;exact⟨v0,h1,h2.fr hf (fun q hq ⟨j,_,_,hj,_⟩=>by have:=own_ge9 h2.own q hq;omega)⟩,fun a W hA hb hd=>takes5_plain rfl ?_⟩
   obtain⟨v0,e0,ho⟩:=(hd 9 (by simp) _ rfl).1
   have h0:a.tmps[45]?.getD undef = .tuple #[v0,.int .i64 (er:Int)]:=(eval_get a 45).trans e0
   refine Yields.to5 (yields_value (.tuple #[v0,.int .i64 (er:Int)]) ?_ ⟨v0,rfl,ho⟩) _
   go_simp
 · refine⟨rfl,fun v W W1 h hf=>OwB.fr h hf (fun q hq ⟨j,_,_,hj,_⟩=>by have:=own_ge9 (OwB.own h) q hq;omega),fun a W hA hb hd=>takes5_plain rfl ?_⟩
   obtain⟨v0,e0,ho⟩:=hd 10 (by simp) _ rfl
   have h0:a.tmps[35]?.getD undef = .tuple #[v0,.int .i64 (er:Int)]:=(eval_get a 35).trans e0
   refine Yields.to5 (yields_value v0 ?_ ho) _
   go_simp
 · refine⟨rfl,IsR.monoF _ _,fun a W hA hb hd=>takes5_plain rfl ?_⟩
   obtain⟨v0,e0,ho⟩:=hd 10 (by simp) _ rfl
   have h0:a.tmps[35]?.getD undef = .tuple #[v0,.int .i64 (er:Int)]:=(eval_get a 35).trans e0
   refine Yields.to5 (yields_value (.int .i64 (er:Int)) ?_ rfl) _
   go_simp
 · refine⟨rfl,fun v W W1 h hf=>OwB.fr h hf (fun q hq ⟨j,_,_,hj,_⟩=>by have:=own_ge9 (OwB.own h) q hq;omega),fun a W hA hb hd=>takes5_plain rfl ?_⟩
   have ho:OwB W w.heap.size (a.eval (.tmp 46)) blk:=hd 11 (by simp) _ rfl
   exact Yields.to5 (yields_value (a.eval (.tmp 46)) (exec_assign (.tmp 46) rfl W) ho) _
 intro vt w3 hR hb
 have SW:Hid (MsW w.heap.size O lg (all++lgM R m) blk er (vt 45) w3):=Lib.hid (hR 9 _ rfl)
 have BV:Hid (OwB w3 w.heap.size (vt 6) blk):=Lib.hid (hR 13 _ rfl)
 have FW:Hid (Fr w1 w3 (fun q=>q<w.heap.size∧O q=(0,2))):=Lib.hid (hb.imp fun q ⟨j,_,hj⟩=>hj)
 have e36:vt 36 = .pointer (some ⟨p,0,none⟩):=hR 0 _ rfl
 have e37:vt 37 = .pointer (some ⟨p,0,none⟩):=hR 1 _ rfl
 have e38:vt 38 = .pointer (some ⟨p,1,none⟩):=hR 2 _ rfl
 have e39:vt 39 = .pointer (some ⟨rg,0,none⟩):=hR 3 _ rfl
 have e40:vt 40 = .pointer (some ⟨p,0,none⟩):=hR 4 _ rfl
 have e41:vt 41 = .pointer (some ⟨p,0,none⟩):=hR 5 _ rfl
 have e42:vt 42 = .pointer (some ⟨p,2,none⟩):=hR 6 _ rfl
 have e43:vt 43 = .pointer (some ⟨lg,0,none⟩):=hR 7 _ rfl
 have e44:vt 44 = .agg #[.int .u64 (m.cm:Int),.int .u32 (m.pg:Int),.int .u64 (m.rc:Int),.int .u16 (m.rg:Int),.int .u8 (m.lv:Int),.int .u16 (m.gn:Int),.int .u32 (m.tn:Int)]:=hR 8 _ rfl
 have e47:vt 47 = .int .i64 (er:Int):=hR 12 _ rfl
 simp only[List.map_cons,List.map_nil,List.foldl_cons,List.foldl_nil,List.length_cons,List.length_nil,List.drop_succ_cons,List.drop_zero,Act.put,List.setIfInBounds_toArray,List.set_cons_zero,List.set_cons_succ,e36,e37,e38,e39,e40,e41,e42,e43,e44,e47]
 generalize vt 45=q45 at *
 generalize vt 35=q35 at *
 generalize vt 46=q46 at *
 clear hR hb e36 e37 e38 e39 e40 e41 e42 e43 e44 e47
 generalize vt 6=q6 at *
 obtain⟨O3,lo3,hO3,bt3⟩:=SW.out.own BV.out
 have s3:Wr (fun τ=>τ=(0,2)) w O w3 O3:=⟨⟨FW.out.os.trans BB.out.os,FW.out.tape.trans BB.out.tape,FW.out.output.trans BB.out.output,Nat.le_trans BB.out.size FW.out.size,fun i hi hn=>(FW.out.block i (Nat.lt_of_lt_of_le hi BB.out.size) (fun e=>hn e.2)).trans (BB.out.block i hi)⟩,hO3⟩
 have S3:=Lib.hid s3
 have LO3:=Lib.hid lo3
 have P3:=Lib.hid (H0.out.wr s3 (fun i e=>by have:=HPP.out;injection e with e;omega) (fun e=>by cases e))
 have D3:=Lib.hid (HD.out.wr s3 (fun e=>by cases e))
 have BT:=Lib.hid bt3
 clear s3 lo3 hO3 bt3
 by_cases h0:er=0
 case neg=>
  have HZ:=Lib.hid h0
  have z1:((er:Int) != 0)=true:=by simp;omega
  have z2:¬(er:Int)=0:=by omega
  clear h0
  go_wp2_with fail
  go_ret
  rw[←HQ.out,HS.out,if_pos HZ.out]
  have hl:=LO3.out
  unfold lgM at hl
  rw[HS.out,if_neg HZ.out,List.append_nil] at hl
  exact⟨O3,rfl,P3.out,D3.out,hl,S3.out.imp fun τ h=>.inr (.inl h)⟩
 subst h0
 have hlen:=SL.out rfl
 obtain⟨bA,bc,hq6,_,_⟩:=BV.out.shape
 subst hq6
 rw[hlen]
 have IB:Hid (IsB w3 bA 256 bc blk):=Lib.hid (by
  have:=BV.out.isB rfl
  rwa [hlen] at this)
 have BX:Hid (∀x,bA=some x→O3 x.block≠(0,1)):=Lib.hid fun x hx e=>by
  subst hx
  rcases BV.out.own.2 with ⟨e1,_⟩ | ⟨g,cap,cur,e1,hge,_⟩
  · cases e1
  · injection e1 with e1 _ _
    injection e1 with e1
    subst e1
    rw[BT.out _ rfl] at e
    cases e
 have LN:=Lib.hid hlen
 have BY:=Lib.hid BV.out.byt
 have CQ:Hid (∀W,Below w3.heap.size w3 W→W.cell? ⟨p,0,none⟩=some (.pointer (some ⟨d,0,none⟩))∧W.cell? ⟨w.heap.size,0,none⟩=some (.int .u64 (m.cm:Int))∧W.cell? ⟨w.heap.size,1,none⟩=some (.int .u32 (m.pg:Int))∧W.cell? ⟨w.heap.size,2,none⟩=some (.int .u64 (m.rc:Int))∧W.cell? ⟨w.heap.size,3,none⟩=some (.int .u16 (m.rg:Int))∧W.cell? ⟨w.heap.size,4,none⟩=some (.int .u8 (m.lv:Int))∧W.cell? ⟨w.heap.size,5,none⟩=some (.int .u16 (m.gn:Int))∧W.cell? ⟨w.heap.size,6,none⟩=some (.int .u32 (m.tn:Int))):=Lib.hid fun W hW=>by
  obtain⟨b3,hN3,e1,e2,e3⟩:=P3.out
  have q1:=CbB.ab hN3.box hW
  have q2:=(MM.out.fr FW.out (fun e=>by omega)).ab hW
  exact⟨by rw[←e1];exact q1.cell (k:=0) rfl,q2.cell (k:=0) rfl,q2.cell (k:=1) rfl,q2.cell (k:=2) rfl,q2.cell (k:=3) rfl,q2.cell (k:=4) rfl,q2.cell (k:=5) rfl,q2.cell (k:=6) rfl⟩
 clear hlen BT CP MS MQ
 go_upto_region 9 with (fail)
 refine wp_wide3 [⟨51,IsR (.pointer (some ⟨p,0,none⟩)),[],false⟩,⟨52,IsR (.pointer (some ⟨p,0,none⟩)),[0],false⟩,⟨53,IsR (.pointer (some ⟨p,0,none⟩)),[1],false⟩,⟨54,IsR (.pointer (some ⟨d,0,none⟩)),[2],false⟩,⟨55,IsR (.agg #[.int .u64 (m.cm:Int),.int .u32 (m.pg:Int),.int .u64 (m.rc:Int),.int .u16 (m.rg:Int),.int .u8 (m.lv:Int),.int .u16 (m.gn:Int),.int .u32 (m.tn:Int)]),[],false⟩,⟨56,IsR (.agg #[.int .u32 0,.int .u8 4,.int .u8 0,.int .u32 (sl:Int),.int .u64 (m.cm:Int),.int .u16 (m.gn:Int)]),[4],false⟩,⟨57,IsR (.agg #[.int .u32 (sl:Int),.int .u64 (m.cm:Int),.int .u16 (m.gn:Int)]),[5],false⟩,⟨58,IsR (.int .u32 (sl:Int)),[6],false⟩,⟨59,IsR (.int .i64 (sl:Int)),[7],false⟩,⟨60,IsR (.slice bA 256 bc),[],false⟩] (by kernel_rfl) (by kernel_rfl) rfl rfl rfl ⟨?_,?_,?_,?_,?_,?_,?_,?_,?_,?_,trivial⟩ ?_
 · refine⟨rfl,IsR.mono _,fun a W hA hb hd=>takes_plain rfl (yields_value _ ?_ rfl)⟩
   have h0:a.tmps[0]?.getD undef = .pointer (some ⟨p,0,none⟩):=(eval_get a 0).trans ((hA.eval (by simp)).trans rfl)
   go_simp
 · refine⟨rfl,IsR.mono _,fun a W hA hb hd=>takes_plain rfl (yields_value _ ?_ rfl)⟩
   have h51:a.tmps[51]?.getD undef = .pointer (some ⟨p,0,none⟩):=(eval_get a 51).trans (hd 0 (by simp) _ rfl)
   go_simp
 · refine⟨rfl,IsR.mono _,fun a W hA hb hd=>takes_plain rfl (yields_value _ ?_ rfl)⟩
   have h52:a.tmps[52]?.getD undef = .pointer (some ⟨p,0,none⟩):=(eval_get a 52).trans (hd 1 (by simp) _ rfl)
   go_simp
 · refine⟨rfl,IsR.mono _,fun a W hA hb hd=>takes_plain rfl (yields_value _ ?_ rfl)⟩
   have h53:a.tmps[53]?.getD undef = .pointer (some ⟨p,0,none⟩):=(eval_get a 53).trans (hd 2 (by simp) _ rfl)
   have hc:=(CQ.out W hb).1
   go_simp
 · refine⟨rfl,IsR.mono _,fun a W hA hb hd=>takes_plain rfl (yields_value _ ?_ rfl)⟩
   have h3:a.tmps[3]?.getD undef = .pointer (some ⟨w.heap.size,0,none⟩):=(eval_get a 3).trans ((hA.eval (by simp)).trans rfl)
   obtain⟨_,hc0,hc1,hc2,hc3,hc4,hc5,hc6⟩:=CQ.out W hb
   go_simp
 · refine⟨rfl,IsR.mono _,fun a W hA hb hd=>takes_plain rfl ?_⟩
   have h55:a.tmps[55]?.getD undef = .agg #[.int .u64 (m.cm:Int),.int .u32 (m.pg:Int),.int .u64 (m.rc:Int),.int .u16 (m.rg:Int),.int .u8 (m.lv:Int),.int .u16 (m.gn:Int),.int .u32 (m.tn:Int)]:=(eval_get a 55).trans (hd 4 (by simp) _ rfl)
   refine yields_call 73 #[.agg #[.int .u64 (m.cm:Int),.int .u32 (m.pg:Int),.int .u64 (m.rc:Int),.int .u16 (m.rg:Int),.int .u8 (m.lv:Int),.int .u16 (m.gn:Int),.int .u32 (m.tn:Int)]] (by go_simp) ((LQ.out W).mono ?_)
   rintro e W1 ⟨rfl,h3⟩
   exact⟨_,rfl,rfl,h3⟩
 · refine⟨rfl,IsR.mono _,fun a W hA hb hd=>takes_plain rfl (yields_value _ ?_ rfl)⟩
   have h56:a.tmps[56]?.getD undef = .agg #[.int .u32 0,.int .u8 4,.int .u8 0,.int .u32 (sl:Int),.int .u64 (m.cm:Int),.int .u16 (m.gn:Int)]:=(eval_get a 56).trans (hd 5 (by simp) _ rfl)
   have hf:=fun W=>run_fieldL (sl:Int) (m.cm:Int) (m.gn:Int) W
   go_simp
 · refine⟨rfl,IsR.mono _,fun a W hA hb hd=>takes_plain rfl (yields_value _ ?_ rfl)⟩
   have h57:a.tmps[57]?.getD undef = .agg #[.int .u32 (sl:Int),.int .u64 (m.cm:Int),.int .u16 (m.gn:Int)]:=(eval_get a 57).trans (hd 6 (by simp) _ rfl)
   have hf:=fun W=>run_fieldF (sl:Int) (m.cm:Int) (m.gn:Int) W
   go_simp
 · refine⟨rfl,IsR.mono _,fun a W hA hb hd=>takes_plain rfl (yields_value _ ?_ rfl)⟩
   have h58:a.tmps[58]?.getD undef = .int .u32 (sl:Int):=(eval_get a 58).trans (hd 7 (by simp) _ rfl)
   have hw:=hw2
   go_simp
 · refine⟨rfl,IsR.mono _,fun a W hA hb hd=>takes_plain rfl (yields_value _ ?_ rfl)⟩
   have h6:a.tmps[6]?.getD undef = .slice bA 256 bc:=(eval_get a 6).trans ((hA.eval (by simp)).trans rfl)
   go_simp
 intro vs w4 hR hF hb
 have B4:=Lib.hid hb
 have e51:vs 51 = .pointer (some ⟨p,0,none⟩):=hR 0 _ rfl
 have e52:vs 52 = .pointer (some ⟨p,0,none⟩):=hR 1 _ rfl
 have e53:vs 53 = .pointer (some ⟨p,0,none⟩):=hR 2 _ rfl
 have e54:vs 54 = .pointer (some ⟨d,0,none⟩):=hR 3 _ rfl
 have e55:vs 55 = .agg #[.int .u64 (m.cm:Int),.int .u32 (m.pg:Int),.int .u64 (m.rc:Int),.int .u16 (m.rg:Int),.int .u8 (m.lv:Int),.int .u16 (m.gn:Int),.int .u32 (m.tn:Int)]:=hR 4 _ rfl
 have e56:vs 56 = .agg #[.int .u32 0,.int .u8 4,.int .u8 0,.int .u32 (sl:Int),.int .u64 (m.cm:Int),.int .u16 (m.gn:Int)]:=hR 5 _ rfl
 have e57:vs 57 = .agg #[.int .u32 (sl:Int),.int .u64 (m.cm:Int),.int .u16 (m.gn:Int)]:=hR 6 _ rfl
 have e58:vs 58 = .int .u32 (sl:Int):=hR 7 _ rfl
 have e59:vs 59 = .int .i64 (sl:Int):=hR 8 _ rfl
 have e60:vs 60 = .slice bA 256 bc:=hR 9 _ rfl
 simp only[List.map_cons,List.map_nil,List.foldl_cons,List.foldl_nil,List.length_cons,List.length_nil,List.drop_succ_cons,List.drop_zero,Act.put,List.setIfInBounds_toArray,List.set_cons_zero,List.set_cons_succ,e51,e52,e53,e54,e55,e56,e57,e58,e59,e60]
 clear hR hF hb e51 e52 e53 e54 e55 e56 e57 e58 e59 e60
 have p4:=P3.out.wr (Wr.of B4.out (fun _=>False) (fun _ _=>rfl)) (fun _=>id) id
 have d4:=D3.out.wr (Wr.of B4.out (fun _=>False) (fun _ _=>rfl)) id
 have l4:=LO3.out.wr (Wr.of B4.out (fun _=>False) (fun _ _=>rfl)) id
 have P4:=Lib.hid p4
 have L4:=Lib.hid l4
 have S4:=Lib.hid (S3.out.tr (Wr.of (O':=O3) B4.out _ (fun _ _=>rfl)))
 have WR:=Lib.hid (writeM d4 BD.out.1 (by have:=BD.out.2.1;omega) (by have:=BD.out.2.2;omega) (i:=sl) (by have:=BD.out.1.n8;have:=SB.out;omega) (IB.out.ab B4.out) BX.out)
 clear p4 d4 l4
 go_wp2_with fail
 refine WR.out.mono ?_
 rintro e w5 ⟨O5,rfl,dv5,s5⟩
 obtain⟨ew,hew⟩:∃ew,(writeD D (sl) blk).1=ew:=⟨_,rfl⟩
 obtain⟨D5,hD5⟩:∃D5,(writeD D (sl) blk).2=D5:=⟨_,rfl⟩
 have we:=writeD_err D (sl) blk
 have wok:=writeD_ok BD.out.1 (i:=sl) (by have:=BD.out.1.n8;have:=SB.out;omega) LN.out BY.out
 have wst:=writeD_st D (sl) blk
 have hwq:writeD D (sl) blk=(ew,D5):=by rw[←hew,←hD5]
 rw[hew] at we⊢
 rw[hD5] at dv5 wok wst
 have P5:=Lib.hid (P4.out.wr s5 (fun i e=>by have:=HPP.out;injection e with e;omega) (fun e=>by cases e))
 have L5:=Lib.hid (L4.out.wr s5 (fun e=>by cases e))
 have V5:=Lib.hid dv5
 have S5:=Lib.hid ((S4.out.imp (Q:=fun τ=>τ=(0,1)∨τ=(0,2)∨τ=(p,1)) fun τ h=>.inr (.inl h)).tr (s5.imp fun τ h=>.inl h))
 have OK5:=Lib.hid (And.intro wok wst)
 have WE:=Lib.hid we
 have WQ:=Lib.hid hwq
 clear dv5 s5 hew hD5 we wok wst hwq WR S4 P4 L4
 by_cases h0:ew=0
 case neg=>
  have HZ:=Lib.hid h0
  have z1:((ew:Int) != 0)=true:=by simp;omega
  have z2:¬(ew:Int)=0:=by omega
  clear h0
  go_wp2_with fail
  refine (failM P5.out HF.out ew WE.out).mono ?_
  rintro e w' ⟨rfl,hp,hw⟩
  have PG:=Lib.hid hp
  have PW:=Lib.hid hw
  clear hp hw
  go_wp2_with fail
  go_ret
  have hpos:=HPP.out
  obtain⟨em,hem⟩:∃em,ew=em+1:=⟨ew-1,by have:=HZ.out;omega⟩
  rw[←HQ.out,HS.out,if_neg (by simp)]
  dsimp only
  rw[WQ.out]
  have hpg:=PG.out
  rw[decide_eq_false HZ.out] at hpg
  subst hem
  exact⟨O5,rfl,hpg,V5.out.wr PW.out (fun e=>by injection e with e;omega),L5.out.wr PW.out (fun e=>by injection e with e;omega),S5.out.tr (PW.out.imp fun τ h=>.inr (.inr h))⟩
 subst h0
 have c0:w5.cell? ⟨p,0,none⟩=some (.pointer (some ⟨d,0,none⟩)):=by
  obtain⟨b5,hN5,e1,e2,e3⟩:=P5.out
  rw[←e1]
  exact CbB.cell hN5.box (k:=0) rfl
 have SY:=Lib.hid (syncM V5.out OK5.out.1 (by have:=OK5.out.2.1;have:=BD.out.2.1;omega))
 have SE:=Lib.hid (syncD_err D5)
 go_wp2_with fail
 refine SY.out.mono ?_
 rintro e w6 ⟨O6,rfl,dv6,s6⟩
 have P6:=Lib.hid (P5.out.wr s6 (fun i e=>by have:=HPP.out;injection e with e;omega) (fun e=>by cases e))
 have L6:=Lib.hid (L5.out.wr s6 (fun e=>by cases e))
 have V6:=Lib.hid dv6
 have S6:=Lib.hid (S5.out.tr (s6.imp fun τ h=>.inl h))
 clear dv6 s6 SY c0
 go_wp2_with fail
 refine (failM P6.out HF.out (syncD D5).1 SE.out).mono ?_
 rintro e w' ⟨rfl,hp,hw⟩
 have PG:=Lib.hid hp
 have PW:=Lib.hid hw
 clear hp hw
 go_wp2_with fail
 go_ret
 have hpos:=HPP.out
 rw[←HQ.out,HS.out,if_neg (by simp)]
 dsimp only
 rw[WQ.out]
 exact⟨O6,rfl,PG.out,V6.out.wr PW.out (fun e=>by injection e with e;omega),L6.out.wr PW.out (fun e=>by injection e with e;omega),S6.out.tr (PW.out.imp fun τ h=>.inr (.inr h))⟩
theorem meta_any (h:PgM w O p d rg lg T) (hD:DvM w O d D) (hL:LgM w O lg all) (hR:RgM w O rg R) (okD:D.Ok) (hst:D.st≤900000000) (hws:D.ws.length≤90000) (h1000:all.length≤100000) (hm:m.Ok):
 Calls Tryz.prog 36 #[.pointer (some ⟨p,0,none⟩),.agg #[.int .u64 (m.cm:Int),.int .u32 (m.pg:Int),.int .u64 (m.rc:Int),.int .u16 (m.rg:Int),.int .u8 (m.lv:Int),.int .u16 (m.gn:Int),.int .u32 (m.tn:Int)]] w (MetR w O p d rg lg (metaP R T D all m)):=by
 unfold metaP
 by_cases h1:T.fa=true
 · rw[if_pos h1];exact meta_fails h hD hL h1
 rw[if_neg h1]
 have h1':T.fa=false:=by simpa using h1
 by_cases h2:T.cm=0∨T.fl=false∨m.cm≠T.cm
 · rw[if_pos h2];exact meta_bad h hD hL h1' h2
 · rw[if_neg h2]
   refine meta_go h hD hL hR okD hst hws h1000 hm h1' ⟨fun e=>h2 (.inl e),?_,?_⟩
   · cases hfl:T.fl with
     | true=>rfl
     | false=>exact absurd (.inr (.inl hfl)) h2
   · exact Classical.byContradiction fun e=>h2 (.inr (.inr e))
end
end Go.Proofs.YtnboclhgeehdoaaGreat
