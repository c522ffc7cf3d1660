/-
  Parts of the proof, joined.
-/
import Derived.Test.YtlbjdbaeffacgaaGreatBdj
import Derived.Test.YtlbjdbaeffacgaaGreatBdi
import Derived.Deep.Slices
namespace Go.Proofs.YtlbjdbaeffacgaaGreat
set_option maxHeartbeats 8000000
open Go.RowKit Go.ChangeShapes Go.WideShapes
set_option linter.unusedVariables false
structure Rf where
 pg:Nat
 cm:Nat
 gn:Nat
 deriving DecidableEq
structure Rf.Ok (r:Rf):Prop where
 pg:r.pg<4294967296
 cm:r.cm<18446744073709551616
 gn:r.gn<65536
def rfV (r:Rf):Array Value:=#[.int .u32 (r.pg:Int),.int .u64 (r.cm:Int),.int .u16 (r.gn:Int)]
structure RfB (w:World) (A:Option Addr) (n c:Nat) (l:List Rf):Prop where
 len:l.length=n
 cap:n≤c
 max:c≤maxLen
 cel:∀(i:Nat) (r:Rf),l[i]? = some r→∃x,A=some x∧x.block<w.heap.size∧(∀(j:Nat) (u:Value),(rfV r)[j]? = some u→w.cell? (x.add (i*3+j))=some u)
 ok:∀r∈l,r.Ok
section
variable {w w':World} {A:Option Addr} {n c:Nat} {l:List Rf}
theorem RfB.ab (h:RfB w A n c l) (hb:Below w.heap.size w w'):RfB w' A n c l:=
 ⟨h.len,h.cap,h.max,fun i r hr=>by
  obtain⟨x,h1,h2,h3⟩:=h.cel i r hr
  exact⟨x,h1,Nat.lt_of_lt_of_le h2 hb.size,fun j u hu=>by rw[←h3 j u hu];exact World.cell?_of_block (hb.block _ (by rw[add_block];exact h2))⟩,h.ok⟩
theorem RfB.at (h:RfB w A n c l) {i:Nat} {r:Rf} (hr:l[i]? = some r):∃x,A=some x∧x.block<w.heap.size∧∀W,Below w.heap.size w W→W.cell? (x.add (i*3))=some (.int .u32 (r.pg:Int))∧W.cell? ⟨(x.add (i*3)).block,(x.add (i*3)).off+1,none⟩=some (.int .u64 (r.cm:Int))∧W.cell? ⟨(x.add (i*3)).block,(x.add (i*3)).off+2,none⟩=some (.int .u16 (r.gn:Int)):=by
 obtain⟨x,h1,h2,_⟩:=h.cel i r hr
 refine⟨x,h1,h2,fun W hW=>?_⟩
 obtain⟨x',h1',_,h3⟩:=(h.ab hW).cel i r hr
 rw[h1] at h1'
 injection h1' with h1'
 subst h1'
 refine⟨h3 0 _ rfl,?_,?_⟩
 · have:=h3 1 _ rfl
   rw[←Go.Deep.add_add] at this
   exact this
 · have:=h3 2 _ rfl
   rw[←Go.Deep.add_add] at this
   exact this
end
def u32V (n:Nat):Value:=.int .u32 (n:Int)
def u32Ok (n:Nat):Prop:=n<4294967296
theorem u32_wf {n:Nat} (h:u32Ok n):(Lit.int .u32 (n:Int)).wf=true:=by
 unfold u32Ok at h
 have e3:IntKind.u32.min=0:=rfl
 have e4:IntKind.u32.max=4294967295:=rfl
 simp only[Lit.wf,Bool.and_eq_true,decide_eq_true_eq]
 omega
theorem u32_K:KeyK Tryz.prog 40 u32V u32Ok where
 keyed:=Maps.int_keyed Tryz.underlying40
 of:=fun h=>⟨_,Maps.keyOf_int_mk Tryz.underlying40 (u32_wf h)⟩
 inj:=fun {x y} h=>by
  unfold u32V at h
  injection h with _ h
  omega
theorem zero_bo' (w:World):(zeroValue 4).run Tryz.prog w = .ok (.bool false) w:=by kernel_rfl
theorem look_putC {κ:Type} [DecidableEq κ] (l:List (κ×Value)) (x y:κ) (v:Value) (hx:lookL x l=none):lookL y (putL x v l)=if x=y then some v else lookL y l:=by
 unfold putL
 rw[hx]
 simp only[Option.isSome_none,Bool.false_eq_true,if_false]
 unfold lookL at hx⊢
 rw[List.find?_append]
 by_cases e:x=y
 · subst e
   rw[Option.map_eq_none_iff] at hx
   rw[hx]
   simp
 · rw[if_neg e]
   cases l.find? (fun p=>decide (p.1=y)) <;> simp[e]
def FreeR (z:Int) (ps:List Nat) (w:World) (e:Ending) (w':World):Prop:=∃v,e = .returned (.tuple #[v,.int .i64 ((freeP z ps).2:Int)])∧RuB w' w.heap.size v (freeP z ps).1∧Below w.heap.size w w'
theorem dropP_len (l:RnL) (p:Nat):(dropP l p).length≤l.length+2:=by
 have h1:=mkR_le (l.getD (placeR l p) (0,0)).1 p
 have h2:=mkR_le (p+1) (l.getD (placeR l p) (0,0)).2
 have h3:=placeR_le l p
 unfold dropP
 rw[List.length_append,List.length_append,List.length_append,List.length_take,List.length_drop]
 omega
theorem foldD_len:∀(ps:List Nat) (l:RnL),(foldD l ps).length≤l.length+2*ps.length
 | [],l=>Nat.le_refl _
 | p::r,l=>by
   have h1:=foldD_len r (dropP l p)
   have h2:=dropP_len l p
   rw[foldD,List.length_cons]
   omega
theorem row_notMapR {w:World} {κ:Type} {kv:κ→Value} {ok:κ→Prop} {B m n sz:Nat} {e:TypeId} {v:Value} {xs:List Value} {vs:List (κ×Value)} (h:w.ownsRow B e sz v n xs) (hm:MapB kv ok w m vs):v.ownBlock≠some m:=by
 obtain⟨es,c,h1,_⟩:=hm
 intro q
 rcases h.2 with ⟨rfl,_⟩ | ⟨g,cap,cur,rfl,_,hh,_⟩
 · cases q
 · have:g=m:=by injection q
   subst this
   rw[h1] at hh
   cases hh
set_option maxRecDepth 100000 in
theorem rvFree_any (z:Int) (A:Option Addr) (n c:Nat) (l:List Rf) (w:World) (h:RfB w A n c l) (hn:n≤9000):
 Calls Tryz.prog 27 #[.int .i64 z,.slice A n c] w (FreeR z (l.map (·.pg)) w):=by
 have HR:=Lib.hid h
 have hnb:(n:Int)≤9000:=by omega
 have HN:=Lib.hid hn
 by_cases hz:z<8∨4096<z
 · have hp:freeP z (l.map (·.pg))=([],2):=by unfold freeP;rw[if_pos hz]
   unfold FreeR
   rw[hp]
   rcases hz with hz | hz
   · have hd:decide (z<8)=true:=decide_eq_true hz
     clear h hn hp
     go_enter Tryz.func27,Tryz.ntmps27
     go_wp2_with fail
     go_ret2
     exact⟨_,rfl,RuB.nil _ _,Below.refl _ _⟩
   · have hd:decide (4096<z)=true:=decide_eq_true hz
     have hd2:¬z<8:=by omega
     clear h hn hp
     go_enter Tryz.func27,Tryz.ntmps27
     go_wp2_with fail
     go_ret2
     exact⟨_,rfl,RuB.nil _ _,Below.refl _ _⟩
 obtain⟨b,rfl⟩:∃b:Nat,z=(b:Int):=⟨z.toNat,by omega⟩
 have hb8:¬(b:Int)<8:=by omega
 have hb4:¬(4096:Int)<(b:Int):=by omega
 have HZ:Hid (8≤b∧b≤4096):=Lib.hid (by omega)
 have HF:Hid (freeP (b:Int) (l.map (·.pg))=if (l.map (·.pg)).any (fun p=>decide (p<2)||decide (b≤p))=true then ([],2) else if (l.map (·.pg)).Nodup then (leftO b (l.map (·.pg)),0) else ([],8)):=Lib.hid (by unfold freeP;rw[if_neg hz];rfl)
 clear h hn hz
 go_enter Tryz.func27,Tryz.ntmps27
 go_wp2_with fail
 go_loopw [21] (fun z wx=>∃i:Nat,i≤n∧z = .int .i64 (i:Int)∧(∀p∈(l.map (·.pg)).take i,2≤p∧p<b)∧Below w.heap.size w wx) (fun z _=>n-(intOf z).toNat)
 case atStart=>exact⟨0,Nat.zero_le _,rfl,fun p hp=>by simp at hp,Below.refl _ _⟩
 case round=>
  obtain⟨i,hi,rfl,hal,hb⟩:=hrel
  have HB:=Lib.hid hb
  have HA:=Lib.hid hal
  clear hb hal
  by_cases hlt:i<n
  · obtain ⟨r,hr⟩:∃r,l[i]? = some r:=⟨_,List.getElem?_eq_getElem (by rw[HR.out.len];exact hlt)⟩
    obtain⟨x,rfl,hxl,hcel⟩:=HR.out.at hr
    have hlti:(i:Int)<(n:Int):=by omega
    have HLT:=Lib.hid hlt
    have hro:=HR.out.ok r (List.mem_of_getElem? hr)
    have hpg:=hro.pg
    have HTK:Hid ((l.map (·.pg)).take (i+1)=(l.map (·.pg)).take i++[r.pg]):=Lib.hid (by rw[List.take_add_one,List.getElem?_map,hr];rfl)
    have HMEM:Hid (r.pg∈l.map (·.pg)):=Lib.hid (List.mem_map.2 ⟨r,List.mem_of_getElem? hr,rfl⟩)
    have BA:Hid (Below w.heap.size w (wr.alloc (.cells #[.int .u32 (r.pg:Int),.int .u64 (r.cm:Int),.int .u16 (r.gn:Int)] 52))):=Lib.hid (HB.out.alloc HB.out.size _)
    have hwp:IntKind.i64.wrap (r.pg:Int)=(r.pg:Int):=by rw[IntWalk.i64_in _ (by omega)]
    have r0:wr.cell? (x.add (i*3))=some (.int .u32 (r.pg:Int)):=(hcel _ HB.out).1
    have r1:wr.cell? ⟨(x.add (i*3)).block,(x.add (i*3)).off+1,none⟩=some (.int .u64 (r.cm:Int)):=(hcel _ HB.out).2.1
    have r2:wr.cell? ⟨(x.add (i*3)).block,(x.add (i*3)).off+2,none⟩=some (.int .u16 (r.gn:Int)):=(hcel _ HB.out).2.2
    clear hlt hi hr hxl hcel hro hpg
    by_cases h1:r.pg<2
    · have d1:decide ((r.pg:Int)<2)=true:=decide_eq_true (by omega)
      have hs:Hid (freeP (b:Int) (l.map (·.pg))=([],2)):=Lib.hid (by rw[HF.out,if_pos (List.any_eq_true.2 ⟨r.pg,HMEM.out,by simp[h1]⟩)])
      have d2:(r.pg:Int)<2:=by omega
      clear h1
      go_wp2_with fail
      go_ret2
      unfold FreeR
      rw[hs.out]
      exact⟨_,rfl,RuB.nil _ _,BA.out⟩
    · have d1:¬(r.pg:Int)<2:=by omega
      by_cases h2:b≤r.pg
      · have d2:(b:Int)≤(r.pg:Int):=by omega
        have d3:decide (b≤r.pg)=true:=decide_eq_true h2
        have hs:Hid (freeP (b:Int) (l.map (·.pg))=([],2)):=Lib.hid (by rw[HF.out,if_pos (List.any_eq_true.2 ⟨r.pg,HMEM.out,by simp[h2]⟩)])
        clear h1 h2
        go_wp2_with fail
        go_ret2
        unfold FreeR
        rw[hs.out]
        exact⟨_,rfl,RuB.nil _ _,BA.out⟩
      · have d2:¬(b:Int)≤(r.pg:Int):=by omega
        have d3:decide (b≤r.pg)=false:=decide_eq_false h2
        have hs:Hid (∀p∈(l.map (·.pg)).take (i+1),2≤p∧p<b):=Lib.hid fun p hp=>by
         rw[HTK.out] at hp
         rcases List.mem_append.1 hp with hp | hp
         · exact HA.out p hp
         · rw[List.mem_singleton] at hp
           subst hp
           omega
        clear h1 h2
        go_wp2_with fail
        go_roundw
        case rel=>exact⟨i+1,HLT.out,by go_num,hs.out,BA.out⟩
        case measure=>simp[intOf];have:=HLT.out;omega
  · obtain rfl : i = n :=by omega
    have HG:Hid (∀p∈l.map (·.pg),2≤p∧p<b):=Lib.hid (by
     have:=HA.out
     rwa [List.take_of_length_le (by rw[List.length_map,HR.out.len];exact Nat.le_refl _)] at this)
    have HF2:Hid (freeP (b:Int) (l.map (·.pg))=if (l.map (·.pg)).Nodup then (leftO b (l.map (·.pg)),0) else ([],8)):=Lib.hid (by
     rw[HF.out,if_neg]
     rw[Bool.not_eq_true,List.any_eq_false]
     intro p hp
     have:=HG.out p hp
     simp
     omega)
    have hmm:∀W:World,(Instr.makeMap 98 none).run Tryz.prog W = .ok (.map (some W.heap.size)) (W.alloc (.map #[] 0)):=fun _=>rfl
    have hcv:IntKind.u32.wrap (b:Int)=(b:Int):=wrap_u32 _ (by omega) (by omega)
    have M1:Hid (MapB u32V u32Ok (wr.alloc (.map #[] 0)) wr.heap.size []):=Lib.hid (MapB.new _ _ _)
    have B1:=Lib.hid (HB.out.alloc HB.out.size (.map #[] 0))
    have HMS:Hid (w.heap.size≤wr.heap.size):=Lib.hid HB.out.size
    clear hlt hi HA HB
    obtain⟨w1,hw1⟩:∃w1,wr.alloc (.map #[] 0)=w1:=⟨_,rfl⟩
    have HW:=Lib.hid hw1
    clear hw1
    go_wp2_with fail
    rw[HW.out] at M1 B1⊢
    clear HW
    generalize wr.heap.size=ms at *
    refine (make_any 2 b w1).mono ?_
    rintro e w2 ⟨v2,rfl,hv2,hb2⟩
    have M2:=Lib.hid (M1.out.ab hb2)
    have B2:=Lib.hid (below_tr B1.out hb2 B1.out.size)
    have V2:=Lib.hid (hv2.lower B1.out.size)
    clear hb2 hv2 M1 B1 hmm hcv
    go_wp2_with fail
    go_loopw [42,9] (fun z v wx=>∃(j:Nat) (m:List (Nat×Value)),j≤i∧z = .int .i64 (j:Int)∧((l.map (·.pg)).take j).Nodup∧MapB u32V u32Ok wx ms m∧(∀x,lookL x m=if x∈(l.map (·.pg)).take j then some (.bool true) else none)∧RuB wx w.heap.size v (foldD (mkR 2 b) ((l.map (·.pg)).take j))∧Below w.heap.size w wx) (fun z _ _=>i-(intOf z).toNat)
    case atStart=>exact⟨0,[],Nat.zero_le _,rfl,List.nodup_nil,M2.out,fun x=>by simp;rfl,V2.out,B2.out⟩
    case round=>
     obtain⟨j,m,hj,rfl,hnd,hm,hlk,hv,hb⟩:=hrel
     have HB:=Lib.hid hb
     have HV:=Lib.hid hv
     have HM:=Lib.hid hm
     have HK:=Lib.hid hlk
     have HD:=Lib.hid hnd
     clear hb hv hm hlk hnd
     by_cases hlt:j<i
     · obtain ⟨r, hr⟩ : ∃r,l[j]? = some r:=⟨_,List.getElem?_eq_getElem (by rw[HR.out.len];exact hlt)⟩
       obtain⟨x,rfl,hxl,hcel⟩:=HR.out.at hr
       have hlti:(j:Int)<(i:Int):=by omega
       have HLT:=Lib.hid hlt
       have hro:=HR.out.ok r (List.mem_of_getElem? hr)
       have POK:Hid (u32Ok r.pg):=Lib.hid hro.pg
       have HTK:Hid ((l.map (·.pg)).take (j+1)=(l.map (·.pg)).take j++[r.pg]):=Lib.hid (by rw[List.take_add_one,List.getElem?_map,hr];rfl)
       have PG:Hid (2≤r.pg∧r.pg<b):=Lib.hid (HG.out _ (List.mem_map.2 ⟨r,List.mem_of_getElem? hr,rfl⟩))
       have A3:Hid (Below wr.heap.size wr (wr.alloc (.cells #[.int .u32 (r.pg:Int),.int .u64 (r.cm:Int),.int .u16 (r.gn:Int)] 52))):=Lib.hid ((Below.refl _ _).alloc (Nat.le_refl _) _)
       have B3:=Lib.hid (below_tr HB.out A3.out HB.out.size)
       have M3:=Lib.hid (HM.out.ab A3.out)
       have V3:=Lib.hid (HV.out.ab A3.out)
       have X3:Hid (CbB (wr.alloc (.cells #[.int .u32 (r.pg:Int),.int .u64 (r.cm:Int),.int .u16 (r.gn:Int)] 52)) wr.heap.size 52 #[.int .u32 (r.pg:Int),.int .u64 (r.cm:Int),.int .u16 (r.gn:Int)]):=Lib.hid (CbB.new _ _ _)
       have MN:Hid (wr.heap.size≠ms):=Lib.hid (by have:=HM.out.lt;omega)
       have r0:wr.cell? (x.add (j*3))=some (.int .u32 (r.pg:Int)):=(hcel _ HB.out).1
       have r1:wr.cell? ⟨(x.add (j*3)).block,(x.add (j*3)).off+1,none⟩=some (.int .u64 (r.cm:Int)):=(hcel _ HB.out).2.1
       have r2:wr.cell? ⟨(x.add (j*3)).block,(x.add (j*3)).off+2,none⟩=some (.int .u16 (r.gn:Int)):=(hcel _ HB.out).2.2
       by_cases hin:r.pg∈(l.map (·.pg)).take j
       · have hl:(Instr.lookup 98 (.map (some ms)) (.int .u32 (r.pg:Int)) false).run Tryz.prog (wr.alloc (.cells #[.int .u32 (r.pg:Int),.int .u64 (r.cm:Int),.int .u16 (r.gn:Int)] 52)) = .ok (.bool true) (wr.alloc (.cells #[.int .u32 (r.pg:Int),.int .u64 (r.cm:Int),.int .u16 (r.gn:Int)] 52)):=M3.out.look_some (x:=r.pg) u32_K Tryz.underlying98 POK.out (by rw[HK.out,if_pos hin]) false
         have hs:Hid (freeP (b:Int) (l.map (·.pg))=([],8)):=Lib.hid (by
          rw[HF2.out,if_neg]
          intro hn
          have h2:=(List.take_append_drop (j+1) (l.map (·.pg))).symm
          rw[h2,List.nodup_append] at hn
          have h3:=hn.1
          rw[HTK.out,List.nodup_append] at h3
          exact h3.2.2 _ hin _ (List.mem_singleton.2 rfl) rfl)
         clear hin hlt hj hr hxl hcel hro
         go_wp2_with fail
         go_ret2
         unfold FreeR
         rw[hs.out]
         exact⟨_,rfl,RuB.nil _ _,B3.out⟩
       · have hl:(Instr.lookup 98 (.map (some ms)) (.int .u32 (r.pg:Int)) false).run Tryz.prog (wr.alloc (.cells #[.int .u32 (r.pg:Int),.int .u64 (r.cm:Int),.int .u16 (r.gn:Int)] 52)) = .ok (.bool false) (wr.alloc (.cells #[.int .u32 (r.pg:Int),.int .u64 (r.cm:Int),.int .u16 (r.gn:Int)] 52)):=M3.out.look_none (x:=r.pg) u32_K Tryz.underlying98 POK.out (by rw[HK.out,if_neg hin]) (zero_bo' _) false
         have hND:((l.map (·.pg)).take (j+1)).Nodup:=by
          rw[HTK.out,List.nodup_append]
          exact⟨HD.out,by simp,fun a ha c hc e=>hin (by rw[List.mem_singleton] at hc;rw[←hc,←e];exact ha)⟩
         have HD2:=Lib.hid hND
         have HK2:Hid (∀y,lookL y (putL r.pg (.bool true) m)=if y∈(l.map (·.pg)).take (j+1) then some (.bool true) else none):=Lib.hid fun y=>by
          rw[look_putC m r.pg y (.bool true) (by rw[HK.out,if_neg hin]),HK.out,HTK.out]
          by_cases e:r.pg=y
          · rw[if_pos e,if_pos (by rw[e];simp)]
          · rw[if_neg e]
            have:(y∈(l.map (·.pg)).take j++[r.pg])↔y∈(l.map (·.pg)).take j:=by
             rw[List.mem_append,List.mem_singleton]
             exact⟨fun h=>h.elim id (fun h=>absurd h.symm e),Or.inl⟩
            by_cases h:y∈(l.map (·.pg)).take j
            · rw[if_pos h,if_pos (this.2 h)]
            · rw[if_neg h,if_neg (fun q=>h (this.1 q))]
         have hfold:=foldD_law ((l.map (·.pg)).take j) (mkR 2 b) (Rgt.mk _ _) HD.out (fun p hp=>by
          rw[pagesR_mk,List.mem_range'_1]
          have:=HG.out p (List.mem_of_mem_take hp)
          omega)
         have hpin:r.pg∈pagesR (foldD (mkR 2 b) ((l.map (·.pg)).take j)):=by
          rw[hfold.2,List.mem_filter,pagesR_mk,List.mem_range'_1]
          exact⟨by have:=PG.out;omega,decide_eq_true hin⟩
         have HRI:=Lib.hid hfold.1.right
         have HHS:=Lib.hid (hfold.1.drop hpin).1
         have HBD:Hid (∀q∈foldD (mkR 2 b) ((l.map (·.pg)).take j),q.2<4294967296):=Lib.hid fun q hq=>by
          have h1:=hfold.1.2 q hq
          have h2:q.2-1∈pagesR (foldD (mkR 2 b) ((l.map (·.pg)).take j)):=mem_pagesR.2 ⟨q,hq,by omega,by omega⟩
          rw[hfold.2,List.mem_filter,pagesR_mk,List.mem_range'_1] at h2
          have:=HZ.out
          omega
         have HLB:Hid ((foldD (mkR 2 b) ((l.map (·.pg)).take j)).length≤100000):=Lib.hid (by
          have h1:=foldD_len ((l.map (·.pg)).take j) (mkR 2 b)
          have h2:=mkR_le 2 b
          have h3:=HN.out
          rw[List.length_take,List.length_map] at h1
          omega)
         have HFS:Hid (foldD (mkR 2 b) ((l.map (·.pg)).take (j+1))=dropP (foldD (mkR 2 b) ((l.map (·.pg)).take j)) r.pg):=Lib.hid (by rw[HTK.out,foldD_snoc])
         clear hin hlt hj hr hxl hcel hro hND hfold hpin
         go_wp2_with (refine wpList_mapPut rfl (.tmp 50) (.tmp 52) (.const (.bool true)) rfl u32_K Tryz.underlying98 rfl M3.out r.pg POK.out rfl (.bool true) rfl ?_
                      intro w4 m4 g4 s4 b4
                      have M4:=Lib.hid m4
                      have X4:=Lib.hid (X3.out.grown g4 MN.out)
                      have B4:=Lib.hid (b4 _ _ B3.out HMS.out)
                      have V4:Hid (RuB w4 w.heap.size u9 (foldD (mkR 2 b) ((l.map (·.pg)).take j))):=Lib.hid (World.ownsRow.kept V3.out g4 (.inr (row_notMapR V3.out M3.out)))
                      have x0:=X4.out.cell (k:=0) rfl
                      clear m4 g4 s4 b4)
         obtain⟨A4,c4,rfl,hr4,_⟩:=V4.out.rn
         refine (drop_ok A4 _ c4 r.pg _ w4 hr4 HRI.out HHS.out HBD.out HLB.out).mono ?_
         rintro e w5 ⟨v5,rfl,hv5,hb5⟩
         have V5:Hid (RuB w5 w.heap.size v5 (foldD (mkR 2 b) ((l.map (·.pg)).take (j+1)))):=Lib.hid (by rw[HFS.out];exact hv5.lower B4.out.size)
         have M5:=Lib.hid (M4.out.ab hb5)
         have B5:=Lib.hid (below_tr B4.out hb5 B4.out.size)
         clear hv5 hb5 hr4 V4 M4 X4 x0 B4
         go_wp2_with fail
         go_roundw
         case rel=>exact⟨j+1,_,HLT.out,by go_num,HD2.out,M5.out,HK2.out,V5.out,B5.out⟩
         case measure=>simp[intOf];have:=HLT.out;omega
     · obtain rfl:j=i:=by omega
       have htk:(l.map (·.pg)).take j=l.map (·.pg):=List.take_of_length_le (by rw[List.length_map,HR.out.len];exact Nat.le_refl _)
       rw[htk] at HD HV
       have hs:Hid (freeP (b:Int) (l.map (·.pg))=(leftO b (l.map (·.pg)),0)):=Lib.hid (by rw[HF2.out,if_pos HD.out])
       have hfl:foldD (mkR 2 b) (l.map (·.pg))=leftO b (l.map (·.pg)):=free_law (by have:=HZ.out;omega) HD.out HG.out
       rw[hfl] at HV
       clear htk hfl hlt hj
       go_wp2_with fail
       go_ret2
       unfold FreeR
       rw[hs.out]
       exact⟨_,rfl,HV.out,HB.out⟩
open Go.RowKit
set_option maxRecDepth 100000 in
theorem eq_rn (a b:Nat×Nat) (W:World):(Op.equalIn 10000 42 (.agg #[.int .u32 (a.1:Int),.int .u32 (a.2:Int)]) (.agg #[.int .u32 (b.1:Int),.int .u32 (b.2:Int)])).run Tryz.prog W = .ok (decide (a=b)) W:=by
 obtain⟨a1,a2⟩:=a
 obtain⟨b1,b2⟩:=b
 have hd:decide ((a1,a2)=(b1,b2))=(decide (a1=b1)&&decide (a2=b2)):=by
  rw[←Bool.decide_and,decide_eq_decide]
  simp
 rw[hd]
 go_simp
 by_cases h1:a1=b1
 · by_cases h2:a2=b2
   · simp[h1,h2]
   · simp[h1,h2]
     omega
 · simp[h1]
   omega
set_option maxRecDepth 100000 in
theorem sameR_any (A B:Option Addr) (n m c d:Nat) (l k:RnL) (w:World) (ha:RnB w A n c l) (hb:RnB w B m d k):
 Calls Tryz.prog 28 #[.slice A n c,.slice B m d] w fun e w'=>e = .returned (.bool (decide (l=k)))∧Below w.heap.size w w':=by
 have hn:(n:Int)≤9223372036854775807:=by have:=ha.cap;have:=ha.max;unfold maxLen at this;omega
 have HA:=Lib.hid ha
 have HB:=Lib.hid hb
 by_cases hnm:n=m
 · subst hnm
   have hne:((n:Int) != (n:Int))=false:=by simp
   clear ha hb
   go_enter Tryz.func28,Tryz.ntmps28
   go_wp2_with fail
   go_loopw [5] (fun z wx=>∃i:Nat,i≤n∧z = .int .i64 (i:Int)∧l.take i=k.take i∧Below w.heap.size w wx) (fun z _=>n-(intOf z).toNat)
   case atStart=>exact⟨0,Nat.zero_le _,rfl,by simp,Below.refl _ _⟩
   case round=>
    obtain⟨i,hi,rfl,hal,hb⟩:=hrel
    have HX:=Lib.hid hb
    have HT:=Lib.hid hal
    clear hb hal
    by_cases hlt:i<n
    · obtain⟨r,hr⟩:∃r,l[i]? = some r:=⟨_,List.getElem?_eq_getElem (by rw[HA.out.len];exact hlt)⟩
      obtain⟨q,hq⟩:∃q,k[i]? = some q:=⟨_,List.getElem?_eq_getElem (by rw[HB.out.len];exact hlt)⟩
      obtain⟨x,rfl,_,hcel⟩:=HA.out.at hr
      obtain⟨y,rfl,_,hcel2⟩:=HB.out.at hq
      have hlti:(i:Int)<(n:Int):=by omega
      have HLT:=Lib.hid hlt
      obtain⟨r0,r1⟩:=hcel _ HX.out
      obtain⟨q0,q1⟩:=hcel2 _ HX.out
      have HTK:Hid (r=q→l.take (i+1)=k.take (i+1)):=Lib.hid fun e=>by rw[List.take_add_one,List.take_add_one,HT.out,hr,hq,e]
      have HNE:Hid (r≠q→l≠k):=Lib.hid fun e h=>e (by rw[h,hq] at hr;injection hr with hr;exact hr.symm)
      have heq:=fun W=>eq_rn r q W
      clear hlt hi hr hq hcel hcel2
      by_cases hrq:r=q
      · have hs:=Lib.hid (HTK.out hrq)
        rw[decide_eq_true hrq] at heq
        clear hrq
        go_wp2_with fail
        go_quiet (fail)
        go_wp2_with fail
        go_roundw
        case rel=>exact⟨i+1,HLT.out,by go_num,hs.out,below_dn HX.out _⟩
        case measure=>simp[intOf];have:=HLT.out;omega
      · have hs:=Lib.hid (HNE.out hrq)
        rw[decide_eq_false hrq] at heq
        clear hrq
        go_wp2_with fail
        go_quiet (fail)
        go_wp2_with fail
        go_ret
        exact⟨by rw[decide_eq_false hs.out];rfl,below_dn HX.out _⟩
    · obtain rfl:i=n:=by omega
      have hs:Hid (l=k):=Lib.hid (by
       have:=HT.out
       rwa [List.take_of_length_le (by rw[HA.out.len];exact Nat.le_refl _),List.take_of_length_le (by rw[HB.out.len];exact Nat.le_refl _)] at this)
      clear hlt hi
      go_wp2_with fail
      go_ret
      exact⟨by rw[decide_eq_true hs.out];rfl,HX.out⟩
 · have hne:((n:Int) != (m:Int))=true:=by rw[bne_iff_ne];omega
   have hs:Hid (l≠k):=Lib.hid fun e=>hnm (by rw[←ha.len,←hb.len,e])
   clear ha hb hnm
   go_enter Tryz.func28,Tryz.ntmps28
   go_wp2_with fail
   go_ret
   exact⟨by rw[decide_eq_false hs.out];rfl,Below.refl _ _⟩
theorem infoDb:(Tryz.prog.info? 122).map (fun i=>(i.zero,i.size,i.bytes))=some (some (.agg (bts (zeros 256))),256,256):=by kernel_rfl
theorem made_z (n m:Nat) (hm:0<m):madeCells (bts (zeros m)) n=bts (zeros n):=by
 apply Array.ext
 · simp[madeCells,bts,zeros]
 · intro i h1 h2
   have:i%m<m:=Nat.mod_lt _ hm
   simp[madeCells,bts,zeros,this]
theorem make_db (n:Nat) (hc:n≤5000) (W:World):
 (Instr.makeSlice 88 (.int .i64 (n:Int)) (.int .i64 (n:Int))).run Tryz.prog W = .ok (.slice (some ⟨W.heap.size,0,none⟩) n n) (W.alloc (.cells (bts (zeros (n*256))) 122)):=by
 obtain⟨i0,hi0,h0,h1,h2⟩:=info_parts infoDb
 have:=run_make (P:=Tryz.prog) W 88 122 i0 _ Tryz.underlying88 hi0 h0 .i64 .i64 n n (by omega) (by omega) (by rw[h2];omega) (by omega)
 rw[this,h1]
 simp only[Int.toNat_natCast,Value.cells]
 rw[made_z _ 256 (by decide)]
def DzB (w:World) (g n:Nat):Prop:=Bk w g 122 (zeros (n*256))
def DzR (S n:Nat) (v:Value) (W:World):Prop:=∃g,v = .slice (some ⟨g,0,none⟩) n n∧DzB W g n∧S≤g
theorem DzR.mono (S n:Nat):Mono (DzR S n):=fun v W W' ⟨g,h1,h2,h3⟩ hb=>⟨g,h1,h2.below hb h2.lt,h3⟩
structure DkN (w:World) (B d b:Nat) (g1 g2:Nat):Prop where
 box:CbB w d 91 #[.slice (some ⟨g1,0,none⟩) b b,.slice (some ⟨g2,0,none⟩) b b,.slice none 0 0,.int .u64 0,.int .i64 0,.int .i64 (-1),.bool false]
 now:DzB w g1 b
 firm:DzB w g2 b
 low:B≤d∧B≤g1∧B≤g2
 ne:g1≠g2
set_option maxRecDepth 100000 in
theorem diskNew_any (b:Nat) (w:World) (hb8:8≤b) (hb4:b≤4096):
 Calls Tryz.prog 6 #[.int .i64 (b:Int)] w fun e w'=>∃d g1 g2,e = .returned (.tuple #[.pointer (some ⟨d,0,none⟩),.int .i64 0])∧DkN w' w.heap.size d b g1 g2∧Below w.heap.size w w':=by
 have h1:¬(b:Int)<8:=by omega
 have h2:¬(4096:Int)<(b:Int):=by omega
 have HB:Hid (b≤5000):=Lib.hid (by omega)
 clear hb8 hb4
 go_enter Tryz.func6,Tryz.ntmps6
 go_wp2_with fail
 refine wp_wide3 [⟨10,IsR (.int .i64 (b:Int)),[],false⟩,⟨11,DzR w.heap.size b,[0],true⟩,⟨12,IsR (.int .i64 (b:Int)),[],false⟩,⟨13,DzR w.heap.size b,[2],true⟩] (by kernel_rfl) (by kernel_rfl) rfl rfl rfl ⟨?_,?_,?_,?_,trivial⟩ ?_
 · refine⟨rfl,IsR.mono _,fun a W hA hb hd=>takes_plain rfl (yields_value _ ?_ rfl)⟩
   have h0:a.tmps[0]?.getD undef = .int .i64 (b:Int):=(eval_get a 0).trans ((hA.eval (by simp)).trans rfl)
   go_simp
 · refine⟨rfl,DzR.mono _ _,fun a W hA hb hd=>takes_plain rfl ?_⟩
   refine .inl ⟨.slice (some ⟨W.heap.size,0,none⟩) b b,W.alloc (.cells (bts (zeros (b*256))) 122),?_,⟨_,rfl,Bk.new _ _ _,hb.size⟩,(Below.refl _ _).alloc (Nat.le_refl _) _,fun _=>⟨W.heap.size,rfl,Nat.le_refl _,by simp⟩⟩
   have hx:a.eval (.tmp 10) = .int .i64 (b:Int):=hd 0 (by simp) _ rfl
   have hmk:=make_db b HB.out W
   unfold execOp
   simp only[hx,hmk,Sem.run_bind,Result.andThen_ok,Sem.run_pure]
 · refine⟨rfl,IsR.mono _,fun a W hA hb hd=>takes_plain rfl (yields_value _ ?_ rfl)⟩
   have h0:a.tmps[0]?.getD undef = .int .i64 (b:Int):=(eval_get a 0).trans ((hA.eval (by simp)).trans rfl)
   go_simp
 · refine⟨rfl,DzR.mono _ _,fun a W hA hb hd=>takes_plain rfl ?_⟩
   refine .inl ⟨.slice (some ⟨W.heap.size,0,none⟩) b b,W.alloc (.cells (bts (zeros (b*256))) 122),?_,⟨_,rfl,Bk.new _ _ _,hb.size⟩,(Below.refl _ _).alloc (Nat.le_refl _) _,fun _=>⟨W.heap.size,rfl,Nat.le_refl _,by simp⟩⟩
   have hx:a.eval (.tmp 12) = .int .i64 (b:Int):=hd 2 (by simp) _ rfl
   have hmk:=make_db b HB.out W
   unfold execOp
   simp only[hx,hmk,Sem.run_bind,Result.andThen_ok,Sem.run_pure]
 intro vs w4 hR hF hb
 obtain⟨g1,hg1,hz1,hl1⟩:DzR w.heap.size b (vs 11) w4:=hR 1 _ rfl
 obtain⟨g2,hg2,hz2,hl2⟩:DzR w.heap.size b (vs 13) w4:=hR 3 _ rfl
 have HNE:Hid (g1≠g2):=Lib.hid fun e=>hF 1 3 _ _ rfl rfl (by decide) rfl rfl (by show blk (vs 11)=blk (vs 13);rw[hg1,hg2,e])
 have e10:vs 10 = .int .i64 (b:Int):=hR 0 _ rfl
 have e12:vs 12 = .int .i64 (b:Int):=hR 2 _ rfl
 simp only[List.map_cons,List.map_nil,List.foldl_cons,List.foldl_nil,List.length_cons,List.length_nil,List.drop_succ_cons,List.drop_zero,Act.put,List.setIfInBounds_toArray,List.set_cons_zero,List.set_cons_succ,e10,e12,hg1,hg2]
 have Z1:=Lib.hid hz1
 have Z2:=Lib.hid hz2
 have L1:=Lib.hid hl1
 have L2:=Lib.hid hl2
 have B4:=Lib.hid hb
 clear hR hF hb hz1 hz2 hl1 hl2 hg1 hg2 e10 e12
 go_wp2_with fail
 go_ret2
 have ha:Below w4.heap.size w4 (w4.alloc (.cells #[.slice (some ⟨g1,0,none⟩) b b,.slice (some ⟨g2,0,none⟩) b b,.slice none 0 0,.int .u64 0,.int .i64 0,.int .i64 (-1),.bool false] 91)):=(Below.refl _ _).alloc (Nat.le_refl _) _
 exact⟨w4.heap.size,g1,g2,rfl,⟨CbB.new _ _ _,Z1.out.below ha Z1.out.lt,Z2.out.below ha Z2.out.lt,⟨B4.out.size,L1.out,L2.out⟩,HNE.out⟩,below_tr B4.out ha B4.out.size⟩
set_option maxRecDepth 100000 in
theorem regsNew_nil (d lim:Nat) (w:World):
 Calls Tryz.prog 7 #[.pointer (some ⟨d,0,none⟩),.int .u64 (lim:Int),.slice none 0 0] w fun e w'=>e = .returned (.tuple #[.pointer (some ⟨w.heap.size,0,none⟩),.int .i64 0])∧CbB w' w.heap.size 93 #[.pointer (some ⟨d,0,none⟩),.int .u64 (lim:Int),.int .u64 0,.int .u64 0,.slice none 0 0]∧Below w.heap.size w w':=by
 go_enter Tryz.func7,Tryz.ntmps7
 go_wp2_with fail
 go_loopw [19] (fun z wx=>z = .int .i64 0∧CbB wx w.heap.size 93 #[.pointer (some ⟨d,0,none⟩),.int .u64 (lim:Int),.int .u64 0,.int .u64 0,.slice none 0 0]∧Below w.heap.size w wx) (fun z _=>0)
 case atStart=>exact⟨rfl,CbB.new _ _ _,(Below.refl _ _).alloc (Nat.le_refl _) _⟩
 case round=>
  obtain⟨rfl,hc,hb⟩:=hrel
  have HC:=Lib.hid hc
  have HB:=Lib.hid hb
  clear hc hb
  go_wp2_with fail
  go_ret2
  exact⟨rfl,HC.out,HB.out⟩
set_option maxRecDepth 100000 in
theorem committed_any (r:Nat) (v0 v4:Value) (lim res com:Nat) (w:World) (h:CbB w r 93 #[v0,.int .u64 (lim:Int),.int .u64 (res:Int),.int .u64 (com:Int),v4]):
 Calls Tryz.prog 24 #[.pointer (some ⟨r,0,none⟩)] w fun e w'=>e = .returned (.int .u64 (com:Int))∧w=w':=by
 have hc:=h.cell (k:=3) rfl
 clear h
 go_enter Tryz.func24,Tryz.ntmps24
 go_wp2_with fail
 go_ret
 exact⟨rfl,rfl⟩
set_option maxRecDepth 100000 in
theorem open0_any (d r g:Nat) (v0 v4:Value) (lim res:Nat) (w:World) (h:CbB w r 93 #[v0,.int .u64 (lim:Int),.int .u64 (res:Int),.int .u64 0,v4]):
 Calls Tryz.prog 15 #[.pointer (some ⟨d,0,none⟩),.pointer (some ⟨r,0,none⟩),.pointer (some ⟨g,0,none⟩)] w fun e w'=>e = .returned (.tuple #[.agg #[.int .u64 0,.int .u32 0,.int .u64 0,.int .u16 0,.int .u8 0,.int .u16 0,.int .u32 0],.int .i64 0])∧Below w.heap.size w w':=by
 have ha:Below w.heap.size w (w.alloc (.cells #[.int .u64 0,.int .u32 0,.int .u64 0,.int .u16 0,.int .u8 0,.int .u16 0,.int .u32 0] 56)):=(Below.refl _ _).alloc (Nat.le_refl _) _
 have HC:=Lib.hid (committed_any r v0 v4 lim res 0 _ (h.ab ha))
 clear h ha
 go_enter Tryz.func15,Tryz.ntmps15
 go_wp2_with fail
 refine HC.out.mono ?_
 rintro e w1 ⟨rfl,rfl⟩
 clear HC
 go_wp2_with fail
 (try simp only[Exit.inBlock,Exit.then])
 refine bodyPost_ret (v:=.tuple #[.agg #[.int .u64 0,.int .u32 0,.int .u64 0,.int .u16 0,.int .u8 0,.int .u16 0,.int .u32 0],.int .i64 0]) ?_ rfl ?_
 · rw[results_cell_tmp rfl]
   go_simp
 exact⟨rfl,(Below.refl _ _).alloc (Nat.le_refl _) _⟩
theorem two_refs (W:World):RfB (W.alloc (.cells #[.int .u32 3,.int .u64 0,.int .u16 0,.int .u32 5,.int .u64 0,.int .u16 0] 52)) (some ⟨W.heap.size,0,none⟩) 2 2 [⟨3,0,0⟩,⟨5,0,0⟩]:=by
 have hc:CbB (W.alloc (.cells #[.int .u32 3,.int .u64 0,.int .u16 0,.int .u32 5,.int .u64 0,.int .u16 0] 52)) W.heap.size 52 #[.int .u32 3,.int .u64 0,.int .u16 0,.int .u32 5,.int .u64 0,.int .u16 0]:=CbB.new _ _ _
 refine⟨rfl,Nat.le_refl _,by decide,fun i r hr=>⟨_,rfl,hc.lt,fun j u hu=>?_⟩,fun r hr=>?_⟩
 · have hi:i<2:=(List.getElem?_eq_some_iff.1 hr).1
   have hj:j<3:=(Array.getElem?_eq_some_iff.1 hu).1
   rw[Addr.add_mid,Nat.zero_add]
   have:i=0∨i=1:=by omega
   have h3:j=0∨j=1∨j=2:=by omega
   rcases this with rfl | rfl <;> (simp at hr;subst hr;rcases h3 with rfl | rfl | rfl <;> (simp[rfV] at hu;subst hu;exact hc.cell rfl))
 · simp at hr
   rcases hr with rfl | rfl <;> exact⟨by decide,by decide,by decide⟩
theorem three_runs (W:World):RnB (W.alloc (.cells #[.int .u32 2,.int .u32 3,.int .u32 4,.int .u32 5,.int .u32 6,.int .u32 8] 42)) (some ⟨W.heap.size,0,none⟩) 3 3 [(2,3),(4,5),(6,8)]:=by
 have h:RuB (W.alloc (.cells #[.int .u32 2,.int .u32 3,.int .u32 4,.int .u32 5,.int .u32 6,.int .u32 8] 42)) W.heap.size (.slice (some ⟨W.heap.size,0,none⟩) 3 3) [(2,3),(4,5),(6,8)]:=
  ⟨by simp[runVs],.inr ⟨W.heap.size,3,#[.int .u32 2,.int .u32 3,.int .u32 4,.int .u32 5,.int .u32 6,.int .u32 8],rfl,Nat.le_refl _,heap_alloc_new W _,Nat.le_refl _,by decide,rfl,rfl⟩⟩
 obtain⟨A,c,h1,h2,_⟩:=h.rn
 injection h1 with h1 h3 h4
 subst h1 h4
 exact h2
theorem free8:freeP 8 [3,5]=([(2,3),(4,5),(6,8)],0):=by decide
set_option maxRecDepth 100000 in
theorem known21_any (w:World):Calls Tryz.prog 5 #[] w fun e w'=>e = .returned (.bool true)∧Below w.heap.size w w':=by
 go_enter Tryz.func5,Tryz.ntmps5
 go_wp2_with fail
 refine (diskNew_any 8 w (by decide) (by decide)).mono ?_
 rintro e w1 ⟨d,g1,g2,rfl,_,hb⟩
 have B1:=Lib.hid hb
 clear hb
 go_wp2_with fail
 refine (regsNew_nil d 1 w1).mono ?_
 rintro e w2 ⟨rfl,hc,hb⟩
 have C2:=Lib.hid hc
 have B2:=Lib.hid (below_tr B1.out hb B1.out.size)
 clear hb hc B1
 generalize w1.heap.size=r at C2⊢
 go_wp2_with fail
 refine (newRing_any w2).mono ?_
 rintro e w3 ⟨g,m,rfl,_,_,hb⟩
 have C3:=Lib.hid (C2.out.ab hb)
 have B3:=Lib.hid (below_tr B2.out hb B2.out.size)
 clear hb C2 B2
 go_wp2_with fail
 refine (open0_any d r g _ _ 1 0 w3 C3.out).mono ?_
 rintro e w4 ⟨rfl,hb⟩
 have B4:=Lib.hid (below_tr B3.out hb B3.out.size)
 have A5:=Lib.hid (B4.out.alloc B4.out.size (.cells #[.int .u64 0,.int .u32 0,.int .u64 0,.int .u16 0,.int .u8 0,.int .u16 0,.int .u32 0] 56))
 have C5:Hid (CbB (w4.alloc (.cells #[.int .u64 0,.int .u32 0,.int .u64 0,.int .u16 0,.int .u8 0,.int .u16 0,.int .u32 0] 56)) w4.heap.size 56 #[.int .u64 0,.int .u32 0,.int .u64 0,.int .u16 0,.int .u8 0,.int .u16 0,.int .u32 0]):=Lib.hid (CbB.new _ _ _)
 clear hb C3 B3 B4
 go_upto_region 4 with (fail)
 obtain⟨w5,hw5⟩:∃w5,w4.alloc (.cells #[.int .u64 0,.int .u32 0,.int .u64 0,.int .u16 0,.int .u8 0,.int .u16 0,.int .u32 0] 56)=w5:=⟨_,rfl⟩
 rw[hw5] at A5 C5⊢
 generalize w4.heap.size=bx at *
 clear hw5 w4
 have F5:=Lib.hid (rvFree_any 8 (some ⟨w5.heap.size,0,none⟩) 2 2 [⟨3,0,0⟩,⟨5,0,0⟩] _ (two_refs w5) (by decide))
 have D5:Hid (Below w5.heap.size w5 (w5.alloc (.cells #[.int .u32 3,.int .u64 0,.int .u16 0,.int .u32 5,.int .u64 0,.int .u16 0] 52))):=Lib.hid ((Below.refl _ _).alloc (Nat.le_refl _) _)
 go_wp2_with fail
 refine F5.out.mono ?_
 rintro e w6 hfr
 unfold FreeR at hfr
 simp only[List.map_cons,List.map_nil] at hfr
 rw[free8] at hfr
 obtain⟨v,rfl,hv,hb⟩:=hfr
 obtain⟨A6,c6,rfl,hr6,_⟩:=hv.rn
 have D6:=Lib.hid (below_tr D5.out hb D5.out.size)
 have C6:=Lib.hid (C5.out.ab D6.out)
 have B6:=Lib.hid (below_tr A5.out D6.out A5.out.size)
 have A7:Hid (Below w6.heap.size w6 (w6.alloc (.cells #[.int .u32 2,.int .u32 3,.int .u32 4,.int .u32 5,.int .u32 6,.int .u32 8] 42))):=Lib.hid ((Below.refl _ _).alloc (Nat.le_refl _) _)
 have S7:=Lib.hid (sameR_any A6 (some ⟨w6.heap.size,0,none⟩) 3 3 c6 3 _ _ _ (hr6.ab A7.out) (three_runs w6))
 have x0:=C6.out.cell (k:=0) rfl
 have x1:=C6.out.cell (k:=1) rfl
 have x2:=C6.out.cell (k:=2) rfl
 have x3:=C6.out.cell (k:=3) rfl
 have x4:=C6.out.cell (k:=4) rfl
 have x5:=C6.out.cell (k:=5) rfl
 have x6:=C6.out.cell (k:=6) rfl
 clear hv hb hr6 F5 D5 A5 C5
 go_wp2_with fail
 refine S7.out.mono ?_
 rintro e w8 ⟨rfl,hb⟩
 have B8:=Lib.hid (below_tr B6.out (below_tr A7.out hb A7.out.size) B6.out.size)
 clear hb S7
 go_wp2_with fail
 go_ret
 exact⟨rfl,B8.out⟩
def blkL (L:List Nat) (i:Nat):List Nat:=(L.drop (i*256)).take 256
def putD (L b:List Nat) (i:Nat):List Nat:=L.take (i*256)++(b++L.drop (i*256+b.length))
theorem putD_len {L b:List Nat} {i:Nat} (hL:L.length=2048) (hi:i<8) (hb:b.length≤256):(putD L b i).length=2048:=by
 simp only[putD,List.length_append,List.length_take,List.length_drop]
 omega
theorem putD_byt {L b:List Nat} {i:Nat} (hL:Byt L) (hb:Byt b):Byt (putD L b i):=by
 intro x hx
 simp only[putD,List.mem_append] at hx
 rcases hx with hx | hx | hx
 · exact hL x (List.mem_of_mem_take hx)
 · exact hb x hx
 · exact hL x (List.mem_of_mem_drop hx)
theorem blkL_byt {L:List Nat} {i:Nat} (hL:Byt L):Byt (blkL L i):=fun x hx=>hL x (List.mem_of_mem_drop (List.mem_of_mem_take hx))
section
variable {P:Program}
theorem run_loadSub (w:World) (x:Addr) (ty:TypeId) (cs:Array Value) (d:TypeDesc) (hc:∀j v,cs[j]? = some v→w.cell? (x.add j)=some v)
 (hu:P.underlying ty=some d) (hd:(match d with | .struct _ | .array _ _=>true | _=>false)=true) (hi:(P.info? ty).map (·.size)=some cs.size):
 (loadVar ty x).run P w = .ok (.agg cs) w:=by
 have hl:(loadCells x cs.toList.length).run P w = .ok cs.toList.toArray w:=
  run_loadCells_list (P:=P) w x cs.toList (fun j v hv=>hc j v (by simpa using hv))
 cases hq:P.info? ty with
 | none=>simp[hq] at hi
 | some i=>
   have hs:i.size=cs.size:=by simpa[hq] using hi
   have hagg:(isAgg ty).run P w = .ok true w:=by
    unfold isAgg
    rw[Sem.run_bind,run_underlying hu w]
    cases d <;> simp_all
   simp only[Array.length_toList,Array.toArray_toList] at hl
   simp[loadVar,Sem.run_bind,hagg,sizeOf,typeInfo,hq,hs,hl]
theorem wpList_loadSub {ops:Array Oper} {rest:List Oper} {o:Oper} {a:Act} {w:World} {Q:Exit→Act→World→Prop} (hgd:o.guard=none) (ty:TypeId) (x:Operand) (ho:o.op = .load ty x)
 (y:Addr) (hx:a.eval x = .pointer (some y)) (cs:Array Value) (d:TypeDesc) (hc:∀j v,cs[j]? = some v→w.cell? (y.add j)=some v)
 (hu:P.underlying ty=some d) (hd:(match d with | .struct _ | .array _ _=>true | _=>false)=true) (hi:(P.info? ty).map (·.size)=some cs.size)
 (h:wpList P ops Q rest (a.put o.dst (.agg cs)) w):wpList P ops Q (o::rest) a w:=by
 refine wpList_plain hgd fun _ hK=>?_
 unfold Oper.wp execOp
 simp only[ho,hx,Instr.loadAt,Instr.sureAddr,Sem.run_bind,Sem.run_pure,Result.andThen_ok,run_loadSub w y ty cs d hc hu hd hi]
 exact hK _ _ h
end
theorem Bk.sub {w:World} {g:Nat} {T:TypeId} {L:List Nat} (h:Bk w g T L) (i:Nat):∀(j:Nat) (v:Value),(bts (blkL L i))[j]? = some v→w.cell? ((⟨g,i*256,none⟩:Addr).add j)=some v:=fun j v hv=>by
 have hj:j<(blkL L i).length:=by rw[←bts_size];exact (Array.getElem?_eq_some_iff.1 hv).1
 rw[bts_get _ _ hj] at hv
 have h1:i*256+j<L.length:=by
  simp only[blkL,List.length_take,List.length_drop] at hj
  omega
 have h2:(blkL L i)[j]? = L[i*256+j]?:=by
  have h3:j<256:=by simp only[blkL,List.length_take] at hj;omega
  simp only[blkL,List.getElem?_take,List.getElem?_drop,if_pos h3]
 rw[Addr.add_mid,h.cell h1,←h2]
 exact hv
def RsB (w:World) (r d lim:Nat) (res:Int) (com:Nat):Prop:=CbB w r 93 #[.pointer (some ⟨d,0,none⟩),.int .u64 (lim:Int),.int .u64 res,.int .u64 (com:Int),.slice none 0 0]
set_option linter.unusedSimpArgs false
end Go.Proofs.YtlbjdbaeffacgaaGreat
