/-
  Parts of the proof, joined.
-/
import Derived.Test.YtlobgddnlnffbaaGreatBds
import Derived.Test.YtlobgddnlnffbaaGreatBdk
import Derived.Deep.QuietTactic
import Derived.BigQuiet
import Derived.Test.YtlobgddnlnffbaaGreatBdq
import Derived.Test.YtlobgddnlnffbaaGreatBdi
namespace Go.Proofs.YtlobgddnlnffbaaGreat
set_option maxHeartbeats 8000000
open Go.RowKit
set_option linter.unusedVariables false
set_option linter.unusedSimpArgs false
def hasD (l:RnL) (p:Nat):Bool:=l.any fun r=>decide (r.1≤p)&&decide (p<r.2)
theorem any_take (l:RnL) (f:Nat×Nat→Bool) {i:Nat} {r:Nat×Nat} (h:l[i]? = some r):(l.take (i+1)).any f=((l.take i).any f||f r):=by
 rw[List.take_add_one,h]
 simp
set_option maxRecDepth 100000 in
theorem r11has_any (A:Option Addr) (n c p:Nat) (l:RnL) (w:World) (h:RnB w A n c l):
 Calls Tryz.prog 102 #[.slice A n c,.int .u32 (p:Int)] w fun e w'=>e = .returned (.bool (hasD l p))∧Below w.heap.size w w':=by
 have hn:(n:Int)≤9223372036854775807:=by have:=h.cap;have:=h.max;unfold maxLen at this;omega
 have HR:=Lib.hid h
 clear h
 go_enter Tryz.func102,Tryz.ntmps102
 go_wp2_with fail
 go_loopw [5] (fun z wx=>∃i:Nat,i≤n∧z = .int .i64 (i:Int)∧(l.take i).any (fun r=>decide (r.1≤p)&&decide (p<r.2))=false∧Below w.heap.size w wx) (fun z _=>n-(intOf z).toNat)
 case atStart=>exact⟨0,Nat.zero_le _,rfl,rfl,Below.refl _ _⟩
 case round=>
  obtain⟨i,hi,rfl,hal,hb⟩:=hrel
  have HB:=Lib.hid hb
  have HA:=Lib.hid hal
  clear hb hal
  by_cases hlt:i<n
  · obtain⟨r,hr⟩:∃r,l[i]? = some r:=⟨_,List.getElem?_eq_getElem (by rw[HR.out.len];exact hlt)⟩
    obtain⟨x,rfl,hxl,hcel⟩:=HR.out.at hr
    have hlti:(i:Int)<(n:Int):=by omega
    have HLT:=Lib.hid hlt
    have AT:=Lib.hid (any_take l (fun r=>decide (r.1≤p)&&decide (p<r.2)) hr)
    have MM:=Lib.hid (List.mem_of_getElem? hr)
    have r0:wr.cell? (x.add (i*2))=some (.int .u32 (r.1:Int)):=(hcel _ HB.out).1
    have r1:wr.cell? ⟨(x.add (i*2)).block,(x.add (i*2)).off+1,none⟩=some (.int .u32 (r.2:Int)):=(hcel _ HB.out).2
    have hi0:(0:Int)≤(i:Int):=by omega
    clear hlt hi hr hxl hcel
    by_cases h1:r.1≤p
    · have e1:decide ((r.1:Int)≤(p:Int))=true:=decide_eq_true (by omega)
      have e1n:decide (r.1≤p)=true:=decide_eq_true h1
      have E1:=Lib.hid h1
      clear h1
      by_cases h2:p<r.2
      · have e2:decide ((p:Int)<(r.2:Int))=true:=decide_eq_true (by omega)
        have e2n:decide (p<r.2)=true:=decide_eq_true h2
        have hs:Hid (hasD l p=true):=Lib.hid (by
         unfold hasD
         exact List.any_eq_true.2 ⟨r,MM.out,by rw[decide_eq_true E1.out,decide_eq_true h2];rfl⟩)
        clear h2
        by_cases h0:i=0
        · subst h0
          simp only[Nat.zero_mul,addr_zero] at r0 r1
          go_wp2_with fail
          go_ret
          exact⟨by rw[hs.out];rfl,HB.out⟩
        · clear h0
          go_wp2_with fail
          go_ret
          exact⟨by rw[hs.out];rfl,HB.out⟩
      · have e2:decide ((p:Int)<(r.2:Int))=false:=decide_eq_false (by omega)
        have e2n:decide (p<r.2)=false:=decide_eq_false h2
        have hs:Hid ((l.take (i+1)).any (fun r=>decide (r.1≤p)&&decide (p<r.2))=false):=Lib.hid (by rw[AT.out,HA.out,decide_eq_false h2];simp)
        clear h2
        by_cases h0:i=0
        · subst h0
          simp only[Nat.zero_mul,addr_zero] at r0 r1
          go_wp2_with fail
          go_roundw
          case rel=>exact⟨0+1,HLT.out,by go_num,hs.out,HB.out⟩
          case measure=>simp[intOf];have:=HLT.out;omega
        · clear h0
          go_wp2_with fail
          go_roundw
          case rel=>exact⟨i+1,HLT.out,by go_num,hs.out,HB.out⟩
          case measure=>simp[intOf];have:=HLT.out;omega
    · have e1:decide ((r.1:Int)≤(p:Int))=false:=decide_eq_false (by omega)
      have e1n:decide (r.1≤p)=false:=decide_eq_false h1
      have hs:Hid ((l.take (i+1)).any (fun r=>decide (r.1≤p)&&decide (p<r.2))=false):=Lib.hid (by rw[AT.out,HA.out,decide_eq_false h1];simp)
      clear h1
      by_cases h0:i=0
      · subst h0
        simp only[Nat.zero_mul,addr_zero] at r0 r1
        go_wp2_with fail
        go_roundw
        case rel=>exact⟨0+1,HLT.out,by go_num,hs.out,HB.out⟩
        case measure=>simp[intOf];have:=HLT.out;omega
      · clear h0
        go_wp2_with fail
        go_roundw
        case rel=>exact⟨i+1,HLT.out,by go_num,hs.out,HB.out⟩
        case measure=>simp[intOf];have:=HLT.out;omega
  · obtain rfl:i=n:=by omega
    have hs:Hid (hasD l p=false):=Lib.hid (by
     have h1:=HA.out
     rw[List.take_of_length_le (by rw[HR.out.len];exact Nat.le_refl _)] at h1
     exact h1)
    clear hlt hi
    go_wp2_with fail
    go_ret
    exact⟨by rw[hs.out];rfl,HB.out⟩
def pgn (b:Bool):List Value:=[.bool false,.bool b,.bool false,.bool false,.bool false,.int .u32 0,.int .u8 0,.int .u8 0,.int .u32 0,.int .u64 0,.int .u16 0,.slice none 0 0,.int .i64 0]
theorem pgn_len (b:Bool):(pgn b).length=13:=rfl
theorem infoPg19:(Tryz.prog.info? 144).map (fun i=>(i.zero,i.size,i.bytes))=some (some (.agg (pgn false).toArray),13,72):=by kernel_rfl
def OneP (S:Nat) (b:Bool) (v:Value) (W:World):Prop:=∃G,v = .slice (some ⟨G,0,none⟩) 1 1∧CbB W G 144 (pgn b).toArray∧S≤G
def pgRow (l:RnL) (i:Nat):List Value:=(List.range i).flatMap fun k=>pgn (hasD l k)
theorem pgRow_succ (l:RnL) (i:Nat):pgRow l (i+1)=pgRow l i++pgn (hasD l i):=by unfold pgRow;rw[List.range_succ,List.flatMap_append];simp
def AppP (B S:Nat) (v1:Value) (l:RnL) (i:Nat) (v:Value) (W:World):Prop:=W.ownsRow B 144 13 v (i+1) (pgRow l (i+1))∧(v.ownBlock=v1.ownBlock∨∃k,v.ownBlock=some k∧S≤k)
set_option maxRecDepth 100000 in
theorem rnew19_any {B dd rr m c n:Nat} {v1 v2:Value} {b1 b2:List Nat} {st cut:Int} {down:Bool} {L:List Nat} {A:Option Addr} {l:RnL} {w:World} (hd:RdB w B dd v1 v2 b1 b2 st cut down L) (hn:b1.length=n) (hn4:n≤100000) (h:RnB w A m c l):
 Calls Tryz.prog 47 #[.pointer (some ⟨dd,0,none⟩),.pointer (some ⟨rr,0,none⟩),.slice A m c] w fun e w'=>∃g v,e = .returned (.pointer (some ⟨g,0,none⟩))∧w.heap.size≤g∧CbB w' g 65 #[.pointer (some ⟨dd,0,none⟩),.pointer (some ⟨rr,0,none⟩),.slice none 0 0,v,.int .u64 0,.int .u64 0,.bool false,.bool false]∧w'.ownsRow w.heap.size 144 13 v n (pgRow l n)∧Below w.heap.size w w':=by
 obtain⟨A1,c1,hv1⟩:=row_shape hd.own1
 rw[hn] at hv1
 have HD:=Lib.hid hd
 have HI:=Lib.hid h
 have HV:=Lib.hid hv1
 have HN:=Lib.hid hn4
 have CD:Hid (∀W,Below w.heap.size w W→W.cell? ⟨dd,0,none⟩=some (.slice A1 n c1)):=Lib.hid fun W hW=>by rw[←hv1];exact (hd.box.ab hW).cell (k:=0) rfl
 clear hd h hn hv1 hn4
 go_enter Tryz.func47,Tryz.ntmps47
 go_wp2_with fail
 go_loopw [8] (fun z wr=>∃i:Nat,i≤n∧z = .int .i64 (i:Int)∧∃v,CbB wr w.heap.size 65 #[.pointer (some ⟨dd,0,none⟩),.pointer (some ⟨rr,0,none⟩),.slice none 0 0,v,.int .u64 0,.int .u64 0,.bool false,.bool false]∧wr.ownsRow w.heap.size 144 13 v i (pgRow l i)∧Below w.heap.size w wr) (fun z _=>n-(intOf z).toNat)
 case atStart=>exact⟨0,Nat.zero_le _,rfl,.slice none 0 0,CbB.new _ _ _,World.ownsRow_nil _ _ _ _,(Below.refl _ _).alloc (Nat.le_refl _) _⟩
 case round=>
  obtain⟨i,hi,rfl,v,hx,hr,hb⟩:=hrel
  have HX:=Lib.hid hx
  have HR:=Lib.hid hr
  have HB:=Lib.hid hb
  have c0:=CD.out wr hb
  have hib:(i:Int)≤100000:=by have:=HN.out;omega
  by_cases hlt:i<n
  · have hlti:(i:Int)<(n:Int):=by omega
    have HL:=Lib.hid hlt
    have hwi:IntKind.u32.wrap (i:Int)=(i:Int):=wrap_u32 _ (by omega) (by omega)
    have HWI:=Lib.hid hwi
    clear hx hr hb hlt hi
    go_upto_region 5 with (fail)
    have hN:∀W,Fr wr W (fun k=>v.ownBlock=some k)→Below w.heap.size w W:=fun W hW=>Fr.below hW (fun k hk=>own_ge9 HR.out k hk) HB.out HB.out.size
    have HNN:=Lib.hid hN
    clear hN
    refine wp_wide5 (fun i k=>i=8∧v.ownBlock=some k) [⟨21,IsR (.pointer (some ⟨w.heap.size,3,none⟩)),[],false⟩,⟨22,IsR (v),[0],false⟩,⟨23,IsR (.slice A m c),[],false⟩,⟨24,IsR (.int .i64 (i:Int)),[],false⟩,⟨25,IsR (.int .u32 (i:Int)),[3],false⟩,⟨26,IsR (.bool (hasD l i)),[2,4],false⟩,⟨27,IsR (.agg (pgn (hasD l i)).toArray),[5],false⟩,⟨28,OneP wr.heap.size (hasD l i),[6],false⟩,⟨29,AppP w.heap.size wr.heap.size v l i,[1,7],false⟩,⟨30,IsR (.pointer (some ⟨w.heap.size,3,none⟩)),[],false⟩] (by kernel_rfl) (by kernel_rfl) rfl rfl rfl ⟨?_,?_,?_,?_,?_,?_,?_,?_,?_,?_,trivial⟩ ?_
    · refine⟨rfl,IsR.monoF _ _,fun a W hA hb hd=>Takes.to5 (takes_plain rfl (yields_value _ ?_ rfl)) _⟩
      have h7:a.tmps[7]?.getD undef = .pointer (some ⟨w.heap.size,0,none⟩):=(eval_get a 7).trans ((hA.eval (by simp)).trans rfl)
      go_simp
    · refine⟨rfl,IsR.monoF _ _,fun a W hA hb hd=>Takes.to5 (takes_plain rfl (yields_value _ ?_ rfl)) _⟩
      have h21:a.tmps[21]?.getD undef = .pointer (some ⟨w.heap.size,3,none⟩):=(eval_get a 21).trans (hd 0 (by simp) _ rfl)
      have hc:W.cell? ⟨w.heap.size,3,none⟩=some v:=(HX.out.fr hb (fun ⟨j,_,_,hj⟩=>row_ne HR.out HX.out (by decide) hj)).cell (k:=3) rfl
      obtain⟨A2,c2,hv⟩:=row_shape HR.out
      subst hv
      go_simp
    · refine⟨rfl,IsR.monoF _ _,fun a W hA hb hd=>Takes.to5 (takes_plain rfl (yields_value _ ?_ rfl)) _⟩
      have h2:a.tmps[2]?.getD undef = .slice A m c:=(eval_get a 2).trans ((hA.eval (by simp)).trans rfl)
      go_simp
    · refine⟨rfl,IsR.monoF _ _,fun a W hA hb hd=>Takes.to5 (takes_plain rfl (yields_value _ ?_ rfl)) _⟩
      have h8:a.tmps[8]?.getD undef = .int .i64 (i:Int):=(eval_get a 8).trans ((hA.eval (by simp)).trans rfl)
      go_simp
    · refine⟨rfl,IsR.monoF _ _,fun a W hA hb hd=>Takes.to5 (takes_plain rfl (yields_value _ ?_ rfl)) _⟩
      have h24:a.tmps[24]?.getD undef = .int .i64 (i:Int):=(eval_get a 24).trans (hd 3 (by simp) _ rfl)
      have hw:=HWI.out
      go_simp
    · refine⟨rfl,IsR.monoF _ _,fun a W hA hb hd=>takes5_plain rfl ?_⟩
      have h23:a.tmps[23]?.getD undef = .slice A m c:=(eval_get a 23).trans (hd 2 (by simp) _ rfl)
      have h25:a.tmps[25]?.getD undef = .int .u32 (i:Int):=(eval_get a 25).trans (hd 4 (by simp) _ rfl)
      refine .inr ⟨102,#[.slice A m c,.int .u32 (i:Int)],by go_simp,(r11has_any A m c i l W (HI.out.ab (HNN.out W (hb.imp fun k ⟨j,_,_,hj⟩=>hj)))).mono ?_⟩
      rintro e W1 ⟨rfl,h3⟩
      exact⟨_,rfl,rfl,Fr.of h3 _⟩
    · refine⟨rfl,IsR.monoF _ _,fun a W hA hb hd=>Takes.to5 (takes_plain rfl (yields_value _ ?_ rfl)) _⟩
      have h26:a.tmps[26]?.getD undef = .bool (hasD l i):=(eval_get a 26).trans (hd 5 (by simp) _ rfl)
      unfold pgn
      go_simp
    · refine⟨rfl,fun z W W1 ⟨G1,h1,h2,h3⟩ hf=>⟨G1,h1,h2.fr hf (fun ⟨j,_,_,hj⟩=>by have:=row_ltD HR.out _ hj;omega),h3⟩,fun a W hA hb hd=>takes5_plain rfl ?_⟩
      have h27:a.tmps[27]?.getD undef = .agg (pgn (hasD l i)).toArray:=(eval_get a 27).trans (hd 6 (by simp) _ rfl)
      refine .inl ⟨.slice (some ⟨W.heap.size,0,none⟩) 1 1,W.alloc (.cells (pgn (hasD l i)).toArray 144),?_,⟨_,rfl,CbB.new _ _ _,hb.size⟩,Fr.of ((Below.refl _ _).alloc (Nat.le_refl _) _) _⟩
      unfold pgn at *
      go_simp
    · refine⟨rfl,fun z W W1 ⟨h3,h4⟩ hf=>⟨row_fr h3 hf (fun k hk ⟨j,hj,hj2,_⟩=>hj hj2),h4⟩,fun a W hA hb hd=>takes5_plain rfl ?_⟩
      have hs:a.eval (.tmp 22)=v:=hd 1 (by simp) _ rfl
      obtain⟨Gs,he,hcb,hGs⟩:=hd 7 (by simp) _ rfl
      have hx:a.eval (.tmp 28) = .slice (some ⟨Gs,0,none⟩) 1 1:=he
      have hown:=row_fr HR.out hb (fun k hk ⟨j,hj,hj2,_⟩=>hj hj2)
      obtain⟨i0,hi0,hz0,hz1,hz2⟩:=info_parts infoPg19
      obtain⟨vq,W1,hrun,r1,r2,_,r4⟩:=run_append_own_at (P:=Tryz.prog) W w.heap.size 63 63 144 i0 _ 13 72 Tryz.underlying63 hi0 hz0 hz1 hz2 rfl (by decide) v i _ hown ⟨Gs,0,none⟩ 1 1 (pgn (hasD l i)) (pgn_len _) (row_at hcb) (by simp[pgn,Value.oneCell']) (by have:=HN.out;have:=HL.out;simp only[maxLen];omega) (by have:=HN.out;have:=HL.out;omega) (Nat.le_trans HB.out.size hb.size)
      refine .inl ⟨vq,W1,?_,⟨by rw[pgRow_succ];exact r1,?_⟩,(Fr.grown r2).imp fun k hk=>⟨rfl,hk⟩⟩
      · unfold execOp
        simp only[resolve,invoke,builtin,Sem.run_bind,Sem.run_pure,Result.andThen_ok,List.map_toArray,List.map_cons,List.map_nil,hs,hx,hrun]
      · rcases r4 with r4 | r4
        · exact .inl r4
        · exact .inr ⟨_,r4,hb.size⟩
    · refine⟨rfl,IsR.monoF _ _,fun a W hA hb hd=>Takes.to5 (takes_plain rfl (yields_value _ ?_ rfl)) _⟩
      have h7:a.tmps[7]?.getD undef = .pointer (some ⟨w.heap.size,0,none⟩):=(eval_get a 7).trans ((hA.eval (by simp)).trans rfl)
      go_simp
    intro vs0 wrn hR hb
    obtain⟨hrow,hvv⟩:AppP w.heap.size wr.heap.size v l i (vs0 29) wrn:=hR 8 _ rfl
    have e21:vs0 21 = .pointer (some ⟨w.heap.size,3,none⟩):=hR 0 _ rfl
    have e22:vs0 22=v:=hR 1 _ rfl
    have e23:vs0 23 = .slice A m c:=hR 2 _ rfl
    have e24:vs0 24 = .int .i64 (i:Int):=hR 3 _ rfl
    have e25:vs0 25 = .int .u32 (i:Int):=hR 4 _ rfl
    have e26:vs0 26 = .bool (hasD l i):=hR 5 _ rfl
    have e27:vs0 27 = .agg (pgn (hasD l i)).toArray:=hR 6 _ rfl
    have e30:vs0 30 = .pointer (some ⟨w.heap.size,3,none⟩):=hR 9 _ rfl
    simp only[List.map_cons,List.map_nil,List.foldl_cons,List.foldl_nil,List.length_cons,List.length_nil,List.drop_succ_cons,List.drop_zero,Act.put,List.setIfInBounds_toArray,List.set_cons_zero,List.set_cons_succ,e21,e22,e23,e24,e25,e26,e27,e30]
    have FR:Hid (Fr wr wrn (fun k=>v.ownBlock=some k)):=Lib.hid (hb.imp fun k ⟨j,_,hj⟩=>hj)
    have G2:=Lib.hid (HX.out.fr FR.out (row_ne HR.out HX.out (by decide)))
    have BB:=Lib.hid (HNN.out wrn FR.out)
    obtain⟨A2,c2,hv2⟩:=row_shape hrow
    generalize vs0 29=q29 at *
    subst hv2
    have RW:=Lib.hid hrow
    have hf:=G2.out.free 3
    have hcl:=G2.out.cell (k:=3) rfl
    clear hR hb hrow hvv e21 e22 e23 e24 e25 e26 e27 e30 HNN FR
    generalize vs0 28=q28 at *
    have X3:=Lib.hid (G2.out.set 3 (.slice A2 (i+1) c2))
    have R3:=Lib.hid (row_fr RW.out (fr_setD wrn w.heap.size 3 (.slice A2 (i+1) c2)) (fun k hk e=>row_ne RW.out G2.out (by decide) (by rw[hk,e])))
    have B3:Hid (Below w.heap.size w (wrn.setCell ⟨w.heap.size,3,none⟩ (.slice A2 (i+1) c2))):=Lib.hid (BB.out.setCell (Nat.le_refl w.heap.size) _)
    clear G2 RW BB HX HR HB
    go_wp2_with fail
    go_roundw
    case rel=>exact⟨i+1,HL.out,by go_num,_,X3.out,R3.out,B3.out⟩
    case measure=>simp[intOf];have:=HL.out;omega
  · obtain rfl:i=n:=by omega
    clear hx hr hb hlt hi
    go_wp2_with fail
    go_ret
    exact⟨w.heap.size,v,rfl,Nat.le_refl _,HX.out,HR.out,HB.out⟩
set_option maxRecDepth 100000 in
theorem rnew09_nil (dd lim:Nat) (w:World):Calls Tryz.prog 48 #[.pointer (some ⟨dd,0,none⟩),.int .u64 (lim:Int),.slice none 0 0] w fun e w'=>e = .returned (.pointer (some ⟨w.heap.size,0,none⟩))∧CbB w' w.heap.size 60 #[.pointer (some ⟨dd,0,none⟩),.int .u64 (lim:Int),.int .u64 0,.int .u64 0,.slice none 0 0]∧Below w.heap.size w w':=by
 go_enter Tryz.func48,Tryz.ntmps48
 go_wp2_with fail
 go_loopw [8] (fun z wx=>z = .int .i64 0∧CbB wx w.heap.size 60 #[.pointer (some ⟨dd,0,none⟩),.int .u64 (lim:Int),.int .u64 0,.int .u64 0,.slice none 0 0]∧Below w.heap.size w wx) (fun z _=>0)
 case atStart=>exact⟨rfl,CbB.new _ _ _,(Below.refl _ _).alloc (Nat.le_refl _) _⟩
 case round=>
  obtain⟨rfl,hc,hb⟩:=hrel
  have HC:=Lib.hid hc
  have HB:=Lib.hid hb
  clear hc hb
  go_wp2_with fail
  go_ret
  exact⟨rfl,HC.out,HB.out⟩
def PreL (B g m g2:Nat) (l:RgL) (i:Nat) (W:World):Prop:=(i=25→RgB W B g m l)∧(i=41→∃v vs,RkB W B g2 v vs l)
def StepL (B g m g2:Nat) (i:Nat) (W W':World):Prop:=
 Below W.heap.size W W'∨(i=25∧(∃l,RgB W B g m l)∧W.grownBy W' (some m))∨(i=41∧∃v vs l,RkB W B g2 v vs l∧Fr W W' (fun k=>k=g2∨v.ownBlock=some k))
section
variable {B g m g2:Nat} {l:RgL}
theorem stepL_rg {i:Nat} (hi:i≠25) {W W':World} (h:StepL B g m g2 i W W') (hr:RgB W B g m l):RgB W' B g m l:=by
 rcases h with h | ⟨h,_⟩ | ⟨_,v,vs,l',h1,h2⟩
 · exact hr.ab h
 · exact absurd h hi
 · exact hr.frK h1 h2
theorem stepL_rk {i:Nat} (hi:i≠41) {W W':World} (h:StepL B g m g2 i W W') (hr:∃v vs,RkB W B g2 v vs l):∃v vs,RkB W' B g2 v vs l:=by
 obtain⟨v,vs,hr⟩:=hr
 rcases h with h | ⟨_,⟨l',h1⟩,h2⟩ | ⟨h,_⟩
 · exact⟨v,vs,hr.ab h⟩
 · exact⟨v,vs,hr.grownM h1 h2⟩
 · exact absurd h hi
theorem stepL_pre:∀i j,i≠j→∀W W',StepL B g m g2 i W W'→PreL B g m g2 l j W→PreL B g m g2 l j W':=
 fun i j hij W W' hs hp=>⟨fun e=>stepL_rg (by omega) hs (hp.1 e),fun e=>stepL_rk (by omega) hs (hp.2 e)⟩
theorem stepL_below {w:World} (h2:w.heap.size≤g2) {i:Nat} {W W':World} (h:StepL w.heap.size g m g2 i W W') (hb:Below w.heap.size w W):Below w.heap.size w W':=by
 rcases h with h | ⟨_,⟨l',h1⟩,h3⟩ | ⟨_,v,vs,l',h1,h3⟩
 · exact below_tr hb h hb.size
 · exact below_grown hb h3 h1.low hb.size
 · refine Fr.below h3 (fun k hk=>?_) hb hb.size
   rcases hk with rfl | hk
   · exact h2
   · exact own_ge9 h1.own k hk
theorem stepL_blk {i k:Nat} {W W':World} {cs:Array Value} {T:TypeId} {fr:Nat×Nat} (h:StepL B g m g2 i W W') (hk:W.heap[k]? = some (.cells cs T fr)) (h1:T≠122) (h2:T≠199):W'.heap[k]? = some (.cells cs T fr):=by
 have hlt:=lt_of_block hk
 rcases h with h | ⟨_,⟨l',hr⟩,h3⟩ | ⟨_,v,vs,l',hr,h3⟩
 · exact (h.block k hlt).trans hk
 · refine (h3.block k hlt fun e=>?_).trans hk
   injection e with e
   subst e
   obtain⟨us,⟨es,c,hm,_⟩,_⟩:=hr.map
   rw[hm] at hk
   cases hk
 · refine (h3.block k hlt fun e=>?_).trans hk
   rcases e with e | e
   · subst e
     have hb:=hr.box
     unfold CbB at hb
     rw[hb] at hk
     injection hk with hk
     injection hk with _ hk
     exact h1 hk.symm
   · obtain⟨cs',fr',hh⟩:=row_ty9 hr.own k e
     rw[hh] at hk
     injection hk with hk
     injection hk with _ hk
     exact h2 hk.symm
end
end Go.Proofs.YtlobgddnlnffbaaGreat
