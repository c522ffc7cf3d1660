/-
  Parts of the proof, joined.
-/
import Derived.Test.YtlobgddnlnffbaaGreatBdh
import Derived.Test.YtlobgddnlnffbaaGreatBdj
import Derived.Test.YtlobgddnlnffbaaGreatBdi
import Derived.Deep.Slices
namespace Go.Proofs.YtlobgddnlnffbaaGreat
set_option maxHeartbeats 4000000
open Go.RowKit
set_option linter.unusedVariables false
theorem lsealA_len (key:List Nat) (l:Lb) {text:List Nat} (h:text.length=224):(headL l++sealA key (nonceL l) (aadL l) text).length=256:=by rw[List.length_append,headL_len,sealA_len,h]
theorem lseal_take (l:Lb) (X:List Nat):(headL l++X).take 16=headL l:=by
 have:=headL_len l
 rw[List.take_append_of_le_length (by omega),List.take_of_length_le (by omega)]
theorem lseal_drop (l:Lb) (X:List Nat):(headL l++X).drop 16=X:=by
 have:=headL_len l
 rw[List.drop_append_of_le_length (by omega),List.drop_of_length_le (by omega),List.nil_append]
theorem openP_seal {key text:List Nat} {l:Lb} (h:SOk key l) (ht:text.length=224):openP key l (headL l++sealA key (nonceL l) (aadL l) text)=(text,0):=by
 unfold openP
 rw[if_pos ⟨h,lsealA_len key l ht⟩,lseal_take,if_pos rfl,lseal_drop]
 exact open_seal ⟨h.1,nonceL_len l⟩ (by rw[aadL_len];decide) (by omega)
theorem sealP_ok {key text:List Nat} {l:Lb} (h:SOk key l) (ht:text.length=224):sealP key l text=(headL l++sealA key (nonceL l) (aadL l) text,0):=by
 unfold sealP
 rw[if_pos ⟨h,ht⟩]
theorem digB_one {k:Nat} (h:k<256):digB k 1=[k]:=by
 show []++[k%256]=[k]
 rw[List.nil_append,Nat.mod_eq_of_lt h]
theorem byt_map_inj {a b:List Nat} (ha:Byt a) (hb:Byt b) (h:a.map UInt8.ofNat=b.map UInt8.ofNat):a=b:=(strOf_inj ha hb).1 (by unfold strOf;rw[h])
def magL:List Nat:=[67,72,84,49]
structure ToldR where
 k:Nat
 lv:Nat
 gn:Nat
 cm:Nat
 err:Nat
def toldOk (s:List Nat):Prop:=s.take 4=magL∧1≤at' s 4∧at' s 4≤4
instance (s:List Nat):Decidable (toldOk s):=by unfold toldOk;infer_instance
def toldP (s:List Nat):ToldR:=
 if s.length=256 then if toldOk s then ⟨at' s 4,at' s 5,numB ((s.drop 6).take 2),numB ((s.drop 8).take 8),0⟩ else ⟨0,0,0,0,100⟩ else ⟨0,0,0,0,2⟩
def toldV (t:ToldR):Value:=.tuple #[.int .u8 (t.k:Int),.int .u8 (t.lv:Int),.int .u16 (t.gn:Int),.int .u64 (t.cm:Int),.int .i64 (t.err:Int)]
set_option maxRecDepth 100000 in
theorem getB_any (A:Option Addr) (n c:Nat) (l:List Nat) (w:World) (hin:IsB w A n c l) (h1:1≤n) (h8:n≤8):
 Calls Tryz.prog 135 #[.slice A n c] w fun e w'=>e = .returned (.tuple #[.int .u64 (numB l:Int),.int .i64 0])∧w=w':=by
 obtain⟨x0,rfl,hx0,hcl⟩:=hin.cell (by omega)
 have HC:=Lib.hid hcl
 have HL:=Lib.hid hin.len
 have HB:=Lib.hid hin.2
 have hn1:(1:Int)≤(n:Int):=by omega
 have hn8:(n:Int)≤8:=by omega
 have hd1:decide ((n:Int)<1)=false:=by simp;omega
 have hd2:decide (8<(n:Int))=false:=by simp;omega
 clear hin hcl
 go_enter Tryz.func135,Tryz.ntmps135
 go_wp2_with fail
 go_loop [4,6,17] (fun v _ j=>∃i:Nat,i≤n∧j = .int .i64 i∧v = .int .u64 (numB (l.take i):Nat)) (fun _ _ j=>n-(intOf j).toNat)
 case atStart=>exact⟨0,by omega,rfl,rfl⟩
 case round=>
  obtain⟨i,hi,rfl,rfl⟩:=hrel
  by_cases hlt:i<n
  · have hii:(i:Int)<(n:Int):=by omega
    have hcl:=HC.out i hlt
    have hx:=HB.out.at' i
    have hm:=numB_take HB.out (by rw[HL.out];exact h8) (p:=i) (by rw[HL.out];exact hlt)
    have hs:=take_snoc' (l:=l) (p:=i) (by rw[HL.out];exact hlt)
    have hnum:numB (l.take (i+1))=256*numB (l.take i)+at' l i:=by rw[hs,numB_snoc]
    generalize at' l i=x at hcl hx hnum
    generalize numB (l.take i)=m at hm hnum
    have hor:=or_byte m x hm hx
    have hw1:=wrap_u64' (n:=18446744073709551615) (by decide) ((m:Int)*256) (by omega) (by omega)
    have hw2:=wrap_u64' (n:=256) (by decide) (x:Int) (by omega) (by omega)
    have HN:=Lib.hid hnum
    clear hs hnum
    go_wp2
    go_round
    case rel=>exact⟨i+1,by omega,by go_num,by rw[HN.out];go_num⟩
    case measure=>simp[intOf];omega
  · obtain rfl:i=n:=by omega
    have he:l.take i=l:=List.take_of_length_le (by rw[HL.out];omega)
    rw[he]
    clear he
    generalize hme:numB l=m
    have HME:=Lib.hid hme
    clear hme
    go_wp2
    go_ret2
    exact⟨by rw[HME.out];rfl,rfl⟩
theorem strOf_toList (l:List Nat):(strOf l).toList=l.map UInt8.ofNat:=ByteArray.toList_mk _
theorem str_eq {x y:List Nat} (hx:Byt x) (hy:Byt y):((strOf x).toList==(strOf y).toList)=decide (x=y):=by
 rw[strOf_toList,strOf_toList]
 by_cases h:x=y
 · rw[decide_eq_true h,h];simp
 · rw[decide_eq_false h,beq_eq_false_iff_ne]
   exact fun e=>h (byt_map_inj hx hy e)
theorem magL_byt:Byt magL:=by unfold Byt magL;decide
theorem str_mag {x:List Nat} (hx:Byt x):((strOf x).toList==[67,72,84,49])=decide (x=magL):=by
 have:=str_eq hx magL_byt
 rw[strOf_toList magL] at this
 exact this
theorem sl_mid (W:World) (A:Option Addr) (n c l h:Nat) (hlh:l≤h) (hh:h≤c):(Instr.sliceAt 41 (.slice A n c) (some (.int .i64 (l:Int))) (some (.int .i64 (h:Int))) none).run Tryz.prog W = .ok (.slice (dropA A c l) (h-l) (c-l)) W:=by
 have hu:Tryz.prog.underlying 41=some (.slice (Tryz.prog.elem 41)):=by kernel_rfl
 rw[run_sliceAt_slice W _ _ _ _ _ hu,run_slice_lh W _ _ _ _ hu .i64 .i64 (l:Int) (h:Int) (by omega) (by omega) (by omega),sl_size]
 simp only[Result.andThen_ok,sliced,Nat.mul_one,Int.toNat_natCast]
 unfold dropA
 rfl
theorem numB_lt2 {l:List Nat} (hb:Byt l) (hl:l.length=2):numB l<65536:=by
 have:=numB_lt hb
 rw[hl] at this
 exact this
set_option maxRecDepth 100000 in
theorem told_ok (A:Option Addr) (c:Nat) (s:List Nat) (w:World) (h:IsB w A 256 c s) (hok:toldOk s):
 Calls Tryz.prog 79 #[.slice A 256 c] w fun e w'=>e = .returned (toldV ⟨at' s 4,at' s 5,numB ((s.drop 6).take 2),numB ((s.drop 8).take 8),0⟩)∧Below w.heap.size w w':=by
 have hcap:=h.1.lenCap
 have hlen:=h.len
 obtain⟨o1,o2,o3⟩:=hok
 have h4:=h.take (m:=4) (by decide)
 rw[o1] at h4
 have hst:(convert 41 9 (.slice A 4 c)).run Tryz.prog w = .ok (.string (strOf magL)) w:=run_str h4 _ _ _ Tryz.underlying41 Tryz.underlying5 Tryz.underlying9
 have hs4:∀W,(Instr.sliceAt 41 (.slice A 256 c) none (some (.int .i64 4)) none).run Tryz.prog W = .ok (.slice A 4 c) W:=fun W=>sl_upto W A 256 c 4 (by omega)
 have hmg:((strOf magL).toList==[67,72,84,49])=true:=by rw[str_mag magL_byt];decide
 have hs6:∀W,(Instr.sliceAt 41 (.slice A 256 c) (some (.int .i64 6)) (some (.int .i64 8)) none).run Tryz.prog W = .ok (.slice (dropA A c 6) 2 (c-6)) W:=fun W=>sl_mid W A 256 c 6 8 (by decide) (by omega)
 have hs8:∀W,(Instr.sliceAt 41 (.slice A 256 c) (some (.int .i64 8)) (some (.int .i64 16)) none).run Tryz.prog W = .ok (.slice (dropA A c 8) 8 (c-8)) W:=fun W=>sl_mid W A 256 c 8 16 (by decide) (by omega)
 have i6:=(isB_drop h (m:=6) (by decide)).take (m:=2) (by decide)
 have i8:=(isB_drop h (m:=8) (by decide)).take (m:=8) (by decide)
 obtain⟨x,rfl,hxb,hxc⟩:=h.cell (by decide)
 have c4:w.cell? ⟨x.block,x.off+4,none⟩=some (.int .u8 (at' s 4:Nat)):=hxc 4 (by decide)
 have c5:w.cell? ⟨x.block,x.off+5,none⟩=some (.int .u8 (at' s 5:Nat)):=hxc 5 (by decide)
 have k1:decide (((at' s 4:Nat):Int)<1)=false:=by simp;omega
 have k2:decide ((4:Int)<((at' s 4:Nat):Int))=false:=by simp;omega
 have n2:=numB_lt2 i6.2 i6.len
 have HG6:=Lib.hid (getB_any _ 2 (c-6) _ w i6 (by decide) (by decide))
 have HG8:=Lib.hid (getB_any _ 8 (c-8) _ w i8 (by decide) (by decide))
 generalize numB ((s.drop 6).take 2)=gn at *
 generalize numB ((s.drop 8).take 8)=cm at *
 generalize at' s 4=a4 at *
 generalize at' s 5=a5 at *
 have hw:IntKind.u16.wrap (gn:Int)=(gn:Int):=by
  have e1:IntKind.u16.min=0∧IntKind.u16.max=65535:=⟨rfl,rfl⟩
  show (gn:Int)%65536=(gn:Int)
  omega
 generalize dropA (some x) c 6=D6 at *
 generalize dropA (some x) c 8=D8 at *
 clear h h4 o1 o2 o3 i6 i8 hxc hlen
 go_enter Tryz.func79,Tryz.ntmps79
 go_wp2_with fail
 refine HG6.out.mono ?_
 rintro e w' ⟨rfl,rfl⟩
 go_wp2_with fail
 refine HG8.out.mono ?_
 rintro e w' ⟨rfl,rfl⟩
 go_wp2_with fail
 refine wp_still_tail 13 (by kernel_rfl) (by kernel_rfl) ?_
 simp only[List.take_succ_cons,List.take_zero,List.drop_succ_cons,List.drop_zero]
 repeat still_step
 refine wpStill_nil ?_
 go_wp2_with fail
 exact bodyPost_ret (v:=.tuple #[.int .u8 (a4:Int),.int .u8 (a5:Int),.int .u16 (gn:Int),.int .u64 (cm:Int),.int .i64 0]) (by simp[results,Tryz.results79,go_sem]) rfl ⟨rfl,(Below.refl _ _).drew⟩
set_option maxRecDepth 100000 in
theorem told_short (A:Option Addr) (n c:Nat) (w:World) (h:n≠256):
 Calls Tryz.prog 79 #[.slice A n c] w fun e w'=>e = .returned (toldV ⟨0,0,0,0,2⟩)∧Below w.heap.size w w':=by
 have h1:((n:Int) != 256)=true:=by simp;omega
 go_enter Tryz.func79,Tryz.ntmps79
 go_wp2_with fail
 exact bodyPost_ret (v:=.tuple #[.int .u8 0,.int .u8 0,.int .u16 0,.int .u64 0,.int .i64 2]) (by simp[results,Tryz.results79,go_sem]) rfl ⟨rfl,Below.refl _ _⟩
set_option maxRecDepth 100000 in
theorem told_bad (A:Option Addr) (c:Nat) (s:List Nat) (w:World) (h:IsB w A 256 c s) (hok:¬toldOk s):
 Calls Tryz.prog 79 #[.slice A 256 c] w fun e w'=>e = .returned (toldV ⟨0,0,0,0,100⟩)∧Below w.heap.size w w':=by
 have hcap:=h.1.lenCap
 have h4:=h.take (m:=4) (by decide)
 have hst:(convert 41 9 (.slice A 4 c)).run Tryz.prog w = .ok (.string (strOf (s.take 4))) w:=run_str h4 _ _ _ Tryz.underlying41 Tryz.underlying5 Tryz.underlying9
 have hs4:∀W,(Instr.sliceAt 41 (.slice A 256 c) none (some (.int .i64 4)) none).run Tryz.prog W = .ok (.slice A 4 c) W:=fun W=>sl_upto W A 256 c 4 (by omega)
 have hmg:=str_mag h4.2
 obtain⟨x,rfl,hxb,hxc⟩:=h.cell (by decide)
 have c4:w.cell? ⟨x.block,x.off+4,none⟩=some (.int .u8 (at' s 4:Nat)):=hxc 4 (by decide)
 have hcase:decide (s.take 4=magL)=false∨(decide (s.take 4=magL)=true∧decide (((at' s 4:Nat):Int)<1)=true)∨(decide (s.take 4=magL)=true∧decide (((at' s 4:Nat):Int)<1)=false∧decide ((4:Int)<((at' s 4:Nat):Int))=true):=by
  by_cases h1:s.take 4=magL
  · right
    rw[decide_eq_true h1]
    by_cases h2:1≤at' s 4
    · right
      refine⟨rfl,by simp;omega,?_⟩
      have:¬at' s 4≤4:=fun h3=>hok ⟨h1,h2,h3⟩
      simp;omega
    · left
      exact⟨rfl,by simp;omega⟩
  · left
    exact decide_eq_false h1
 generalize at' s 4=a4 at *
 generalize s.take 4=s4 at *
 clear h h4 hok hxc
 rcases hcase with h1 | ⟨h1,h2⟩ | ⟨h1,h2,h3⟩
 all_goals
  rw[h1] at hmg
  clear h1
  go_enter Tryz.func79,Tryz.ntmps79
  go_wp2_with fail
  exact bodyPost_ret (v:=.tuple #[.int .u8 0,.int .u8 0,.int .u16 0,.int .u64 0,.int .i64 100]) (by simp[results,Tryz.results79,go_sem]) rfl ⟨rfl,Below.refl _ _⟩
theorem told_any (A:Option Addr) (n c:Nat) (s:List Nat) (w:World) (h:IsB w A n c s):
 Calls Tryz.prog 79 #[.slice A n c] w fun e w'=>e = .returned (toldV (toldP s))∧Below w.heap.size w w':=by
 have hl:=h.len
 unfold toldP
 by_cases hn:n=256
 · subst hn
   rw[if_pos hl]
   by_cases ho:toldOk s
   · rw[if_pos ho]
     exact told_ok A c s w h ho
   · rw[if_neg ho]
     exact told_bad A c s w h ho
 · rw[if_neg (by omega)]
   exact told_short A n c w hn
def AnyR (_:Value) (_:World):Prop:=True
theorem AnyR.mono:Mono AnyR:=fun _ _ _ _ _=>trivial
open Go.RowKit Go.ChangeShapes Go.WideShapes
structure Rf where
 pg:Nat
 cm:Nat
 gn:Nat
 deriving DecidableEq
theorem infoDb:(Tryz.prog.info? 148).map (fun i=>(i.zero,i.size,i.bytes))=some (some (.agg (bts (zeros 256))),256,256):=by kernel_rfl
theorem made_z (n m:Nat) (hm:0<m):madeCells (bts (zeros m)) n=bts (zeros n):=by
 apply Array.ext
 · simp[madeCells,bts,zeros]
 · intro i h1 h2
   have:i%m<m:=Nat.mod_lt _ hm
   simp[madeCells,bts,zeros,this]
theorem make_db (n:Nat) (hc:n≤5000) (W:World):
 (Instr.makeSlice 138 (.int .i64 (n:Int)) (.int .i64 (n:Int))).run Tryz.prog W = .ok (.slice (some ⟨W.heap.size,0,none⟩) n n) (W.alloc (.cells (bts (zeros (n*256))) 148)):=by
 obtain⟨i0,hi0,h0,h1,h2⟩:=info_parts infoDb
 have:=run_make (P:=Tryz.prog) W 138 148 i0 _ Tryz.underlying138 hi0 h0 .i64 .i64 n n (by omega) (by omega) (by rw[h2];omega) (by omega)
 rw[this,h1]
 simp only[Int.toNat_natCast,Value.cells]
 rw[made_z _ 256 (by decide)]
def DzB (w:World) (g n:Nat):Prop:=Bk w g 148 (zeros (n*256))
def DzR (S n:Nat) (v:Value) (W:World):Prop:=∃g,v = .slice (some ⟨g,0,none⟩) n n∧DzB W g n∧S≤g
theorem DzR.mono (S n:Nat):Mono (DzR S n):=fun v W W' ⟨g,h1,h2,h3⟩ hb=>⟨g,h1,h2.below hb h2.lt,h3⟩
structure DkN (w:World) (B d b:Nat) (g1 g2:Nat):Prop where
 box:CbB w d 141 #[.slice (some ⟨g1,0,none⟩) b b,.slice (some ⟨g2,0,none⟩) b b,.slice none 0 0,.int .u64 0,.int .i64 0,.int .i64 (-1),.bool false]
 now:DzB w g1 b
 firm:DzB w g2 b
 low:B≤d∧B≤g1∧B≤g2
 ne:g1≠g2
set_option maxRecDepth 100000 in
theorem diskNew_any (b:Nat) (w:World) (hb8:8≤b) (hb4:b≤4096):
 Calls Tryz.prog 39 #[.int .i64 (b:Int)] w fun e w'=>∃d g1 g2,e = .returned (.tuple #[.pointer (some ⟨d,0,none⟩),.int .i64 0])∧DkN w' w.heap.size d b g1 g2∧Below w.heap.size w w':=by
 have h1:¬(b:Int)<8:=by omega
 have h2:¬(4096:Int)<(b:Int):=by omega
 have HB:Hid (b≤5000):=Lib.hid (by omega)
 clear hb8 hb4
 go_enter Tryz.func39,Tryz.ntmps39
 go_wp2_with fail
 refine wp_wide3 [⟨10,IsR (.int .i64 (b:Int)),[],false⟩,⟨11,DzR w.heap.size b,[0],true⟩,⟨12,IsR (.int .i64 (b:Int)),[],false⟩,⟨13,DzR w.heap.size b,[2],true⟩] (by kernel_rfl) (by kernel_rfl) rfl rfl rfl ⟨?_,?_,?_,?_,trivial⟩ ?_
 · refine⟨rfl,IsR.mono _,fun a W hA hb hd=>takes_plain rfl (yields_value _ ?_ rfl)⟩
   have h0:a.tmps[0]?.getD undef = .int .i64 (b:Int):=(eval_get a 0).trans ((hA.eval (by simp)).trans rfl)
   go_simp
 · refine⟨rfl,DzR.mono _ _,fun a W hA hb hd=>takes_plain rfl ?_⟩
   refine .inl ⟨.slice (some ⟨W.heap.size,0,none⟩) b b,W.alloc (.cells (bts (zeros (b*256))) 148),?_,⟨_,rfl,Bk.new _ _ _,hb.size⟩,(Below.refl _ _).alloc (Nat.le_refl _) _,fun _=>⟨W.heap.size,rfl,Nat.le_refl _,by simp⟩⟩
   have hx:a.eval (.tmp 10) = .int .i64 (b:Int):=hd 0 (by simp) _ rfl
   have hmk:=make_db b HB.out W
   unfold execOp
   simp only[hx,hmk,Sem.run_bind,Result.andThen_ok,Sem.run_pure]
 · refine⟨rfl,IsR.mono _,fun a W hA hb hd=>takes_plain rfl (yields_value _ ?_ rfl)⟩
   have h0:a.tmps[0]?.getD undef = .int .i64 (b:Int):=(eval_get a 0).trans ((hA.eval (by simp)).trans rfl)
   go_simp
 · refine⟨rfl,DzR.mono _ _,fun a W hA hb hd=>takes_plain rfl ?_⟩
   refine .inl ⟨.slice (some ⟨W.heap.size,0,none⟩) b b,W.alloc (.cells (bts (zeros (b*256))) 148),?_,⟨_,rfl,Bk.new _ _ _,hb.size⟩,(Below.refl _ _).alloc (Nat.le_refl _) _,fun _=>⟨W.heap.size,rfl,Nat.le_refl _,by simp⟩⟩
   have hx:a.eval (.tmp 12) = .int .i64 (b:Int):=hd 2 (by simp) _ rfl
   have hmk:=make_db b HB.out W
   unfold execOp
   simp only[hx,hmk,Sem.run_bind,Result.andThen_ok,Sem.run_pure]
 intro vs w4 hR hF hb
 obtain⟨g1,hg1,hz1,hl1⟩:DzR w.heap.size b (vs 11) w4:=hR 1 _ rfl
 obtain⟨g2,hg2,hz2,hl2⟩:DzR w.heap.size b (vs 13) w4:=hR 3 _ rfl
 have HNE:Hid (g1≠g2):=Lib.hid fun e=>hF 1 3 _ _ rfl rfl (by decide) rfl rfl (by show blk (vs 11)=blk (vs 13);rw[hg1,hg2,e])
 have e10:vs 10 = .int .i64 (b:Int):=hR 0 _ rfl
 have e12:vs 12 = .int .i64 (b:Int):=hR 2 _ rfl
 simp only[List.map_cons,List.map_nil,List.foldl_cons,List.foldl_nil,List.length_cons,List.length_nil,List.drop_succ_cons,List.drop_zero,Act.put,List.setIfInBounds_toArray,List.set_cons_zero,List.set_cons_succ,e10,e12,hg1,hg2]
 have Z1:=Lib.hid hz1
 have Z2:=Lib.hid hz2
 have L1:=Lib.hid hl1
 have L2:=Lib.hid hl2
 have B4:=Lib.hid hb
 clear hR hF hb hz1 hz2 hl1 hl2 hg1 hg2 e10 e12
 go_wp2_with fail
 go_ret2
 have ha:Below w4.heap.size w4 (w4.alloc (.cells #[.slice (some ⟨g1,0,none⟩) b b,.slice (some ⟨g2,0,none⟩) b b,.slice none 0 0,.int .u64 0,.int .i64 0,.int .i64 (-1),.bool false] 141)):=(Below.refl _ _).alloc (Nat.le_refl _) _
 exact⟨w4.heap.size,g1,g2,rfl,⟨CbB.new _ _ _,Z1.out.below ha Z1.out.lt,Z2.out.below ha Z2.out.lt,⟨B4.out.size,L1.out,L2.out⟩,HNE.out⟩,below_tr B4.out ha B4.out.size⟩
set_option maxRecDepth 100000 in
theorem regsNew_nil (d lim:Nat) (w:World):
 Calls Tryz.prog 40 #[.pointer (some ⟨d,0,none⟩),.int .u64 (lim:Int),.slice none 0 0] w fun e w'=>e = .returned (.tuple #[.pointer (some ⟨w.heap.size,0,none⟩),.int .i64 0])∧CbB w' w.heap.size 132 #[.pointer (some ⟨d,0,none⟩),.int .u64 (lim:Int),.int .u64 0,.int .u64 0,.slice none 0 0]∧Below w.heap.size w w':=by
 go_enter Tryz.func40,Tryz.ntmps40
 go_wp2_with fail
 go_loopw [19] (fun z wx=>z = .int .i64 0∧CbB wx w.heap.size 132 #[.pointer (some ⟨d,0,none⟩),.int .u64 (lim:Int),.int .u64 0,.int .u64 0,.slice none 0 0]∧Below w.heap.size w wx) (fun z _=>0)
 case atStart=>exact⟨rfl,CbB.new _ _ _,(Below.refl _ _).alloc (Nat.le_refl _) _⟩
 case round=>
  obtain⟨rfl,hc,hb⟩:=hrel
  have HC:=Lib.hid hc
  have HB:=Lib.hid hb
  clear hc hb
  go_wp2_with fail
  go_ret2
  exact⟨rfl,HC.out,HB.out⟩
set_option maxRecDepth 100000 in
theorem committed_any (r:Nat) (v0 v4:Value) (lim res com:Nat) (w:World) (h:CbB w r 132 #[v0,.int .u64 (lim:Int),.int .u64 (res:Int),.int .u64 (com:Int),v4]):
 Calls Tryz.prog 13 #[.pointer (some ⟨r,0,none⟩)] w fun e w'=>e = .returned (.int .u64 (com:Int))∧w=w':=by
 have hc:=h.cell (k:=3) rfl
 clear h
 go_enter Tryz.func13,Tryz.ntmps13
 go_wp2_with fail
 go_ret
 exact⟨rfl,rfl⟩
structure KArg where
 t:Nat
 g:Nat
 a:Option Addr
 n:Nat
 c:Nat
 k:List Nat
structure KsB (w:World) (A:Option Addr) (n c:Nat) (ks:List KArg):Prop where
 len:ks.length=n
 cap:n≤c
 max:c≤maxLen
 cel:∀(i:Nat) (q:KArg),ks[i]? = some q→∃x,A=some x∧x.block<w.heap.size∧w.cell? (x.add (i*3))=some (.int .u32 (q.t:Int))∧w.cell? (x.add (i*3+1))=some (.int .u16 (q.g:Int))∧w.cell? (x.add (i*3+2))=some (.slice q.a q.n q.c)∧q.t<4294967296∧q.g<65536∧IsB w q.a q.n q.c q.k
theorem RkB.grownM {w w':World} {B g m:Nat} {v:Value} {vs:List ((Nat×Nat)×Value)} {l:RgL} {B' g':Nat} {l':RgL} (h:RkB w B g v vs l) (hr:RgB w B' g' m l') (hg:w.grownBy w' (some m)):RkB w' B g v vs l:=by
 obtain⟨us,hm,_⟩:=hr.map
 have hf:=Fr.grown hg
 have hgm:g≠m:=fun e=>by
  obtain⟨es,c,h1,_⟩:=hm
  have:=h.box
  unfold CbB at this
  rw[e,h1] at this
  cases this
 refine⟨h.box.fr hf (fun e=>hgm (by injection e with e;exact e.symm)),row_fr h.own hf (fun k hk e=>?_),h.vals.imp fun z k hz=>hz.fr hf (fun q hq e=>notMap hz hm (by rw[hq,e])),Nat.le_trans h.low hg.size,h.ne⟩
 injection e with e
 subst e
 rcases h.own.2 with ⟨rfl,_⟩ | ⟨gb,cap,cur,rfl,_,hh,_⟩
 · cases hk
 · obtain⟨es,c,h1,_⟩:=hm
   have:gb=m:=by injection hk
   subst this
   rw[h1] at hh
   cases hh
theorem RgB.frK {w w':World} {B g m:Nat} {l:RgL} {B' g':Nat} {v:Value} {vs:List ((Nat×Nat)×Value)} {l':RgL} (h:RgB w B g m l) (hr:RkB w B' g' v vs l') (hf:Fr w w' (fun k=>k=g'∨v.ownBlock=some k)):RgB w' B g m l:=by
 obtain⟨us,hm,hv⟩:=h.map
 have hcb:CbB w g 191 #[.map (some m)]:=h.box
 obtain⟨es,c,hme,_⟩:=id hm
 have nb:∀k,v.ownBlock=some k→∃cs T x,w.heap[k]? = some (.cells cs T x):=fun k hk=>by
  rcases hr.own.2 with ⟨rfl,_⟩ | ⟨gb,cap,cur,rfl,_,hh,_⟩
  · cases hk
  · have:gb=k:=by injection hk
    subst this
    exact⟨_,_,_,hh⟩
 refine⟨(hcb.fr hf ?_:CbB w' g _ _),h.low,⟨us,hm.same (hf.block m h.mlt ?_),hv.imp fun z k hz=>hz.fr hf ?_⟩,h.ne⟩
 · rintro (e | e)
   · subst e
     have h1:=hr.box
     unfold CbB at h1
     rw[h.box] at h1
     injection h1 with h1
     injection h1 with h1 h2
     exact absurd h2 (by decide)
   · exact row_ne hr.own hcb (by decide) e
 · rintro (e | e)
   · subst e
     have h1:=hr.box
     unfold CbB at h1
     rw[hme] at h1
     cases h1
   · obtain⟨cs,T,x,h1⟩:=nb _ e
     rw[hme] at h1
     cases h1
 · rintro q hq (e | e)
   · subst e
     exact own_ne' (by decide) hr.box hz hq
   · exact row_own_ne hr.own hz (by decide) q hq e
section
variable {H:Type} {enc:TypeId×Value→H} {W:World}
theorem list_of {α:Type} {Q:Nat→α→Prop}:∀(n:Nat),(∀i,i<n→∃q,Q i q)→∃l:List α,l.length=n∧∀(i:Nat) (q:α),l[i]? = some q→Q i q
 | 0,_=>⟨[],rfl,fun i q h=>by simp at h⟩
 | n + 1,h=>by
   obtain⟨l,hl,hq⟩:=list_of n fun i hi=>h i (by omega)
   obtain⟨q,hn⟩:=h n (by omega)
   refine⟨l++[q],by simp[hl],fun i p hp=>?_⟩
   rcases Nat.lt_or_ge i n with hi | hi
   · exact hq i p (by rwa [List.getElem?_append_left (by omega)] at hp)
   · rw[List.getElem?_append_right (by omega)] at hp
     obtain⟨hj,hp⟩:=List.getElem?_eq_some_iff.1 hp
     simp at hj hp
     subst hp
     obtain rfl:i=n:=by omega
     exact hn
end
def foldK (l:RgL):List KArg→RgL
 | []=>l
 | q::r=>foldK (addP (q.t,q.g) q.k l).2 r
theorem foldK_snoc (q:KArg):∀(ks:List KArg) (l:RgL),foldK l (ks++[q])=(addP (q.t,q.g) q.k (foldK l ks)).2
 | [],l=>rfl
 | p::r,l=>foldK_snoc q r _
theorem addP_len (x:Nat×Nat) (k:List Nat) (l:RgL):(addP x k l).2.length≤l.length+1:=by
 unfold addP
 split
 · split <;> simp
 · simp
theorem foldK_len:∀(ks:List KArg) (l:RgL),(foldK l ks).length≤l.length+ks.length
 | [],l=>by simp[foldK]
 | q::r,l=>by
   have h1:=foldK_len r (addP (q.t,q.g) q.k l).2
   have h2:=addP_len (q.t,q.g) q.k l
   rw[foldK,List.length_cons]
   omega
theorem keep_cell {w W:World} {x:Addr} {j:Nat} {v:Value} (h:w.cell? (x.add j)=some v) (hx:x.block<w.heap.size) (hb:Below w.heap.size w W):W.cell? (x.add j)=some v:=by
 rw[←h]
 exact World.cell?_of_block (hb.block _ (by rw[add_block];exact hx))
theorem keep_cell2 {w W:World} {x:Addr} {j k:Nat} {v:Value} (h:w.cell? (x.add (j+(k+1)))=some v) (hx:x.block<w.heap.size) (hb:Below w.heap.size w W):W.cell? ⟨(x.add j).block,(x.add j).off+(k+1),none⟩=some v:=by
 have h2:=keep_cell h hx hb
 rw[←Go.Deep.add_add] at h2
 exact h2
def Two (B g m g2:Nat) (l:RgL) (W:World):Prop:=RgB W B g m l∧∃v vs,RkB W B g2 v vs l
theorem rkAdd_far (B g t gn:Nat) (v:Value) (vs:List ((Nat×Nat)×Value)) (l:RgL) (kA:Option Addr) (kn kc:Nat) (key:List Nat) (w0 w:World) (h:RkB w B g v vs l) (hB:w0.heap.size≤B) (ht:t<4294967296) (hg:gn<65536) (h200:l.length≤1000) (ik0:IsB w0 kA kn kc key) (ik:IsB w kA kn kc key):
 Calls Tryz.prog 45 #[.pointer (some ⟨g,0,none⟩),.int .u32 (t:Int),.int .u16 (gn:Int),.slice kA kn kc] w fun e w'=>∃v' vs',e = .returned (.int .i64 ((addP (t,gn) key l).1:Int))∧RkB w' B g v' vs' (addP (t,gn) key l).2∧Fr w w' (fun k=>k=g∨v.ownBlock=some k):=by
 by_cases hk:kn=16∨kn=32
 · refine rkAdd_any B g t gn v vs l kA kn kc key w h ht hg h200 ik fun x hx hv=>?_
   obtain⟨y,hy,hl,_⟩:=ik0.cell (by omega)
   rw[hx] at hy
   injection hy with hy
   subst hy
   have:=own_ge9 h.own _ hv
   omega
 · have hlen:=ik.len
   refine (rkAdd_arg g _ _ kA kn kc w hk).mono ?_
   rintro e w' ⟨rfl,rfl⟩
   have e1:addP (t,gn) key l=(2,l):=by unfold addP;rw[if_neg (by omega)]
   rw[e1]
   exact⟨v,vs,rfl,h,Fr.of (Below.refl _ _) _⟩
def blkL (L:List Nat) (i:Nat):List Nat:=(L.drop (i*256)).take 256
def putD (L b:List Nat) (i:Nat):List Nat:=L.take (i*256)++(b++L.drop (i*256+b.length))
theorem putD_len {L b:List Nat} {i:Nat} (hL:L.length=2048) (hi:i<8) (hb:b.length≤256):(putD L b i).length=2048:=by
 simp only[putD,List.length_append,List.length_take,List.length_drop]
 omega
theorem putD_byt {L b:List Nat} {i:Nat} (hL:Byt L) (hb:Byt b):Byt (putD L b i):=by
 intro x hx
 simp only[putD,List.mem_append] at hx
 rcases hx with hx | hx | hx
 · exact hL x (List.mem_of_mem_take hx)
 · exact hb x hx
 · exact hL x (List.mem_of_mem_drop hx)
theorem blkL_byt {L:List Nat} {i:Nat} (hL:Byt L):Byt (blkL L i):=fun x hx=>hL x (List.mem_of_mem_drop (List.mem_of_mem_take hx))
section
variable {P:Program}
theorem run_loadSub (w:World) (x:Addr) (ty:TypeId) (cs:Array Value) (d:TypeDesc) (hc:∀j v,cs[j]? = some v→w.cell? (x.add j)=some v)
 (hu:P.underlying ty=some d) (hd:(match d with | .struct _ | .array _ _=>true | _=>false)=true) (hi:(P.info? ty).map (·.size)=some cs.size):
 (loadVar ty x).run P w = .ok (.agg cs) w:=by
 have hl:(loadCells x cs.toList.length).run P w = .ok cs.toList.toArray w:=
  run_loadCells_list (P:=P) w x cs.toList (fun j v hv=>hc j v (by simpa using hv))
 cases hq:P.info? ty with
 | none=>simp[hq] at hi
 | some i=>
   have hs:i.size=cs.size:=by simpa[hq] using hi
   have hagg:(isAgg ty).run P w = .ok true w:=by
    unfold isAgg
    rw[Sem.run_bind,run_underlying hu w]
    cases d <;> simp_all
   simp only[Array.length_toList,Array.toArray_toList] at hl
   simp[loadVar,Sem.run_bind,hagg,sizeOf,typeInfo,hq,hs,hl]
theorem wpList_loadSub {ops:Array Oper} {rest:List Oper} {o:Oper} {a:Act} {w:World} {Q:Exit→Act→World→Prop} (hgd:o.guard=none) (ty:TypeId) (x:Operand) (ho:o.op = .load ty x)
 (y:Addr) (hx:a.eval x = .pointer (some y)) (cs:Array Value) (d:TypeDesc) (hc:∀j v,cs[j]? = some v→w.cell? (y.add j)=some v)
 (hu:P.underlying ty=some d) (hd:(match d with | .struct _ | .array _ _=>true | _=>false)=true) (hi:(P.info? ty).map (·.size)=some cs.size)
 (h:wpList P ops Q rest (a.put o.dst (.agg cs)) w):wpList P ops Q (o::rest) a w:=by
 refine wpList_plain hgd fun _ hK=>?_
 unfold Oper.wp execOp
 simp only[ho,hx,Instr.loadAt,Instr.sureAddr,Sem.run_bind,Sem.run_pure,Result.andThen_ok,run_loadSub w y ty cs d hc hu hd hi]
 exact hK _ _ h
end
theorem Bk.sub {w:World} {g:Nat} {T:TypeId} {L:List Nat} (h:Bk w g T L) (i:Nat):∀(j:Nat) (v:Value),(bts (blkL L i))[j]? = some v→w.cell? ((⟨g,i*256,none⟩:Addr).add j)=some v:=fun j v hv=>by
 have hj:j<(blkL L i).length:=by rw[←bts_size];exact (Array.getElem?_eq_some_iff.1 hv).1
 rw[bts_get _ _ hj] at hv
 have h1:i*256+j<L.length:=by
  simp only[blkL,List.length_take,List.length_drop] at hj
  omega
 have h2:(blkL L i)[j]? = L[i*256+j]?:=by
  have h3:j<256:=by simp only[blkL,List.length_take] at hj;omega
  simp only[blkL,List.getElem?_take,List.getElem?_drop,if_pos h3]
 rw[Addr.add_mid,h.cell h1,←h2]
 exact hv
theorem Bk.fr {w w':World} {g:Nat} {T:TypeId} {l:List Nat} {F:Nat→Prop} (h:Bk w g T l) (hf:Fr w w' F) (hn:¬F g):Bk w' g T l:=(hf.block g h.lt hn).trans h
structure RdB (w:World) (B g:Nat) (v1 v2:Value) (b1 b2:List Nat) (st cut:Int) (down:Bool) (L:List Nat):Prop where
 box:CbB w g 68 #[v1,v2,.slice none 0 0,.int .u64 st,.int .i64 0,.int .i64 cut,.bool down]
 own1:w.ownsRow B 41 1 v1 b1.length (b1.map fun b=>.slice (some ⟨b,0,none⟩) 256 256)
 own2:w.ownsRow B 41 1 v2 b2.length (b2.map fun b=>.slice (some ⟨b,0,none⟩) 256 256)
 ne12:∀k,v1.ownBlock=some k→v2.ownBlock≠some k
 at1:∀(i b:Nat),b1[i]? = some b→B≤b∧Bk w b 5 (blkL L i)
 at2:∀(i b:Nat),b2[i]? = some b→B≤b∧∃l,Bk w b 5 l∧l.length=256
 nd:(b1++b2).Nodup
 low:B≤g
theorem RdB.fr {w w':World} {B g:Nat} {v1 v2:Value} {b1 b2:List Nat} {st cut:Int} {down:Bool} {L:List Nat} {F:Nat→Prop} (h:RdB w B g v1 v2 b1 b2 st cut down L) (hf:Fr w w' F) (hn:∀k,F k→k<B):RdB w' B g v1 v2 b1 b2 st cut down L:=by
 have hF:∀k,B≤k→¬F k:=fun k hk e=>by have:=hn k e;omega
 refine⟨h.box.fr hf (hF _ h.low),row_fr h.own1 hf (fun k hk=>hF k (own_ge9 h.own1 k hk)),row_fr h.own2 hf (fun k hk=>hF k (own_ge9 h.own2 k hk)),h.ne12,fun i b hi=>?_,fun i b hi=>?_,h.nd,h.low⟩
 · obtain⟨k1,k2⟩:=h.at1 i b hi
   exact⟨k1,k2.fr hf (hF b k1)⟩
 · obtain⟨k1,l,k2,k3⟩:=h.at2 i b hi
   exact⟨k1,l,k2.fr hf (hF b k1),k3⟩
set_option linter.unusedSimpArgs false
theorem fr_cell (w:World) (g k:Nat) (v:Value):Fr w (w.setCell ⟨g,k,none⟩ v) (fun q=>q=g):=(Fr.grown (grown_cell w g k v)).imp fun q hq=>by injection hq with hq;exact hq.symm
end Go.Proofs.YtlobgddnlnffbaaGreat
