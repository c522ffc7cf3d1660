/-
  Parts of the proof, joined.
-/
import Derived.Test.YtljmiiiidjeggaaGreatBdu
import Derived.Test.YtljmiiiidjeggaaGreatBdt
import Derived.BigRegion
namespace Go.Proofs.YtljmiiiidjeggaaGreat
set_option maxHeartbeats 16000000
open Go.RowKit
set_option linter.unusedVariables false
set_option linter.unusedSimpArgs false
theorem zero_page (w:World):(zeroValue 107).run Tryz.prog w = .ok (.agg #[.int .u32 0,.int .u8 0,.int .u8 0,.int .u32 0,.int .u64 0,.int .u16 0,.slice none 0 0]) w:=by kernel_rfl
theorem szPg (x:Value) (l:Lb):(Tryz.prog.info? 107).map (·.size)=some (#[.int .u32 (l.ten:Int),.int .u8 (l.k:Int),.int .u8 (l.lv:Int),.int .u32 (l.pg:Int),.int .u64 (l.cm:Int),.int .u16 (l.gn:Int),x]:Array Value).size:=by kernel_rfl
def RdR (N:Nat) (l:List Nat) (v:Value) (W:World):Prop:=∃g,v = .tuple #[.slice (some ⟨g,0,none⟩) 256 256,.int .i64 0]∧N≤g∧IsB W (some ⟨g,0,none⟩) 256 256 l
theorem RdR.mono {N:Nat} {l:List Nat}:Mono (RdR N l):=fun _ _ _ ⟨g,h1,h2,h3⟩ hb=>⟨g,h1,h2,h3.ab hb⟩
def RsR9 (N:Nat) (l:List Nat) (v:Value) (W:World):Prop:=∃g,v = .slice (some ⟨g,0,none⟩) 256 256∧N≤g∧IsB W (some ⟨g,0,none⟩) 256 256 l
theorem RsR9.mono {N:Nat} {l:List Nat}:Mono (RsR9 N l):=fun _ _ _ ⟨g,h1,h2,h3⟩ hb=>⟨g,h1,h2,h3.ab hb⟩
theorem open_len (key:List Nat) (l:Lb) (s:List Nat):(openP key l s).1.length≤65552:=by
 unfold openP
 split
 · split
   · unfold openS
     split
     · split
       · exact Nat.zero_le _
       · split
         · exact Nat.zero_le _
         · split
           · simp only[cryptA_len,List.length_take];omega
           · exact Nat.zero_le _
     · exact Nat.zero_le _
   · exact Nat.zero_le _
 · exact Nat.zero_le _
theorem fr_row9 (w:World) (g:Nat) (cs:Array Value):w.grownBy (w.setRow g cs) (some g):=⟨rfl,rfl,rfl,by simp,fun i _ hn=>setRow_other w g i cs (fun e=>hn (by rw[e]))⟩
theorem eq_lab_self (a:Lb) (W:World):(Op.equalIn 10000 66 (.agg #[.int .u32 (a.ten:Int),.int .u8 (a.k:Int),.int .u8 (a.lv:Int),.int .u32 (a.pg:Int),.int .u64 (a.cm:Int),.int .u16 (a.gn:Int)]) (.agg #[.int .u32 (a.ten:Int),.int .u8 (a.k:Int),.int .u8 (a.lv:Int),.int .u32 (a.pg:Int),.int .u64 (a.cm:Int),.int .u16 (a.gn:Int)])).run Tryz.prog W = .ok true W:=by rw[eq_lab,decide_eq_true rfl]
theorem OwB.notMapP {w:World} {B m:Nat} {v:Value} {l:List Nat} {vs:List (Nat×Value)} (h:OwB w B v l) (hm:MapB u32Vp u32Okp w m vs):v.ownBlock≠Option.some m:=by
 obtain⟨es,clock,h1,_⟩:=hm
 rcases h.own.2 with ⟨rfl,_⟩ | ⟨g,cap,cur,rfl,_,hb,_⟩
 · simp[Value.ownBlock]
 · intro e
   simp only[Value.ownBlock,Option.some.injEq] at e
   subst e
   rw[hb] at h1
   cases h1
theorem getK_mem {x:Nat} {l:KnL} {k:Lb×List Nat} (h:getK x l=some k):(x,k)∈l:=by
 unfold getK at h
 obtain⟨p,hp,rfl⟩:=Option.map_eq_some_iff.1 h
 have h1:=List.mem_of_find?_eq_some hp
 have h2:=List.find?_some hp
 simp only[decide_eq_true_eq] at h2
 subst h2
 exact h1
def GetR (w:World) (O:Tgm) (p d rg lg:Nat) (q:Nat×List Nat×PgP) (e:Ending) (w':World):Prop:=∃v O',e = .returned (.tuple #[v,.int .i64 (q.1:Int)])∧OwB w' w.heap.size v q.2.1∧PgM w' O' p d rg lg q.2.2∧Wr (fun τ=>τ=(p,2)) w O w' O'
theorem GetR.err {w w':World} {O:Tgm} {p d rg lg:Nat} {T:PgP} (h:PgM w O p d rg lg T) (hb:Below w.heap.size w w') (e:Nat):GetR w O p d rg lg (e,[],T) (.returned (.tuple #[.slice none 0 0,.int .i64 (e:Int)])) w':=
 ⟨_,_,rfl,OwB.nil _ _,h.wr (Wr.cut (O:=O) hb (fun _=>False)) (fun _=>id) id,Wr.cut hb _⟩
def getP (R:RgL) (D:DvS) (T:PgP) (l:Lb):Nat×List Nat×PgP:=
 if T.fa=true then (190,[],T) else
 if ¬(1≤l.k∧l.k≤3) then (2,[],T) else
 if ¬(1<l.pg∧l.pg<D.n) then (2,[],T) else
 match getK l.pg T.kn with
 | some k=>if k.1=l then (0,k.2,T) else (210,[],T)
 | none=>if hasR T.fr l.pg=true then (210,[],T) else
   if D.down=true then (81,[],T) else
   match getR (l.ten,l.gn) R with
   | none=>(210,[],T)
   | some key=>if (openP key l (blkL D.now l.pg)).2=0 then (0,(openP key l (blkL D.now l.pg)).1,{ T with kn:=T.kn++[(l.pg,(l,(openP key l (blkL D.now l.pg)).1))] }) else (210,[],T)
set_option maxRecDepth 100000 in
theorem get_fails {w:World} {O:Tgm} {p d rg lg:Nat} {T:PgP} {l:Lb} (h:PgM w O p d rg lg T) (hf:T.fa=true):
 Calls Tryz.prog 11 #[.pointer (some ⟨p,0,none⟩),.int .u32 (l.ten:Int),.int .u8 (l.k:Int),.int .u8 (l.lv:Int),.agg #[.int .u32 (l.pg:Int),.int .u64 (l.cm:Int),.int .u16 (l.gn:Int)]] w (GetR w O p d rg lg (190,[],T)):=by
 have H0:=Lib.hid h
 obtain⟨b,hN,hbd,hbr,hbl⟩:=h
 have N0:=Lib.hid fun W (hW:Below w.heap.size w W)=>hN.wr (Wr.cut (O:=O) hW (fun _=>False)) (fun _=>id) id
 have HM:=Lib.hid fun W hW=>may_any (N0.out W hW).box
 have B1:Hid (Below w.heap.size w (w.alloc (.cells #[.int .u32 (l.pg:Int),.int .u64 (l.cm:Int),.int .u16 (l.gn:Int)] 37))):=Lib.hid ((Below.refl _ _).alloc (Nat.le_refl _) _)
 rw[show mayP (pcS b T)=190 from by unfold mayP pcS;rw[hf];rfl] at HM
 clear hf hN
 go_enter Tryz.func11,Tryz.ntmps11
 go_wp2_with fail
 refine (HM.out _ B1.out).mono ?_
 rintro e w1 ⟨rfl,rfl⟩
 go_wp2_with fail
 go_ret2
 exact GetR.err H0.out B1.out 190
set_option maxRecDepth 100000 in
theorem get_kind {w:World} {O:Tgm} {p d rg lg:Nat} {T:PgP} {l:Lb} (h:PgM w O p d rg lg T) (hf:T.fa=false) (hk:¬(1≤l.k∧l.k≤3)):
 Calls Tryz.prog 11 #[.pointer (some ⟨p,0,none⟩),.int .u32 (l.ten:Int),.int .u8 (l.k:Int),.int .u8 (l.lv:Int),.agg #[.int .u32 (l.pg:Int),.int .u64 (l.cm:Int),.int .u16 (l.gn:Int)]] w (GetR w O p d rg lg (2,[],T)):=by
 have H0:=Lib.hid h
 obtain⟨b,hN,hbd,hbr,hbl⟩:=h
 have N0:=Lib.hid fun W (hW:Below w.heap.size w W)=>hN.wr (Wr.cut (O:=O) hW (fun _=>False)) (fun _=>id) id
 have HM:=Lib.hid fun W hW=>may_any (N0.out W hW).box
 have B1:Hid (Below w.heap.size w (w.alloc (.cells #[.int .u32 (l.pg:Int),.int .u64 (l.cm:Int),.int .u16 (l.gn:Int)] 37))):=Lib.hid ((Below.refl _ _).alloc (Nat.le_refl _) _)
 rw[show mayP (pcS b T)=0 from by unfold mayP pcS;rw[hf];rfl] at HM
 clear hf hN
 by_cases hk1:1≤l.k
 · have k1:decide ((l.k:Int)<1)=false:=decide_eq_false (by omega)
   have k2:decide ((3:Int)<(l.k:Int))=true:=decide_eq_true (by omega)
   clear hk hk1
   go_enter Tryz.func11,Tryz.ntmps11
   go_wp2_with fail
   refine (HM.out _ B1.out).mono ?_
   rintro e w1 ⟨rfl,rfl⟩
   go_wp2_with fail
   go_ret2
   exact GetR.err H0.out B1.out 2
 · have k1:decide ((l.k:Int)<1)=true:=decide_eq_true (by omega)
   clear hk hk1
   go_enter Tryz.func11,Tryz.ntmps11
   go_wp2_with fail
   refine (HM.out _ B1.out).mono ?_
   rintro e w1 ⟨rfl,rfl⟩
   go_wp2_with fail
   go_ret2
   exact GetR.err H0.out B1.out 2
set_option maxRecDepth 100000 in
theorem get_has {w:World} {O:Tgm} {p d rg lg:Nat} {T:PgP} {l:Lb} (h:PgM w O p d rg lg T) {D:DvS} (hD:DvM w O d D) (hl:l.Ok) (hf:T.fa=false) (hk:1≤l.k∧l.k≤3) (hp:¬(1<l.pg∧l.pg<D.n)):
 Calls Tryz.prog 11 #[.pointer (some ⟨p,0,none⟩),.int .u32 (l.ten:Int),.int .u8 (l.k:Int),.int .u8 (l.lv:Int),.agg #[.int .u32 (l.pg:Int),.int .u64 (l.cm:Int),.int .u16 (l.gn:Int)]] w (GetR w O p d rg lg (2,[],T)):=by
 have H0:=Lib.hid h
 obtain⟨b,hN,hbd,hbr,hbl⟩:=h
 have N0:=Lib.hid fun W (hW:Below w.heap.size w W)=>hN.wr (Wr.cut (O:=O) hW (fun _=>False)) (fun _=>id) id
 have HM:=Lib.hid fun W hW=>may_any (N0.out W hW).box
 have B1:Hid (Below w.heap.size w (w.alloc (.cells #[.int .u32 (l.pg:Int),.int .u64 (l.cm:Int),.int .u16 (l.gn:Int)] 37))):=Lib.hid ((Below.refl _ _).alloc (Nat.le_refl _) _)
 rw[show mayP (pcS b T)=0 from by unfold mayP pcS;rw[hf];rfl] at HM
 have HH:Hid (∀W,Below w.heap.size w W→Calls Tryz.prog 37 #[.pointer (some ⟨p,0,none⟩),.int .u32 (l.pg:Int)] W fun e w'=>e = .returned (.bool false)∧W=w'):=Lib.hid fun W hW=>by
  obtain⟨g1,g2,wv,k1,_⟩:=hD.wr (Wr.cut (O:=O) hW (fun _=>False)) id
  rw[←hbd] at k1
  refine (phas_any l.pg hl.pg (N0.out W hW).box k1).mono ?_
  rw[show (decide (1<l.pg)&&decide (l.pg<D.n))=false from by rw[←Bool.decide_and];exact decide_eq_false hp]
  exact fun _ _ h=>h
 have k1:decide ((l.k:Int)<1)=false:=decide_eq_false (by omega)
 have k2:decide ((3:Int)<(l.k:Int))=false:=decide_eq_false (by omega)
 clear hf hN hk hp hl hD
 go_enter Tryz.func11,Tryz.ntmps11
 go_wp2_with fail
 refine (HM.out _ B1.out).mono ?_
 rintro e w1 ⟨rfl,rfl⟩
 go_wp2_with fail
 refine (HH.out _ B1.out).mono ?_
 rintro e w1 ⟨rfl,rfl⟩
 go_wp2_with fail
 go_ret2
 exact GetR.err H0.out B1.out 2
set_option maxRecDepth 100000 in
theorem get_miss {w:World} {O:Tgm} {p d rg lg:Nat} {T:PgP} {l:Lb} (h:PgM w O p d rg lg T) {R:RgL} {D:DvS} (hD:DvM w O d D) (hR:RgM w O rg R) (okD:D.Ok) (hl:l.Ok) (hf:T.fa=false) (hk:1≤l.k∧l.k≤3) (hp:1<l.pg∧l.pg<D.n) (hn:getK l.pg T.kn=none):
 Calls Tryz.prog 11 #[.pointer (some ⟨p,0,none⟩),.int .u32 (l.ten:Int),.int .u8 (l.k:Int),.int .u8 (l.lv:Int),.agg #[.int .u32 (l.pg:Int),.int .u64 (l.cm:Int),.int .u16 (l.gn:Int)]] w (GetR w O p d rg lg (if hasR T.fr l.pg=true then (210,[],T) else if D.down=true then (81,[],T) else match getR (l.ten,l.gn) R with | none=>(210,[],T) | some key=>if (openP key l (blkL D.now l.pg)).2=0 then (0,(openP key l (blkL D.now l.pg)).1,{ T with kn:=T.kn++[(l.pg,(l,(openP key l (blkL D.now l.pg)).1))] }) else (210,[],T))):=by
 obtain⟨q9,hq9⟩:∃q9,(if hasR T.fr l.pg=true then (210,[],T) else if D.down=true then (81,[],T) else match getR (l.ten,l.gn) R with | none=>(210,[],T) | some key=>if (openP key l (blkL D.now l.pg)).2=0 then (0,(openP key l (blkL D.now l.pg)).1,{ T with kn:=T.kn++[(l.pg,(l,(openP key l (blkL D.now l.pg)).1))] }) else (210,[],T))=q9:=⟨_,rfl⟩
 rw[hq9]
 have HQ:=Lib.hid hq9
 clear hq9
 have H0:=Lib.hid h
 obtain⟨b,hN,hbd,hbr,hbl⟩:=h
 have N0:=Lib.hid fun W (hW:Below w.heap.size w W)=>hN.wr (Wr.cut (O:=O) hW (fun _=>False)) (fun _=>id) id
 have HM:=Lib.hid fun W hW=>may_any (N0.out W hW).box
 have B1:Hid (Below w.heap.size w (w.alloc (.cells #[.int .u32 (l.pg:Int),.int .u64 (l.cm:Int),.int .u16 (l.gn:Int)] 37))):=Lib.hid ((Below.refl _ _).alloc (Nat.le_refl _) _)
 rw[show mayP (pcS b T)=0 from by unfold mayP pcS;rw[hf];rfl] at HM
 have HH:Hid (∀W,Below w.heap.size w W→Calls Tryz.prog 37 #[.pointer (some ⟨p,0,none⟩),.int .u32 (l.pg:Int)] W fun e w'=>e = .returned (.bool true)∧W=w'):=Lib.hid fun W hW=>by
  obtain⟨g1,g2,wv,k1,_⟩:=hD.wr (Wr.cut (O:=O) hW (fun _=>False)) id
  rw[←hbd] at k1
  refine (phas_any l.pg hl.pg (N0.out W hW).box k1).mono ?_
  rw[decide_eq_true hp.1,decide_eq_true hp.2]
  exact fun _ _ h=>h
 have k1:decide ((l.k:Int)<1)=false:=decide_eq_false (by omega)
 have k2:decide ((3:Int)<(l.k:Int))=false:=decide_eq_false (by omega)
 have C0:Hid (∀W,Below w.heap.size w W→W.cell? ⟨p,4,none⟩=some (.map (some b.kn))):=Lib.hid fun W hW=>CbB.cell (N0.out W hW).box (k:=4) rfl
 have C1:Hid (∀W,Below w.heap.size w W→W.cell? ⟨p,0,none⟩=some (.pointer (some ⟨d,0,none⟩))):=Lib.hid fun W hW=>by rw[←hbd];exact CbB.cell (N0.out W hW).box (k:=0) rfl
 have C2:Hid (∀W,Below w.heap.size w W→W.cell? ⟨p,1,none⟩=some (.pointer (some ⟨rg,0,none⟩))):=Lib.hid fun W hW=>by rw[←hbr];exact CbB.cell (N0.out W hW).box (k:=1) rfl
 have HI:=Lib.hid fun W hW=>isFree_any l.pg (N0.out W hW)
 obtain⟨vs0,hkm,hkv⟩:=hN.kn
 have hnok:u32Okp l.pg:=hl.pg
 have e1:lookL l.pg vs0=none:=by
  rcases hkv.look l.pg with ⟨e1,_⟩ | ⟨_,_,_,e2,_⟩
  · exact e1
  · rw[hn] at e2;cases e2
 have LK:Hid (∀W,Below w.heap.size w W→(Instr.lookup 98 (.map (some b.kn)) (.int .u32 (l.pg:Int)) true).run Tryz.prog W = .ok (.tuple #[.agg #[.int .u32 0,.int .u8 0,.int .u8 0,.int .u32 0,.int .u64 0,.int .u16 0,.slice none 0 0],.bool false]) W):=Lib.hid fun W hW=>(hkm.low hW hkm.lt).look_none u32p_K Tryz.underlying98 hnok e1 (zero_page W) true
 have KM:=Lib.hid (And.intro hkm (And.intro hkv (And.intro hnok e1)))
 have HL:=Lib.hid hl
 have HD:=Lib.hid hD
 have HP:=Lib.hid hp
 have OK:=Lib.hid okD
 have hnw:IntKind.i64.wrap (l.pg:Int)=(l.pg:Int):=wrap_i64P (by omega) (by have:=hl.pg;omega)
 have HK:Hid (∀W,Below w.heap.size w W→Calls Tryz.prog 39 #[.pointer (some ⟨rg,0,none⟩),.int .u32 (l.ten:Int),.int .u16 (l.gn:Int)] W (OutB W (keyP (l.ten,l.gn) R).1 (keyP (l.ten,l.gn) R).2)):=Lib.hid fun W hW=>by
  obtain⟨m,hm⟩:=(hR.wr (Wr.cut (O:=O) hW (fun _=>False)) id id).rg
  exact ringKey_any 0 rg m l.ten l.gn R W hm hl.ten hl.gn
 have HPost:Hid (getK l.pg T.kn=none∧lookL l.pg vs0=none):=Lib.hid ⟨hn,e1⟩
 have NN:=Lib.hid hN
 have HB:=Lib.hid (And.intro hbd (And.intro hbr hbl))
 clear hf hN hk hp hl hkm hkv hnok e1 hn hbd hbr hbl okD hD hR
 go_enter Tryz.func11,Tryz.ntmps11
 go_wp2_with fail
 refine (HM.out _ B1.out).mono ?_
 rintro e w1 ⟨rfl,rfl⟩
 go_wp2_with fail
 refine (HH.out _ B1.out).mono ?_
 rintro e w1 ⟨rfl,rfl⟩
 go_upto_region 7 with (fail)
 have b7:Below w.heap.size w ((w.alloc (.cells #[.int .u32 (l.pg:Int),.int .u64 (l.cm:Int),.int .u16 (l.gn:Int)] 37)).alloc (.cells #[.int .u32 (l.ten:Int),.int .u8 (l.k:Int),.int .u8 (l.lv:Int),.int .u32 (l.pg:Int),.int .u64 (l.cm:Int),.int .u16 (l.gn:Int)] 66)):=B1.out.alloc B1.out.size _
 have rb7:CbB ((w.alloc (.cells #[.int .u32 (l.pg:Int),.int .u64 (l.cm:Int),.int .u16 (l.gn:Int)] 37)).alloc (.cells #[.int .u32 (l.ten:Int),.int .u8 (l.k:Int),.int .u8 (l.lv:Int),.int .u32 (l.pg:Int),.int .u64 (l.cm:Int),.int .u16 (l.gn:Int)] 66)) w.heap.size 37 #[.int .u32 (l.pg:Int),.int .u64 (l.cm:Int),.int .u16 (l.gn:Int)]:=(CbB.new _ _ _).ab ((Below.refl _ _).alloc (Nat.le_refl _) _)
 have lb7:CbB ((w.alloc (.cells #[.int .u32 (l.pg:Int),.int .u64 (l.cm:Int),.int .u16 (l.gn:Int)] 37)).alloc (.cells #[.int .u32 (l.ten:Int),.int .u8 (l.k:Int),.int .u8 (l.lv:Int),.int .u32 (l.pg:Int),.int .u64 (l.cm:Int),.int .u16 (l.gn:Int)] 66)) (w.heap.size+1) 66 #[.int .u32 (l.ten:Int),.int .u8 (l.k:Int),.int .u8 (l.lv:Int),.int .u32 (l.pg:Int),.int .u64 (l.cm:Int),.int .u16 (l.gn:Int)]:=by
  have:=CbB.new (w.alloc (.cells #[.int .u32 (l.pg:Int),.int .u64 (l.cm:Int),.int .u16 (l.gn:Int)] 37)) 66 #[.int .u32 (l.ten:Int),.int .u8 (l.k:Int),.int .u8 (l.lv:Int),.int .u32 (l.pg:Int),.int .u64 (l.cm:Int),.int .u16 (l.gn:Int)]
  simpa using this
 obtain⟨w7,hw7⟩:∃w7,(w.alloc (.cells #[.int .u32 (l.pg:Int),.int .u64 (l.cm:Int),.int .u16 (l.gn:Int)] 37)).alloc (.cells #[.int .u32 (l.ten:Int),.int .u8 (l.k:Int),.int .u8 (l.lv:Int),.int .u32 (l.pg:Int),.int .u64 (l.cm:Int),.int .u16 (l.gn:Int)] 66)=w7:=⟨_,rfl⟩
 rw[hw7] at b7 rb7 lb7⊢
 have B7:=Lib.hid b7
 have RB7:=Lib.hid rb7
 have LB7:=Lib.hid lb7
 clear hw7 b7 rb7 lb7 B1 HM HH k1 k2
 have c04:w7.cell? ⟨p,4,none⟩=some (.map (some b.kn)):=C0.out w7 B7.out
 have c08:w7.cell? ⟨w.heap.size,0,none⟩=some (.int .u32 (l.pg:Int)):=RB7.out.cell (k:=0) rfl
 have ba7:Below w.heap.size w (w7.alloc (.cells #[.int .u32 0,.int .u8 0,.int .u8 0,.int .u32 0,.int .u64 0,.int .u16 0,.slice none 0 0] 107)):=B7.out.alloc B7.out.size _
 have lk7:=LK.out w7.drew ⟨B7.out.os,B7.out.tape,B7.out.output,B7.out.size,B7.out.block⟩
 have c05:(w7.alloc (.cells #[.int .u32 0,.int .u8 0,.int .u8 0,.int .u32 0,.int .u64 0,.int .u16 0,.slice none 0 0] 107)).cell? ⟨p,4,none⟩=some (.map (some b.kn)):=C0.out _ ba7
 have c09:(w7.alloc (.cells #[.int .u32 0,.int .u8 0,.int .u8 0,.int .u32 0,.int .u64 0,.int .u16 0,.slice none 0 0] 107)).cell? ⟨w.heap.size,0,none⟩=some (.int .u32 (l.pg:Int)):=(RB7.out.ab ((Below.refl _ _).alloc (Nat.le_refl _) _)).cell (k:=0) rfl
 have lk8:=LK.out (w7.alloc (.cells #[.int .u32 0,.int .u8 0,.int .u8 0,.int .u32 0,.int .u64 0,.int .u16 0,.slice none 0 0] 107)).drew ⟨ba7.os,ba7.tape,ba7.output,ba7.size,ba7.block⟩
 clear ba7
 go_region
 all_goals
  have pg9:CbB (w7.alloc (.cells #[.int .u32 0,.int .u8 0,.int .u8 0,.int .u32 0,.int .u64 0,.int .u16 0,.slice none 0 0] 107)).drew w7.heap.size 107 #[.int .u32 0,.int .u8 0,.int .u8 0,.int .u32 0,.int .u64 0,.int .u16 0,.slice none 0 0]:=CbB.new _ _ _
  have b79:Below w7.heap.size w7 (w7.alloc (.cells #[.int .u32 0,.int .u8 0,.int .u8 0,.int .u32 0,.int .u64 0,.int .u16 0,.slice none 0 0] 107)).drew:=(fun h=>⟨h.os,h.tape,h.output,h.size,h.block⟩) ((Below.refl _ w7).alloc (Nat.le_refl _) (.cells #[.int .u32 0,.int .u8 0,.int .u8 0,.int .u32 0,.int .u64 0,.int .u16 0,.slice none 0 0] 107))
  go_wp2_with fail
  obtain⟨w9,hw9⟩:∃w9,(w7.alloc (.cells #[.int .u32 0,.int .u8 0,.int .u8 0,.int .u32 0,.int .u64 0,.int .u16 0,.slice none 0 0] 107)).drew=w9:=⟨_,rfl⟩
  rw[hw9] at pg9 b79⊢
  have B9:=Lib.hid (below_tr B7.out b79 B7.out.size)
  have RB9:=Lib.hid (RB7.out.ab b79)
  have LB9:=Lib.hid (LB7.out.ab b79)
  obtain⟨G,hG⟩:∃G,w7.heap.size=G:=⟨_,rfl⟩
  have HG:Hid (w7.heap.size≤G):=Lib.hid (by rw[hG];exact Nat.le_refl _)
  rw[hG] at pg9⊢
  have PG9:=Lib.hid pg9
  clear hG pg9 b79 hw9 c04 c05 c08 c09 lk7 lk8
  refine (HI.out _ B9.out).mono ?_
  rintro e wa ⟨rfl,hba⟩
  have PGa:=Lib.hid (PG9.out.ab hba)
  have RBa:=Lib.hid (RB9.out.ab hba)
  have LBa:=Lib.hid (LB9.out.ab hba)
  have Ba:=Lib.hid (below_tr B9.out hba B9.out.size)
  clear hba HI
  cases hfr:hasR T.fr l.pg with
  | true=>
    have HFR:=Lib.hid hfr
    clear hfr
    go_wp2_with fail
    go_ret2
    rw[←HQ.out,if_pos HFR.out]
    exact GetR.err H0.out Ba.out 210
  | false=>
  have HFR:Hid (¬hasR T.fr l.pg=true):=Lib.hid (by rw[hfr];decide)
  clear hfr
  go_wp2_with fail
  cases hdn:D.down with
  | true=>
    have RD:Hid (∀W,Below w.heap.size w W→Calls Tryz.prog 22 #[.pointer (some ⟨d,0,none⟩),.int .i64 (l.pg:Int)] W fun e w'=>e = .returned (.tuple #[.slice none 0 0,.int .i64 81])∧W=w'):=Lib.hid fun W hW=>by
     obtain⟨g1,g2,wv,k1,_⟩:=HD.out.wr (Wr.cut (O:=O) hW (fun _=>False)) id
     exact read_down l.pg HP.out.2 hdn k1
    have HDN:=Lib.hid hdn
    clear hdn
    refine wp_wide3 [⟨60,IsR (.pointer (some ⟨p,0,none⟩)),[],false⟩,⟨61,IsR (.pointer (some ⟨p,0,none⟩)),[0],false⟩,⟨62,IsR (.pointer (some ⟨p,0,none⟩)),[1],false⟩,⟨63,IsR (.pointer (some ⟨d,0,none⟩)),[2],false⟩,⟨64,IsR (.pointer (some ⟨w.heap.size,0,none⟩)),[],false⟩,⟨65,IsR (.int .u32 (l.pg:Int)),[4],false⟩,⟨66,IsR (.int .i64 (l.pg:Int)),[5],false⟩,⟨67,IsR (.tuple #[.slice none 0 0,.int .i64 81]),[3,6],false⟩,⟨59,IsR (.tuple #[.slice none 0 0,.int .i64 81]),[7],false⟩,⟨68,IsR (.slice none 0 0),[8],false⟩,⟨69,IsR (.int .i64 81),[8],false⟩,⟨16,IsR (.slice none 0 0),[9],false⟩] (by kernel_rfl) (by kernel_rfl) rfl rfl rfl ⟨?_,?_,?_,?_,?_,?_,?_,?_,?_,?_,?_,?_,trivial⟩ ?_
    · refine⟨rfl,IsR.mono _,fun a W hA hb hd=>takes_plain rfl (yields_value _ ?_ rfl)⟩
      have h0:a.tmps[0]?.getD undef = .pointer (some ⟨p,0,none⟩):=(eval_get a 0).trans ((hA.eval (by simp)).trans rfl)
      go_simp
    · refine⟨rfl,IsR.mono _,fun a W hA hb hd=>takes_plain rfl (yields_value _ ?_ rfl)⟩
      have h60:a.tmps[60]?.getD undef = .pointer (some ⟨p,0,none⟩):=(eval_get a 60).trans (hd 0 (by simp) _ rfl)
      go_simp
    · refine⟨rfl,IsR.mono _,fun a W hA hb hd=>takes_plain rfl (yields_value _ ?_ rfl)⟩
      have h61:a.tmps[61]?.getD undef = .pointer (some ⟨p,0,none⟩):=(eval_get a 61).trans (hd 1 (by simp) _ rfl)
      go_simp
    · refine⟨rfl,IsR.mono _,fun a W hA hb hd=>takes_plain rfl (yields_value _ ?_ rfl)⟩
      have h62:a.tmps[62]?.getD undef = .pointer (some ⟨p,0,none⟩):=(eval_get a 62).trans (hd 2 (by simp) _ rfl)
      have hc:=C1.out W (below_tr Ba.out hb Ba.out.size)
      go_simp
    · refine⟨rfl,IsR.mono _,fun a W hA hb hd=>takes_plain rfl (yields_value _ ?_ rfl)⟩
      have h9:a.tmps[9]?.getD undef = .pointer (some ⟨w.heap.size,0,none⟩):=(eval_get a 9).trans ((hA.eval (by simp)).trans rfl)
      go_simp
    · refine⟨rfl,IsR.mono _,fun a W hA hb hd=>takes_plain rfl (yields_value _ ?_ rfl)⟩
      have h64:a.tmps[64]?.getD undef = .pointer (some ⟨w.heap.size,0,none⟩):=(eval_get a 64).trans (hd 4 (by simp) _ rfl)
      have hc:=(RBa.out.ab hb).cell (k:=0) rfl
      go_simp
    · refine⟨rfl,IsR.mono _,fun a W hA hb hd=>takes_plain rfl (yields_value _ ?_ rfl)⟩
      have h65:a.tmps[65]?.getD undef = .int .u32 (l.pg:Int):=(eval_get a 65).trans (hd 5 (by simp) _ rfl)
      go_simp
    · refine⟨rfl,IsR.mono _,fun a W hA hb hd=>takes_plain rfl ?_⟩
      have h63:a.tmps[63]?.getD undef = .pointer (some ⟨d,0,none⟩):=(eval_get a 63).trans (hd 3 (by simp) _ rfl)
      have h66:a.tmps[66]?.getD undef = .int .i64 (l.pg:Int):=(eval_get a 66).trans (hd 6 (by simp) _ rfl)
      refine yields_call 22 #[.pointer (some ⟨d,0,none⟩),.int .i64 (l.pg:Int)] (by go_simp) ((RD.out W (below_tr Ba.out hb Ba.out.size)).mono ?_)
      rintro e W1 ⟨rfl,rfl⟩
      exact⟨_,rfl,rfl,Below.refl _ _⟩
    · refine⟨rfl,IsR.mono _,fun a W hA hb hd=>takes_plain rfl (yields_value _ ?_ rfl)⟩
      have h67:a.tmps[67]?.getD undef = .tuple #[.slice none 0 0,.int .i64 81]:=(eval_get a 67).trans (hd 7 (by simp) _ rfl)
      go_simp
    · refine⟨rfl,IsR.mono _,fun a W hA hb hd=>takes_plain rfl (yields_value _ ?_ rfl)⟩
      have h59:a.tmps[59]?.getD undef = .tuple #[.slice none 0 0,.int .i64 81]:=(eval_get a 59).trans (hd 8 (by simp) _ rfl)
      go_simp
    · refine⟨rfl,IsR.mono _,fun a W hA hb hd=>takes_plain rfl (yields_value _ ?_ rfl)⟩
      have h59:a.tmps[59]?.getD undef = .tuple #[.slice none 0 0,.int .i64 81]:=(eval_get a 59).trans (hd 8 (by simp) _ rfl)
      go_simp
    · refine⟨rfl,IsR.mono _,fun a W hA hb hd=>takes_plain rfl (yields_value _ ?_ rfl)⟩
      have h68:a.tmps[68]?.getD undef = .slice none 0 0:=(eval_get a 68).trans (hd 9 (by simp) _ rfl)
      go_simp
    intro vs wb hR hF hb
    have Bb:=Lib.hid (below_tr Ba.out hb Ba.out.size)
    have e60:vs 60 = .pointer (some ⟨p,0,none⟩):=hR 0 _ rfl
    have e61:vs 61 = .pointer (some ⟨p,0,none⟩):=hR 1 _ rfl
    have e62:vs 62 = .pointer (some ⟨p,0,none⟩):=hR 2 _ rfl
    have e63:vs 63 = .pointer (some ⟨d,0,none⟩):=hR 3 _ rfl
    have e64:vs 64 = .pointer (some ⟨w.heap.size,0,none⟩):=hR 4 _ rfl
    have e65:vs 65 = .int .u32 (l.pg:Int):=hR 5 _ rfl
    have e66:vs 66 = .int .i64 (l.pg:Int):=hR 6 _ rfl
    have e67:vs 67 = .tuple #[.slice none 0 0,.int .i64 81]:=hR 7 _ rfl
    have e59:vs 59 = .tuple #[.slice none 0 0,.int .i64 81]:=hR 8 _ rfl
    have e68:vs 68 = .slice none 0 0:=hR 9 _ rfl
    have e69:vs 69 = .int .i64 81:=hR 10 _ rfl
    have e16:vs 16 = .slice none 0 0:=hR 11 _ rfl
    simp only[List.map_cons,List.map_nil,List.foldl_cons,List.foldl_nil,List.length_cons,List.length_nil,List.drop_succ_cons,List.drop_zero,Act.put,List.setIfInBounds_toArray,List.set_cons_zero,List.set_cons_succ,e60,e61,e62,e63,e64,e65,e66,e67,e59,e68,e69,e16]
    clear hR hF hb e60 e61 e62 e63 e64 e65 e66 e67 e59 e68 e69 e16
    go_wp2_with fail
    go_ret2
    rw[←HQ.out,if_neg HFR.out,if_pos HDN.out]
    exact GetR.err H0.out Bb.out 81
  | false=>
  have RD:Hid (∀W,Below w.heap.size w W→Calls Tryz.prog 22 #[.pointer (some ⟨d,0,none⟩),.int .i64 (l.pg:Int)] W fun e w'=>∃g,e = .returned (.tuple #[.slice (some ⟨g,0,none⟩) 256 256,.int .i64 0])∧W.heap.size≤g∧IsB w' (some ⟨g,0,none⟩) 256 256 (blkL D.now l.pg)∧Below W.heap.size W w'):=Lib.hid fun W hW=>by
   obtain⟨g1,g2,wv,k1,_⟩:=HD.out.wr (Wr.cut (O:=O) hW (fun _=>False)) id
   exact read_any l.pg HP.out.2 hdn OK.out k1
  have HDN:Hid (¬D.down=true):=Lib.hid (by rw[hdn];decide)
  clear hdn
  refine wp_wide3 [⟨60,IsR (.pointer (some ⟨p,0,none⟩)),[],false⟩,⟨61,IsR (.pointer (some ⟨p,0,none⟩)),[0],false⟩,⟨62,IsR (.pointer (some ⟨p,0,none⟩)),[1],false⟩,⟨63,IsR (.pointer (some ⟨d,0,none⟩)),[2],false⟩,⟨64,IsR (.pointer (some ⟨w.heap.size,0,none⟩)),[],false⟩,⟨65,IsR (.int .u32 (l.pg:Int)),[4],false⟩,⟨66,IsR (.int .i64 (l.pg:Int)),[5],false⟩,⟨67,RdR wa.heap.size (blkL D.now l.pg),[3,6],false⟩,⟨59,RdR wa.heap.size (blkL D.now l.pg),[7],false⟩,⟨68,RsR9 wa.heap.size (blkL D.now l.pg),[8],false⟩,⟨69,IsR (.int .i64 (0:Int)),[8],false⟩,⟨16,RsR9 wa.heap.size (blkL D.now l.pg),[9],false⟩] (by kernel_rfl) (by kernel_rfl) rfl rfl rfl ⟨?_,?_,?_,?_,?_,?_,?_,?_,?_,?_,?_,?_,trivial⟩ ?_
  · refine⟨rfl,IsR.mono _,fun a W hA hb hd=>takes_plain rfl (yields_value _ ?_ rfl)⟩
    have h0:a.tmps[0]?.getD undef = .pointer (some ⟨p,0,none⟩):=(eval_get a 0).trans ((hA.eval (by simp)).trans rfl)
    go_simp
  · refine⟨rfl,IsR.mono _,fun a W hA hb hd=>takes_plain rfl (yields_value _ ?_ rfl)⟩
    have h60:a.tmps[60]?.getD undef = .pointer (some ⟨p,0,none⟩):=(eval_get a 60).trans (hd 0 (by simp) _ rfl)
    go_simp
  · refine⟨rfl,IsR.mono _,fun a W hA hb hd=>takes_plain rfl (yields_value _ ?_ rfl)⟩
    have h61:a.tmps[61]?.getD undef = .pointer (some ⟨p,0,none⟩):=(eval_get a 61).trans (hd 1 (by simp) _ rfl)
    go_simp
  · refine⟨rfl,IsR.mono _,fun a W hA hb hd=>takes_plain rfl (yields_value _ ?_ rfl)⟩
    have h62:a.tmps[62]?.getD undef = .pointer (some ⟨p,0,none⟩):=(eval_get a 62).trans (hd 2 (by simp) _ rfl)
    have hc:=C1.out W (below_tr Ba.out hb Ba.out.size)
    go_simp
  · refine⟨rfl,IsR.mono _,fun a W hA hb hd=>takes_plain rfl (yields_value _ ?_ rfl)⟩
    have h9:a.tmps[9]?.getD undef = .pointer (some ⟨w.heap.size,0,none⟩):=(eval_get a 9).trans ((hA.eval (by simp)).trans rfl)
    go_simp
  · refine⟨rfl,IsR.mono _,fun a W hA hb hd=>takes_plain rfl (yields_value _ ?_ rfl)⟩
    have h64:a.tmps[64]?.getD undef = .pointer (some ⟨w.heap.size,0,none⟩):=(eval_get a 64).trans (hd 4 (by simp) _ rfl)
    have hc:=(RBa.out.ab hb).cell (k:=0) rfl
    go_simp
  · refine⟨rfl,IsR.mono _,fun a W hA hb hd=>takes_plain rfl (yields_value _ ?_ rfl)⟩
    have h65:a.tmps[65]?.getD undef = .int .u32 (l.pg:Int):=(eval_get a 65).trans (hd 5 (by simp) _ rfl)
    go_simp
  · refine⟨rfl,RdR.mono,fun a W hA hb hd=>takes_plain rfl ?_⟩
    have h63:a.tmps[63]?.getD undef = .pointer (some ⟨d,0,none⟩):=(eval_get a 63).trans (hd 3 (by simp) _ rfl)
    have h66:a.tmps[66]?.getD undef = .int .i64 (l.pg:Int):=(eval_get a 66).trans (hd 6 (by simp) _ rfl)
    refine yields_call 22 #[.pointer (some ⟨d,0,none⟩),.int .i64 (l.pg:Int)] (by go_simp) ((RD.out W (below_tr Ba.out hb Ba.out.size)).mono ?_)
    rintro e W1 ⟨g,rfl,h1,h2,h3⟩
    exact⟨_,rfl,⟨g,rfl,Nat.le_trans hb.size h1,h2⟩,h3⟩
  · refine⟨rfl,RdR.mono,fun a W hA hb hd=>takes_plain rfl ?_⟩
    obtain⟨g,e0,h1,h2⟩:=hd 7 (by simp) _ rfl
    have h0:a.tmps[67]?.getD undef = .tuple #[.slice (some ⟨g,0,none⟩) 256 256,.int .i64 0]:=(eval_get a 67).trans e0
    refine yields_value (.tuple #[.slice (some ⟨g,0,none⟩) 256 256,.int .i64 0]) ?_ ⟨g,rfl,h1,h2⟩
    go_simp
  · refine⟨rfl,RsR9.mono,fun a W hA hb hd=>takes_plain rfl ?_⟩
    obtain⟨g,e0,h1,h2⟩:=hd 8 (by simp) _ rfl
    have h0:a.tmps[59]?.getD undef = .tuple #[.slice (some ⟨g,0,none⟩) 256 256,.int .i64 0]:=(eval_get a 59).trans e0
    refine yields_value (.slice (some ⟨g,0,none⟩) 256 256) ?_ ⟨g,rfl,h1,h2⟩
    go_simp
  · refine⟨rfl,IsR.mono _,fun a W hA hb hd=>takes_plain rfl ?_⟩
    obtain⟨g,e0,h1,h2⟩:=hd 8 (by simp) _ rfl
    have h0:a.tmps[59]?.getD undef = .tuple #[.slice (some ⟨g,0,none⟩) 256 256,.int .i64 0]:=(eval_get a 59).trans e0
    refine yields_value (.int .i64 0) ?_ rfl
    go_simp
  · refine⟨rfl,RsR9.mono,fun a W hA hb hd=>takes_plain rfl ?_⟩
    obtain⟨g,e0,h1,h2⟩:=hd 9 (by simp) _ rfl
    exact yields_value (.slice (some ⟨g,0,none⟩) 256 256) (by rw[←e0];exact exec_assign (.tmp 68) rfl W) ⟨g,rfl,h1,h2⟩
  intro vs wb hR hF hb
  have RV:Hid (RsR9 wa.heap.size (blkL D.now l.pg) (vs 16) wb):=Lib.hid (hR 11 _ rfl)
  have Bb:=Lib.hid (below_tr Ba.out hb Ba.out.size)
  have PGb:=Lib.hid (PGa.out.ab hb)
  have RBb:=Lib.hid (RBa.out.ab hb)
  have LBb:=Lib.hid (LBa.out.ab hb)
  have e60:vs 60 = .pointer (some ⟨p,0,none⟩):=hR 0 _ rfl
  have e61:vs 61 = .pointer (some ⟨p,0,none⟩):=hR 1 _ rfl
  have e62:vs 62 = .pointer (some ⟨p,0,none⟩):=hR 2 _ rfl
  have e63:vs 63 = .pointer (some ⟨d,0,none⟩):=hR 3 _ rfl
  have e64:vs 64 = .pointer (some ⟨w.heap.size,0,none⟩):=hR 4 _ rfl
  have e65:vs 65 = .int .u32 (l.pg:Int):=hR 5 _ rfl
  have e66:vs 66 = .int .i64 (l.pg:Int):=hR 6 _ rfl
  have e69:vs 69 = .int .i64 (0:Int):=hR 10 _ rfl
  simp only[List.map_cons,List.map_nil,List.foldl_cons,List.foldl_nil,List.length_cons,List.length_nil,List.drop_succ_cons,List.drop_zero,Act.put,List.setIfInBounds_toArray,List.set_cons_zero,List.set_cons_succ,e60,e61,e62,e63,e64,e65,e66,e69]
  generalize vs 67=q67 at *
  generalize vs 59=q59 at *
  generalize vs 68=q68 at *
  clear hR hF hb e60 e61 e62 e63 e64 e65 e66 e69
  generalize vs 16=q16 at *
  obtain⟨g16,rfl,hg16,ib16⟩:=RV.out
  have IB:=Lib.hid ib16
  clear RV hg16 ib16 RD
  go_upto_region 14 with (fail)
  cases hg:getR (l.ten,l.gn) R with
  | none=>
    rw[show keyP (l.ten,l.gn) R=([],7) from by unfold keyP;rw[hg]] at HK
    have HG9:=Lib.hid hg
    clear hg
    refine wp_wide3 [⟨74,IsR (.pointer (some ⟨p,0,none⟩)),[],false⟩,⟨75,IsR (.pointer (some ⟨p,0,none⟩)),[0],false⟩,⟨76,IsR (.pointer (some ⟨p,1,none⟩)),[1],false⟩,⟨77,IsR (.pointer (some ⟨rg,0,none⟩)),[2],false⟩,⟨78,IsR (.int .u32 (l.ten:Int)),[],false⟩,⟨79,IsR (.pointer (some ⟨w.heap.size,2,none⟩)),[],false⟩,⟨80,IsR (.int .u16 (l.gn:Int)),[5],false⟩,⟨81,TupB wb.heap.size 7 ([]),[3,4,6],false⟩,⟨73,TupB wb.heap.size 7 ([]),[7],false⟩,⟨82,OwR wb.heap.size ([]),[8],false⟩,⟨83,IsR (.int .i64 (7:Int)),[8],false⟩,⟨18,OwR wb.heap.size ([]),[9],false⟩] (by kernel_rfl) (by kernel_rfl) rfl rfl rfl ⟨?_,?_,?_,?_,?_,?_,?_,?_,?_,?_,?_,?_,trivial⟩ ?_
    · refine⟨rfl,IsR.mono _,fun a W hA hb hd=>takes_plain rfl (yields_value _ ?_ rfl)⟩
      have h0:a.tmps[0]?.getD undef = .pointer (some ⟨p,0,none⟩):=(eval_get a 0).trans ((hA.eval (by simp)).trans rfl)
      go_simp
    · refine⟨rfl,IsR.mono _,fun a W hA hb hd=>takes_plain rfl (yields_value _ ?_ rfl)⟩
      have h74:a.tmps[74]?.getD undef = .pointer (some ⟨p,0,none⟩):=(eval_get a 74).trans (hd 0 (by simp) _ rfl)
      go_simp
    · refine⟨rfl,IsR.mono _,fun a W hA hb hd=>takes_plain rfl (yields_value _ ?_ rfl)⟩
      have h75:a.tmps[75]?.getD undef = .pointer (some ⟨p,0,none⟩):=(eval_get a 75).trans (hd 1 (by simp) _ rfl)
      go_simp
    · refine⟨rfl,IsR.mono _,fun a W hA hb hd=>takes_plain rfl (yields_value _ ?_ rfl)⟩
      have h76:a.tmps[76]?.getD undef = .pointer (some ⟨p,1,none⟩):=(eval_get a 76).trans (hd 2 (by simp) _ rfl)
      have hc:=C2.out W (below_tr Bb.out hb Bb.out.size)
      go_simp
    · refine⟨rfl,IsR.mono _,fun a W hA hb hd=>takes_plain rfl (yields_value _ ?_ rfl)⟩
      have h1:a.tmps[1]?.getD undef = .int .u32 (l.ten:Int):=(eval_get a 1).trans ((hA.eval (by simp)).trans rfl)
      go_simp
    · refine⟨rfl,IsR.mono _,fun a W hA hb hd=>takes_plain rfl (yields_value _ ?_ rfl)⟩
      have h9:a.tmps[9]?.getD undef = .pointer (some ⟨w.heap.size,0,none⟩):=(eval_get a 9).trans ((hA.eval (by simp)).trans rfl)
      go_simp
    · refine⟨rfl,IsR.mono _,fun a W hA hb hd=>takes_plain rfl (yields_value _ ?_ rfl)⟩
      have h79:a.tmps[79]?.getD undef = .pointer (some ⟨w.heap.size,2,none⟩):=(eval_get a 79).trans (hd 5 (by simp) _ rfl)
      have hc:=(RBb.out.ab hb).cell (k:=2) rfl
      go_simp
    · refine⟨rfl,TupB.mono _ _ _,fun a W hA hb hd=>takes_plain rfl ?_⟩
      have h77:a.tmps[77]?.getD undef = .pointer (some ⟨rg,0,none⟩):=(eval_get a 77).trans (hd 3 (by simp) _ rfl)
      have h78:a.tmps[78]?.getD undef = .int .u32 (l.ten:Int):=(eval_get a 78).trans (hd 4 (by simp) _ rfl)
      have h80:a.tmps[80]?.getD undef = .int .u16 (l.gn:Int):=(eval_get a 80).trans (hd 6 (by simp) _ rfl)
      refine yields_call 39 #[.pointer (some ⟨rg,0,none⟩),.int .u32 (l.ten:Int),.int .u16 (l.gn:Int)] (by go_simp) ((HK.out W (below_tr Bb.out hb Bb.out.size)).mono ?_)
      rintro e W1 ⟨v,rfl,ho,hb1⟩
      exact⟨_,rfl,⟨v,rfl,ho.lower hb.size⟩,hb1⟩
    · refine⟨rfl,TupB.mono _ _ _,fun a W hA hb hd=>takes_plain rfl ?_⟩
      obtain⟨v0,e0,ho⟩:=hd 7 (by simp) _ rfl
      have h0:a.tmps[81]?.getD undef = .tuple #[v0,.int .i64 ((7:Nat):Int)]:=(eval_get a 81).trans e0
      refine yields_value (.tuple #[v0,.int .i64 ((7:Nat):Int)]) ?_ ⟨v0,rfl,ho⟩
      go_simp
    · refine⟨rfl,OwR.mono _ _,fun a W hA hb hd=>takes_plain rfl ?_⟩
      obtain⟨v0,e0,ho⟩:=hd 8 (by simp) _ rfl
      have h0:a.tmps[73]?.getD undef = .tuple #[v0,.int .i64 ((7:Nat):Int)]:=(eval_get a 73).trans e0
      refine yields_value v0 ?_ ho
      go_simp
    · refine⟨rfl,IsR.mono _,fun a W hA hb hd=>takes_plain rfl ?_⟩
      obtain⟨v0,e0,ho⟩:=hd 8 (by simp) _ rfl
      have h0:a.tmps[73]?.getD undef = .tuple #[v0,.int .i64 ((7:Nat):Int)]:=(eval_get a 73).trans e0
      refine yields_value (.int .i64 (7:Int)) ?_ rfl
      go_simp
    · refine⟨rfl,OwR.mono _ _,fun a W hA hb hd=>takes_plain rfl ?_⟩
      have ho:OwB W wb.heap.size (a.eval (.tmp 82)) ([]):=hd 9 (by simp) _ rfl
      exact yields_value (a.eval (.tmp 82)) (exec_assign (.tmp 82) rfl W) ho
    intro vs wd hR hF hb
    have Bd:=Lib.hid (below_tr Bb.out hb Bb.out.size)
    have e74:vs 74 = .pointer (some ⟨p,0,none⟩):=hR 0 _ rfl
    have e75:vs 75 = .pointer (some ⟨p,0,none⟩):=hR 1 _ rfl
    have e76:vs 76 = .pointer (some ⟨p,1,none⟩):=hR 2 _ rfl
    have e77:vs 77 = .pointer (some ⟨rg,0,none⟩):=hR 3 _ rfl
    have e78:vs 78 = .int .u32 (l.ten:Int):=hR 4 _ rfl
    have e79:vs 79 = .pointer (some ⟨w.heap.size,2,none⟩):=hR 5 _ rfl
    have e80:vs 80 = .int .u16 (l.gn:Int):=hR 6 _ rfl
    have e83:vs 83 = .int .i64 (7:Int):=hR 10 _ rfl
    simp only[List.map_cons,List.map_nil,List.foldl_cons,List.foldl_nil,List.length_cons,List.length_nil,List.drop_succ_cons,List.drop_zero,Act.put,List.setIfInBounds_toArray,List.set_cons_zero,List.set_cons_succ,e74,e75,e76,e77,e78,e79,e80,e83]
    generalize vs 81=q81 at *
    generalize vs 73=q73 at *
    generalize vs 82=q82 at *
    generalize vs 18=q18 at *
    clear hR hF hb e74 e75 e76 e77 e78 e79 e80 e83
    go_wp2_with fail
    go_ret2
    rw[←HQ.out,if_neg HFR.out,if_neg HDN.out,HG9.out]
    exact GetR.err H0.out Bd.out 210
  | some key=>
  rw[show keyP (l.ten,l.gn) R=(key,0) from by unfold keyP;rw[hg]] at HK
  have HG9:=Lib.hid hg
  clear hg
  refine wp_wide3 [⟨74,IsR (.pointer (some ⟨p,0,none⟩)),[],false⟩,⟨75,IsR (.pointer (some ⟨p,0,none⟩)),[0],false⟩,⟨76,IsR (.pointer (some ⟨p,1,none⟩)),[1],false⟩,⟨77,IsR (.pointer (some ⟨rg,0,none⟩)),[2],false⟩,⟨78,IsR (.int .u32 (l.ten:Int)),[],false⟩,⟨79,IsR (.pointer (some ⟨w.heap.size,2,none⟩)),[],false⟩,⟨80,IsR (.int .u16 (l.gn:Int)),[5],false⟩,⟨81,TupB wb.heap.size 0 (key),[3,4,6],false⟩,⟨73,TupB wb.heap.size 0 (key),[7],false⟩,⟨82,OwR wb.heap.size (key),[8],false⟩,⟨83,IsR (.int .i64 (0:Int)),[8],false⟩,⟨18,OwR wb.heap.size (key),[9],false⟩] (by kernel_rfl) (by kernel_rfl) rfl rfl rfl ⟨?_,?_,?_,?_,?_,?_,?_,?_,?_,?_,?_,?_,trivial⟩ ?_
  · refine⟨rfl,IsR.mono _,fun a W hA hb hd=>takes_plain rfl (yields_value _ ?_ rfl)⟩
    have h0:a.tmps[0]?.getD undef = .pointer (some ⟨p,0,none⟩):=(eval_get a 0).trans ((hA.eval (by simp)).trans rfl)
    go_simp
  · refine⟨rfl,IsR.mono _,fun a W hA hb hd=>takes_plain rfl (yields_value _ ?_ rfl)⟩
    have h74:a.tmps[74]?.getD undef = .pointer (some ⟨p,0,none⟩):=(eval_get a 74).trans (hd 0 (by simp) _ rfl)
    go_simp
  · refine⟨rfl,IsR.mono _,fun a W hA hb hd=>takes_plain rfl (yields_value _ ?_ rfl)⟩
    have h75:a.tmps[75]?.getD undef = .pointer (some ⟨p,0,none⟩):=(eval_get a 75).trans (hd 1 (by simp) _ rfl)
    go_simp
  · refine⟨rfl,IsR.mono _,fun a W hA hb hd=>takes_plain rfl (yields_value _ ?_ rfl)⟩
    have h76:a.tmps[76]?.getD undef = .pointer (some ⟨p,1,none⟩):=(eval_get a 76).trans (hd 2 (by simp) _ rfl)
    have hc:=C2.out W (below_tr Bb.out hb Bb.out.size)
    go_simp
  · refine⟨rfl,IsR.mono _,fun a W hA hb hd=>takes_plain rfl (yields_value _ ?_ rfl)⟩
    have h1:a.tmps[1]?.getD undef = .int .u32 (l.ten:Int):=(eval_get a 1).trans ((hA.eval (by simp)).trans rfl)
    go_simp
  · refine⟨rfl,IsR.mono _,fun a W hA hb hd=>takes_plain rfl (yields_value _ ?_ rfl)⟩
    have h9:a.tmps[9]?.getD undef = .pointer (some ⟨w.heap.size,0,none⟩):=(eval_get a 9).trans ((hA.eval (by simp)).trans rfl)
    go_simp
  · refine⟨rfl,IsR.mono _,fun a W hA hb hd=>takes_plain rfl (yields_value _ ?_ rfl)⟩
    have h79:a.tmps[79]?.getD undef = .pointer (some ⟨w.heap.size,2,none⟩):=(eval_get a 79).trans (hd 5 (by simp) _ rfl)
    have hc:=(RBb.out.ab hb).cell (k:=2) rfl
    go_simp
  · refine⟨rfl,TupB.mono _ _ _,fun a W hA hb hd=>takes_plain rfl ?_⟩
    have h77:a.tmps[77]?.getD undef = .pointer (some ⟨rg,0,none⟩):=(eval_get a 77).trans (hd 3 (by simp) _ rfl)
    have h78:a.tmps[78]?.getD undef = .int .u32 (l.ten:Int):=(eval_get a 78).trans (hd 4 (by simp) _ rfl)
    have h80:a.tmps[80]?.getD undef = .int .u16 (l.gn:Int):=(eval_get a 80).trans (hd 6 (by simp) _ rfl)
    refine yields_call 39 #[.pointer (some ⟨rg,0,none⟩),.int .u32 (l.ten:Int),.int .u16 (l.gn:Int)] (by go_simp) ((HK.out W (below_tr Bb.out hb Bb.out.size)).mono ?_)
    rintro e W1 ⟨v,rfl,ho,hb1⟩
    exact⟨_,rfl,⟨v,rfl,ho.lower hb.size⟩,hb1⟩
  · refine⟨rfl,TupB.mono _ _ _,fun a W hA hb hd=>takes_plain rfl ?_⟩
    obtain⟨v0,e0,ho⟩:=hd 7 (by simp) _ rfl
    have h0:a.tmps[81]?.getD undef = .tuple #[v0,.int .i64 ((0:Nat):Int)]:=(eval_get a 81).trans e0
    refine yields_value (.tuple #[v0,.int .i64 ((0:Nat):Int)]) ?_ ⟨v0,rfl,ho⟩
    go_simp
  · refine⟨rfl,OwR.mono _ _,fun a W hA hb hd=>takes_plain rfl ?_⟩
    obtain⟨v0,e0,ho⟩:=hd 8 (by simp) _ rfl
    have h0:a.tmps[73]?.getD undef = .tuple #[v0,.int .i64 ((0:Nat):Int)]:=(eval_get a 73).trans e0
    refine yields_value v0 ?_ ho
    go_simp
  · refine⟨rfl,IsR.mono _,fun a W hA hb hd=>takes_plain rfl ?_⟩
    obtain⟨v0,e0,ho⟩:=hd 8 (by simp) _ rfl
    have h0:a.tmps[73]?.getD undef = .tuple #[v0,.int .i64 ((0:Nat):Int)]:=(eval_get a 73).trans e0
    refine yields_value (.int .i64 (0:Int)) ?_ rfl
    go_simp
  · refine⟨rfl,OwR.mono _ _,fun a W hA hb hd=>takes_plain rfl ?_⟩
    have ho:OwB W wb.heap.size (a.eval (.tmp 82)) (key):=hd 9 (by simp) _ rfl
    exact yields_value (a.eval (.tmp 82)) (exec_assign (.tmp 82) rfl W) ho
  intro vs wd hR hF hb
  have KV:Hid (OwB wd wb.heap.size (vs 18) key):=Lib.hid (hR 11 _ rfl)
  have Bd:=Lib.hid (below_tr Bb.out hb Bb.out.size)
  have PGd:=Lib.hid (PGb.out.ab hb)
  have RBd:=Lib.hid (RBb.out.ab hb)
  have LBd:=Lib.hid (LBb.out.ab hb)
  have IBd:=Lib.hid (IB.out.ab hb)
  have e74:vs 74 = .pointer (some ⟨p,0,none⟩):=hR 0 _ rfl
  have e75:vs 75 = .pointer (some ⟨p,0,none⟩):=hR 1 _ rfl
  have e76:vs 76 = .pointer (some ⟨p,1,none⟩):=hR 2 _ rfl
  have e77:vs 77 = .pointer (some ⟨rg,0,none⟩):=hR 3 _ rfl
  have e78:vs 78 = .int .u32 (l.ten:Int):=hR 4 _ rfl
  have e79:vs 79 = .pointer (some ⟨w.heap.size,2,none⟩):=hR 5 _ rfl
  have e80:vs 80 = .int .u16 (l.gn:Int):=hR 6 _ rfl
  have e83:vs 83 = .int .i64 (0:Int):=hR 10 _ rfl
  simp only[List.map_cons,List.map_nil,List.foldl_cons,List.foldl_nil,List.length_cons,List.length_nil,List.drop_succ_cons,List.drop_zero,Act.put,List.setIfInBounds_toArray,List.set_cons_zero,List.set_cons_succ,e74,e75,e76,e77,e78,e79,e80,e83]
  generalize vs 81=q81 at *
  generalize vs 73=q73 at *
  generalize vs 82=q82 at *
  clear hR hF hb e74 e75 e76 e77 e78 e79 e80 e83
  generalize vs 18=q18 at *
  obtain⟨kA,kc,hk18,_,_⟩:=KV.out.shape
  subst hk18
  clear HK
  have OP:Hid (Calls Tryz.prog 40 #[.slice kA key.length kc,.agg #[.int .u32 (l.ten:Int),.int .u8 (l.k:Int),.int .u8 (l.lv:Int),.int .u32 (l.pg:Int),.int .u64 (l.cm:Int),.int .u16 (l.gn:Int)],.slice (some ⟨g16,0,none⟩) 256 256] wd (OutB wd (openP key l (blkL D.now l.pg)).1 (openP key l (blkL D.now l.pg)).2)):=Lib.hid (lopen_any kA _ _ kc 256 256 l key _ wd HL.out (KV.out.isB rfl) IBd.out)
  have OL:=Lib.hid (open_len key l (blkL D.now l.pg))
  have cl0:wd.cell? ⟨w.heap.size+1,0,none⟩=some (.int .u32 (l.ten:Int)):=LBd.out.cell (k:=0) rfl
  have cl1:wd.cell? ⟨w.heap.size+1,1,none⟩=some (.int .u8 (l.k:Int)):=LBd.out.cell (k:=1) rfl
  have cl2:wd.cell? ⟨w.heap.size+1,2,none⟩=some (.int .u8 (l.lv:Int)):=LBd.out.cell (k:=2) rfl
  have cl3:wd.cell? ⟨w.heap.size+1,3,none⟩=some (.int .u32 (l.pg:Int)):=LBd.out.cell (k:=3) rfl
  have cl4:wd.cell? ⟨w.heap.size+1,4,none⟩=some (.int .u64 (l.cm:Int)):=LBd.out.cell (k:=4) rfl
  have cl5:wd.cell? ⟨w.heap.size+1,5,none⟩=some (.int .u16 (l.gn:Int)):=LBd.out.cell (k:=5) rfl
  obtain⟨q,hq⟩:∃q,openP key l (blkL D.now l.pg)=q:=⟨_,rfl⟩
  rw[hq] at OP OL
  obtain⟨pay,perr⟩:=q
  dsimp only at OP OL
  have HQ2:=Lib.hid hq
  clear hq
  go_wp2_with fail
  refine OP.out.mono ?_
  rintro e we ⟨v,rfl,ho,hb5⟩
  clear cl0 cl1 cl2 cl3 cl4 cl5 OP
  have Be:=Lib.hid (below_tr Bd.out hb5 Bd.out.size)
  have PGe:=Lib.hid (PGd.out.ab hb5)
  have RBe:=Lib.hid (RBd.out.ab hb5)
  have LBe:=Lib.hid (LBd.out.ab hb5)
  have DE:=Lib.hid hb5.size
  obtain⟨yA,yc,rfl,_,_⟩:=ho.shape
  have OE:=Lib.hid ho
  clear ho hb5
  by_cases h0:perr=0
  case neg=>
   have e1:((perr:Int) != 0)=true:=by simp;omega
   have e2:¬(perr:Int)=0:=by omega
   have HZ:=Lib.hid h0
   clear h0
   go_wp2_with fail
   go_ret2
   rw[←HQ.out,if_neg HFR.out,if_neg HDN.out,HG9.out]
   dsimp only
   rw[HQ2.out,if_neg HZ.out]
   exact GetR.err H0.out Be.out 210
  subst h0
  have cm0:we.cell? ⟨w.heap.size+1,0,none⟩=some (.int .u32 (l.ten:Int)):=LBe.out.cell (k:=0) rfl
  have cm1:we.cell? ⟨w.heap.size+1,1,none⟩=some (.int .u8 (l.k:Int)):=LBe.out.cell (k:=1) rfl
  have cm2:we.cell? ⟨w.heap.size+1,2,none⟩=some (.int .u8 (l.lv:Int)):=LBe.out.cell (k:=2) rfl
  have cm3:we.cell? ⟨w.heap.size+1,3,none⟩=some (.int .u32 (l.pg:Int)):=LBe.out.cell (k:=3) rfl
  have cm4:we.cell? ⟨w.heap.size+1,4,none⟩=some (.int .u64 (l.cm:Int)):=LBe.out.cell (k:=4) rfl
  have cm5:we.cell? ⟨w.heap.size+1,5,none⟩=some (.int .u16 (l.gn:Int)):=LBe.out.cell (k:=5) rfl
  go_upto_region 21 with (first
   | (with_reducible refine wpList_storeC (o:=⟨none,.store _ (.tmp 14) (.tmp 97),_,_,_,_⟩) ?_ 107 (.tmp 14) (.tmp 97) ?_ G ?_ #[.int .u32 (l.ten:Int),.int .u8 (l.k:Int),.int .u8 (l.lv:Int),.int .u32 (l.pg:Int),.int .u64 (l.cm:Int),.int .u16 (l.gn:Int),.slice yA pay.length yc] ?_ (t:=107) PGe.out ?_ ?_ ?_ ?_
      · rfl
      · rfl
      · rfl
      · rfl
      · exact szPg _ l
      · rfl
      · simp[Value.oneCell']
      intro wf hwf
      have PGf:Hid (CbB wf G 107 #[.int .u32 (l.ten:Int),.int .u8 (l.k:Int),.int .u8 (l.lv:Int),.int .u32 (l.pg:Int),.int .u64 (l.cm:Int),.int .u16 (l.gn:Int),.slice yA pay.length yc]):=Lib.hid (by rw[hwf];exact CbB.row PGe.out _)
      have bef:Below w7.heap.size we wf:=by rw[hwf];exact Below.row (Below.refl _ _) HG.out _
      have Bf:Hid (Below w.heap.size w wf):=Lib.hid (Be.out.trans (bef.mono B7.out.size))
      have RBf:=Lib.hid (RBe.out.low bef RB7.out.lt)
      have LBf:=Lib.hid (LBe.out.low bef LB7.out.lt)
      have OF:Hid (OwB wf w.heap.size (.slice yA pay.length yc) pay):=Lib.hid (by
       rw[hwf]
       refine OwB.lower (OE.out.kept (row:=some G) (fr_row9 we G _) (.inr fun e=>?_)) Bd.out.size
       have h1:=row_ltD OE.out.own _ e
       have h2:=own_ge9 OE.out.own _ e
       have h3:=PGd.out.lt
       omega)
      clear hwf bef))
  clear cm0 cm1 cm2 cm3 cm4 cm5
  refine wp_wide3 [⟨98,IsR (.pointer (some ⟨p,0,none⟩)),[],false⟩,⟨99,IsR (.pointer (some ⟨p,0,none⟩)),[0],false⟩,⟨100,IsR (.pointer (some ⟨p,4,none⟩)),[1],false⟩,⟨101,IsR (.map (some b.kn)),[2],false⟩,⟨102,IsR (.pointer (some ⟨w.heap.size,0,none⟩)),[],false⟩,⟨103,IsR (.int .u32 (l.pg:Int)),[4],false⟩,⟨104,IsR (.agg #[.int .u32 (l.ten:Int),.int .u8 (l.k:Int),.int .u8 (l.lv:Int),.int .u32 (l.pg:Int),.int .u64 (l.cm:Int),.int .u16 (l.gn:Int),.slice yA pay.length yc]),[],false⟩] (by kernel_rfl) (by kernel_rfl) rfl rfl rfl ⟨?_,?_,?_,?_,?_,?_,?_,trivial⟩ ?_
  · refine⟨rfl,IsR.mono _,fun a W hA hb hd=>takes_plain rfl (yields_value _ ?_ rfl)⟩
    have h0:a.tmps[0]?.getD undef = .pointer (some ⟨p,0,none⟩):=(eval_get a 0).trans ((hA.eval (by simp)).trans rfl)
    go_simp
  · refine⟨rfl,IsR.mono _,fun a W hA hb hd=>takes_plain rfl (yields_value _ ?_ rfl)⟩
    have h98:a.tmps[98]?.getD undef = .pointer (some ⟨p,0,none⟩):=(eval_get a 98).trans (hd 0 (by simp) _ rfl)
    go_simp
  · refine⟨rfl,IsR.mono _,fun a W hA hb hd=>takes_plain rfl (yields_value _ ?_ rfl)⟩
    have h99:a.tmps[99]?.getD undef = .pointer (some ⟨p,0,none⟩):=(eval_get a 99).trans (hd 1 (by simp) _ rfl)
    go_simp
  · refine⟨rfl,IsR.mono _,fun a W hA hb hd=>takes_plain rfl (yields_value _ ?_ rfl)⟩
    have h100:a.tmps[100]?.getD undef = .pointer (some ⟨p,4,none⟩):=(eval_get a 100).trans (hd 2 (by simp) _ rfl)
    have hc:=C0.out W (below_tr Bf.out hb Bf.out.size)
    go_simp
  · refine⟨rfl,IsR.mono _,fun a W hA hb hd=>takes_plain rfl (yields_value _ ?_ rfl)⟩
    have h9:a.tmps[9]?.getD undef = .pointer (some ⟨w.heap.size,0,none⟩):=(eval_get a 9).trans ((hA.eval (by simp)).trans rfl)
    go_simp
  · refine⟨rfl,IsR.mono _,fun a W hA hb hd=>takes_plain rfl (yields_value _ ?_ rfl)⟩
    have h102:a.tmps[102]?.getD undef = .pointer (some ⟨w.heap.size,0,none⟩):=(eval_get a 102).trans (hd 4 (by simp) _ rfl)
    have hc:=(RBf.out.ab hb).cell (k:=0) rfl
    go_simp
  · refine⟨rfl,IsR.mono _,fun a W hA hb hd=>takes_plain rfl (yields_value _ ?_ rfl)⟩
    have h14:a.tmps[14]?.getD undef = .pointer (some ⟨G,0,none⟩):=(eval_get a 14).trans ((hA.eval (by simp)).trans rfl)
    have hq:=PGf.out.ab hb
    have hc0:=hq.cell (k:=0) rfl
    have hc1:=hq.cell (k:=1) rfl
    have hc2:=hq.cell (k:=2) rfl
    have hc3:=hq.cell (k:=3) rfl
    have hc4:=hq.cell (k:=4) rfl
    have hc5:=hq.cell (k:=5) rfl
    have hc6:=hq.cell (k:=6) rfl
    go_simp
  intro vs wh hR hF hb
  have Bh:=Lib.hid (below_tr Bf.out hb Bf.out.size)
  have PGh:=Lib.hid (PGf.out.ab hb)
  have LBh:=Lib.hid (LBf.out.ab hb)
  have OH:=Lib.hid (OF.out.ab hb)
  have e98:vs 98 = .pointer (some ⟨p,0,none⟩):=hR 0 _ rfl
  have e99:vs 99 = .pointer (some ⟨p,0,none⟩):=hR 1 _ rfl
  have e100:vs 100 = .pointer (some ⟨p,4,none⟩):=hR 2 _ rfl
  have e101:vs 101 = .map (some b.kn):=hR 3 _ rfl
  have e102:vs 102 = .pointer (some ⟨w.heap.size,0,none⟩):=hR 4 _ rfl
  have e103:vs 103 = .int .u32 (l.pg:Int):=hR 5 _ rfl
  have e104:vs 104 = .agg #[.int .u32 (l.ten:Int),.int .u8 (l.k:Int),.int .u8 (l.lv:Int),.int .u32 (l.pg:Int),.int .u64 (l.cm:Int),.int .u16 (l.gn:Int),.slice yA pay.length yc]:=hR 6 _ rfl
  simp only[List.map_cons,List.map_nil,List.foldl_cons,List.foldl_nil,List.length_cons,List.length_nil,List.drop_succ_cons,List.drop_zero,Act.put,List.setIfInBounds_toArray,List.set_cons_zero,List.set_cons_succ,e98,e99,e100,e101,e102,e103,e104]
  clear hR hF hb e98 e99 e100 e101 e102 e103 e104
  have Nh:=Lib.hid (N0.out wh Bh.out)
  obtain⟨vsh,mh,kvh⟩:=Nh.out.kn
  have Mh:=Lib.hid mh
  have KVh:=Lib.hid kvh
  have SBh:Hid (StB wh (cutO O w.heap.size) (.slice yA pay.length yc) pay):=Lib.hid (StB.own OH.out fun k hk=>cutO_at (own_ge9 OH.out.own k hk))
  have NEh:Hid (b.kn≠G):=Lib.hid fun e=>by
   have h1:=NN.out.kn
   obtain⟨_,h1,_⟩:=h1
   have h2:=h1.lt
   have h3:=B7.out.size
   have h4:=HG.out
   omega
  have NEl:Hid (b.kn≠w.heap.size+1):=Lib.hid fun e=>by
   obtain⟨_,h1,_⟩:=NN.out.kn
   have h2:=h1.lt
   omega
  obtain⟨i0,hi0,hz0,hz1,hz2⟩:=info_parts infoU8
  clear mh kvh
  go_wp2_with (first
   | (refine wpList_mapPut rfl (.tmp 101) (.tmp 103) (.tmp 104) rfl u32p_K Tryz.underlying98 rfl Mh.out l.pg KM.out.2.2.1 rfl (.agg #[.int .u32 (l.ten:Int),.int .u8 (l.k:Int),.int .u8 (l.lv:Int),.int .u32 (l.pg:Int),.int .u64 (l.cm:Int),.int .u16 (l.gn:Int),.slice yA pay.length yc]) rfl ?_
      intro wi hi7 hg7 hz7 hb7
      have si:Wr (fun τ=>τ=(p,2)) wh (cutO O w.heap.size) wi (cutO O w.heap.size):=Wr.grown hg7 Nh.out.tk
      have f0:¬((0:Nat),(0:Nat))=(p,2):=fun e=>by injection e with e _;have:=Nh.out.pos;omega
      have Ni:=Lib.hid (Nh.out.setKn si ⟨_,hi7,(KVh.out.wr si f0).put (x:=l.pg) (k:=(l,pay)) ⟨_,rfl,(SBh.out).wr si f0,HL.out⟩⟩)
      have SI:=Lib.hid si
      have PGi:=PGh.out.fr (Fr.grown hg7) (fun e=>NEh.out (by injection e with e))
      have LBi:=LBh.out.fr (Fr.grown hg7) (fun e=>NEl.out (by injection e with e))
      have OI:=Lib.hid (OH.out.kept hg7 (.inr (OH.out.notMapP Mh.out)))
      have BI:=Lib.hid (hg7.size)
      have cp0:wi.cell? ⟨G,0,none⟩=some (.int .u32 (l.ten:Int)):=PGi.cell (k:=0) rfl
      have cp1:wi.cell? ⟨G,1,none⟩=some (.int .u8 (l.k:Int)):=PGi.cell (k:=1) rfl
      have cp2:wi.cell? ⟨G,2,none⟩=some (.int .u8 (l.lv:Int)):=PGi.cell (k:=2) rfl
      have cp3:wi.cell? ⟨G,3,none⟩=some (.int .u32 (l.pg:Int)):=PGi.cell (k:=3) rfl
      have cp4:wi.cell? ⟨G,4,none⟩=some (.int .u64 (l.cm:Int)):=PGi.cell (k:=4) rfl
      have cp5:wi.cell? ⟨G,5,none⟩=some (.int .u16 (l.gn:Int)):=PGi.cell (k:=5) rfl
      have cp6:wi.cell? ⟨G,6,none⟩=some (.slice yA pay.length yc):=PGi.cell (k:=6) rfl
      have cn0:wi.cell? ⟨w.heap.size+1,0,none⟩=some (.int .u32 (l.ten:Int)):=LBi.cell (k:=0) rfl
      have cn1:wi.cell? ⟨w.heap.size+1,1,none⟩=some (.int .u8 (l.k:Int)):=LBi.cell (k:=1) rfl
      have cn2:wi.cell? ⟨w.heap.size+1,2,none⟩=some (.int .u8 (l.lv:Int)):=LBi.cell (k:=2) rfl
      have cn3:wi.cell? ⟨w.heap.size+1,3,none⟩=some (.int .u32 (l.pg:Int)):=LBi.cell (k:=3) rfl
      have cn4:wi.cell? ⟨w.heap.size+1,4,none⟩=some (.int .u64 (l.cm:Int)):=LBi.cell (k:=4) rfl
      have cn5:wi.cell? ⟨w.heap.size+1,5,none⟩=some (.int .u16 (l.gn:Int)):=LBi.cell (k:=5) rfl
      have cpa:(wi.alloc (.cells #[] 5)).cell? ⟨G,6,none⟩=some (.slice yA pay.length yc):=(PGi.ab ((Below.refl _ _).alloc (Nat.le_refl _) _)).cell (k:=6) rfl
      have heq:=fun W=>eq_lab_self l W
      clear hi7 hg7 hz7 hb7 si f0 PGi LBi)
   | (refine wpList_appB _ rfl (.tmp 109) (.tmp 111) rfl Tryz.underlying22 hi0 hz0 hz1 hz2 rfl (empty_own wi) rfl ((OI.out.isB rfl).ab ((Below.refl _ _).alloc (Nat.le_refl _) _)) rfl (by have:=OL.out;simp;omega) (by simp) ?_
      intro vj wj hj hbj hgj htj
      rw[List.nil_append] at hj))
  go_ret2
  have bj:Below wi.heap.size wi wj:=((Below.refl _ _).alloc (Nat.le_refl _) _).trans hbj
  have sj:Wr (fun _=>False) wi (cutO O w.heap.size) wj (cutO O w.heap.size):=Wr.of bj _ (fun _ _=>rfl)
  have hkk:putK l.pg (l,pay) T.kn=T.kn++[(l.pg,(l,pay))]:=by unfold putK;rw[HPost.out.1];rfl
  have n9:=Ni.out.wr sj (fun _=>id) id
  rw[hkk] at n9
  rw[←HQ.out,if_neg HFR.out,if_neg HDN.out,HG9.out]
  dsimp only
  rw[HQ2.out,if_pos rfl]
  refine⟨_,_,rfl,OwB.lower hj (Nat.le_trans Bh.out.size BI.out),⟨_,n9,HB.out.1,HB.out.2.1,HB.out.2.2⟩,((Wr.cut Bh.out _).tr SI.out).tr (sj.imp fun _=>False.elim)⟩
set_option maxRecDepth 100000 in
theorem get_hit {w:World} {O:Tgm} {p d rg lg:Nat} {T:PgP} {l:Lb} (h:PgM w O p d rg lg T) {D:DvS} {k:Lb×List Nat} (hlk:k.2.length≤65552) (hD:DvM w O d D) (hl:l.Ok) (hf:T.fa=false) (hk:1≤l.k∧l.k≤3) (hp:1<l.pg∧l.pg<D.n) (hn:getK l.pg T.kn=some k):
 Calls Tryz.prog 11 #[.pointer (some ⟨p,0,none⟩),.int .u32 (l.ten:Int),.int .u8 (l.k:Int),.int .u8 (l.lv:Int),.agg #[.int .u32 (l.pg:Int),.int .u64 (l.cm:Int),.int .u16 (l.gn:Int)]] w (GetR w O p d rg lg (if k.1=l then (0,k.2,T) else (210,[],T))):=by
 obtain⟨q9,hq9⟩:∃q9,(if k.1=l then (0,k.2,T) else (210,[],T))=q9:=⟨_,rfl⟩
 rw[hq9]
 have HQ:=Lib.hid hq9
 clear hq9
 have H0:=Lib.hid h
 obtain⟨b,hN,hbd,hbr,hbl⟩:=h
 have N0:=Lib.hid fun W (hW:Below w.heap.size w W)=>hN.wr (Wr.cut (O:=O) hW (fun _=>False)) (fun _=>id) id
 have HM:=Lib.hid fun W hW=>may_any (N0.out W hW).box
 have B1:Hid (Below w.heap.size w (w.alloc (.cells #[.int .u32 (l.pg:Int),.int .u64 (l.cm:Int),.int .u16 (l.gn:Int)] 37))):=Lib.hid ((Below.refl _ _).alloc (Nat.le_refl _) _)
 rw[show mayP (pcS b T)=0 from by unfold mayP pcS;rw[hf];rfl] at HM
 have HH:Hid (∀W,Below w.heap.size w W→Calls Tryz.prog 37 #[.pointer (some ⟨p,0,none⟩),.int .u32 (l.pg:Int)] W fun e w'=>e = .returned (.bool true)∧W=w'):=Lib.hid fun W hW=>by
  obtain⟨g1,g2,wv,k1,_⟩:=hD.wr (Wr.cut (O:=O) hW (fun _=>False)) id
  rw[←hbd] at k1
  refine (phas_any l.pg hl.pg (N0.out W hW).box k1).mono ?_
  rw[decide_eq_true hp.1,decide_eq_true hp.2]
  exact fun _ _ h=>h
 have k1:decide ((l.k:Int)<1)=false:=decide_eq_false (by omega)
 have k2:decide ((3:Int)<(l.k:Int))=false:=decide_eq_false (by omega)
 have C0:Hid (∀W,Below w.heap.size w W→W.cell? ⟨p,4,none⟩=some (.map (some b.kn))):=Lib.hid fun W hW=>CbB.cell (N0.out W hW).box (k:=4) rfl
 have C1:Hid (∀W,Below w.heap.size w W→W.cell? ⟨p,0,none⟩=some (.pointer (some ⟨d,0,none⟩))):=Lib.hid fun W hW=>by rw[←hbd];exact CbB.cell (N0.out W hW).box (k:=0) rfl
 have C2:Hid (∀W,Below w.heap.size w W→W.cell? ⟨p,1,none⟩=some (.pointer (some ⟨rg,0,none⟩))):=Lib.hid fun W hW=>by rw[←hbr];exact CbB.cell (N0.out W hW).box (k:=1) rfl
 obtain⟨vs0,hkm,hkv⟩:=hN.kn
 have hnok:u32Okp l.pg:=hl.pg
 obtain⟨v,hv0,hv1⟩:∃v,lookL l.pg vs0=some v∧PgV w O v k.1 k.2:=by
  rcases hkv.look l.pg with ⟨_,e2⟩ | ⟨v,k',e1,e2,e3⟩
  · rw[hn] at e2;cases e2
  · rw[hn] at e2
    injection e2 with e2
    subst e2
    exact⟨v,e1,e3⟩
 obtain⟨x,rfl,⟨pA,pn,pc,rfl,hpi,hpt⟩,hko⟩:=hv1
 have LK:Hid (∀W,Below w.heap.size w W→(Instr.lookup 98 (.map (some b.kn)) (.int .u32 (l.pg:Int)) true).run Tryz.prog W = .ok (.tuple #[.agg #[.int .u32 (k.1.ten:Int),.int .u8 (k.1.k:Int),.int .u8 (k.1.lv:Int),.int .u32 (k.1.pg:Int),.int .u64 (k.1.cm:Int),.int .u16 (k.1.gn:Int),.slice pA pn pc],.bool true]) W):=Lib.hid fun W hW=>(hkm.low hW hkm.lt).look_some u32p_K Tryz.underlying98 hnok hv0 true
 have HB:=Lib.hid (And.intro hbd (And.intro hbr hbl))
 have PI:=Lib.hid hpi
 have PL:Hid (pn≤140737488355328):=Lib.hid (by have h1:=hpi.len;omega)
 clear hf hN hk hp hl hkm hkv hnok hv0 hn hbd hbr hbl hD hpt hpi hko hlk
 go_enter Tryz.func11,Tryz.ntmps11
 go_wp2_with fail
 refine (HM.out _ B1.out).mono ?_
 rintro e w1 ⟨rfl,rfl⟩
 go_wp2_with fail
 refine (HH.out _ B1.out).mono ?_
 rintro e w1 ⟨rfl,rfl⟩
 go_upto_region 7 with (fail)
 have b7:Below w.heap.size w ((w.alloc (.cells #[.int .u32 (l.pg:Int),.int .u64 (l.cm:Int),.int .u16 (l.gn:Int)] 37)).alloc (.cells #[.int .u32 (l.ten:Int),.int .u8 (l.k:Int),.int .u8 (l.lv:Int),.int .u32 (l.pg:Int),.int .u64 (l.cm:Int),.int .u16 (l.gn:Int)] 66)):=B1.out.alloc B1.out.size _
 have rb7:CbB ((w.alloc (.cells #[.int .u32 (l.pg:Int),.int .u64 (l.cm:Int),.int .u16 (l.gn:Int)] 37)).alloc (.cells #[.int .u32 (l.ten:Int),.int .u8 (l.k:Int),.int .u8 (l.lv:Int),.int .u32 (l.pg:Int),.int .u64 (l.cm:Int),.int .u16 (l.gn:Int)] 66)) w.heap.size 37 #[.int .u32 (l.pg:Int),.int .u64 (l.cm:Int),.int .u16 (l.gn:Int)]:=(CbB.new _ _ _).ab ((Below.refl _ _).alloc (Nat.le_refl _) _)
 have lb7:CbB ((w.alloc (.cells #[.int .u32 (l.pg:Int),.int .u64 (l.cm:Int),.int .u16 (l.gn:Int)] 37)).alloc (.cells #[.int .u32 (l.ten:Int),.int .u8 (l.k:Int),.int .u8 (l.lv:Int),.int .u32 (l.pg:Int),.int .u64 (l.cm:Int),.int .u16 (l.gn:Int)] 66)) (w.heap.size+1) 66 #[.int .u32 (l.ten:Int),.int .u8 (l.k:Int),.int .u8 (l.lv:Int),.int .u32 (l.pg:Int),.int .u64 (l.cm:Int),.int .u16 (l.gn:Int)]:=by
  have:=CbB.new (w.alloc (.cells #[.int .u32 (l.pg:Int),.int .u64 (l.cm:Int),.int .u16 (l.gn:Int)] 37)) 66 #[.int .u32 (l.ten:Int),.int .u8 (l.k:Int),.int .u8 (l.lv:Int),.int .u32 (l.pg:Int),.int .u64 (l.cm:Int),.int .u16 (l.gn:Int)]
  simpa using this
 obtain⟨w7,hw7⟩:∃w7,(w.alloc (.cells #[.int .u32 (l.pg:Int),.int .u64 (l.cm:Int),.int .u16 (l.gn:Int)] 37)).alloc (.cells #[.int .u32 (l.ten:Int),.int .u8 (l.k:Int),.int .u8 (l.lv:Int),.int .u32 (l.pg:Int),.int .u64 (l.cm:Int),.int .u16 (l.gn:Int)] 66)=w7:=⟨_,rfl⟩
 rw[hw7] at b7 rb7 lb7⊢
 have B7:=Lib.hid b7
 have RB7:=Lib.hid rb7
 have LB7:=Lib.hid lb7
 clear hw7 b7 rb7 lb7 B1 HM HH k1 k2
 have c04:w7.cell? ⟨p,4,none⟩=some (.map (some b.kn)):=C0.out w7 B7.out
 have c08:w7.cell? ⟨w.heap.size,0,none⟩=some (.int .u32 (l.pg:Int)):=RB7.out.cell (k:=0) rfl
 have ba7:Below w.heap.size w (w7.alloc (.cells #[.int .u32 0,.int .u8 0,.int .u8 0,.int .u32 0,.int .u64 0,.int .u16 0,.slice none 0 0] 107)):=B7.out.alloc B7.out.size _
 have lk7:=LK.out w7.drew ⟨B7.out.os,B7.out.tape,B7.out.output,B7.out.size,B7.out.block⟩
 have c05:(w7.alloc (.cells #[.int .u32 0,.int .u8 0,.int .u8 0,.int .u32 0,.int .u64 0,.int .u16 0,.slice none 0 0] 107)).cell? ⟨p,4,none⟩=some (.map (some b.kn)):=C0.out _ ba7
 have c09:(w7.alloc (.cells #[.int .u32 0,.int .u8 0,.int .u8 0,.int .u32 0,.int .u64 0,.int .u16 0,.slice none 0 0] 107)).cell? ⟨w.heap.size,0,none⟩=some (.int .u32 (l.pg:Int)):=(RB7.out.ab ((Below.refl _ _).alloc (Nat.le_refl _) _)).cell (k:=0) rfl
 have lk8:=LK.out (w7.alloc (.cells #[.int .u32 0,.int .u8 0,.int .u8 0,.int .u32 0,.int .u64 0,.int .u16 0,.slice none 0 0] 107)).drew ⟨ba7.os,ba7.tape,ba7.output,ba7.size,ba7.block⟩
 clear ba7
 go_region
 all_goals
  have pg9:CbB (w7.alloc (.cells #[.int .u32 (k.1.ten:Int),.int .u8 (k.1.k:Int),.int .u8 (k.1.lv:Int),.int .u32 (k.1.pg:Int),.int .u64 (k.1.cm:Int),.int .u16 (k.1.gn:Int),.slice pA pn pc] 107)).drew w7.heap.size 107 #[.int .u32 (k.1.ten:Int),.int .u8 (k.1.k:Int),.int .u8 (k.1.lv:Int),.int .u32 (k.1.pg:Int),.int .u64 (k.1.cm:Int),.int .u16 (k.1.gn:Int),.slice pA pn pc]:=CbB.new _ _ _
  have b79:Below w7.heap.size w7 (w7.alloc (.cells #[.int .u32 (k.1.ten:Int),.int .u8 (k.1.k:Int),.int .u8 (k.1.lv:Int),.int .u32 (k.1.pg:Int),.int .u64 (k.1.cm:Int),.int .u16 (k.1.gn:Int),.slice pA pn pc] 107)).drew:=(fun h=>⟨h.os,h.tape,h.output,h.size,h.block⟩) ((Below.refl _ w7).alloc (Nat.le_refl _) (.cells #[.int .u32 (k.1.ten:Int),.int .u8 (k.1.k:Int),.int .u8 (k.1.lv:Int),.int .u32 (k.1.pg:Int),.int .u64 (k.1.cm:Int),.int .u16 (k.1.gn:Int),.slice pA pn pc] 107))
  go_upto_region 22 with (fail)
  obtain⟨w9,hw9⟩:∃w9,(w7.alloc (.cells #[.int .u32 (k.1.ten:Int),.int .u8 (k.1.k:Int),.int .u8 (k.1.lv:Int),.int .u32 (k.1.pg:Int),.int .u64 (k.1.cm:Int),.int .u16 (k.1.gn:Int),.slice pA pn pc] 107)).drew=w9:=⟨_,rfl⟩
  rw[hw9] at pg9 b79⊢
  have B9:=Lib.hid (below_tr B7.out b79 B7.out.size)
  have RB9:=Lib.hid (RB7.out.ab b79)
  have LB9:=Lib.hid (LB7.out.ab b79)
  obtain⟨G,hG⟩:∃G,w7.heap.size=G:=⟨_,rfl⟩
  have HG:Hid (w7.heap.size≤G):=Lib.hid (by rw[hG];exact Nat.le_refl _)
  rw[hG] at pg9⊢
  have PG9:=Lib.hid pg9
  clear hG pg9 b79 hw9 c04 c05 c08 c09 lk7 lk8
  have cq0:w9.cell? ⟨G,0,none⟩=some (.int .u32 (k.1.ten:Int)):=PG9.out.cell (k:=0) rfl
  have cq1:w9.cell? ⟨G,1,none⟩=some (.int .u8 (k.1.k:Int)):=PG9.out.cell (k:=1) rfl
  have cq2:w9.cell? ⟨G,2,none⟩=some (.int .u8 (k.1.lv:Int)):=PG9.out.cell (k:=2) rfl
  have cq3:w9.cell? ⟨G,3,none⟩=some (.int .u32 (k.1.pg:Int)):=PG9.out.cell (k:=3) rfl
  have cq4:w9.cell? ⟨G,4,none⟩=some (.int .u64 (k.1.cm:Int)):=PG9.out.cell (k:=4) rfl
  have cq5:w9.cell? ⟨G,5,none⟩=some (.int .u16 (k.1.gn:Int)):=PG9.out.cell (k:=5) rfl
  have cn0:w9.cell? ⟨w.heap.size+1,0,none⟩=some (.int .u32 (l.ten:Int)):=LB9.out.cell (k:=0) rfl
  have cn1:w9.cell? ⟨w.heap.size+1,1,none⟩=some (.int .u8 (l.k:Int)):=LB9.out.cell (k:=1) rfl
  have cn2:w9.cell? ⟨w.heap.size+1,2,none⟩=some (.int .u8 (l.lv:Int)):=LB9.out.cell (k:=2) rfl
  have cn3:w9.cell? ⟨w.heap.size+1,3,none⟩=some (.int .u32 (l.pg:Int)):=LB9.out.cell (k:=3) rfl
  have cn4:w9.cell? ⟨w.heap.size+1,4,none⟩=some (.int .u64 (l.cm:Int)):=LB9.out.cell (k:=4) rfl
  have cn5:w9.cell? ⟨w.heap.size+1,5,none⟩=some (.int .u16 (l.gn:Int)):=LB9.out.cell (k:=5) rfl
  obtain⟨i0,hi0,hz0,hz1,hz2⟩:=info_parts infoU8
  have heq:=fun W=>eq_lab k.1 l W
  have cpa:(w9.alloc (.cells #[] 5)).cell? ⟨G,6,none⟩=some (.slice pA pn pc):=(PG9.out.ab ((Below.refl _ _).alloc (Nat.le_refl _) _)).cell (k:=6) rfl
  by_cases hkl:k.1=l
  case neg=>
   rw[decide_eq_false hkl] at heq
   have HKL:=Lib.hid hkl
   clear hkl
   go_wp2_with fail
   go_ret2
   rw[←HQ.out,if_neg HKL.out]
   exact GetR.err H0.out B9.out 210
  rw[decide_eq_true hkl] at heq
  have HKL:=Lib.hid hkl
  clear hkl
  have PI9:=Lib.hid (PI.out.ab B9.out)
  go_wp2_with (first
   | (refine wpList_appB _ rfl (.tmp 109) (.tmp 111) rfl Tryz.underlying22 hi0 hz0 hz1 hz2 rfl (empty_own w9) rfl (PI9.out.ab ((Below.refl _ _).alloc (Nat.le_refl _) _)) rfl (by have:=PL.out;simp;omega) (by simp) ?_
      intro vj wj hj hbj hgj htj
      rw[List.nil_append] at hj))
  go_ret2
  rw[←HQ.out,if_pos HKL.out]
  have bj:Below w.heap.size w wj:=B9.out.trans ((((Below.refl _ _).alloc (Nat.le_refl _) _).trans hbj).mono B9.out.size)
  exact⟨_,_,rfl,OwB.lower hj B9.out.size,H0.out.wr (Wr.cut (O:=O) bj (fun _=>False)) (fun _=>id) id,Wr.cut bj _⟩
theorem pget_any {w:World} {O:Tgm} {p d rg lg:Nat} {T:PgP} {l:Lb} (h:PgM w O p d rg lg T) {R:RgL} {D:DvS} (hD:DvM w O d D) (hR:RgM w O rg R) (okD:D.Ok) (hl:l.Ok) (hlk:∀q∈T.kn,q.2.2.length≤65552):
 Calls Tryz.prog 11 #[.pointer (some ⟨p,0,none⟩),.int .u32 (l.ten:Int),.int .u8 (l.k:Int),.int .u8 (l.lv:Int),.agg #[.int .u32 (l.pg:Int),.int .u64 (l.cm:Int),.int .u16 (l.gn:Int)]] w (GetR w O p d rg lg (getP R D T l)):=by
 unfold getP
 by_cases h1:T.fa=true
 · rw[if_pos h1];exact get_fails h h1
 rw[if_neg h1]
 have h1':T.fa=false:=by simpa using h1
 by_cases h2:1≤l.k∧l.k≤3
 · rw[if_neg (by simpa using h2)]
   by_cases h3:1<l.pg∧l.pg<D.n
   · rw[if_neg (by simpa using h3)]
     cases h4:getK l.pg T.kn with
     | some k=>exact get_hit h (hlk _ (getK_mem h4)) hD hl h1' h2 h3 h4
     | none=>exact get_miss h hD hR okD hl h1' h2 h3 h4
   · rw[if_pos h3];exact get_has h hD hl h1' h2 h3
 · rw[if_pos h2];exact get_kind h h1' h2
end Go.Proofs.YtljmiiiidjeggaaGreat
