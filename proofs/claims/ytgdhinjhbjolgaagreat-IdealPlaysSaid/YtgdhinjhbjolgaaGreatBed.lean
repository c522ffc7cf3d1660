/-
  Parts of the proof, joined.
-/
import Derived.Test.YtgdhinjhbjolgaaGreatBdv
import Derived.Test.YtgdhinjhbjolgaaGreatBec
namespace Go.Proofs.YtgdhinjhbjolgaaGreat
set_option maxHeartbeats 4000000
open Go.RowKit Go.Shelf
set_option linter.unusedVariables false
set_option linter.unusedSimpArgs false
theorem type_assertN (v:Value) (w:World):(Instr.typeAssert (.iface 69 v) 20 69 false).run Tryz.prog w = .ok v w:=by
 kernel_rfl
set_option maxRecDepth 100000 in
theorem snpClone (m:Nat) (l:List (Nat×Value)) (w:World) (h:MapB u64V u64Ok w m l):Calls Tryz.prog 22 #[.map (some m)] w fun e w'=>e = .returned (.map (some w.heap.size))∧MapB u64V u64Ok w' w.heap.size l∧Below w.heap.size w w'∧w'.heap.size=w.heap.size+1:=by
 obtain⟨es,clock,h1,h2,h3,h4⟩:=h
 have hq:=fun m W=>map_neX Tryz.underlying69 m W
 have ha:Below w.heap.size w (w.alloc (.map es clock)):=alB
 have HH:=zz (show MapB u64V u64Ok (w.alloc (.map es clock)) w.heap.size l from⟨es,clock,heap_alloc_new w _,h2,h3,h4⟩)
 have HA:=zz ha
 have H1:=zz h1
 clear h1 h2 h3 h4 ha
 go_enter Tryz.func22,Tryz.ntmps22
 go_wp2_with fail
 rw[run_callFunc_extern Tryz.func35 (by kernel_rfl) (by kernel_rfl) (by kernel_rfl) (e:=Extern.MapsClone.clone) (by kernel_rfl),run_maps_clone_sl w 69 H1.out]
 simp only[Result.andThen]
 rw[Oper.upon_value]
 go_wp2_with fail
 rw[type_assertN]
 simp only[Result.andThen]
 rw[Oper.upon_value]
 go_wp2_with fail
 go_ret
 exact⟨rfl,HH.out,HA.out,by simp⟩
def gT (bs:List (Nat×TnP)) (p:Nat×Value):TnP:=match fnd bs p.1 with | some y=>y.2 | none=>⟨0,[],0,[],[],[],false⟩
theorem gT_all {bs:List (Nat×TnP)} (hn:(bs.map fun x=>x.2.n).Nodup):(bs.map fun x=>(x.2.n,ptrV x.1)).map (gT bs)=bs.map (·.2):=by
 rw[List.map_map]
 refine List.map_congr_left fun x hx=>?_
 simp only[Function.comp_apply,gT,fnd_of hn hx]
theorem CpA.frx {w w':World} {B c:Nat} {mo:Option Nat} {A:HL} {F:Nat→Prop} (h:CpA w B c mo A) (hf:Fr w w' F) (hc:¬F c) (hm:∀m,mo=some m→¬F m):CpA w' 0 c mo A:=by
 obtain⟨⟨l,h1,h2⟩,h3,h4⟩:=h
 exact⟨⟨l,⟨h1.box.fr hf hc,Nat.zero_le _,fun m hm'=>⟨Nat.zero_le _,(h1.map m hm').2.same (hf.block m (h1.map m hm').2.lt (hm m hm'))⟩,h1.nil,h1.le⟩,h2⟩,h3,h4⟩
structure CpyS (w:World) (O:Tg) (m rb s' m':Nat) (bs:List (Nat×TnP)) (bk:Nat) (d:List (Nat×Value)) (bs':List (Nat×TnP)) (wr:World) (O1:Tg):Prop where
 rng:RngB u32V u32Ok wr m rb (bs.map fun x=>(x.2.n,ptrV x.1)) d
 st:Stp (fun _=>False) w O wr O1
 map:MapB u32V u32Ok wr m' (bs'.map fun x=>(x.2.n,ptrV x.1))
 tn:∀x∈bs',TnB wr O1 s' x.1 x.2
 ok:∀x∈bs',TnOk x.2
 same:bs'.map (·.2)=d.map (gT bs)
 keys:bs'.map (fun x=>x.2.n)=d.map (·.1)
 rt:O1 rb=some (s',0)
 ot:O1 s'=some (s',0)
 om:O1 m'=some (s',0)
 box:CbB wr s' 58 #[.int .i64 (bk:Int),.map (some m')]
theorem putL_none {κ:Type} [DecidableEq κ] {l:List (κ×Value)} {x:κ} {v:Value} (h:x∉l.map (·.1)):putL x v l=l++[(x,v)]:=by
 unfold putL
 have:lookL x l=none:=lookL_none.2 fun p hp e=>h (List.mem_map.2 ⟨p,hp,e⟩)
 rw[this]
 simp
theorem cpy_round {w:World} {O:Tg} {s m rb s' m' bk u:Nat} {bs bs':List (Nat×TnP)} {d:List (Nat×Value)} {wr w9:World} {O1:Tg} {x:Nat×TnP} {c nb sm sm0 c0:Nat} {mo mo0:Option Nat} {es:List (Nat×Value)}
 (h:CpyS w O m rb s' m' bs bk d bs' wr O1) (hx:x∈bs) (hnd:(bs.map fun x=>x.2.n).Nodup) (hok:TnOk x.2) (hxd:x.2.n∉d.map (·.1))
 (ht:TnM wr O1 s x.1 x.2 c0 mo0 sm0 nb es) (hms:m'≠s'∧rb≠s') (hnw:w.heap.size≤rb∧w.heap.size≤m')
 (hrng:RngB u32V u32Ok w9 m rb (bs.map fun x=>(x.2.n,ptrV x.1)) (d++[(x.2.n,ptrV x.1)])) (hfr:Fr wr w9 (fun k=>k=rb∨k=m')) (hu:wr.heap.size≤u) (hc:wr.heap.size≤c) (hmo:∀q,mo=some q→wr.heap.size≤q∧q≠sm) (hsm:wr.heap.size≤sm)
 (hbox:CbB w9 u 71 #[.string (strOf x.2.sec),.int .i64 (x.2.q:Int),.map (some nb),.pointer (some ⟨c,0,none⟩),.map (some sm),.int .u64 (x.2.sn.length:Int),.bool x.2.tu])
 (hcap:CpA w9 0 c mo x.2.A) (hmap:MapB u64V u64Ok w9 sm es) (hput:MapB u32V u32Ok w9 m' (putL x.2.n (ptrV u) (bs'.map fun x=>(x.2.n,ptrV x.1)))):
 CpyS w O m rb s' m' bs bk (d++[(x.2.n,ptrV x.1)]) (bs'++[(u,x.2)]) w9 (opnTg O1 wr.heap.size s' x.2.n):=by
 have st2:Stp (fun τ=>τ=(s',0)) wr O1 w9 (opnTg O1 wr.heap.size s' x.2.n):=⟨hfr.imp fun k hk=>by
  rcases hk with rfl | rfl
  · exact⟨_,h.rt,rfl⟩
  · exact⟨_,h.om,rfl⟩,fun k hk=>opnTg_lt hk⟩
 have st0:Stp (fun _=>False) w O w9 (opnTg O1 wr.heap.size s' x.2.n):=by
  refine⟨⟨hfr.os.trans h.st.fr.os,hfr.tape.trans h.st.fr.tape,hfr.output.trans h.st.fr.output,Nat.le_trans h.st.size hfr.size,fun i hi hn=>?_⟩,fun k hk=>(opnTg_lt (Nat.lt_of_lt_of_le hk h.st.size)).trans (h.st.tg k hk)⟩
  refine (hfr.block i (Nat.lt_of_lt_of_le hi h.st.size) fun e=>?_).trans (h.st.fr.block i hi hn)
  rcases e with e | e <;> omega
 obtain⟨_,_,hnb,_⟩:=id ht.now
 have tx:TnB w9 (opnTg O1 wr.heap.size s' x.2.n) s' u x.2:=
  ⟨c,mo,sm,nb,es,hbox,ht.now.stp ht.nowO st2,(st2.im hnb.lt ht.nowO).2,hcap,hmap,ht.sns.stp st2,opnTg_ge hu,opnTg_ge hc,fun q hq=>opnTg_ge (hmo q hq).1,opnTg_ge hsm,fun e=>(hmo sm e).2 rfl⟩
 have hg:gT bs (x.2.n,ptrV x.1)=x.2:=by simp only[gT,fnd_of hnd hx]
 have hkx:x.2.n∉(bs'.map fun x=>(x.2.n,ptrV x.1)).map (·.1):=by
  rw[List.map_map]
  show x.2.n∉bs'.map (fun x=>x.2.n)
  rw[h.keys]
  exact hxd
 refine⟨hrng,st0,?_,fun y hy=>?_,fun y hy=>?_,?_,?_,(st2.tg rb h.rng.lt).trans h.rt,(st2.tg s' h.box.lt).trans h.ot,(st2.tg m' h.map.lt).trans h.om,h.box.fr hfr fun e=>?_⟩
 · rw[List.map_append]
   rw[putL_none hkx] at hput
   exact hput
 · rcases List.mem_append.1 hy with hy | hy
   · refine (h.tn y hy).stp st2 fun e=>?_
     injection e with _ e
     have:=(h.ok y hy).n1
     omega
   · simp only[List.mem_singleton] at hy
     subst hy
     exact tx
 · rcases List.mem_append.1 hy with hy | hy
   · exact h.ok y hy
   · simp only[List.mem_singleton] at hy
     subst hy
     exact hok
 · rw[List.map_append,List.map_append,h.same]
   simp[hg]
 · rw[List.map_append,List.map_append,h.keys]
   rfl
 · rcases e with e | e
   · exact hms.2 e.symm
   · exact hms.1 e.symm
section
variable {w:World} {O:Tg} {s blocks m:Nat} {T:List TnP} {bs:List (Nat×TnP)}
set_option maxRecDepth 100000 in
theorem pcopy_any (h:IdM w O s blocks T m bs) (hu:0<w.heap.size):Calls Tryz.prog 7 #[.pointer (some ⟨s,0,none⟩)] w fun e w'=>∃s' O',e = .returned (.pointer (some ⟨s',0,none⟩))∧w.heap.size≤s'∧IdB w' O' s' blocks T∧Stp (fun _=>False) w O w' O':=by
 have HN:=zz (none_no s m _ w h.box)
 have c0:=h.box.cell (k:=0) rfl
 have HM:=zz h
 have ND:=zz h.nodup
 have NDE:=zz (h.map.nodup u32_K)
 have hmm:∀W:World,(Instr.makeMap 56 none).run Tryz.prog W = .ok (.map (some W.heap.size)) (W.alloc (.map #[] 0)):=fun _=>rfl
 clear h
 go_enter Tryz.func7,Tryz.ntmps7
 go_wp2_with fail
 refine HN.out.mono ?_
 rintro e w1 ⟨rfl,rfl⟩
 clear HN
 go_upto_region 4 with (fail)
 have ha:Below w.heap.size w ((w.alloc (.map #[] 0)).alloc (.cells #[.int .i64 (blocks:Int),.map (some w.heap.size)] 58)):=alB.alloc (by simp) _
 have hmp:MapB u32V u32Ok ((w.alloc (.map #[] 0)).alloc (.cells #[.int .i64 (blocks:Int),.map (some w.heap.size)] 58)) w.heap.size []:=(MapB.new u32V u32Ok w).alloc _
 have hbx:CbB ((w.alloc (.map #[] 0)).alloc (.cells #[.int .i64 (blocks:Int),.map (some w.heap.size)] 58)) (w.heap.size+1) 58 #[.int .i64 (blocks:Int),.map (some w.heap.size)]:=CbB.newI (by simp)
 obtain⟨w0,hw0⟩:∃w0,((w.alloc (.map #[] 0)).alloc (.cells #[.int .i64 (blocks:Int),.map (some w.heap.size)] 58))=w0:=⟨_,rfl⟩
 rw[hw0] at ha hmp hbx⊢
 have hs0:w0.heap.size=w.heap.size+2:=by rw[←hw0];simp
 have SZ0:=zz hs0
 have HA:=zz ha
 have MP0:=zz hmp
 have BX0:=zz hbx
 have MP:=zz (HM.out.map.ab ha)
 have c1:=(HM.out.box.ab ha).cell (k:=1) rfl
 clear hw0 ha hmp hbx c0 hs0
 go_wp2_with (first
  | (refine wpList_mapRange rfl (.tmp 19) rfl Tryz.underlying56 rfl MP.out ?_
     intro w2 r2 b2 s2
     have R2:=zz r2
     have B2:=zz b2
     clear r2 b2 s2
     simp[Act.put]))
 clear c1
 obtain⟨rb,hrb⟩:∃rb,w0.heap.size=rb:=⟨_,rfl⟩
 obtain⟨m',hm'⟩:∃m',w.heap.size=m':=⟨_,rfl⟩
 obtain⟨s',hs'⟩:∃s',w.heap.size+1=s':=⟨_,rfl⟩
 rw[hs'] at BX0⊢
 have MW:=zz hm'
 rw[hm'] at BX0 MP0⊢
 rw[hrb] at R2⊢
 have RB:=zz (show w.heap.size≤rb∧w.heap.size≤m'∧w.heap.size≤s'∧m'≠s'∧rb≠s'∧rb≠m'∧0<s' by have:=SZ0.out;omega)
 clear hrb hm' hs'
 have S0:Hid (CpyS w O m rb s' m' bs blocks [] [] w2 (opnTg O w.heap.size s' 0)):=zz (by
  have st:Stp (fun _=>False) w O w2 (opnTg O w.heap.size s' 0):=Stp.of (below_tr HA.out B2.out HA.out.size) _ fun k hk=>opnTg_lt hk
  exact⟨R2.out,st,MP0.out.ab B2.out,fun x hx=>(by cases hx),fun x hx=>(by cases hx),rfl,rfl,opnTg_ge RB.out.1,opnTg_ge RB.out.2.2.1,opnTg_ge RB.out.2.1,BX0.out.ab B2.out⟩)
 go_loopg [] (bs.length) (fun k wr=>∃d bs' O1,bs.length-d.length≤k∧CpyS w O m rb s' m' bs blocks d bs' wr O1)
 case atStart=>exact⟨[],[],_,by simp,S0.out⟩
 case round=>
  obtain⟨d,bs',O1,hk,hs⟩:=hrel
  have HK:=zz hk
  have OS:=zz hs
  rcases hs.rng.next u32_K 0 with ⟨hall,hrun⟩ | ⟨p,w3,hp,hd,hrun,hr2,hg2,hs2,hent,hbel⟩
  · have FIN:Hid (IdB wr O1 s' blocks T∧Stp (fun _=>False) w O wr O1):=zz (by
     obtain⟨_,_,_,_,_,_,_,_,_,_,_,_,_,_,hsub,hnd⟩:=OS.out.rng
     refine⟨⟨m',bs',OS.out.box,OS.out.map,?_,OS.out.tn,OS.out.ok,OS.out.ot,OS.out.om,RB.out.2.2.2.2.2.2⟩,OS.out.st⟩
     rw[OS.out.same]
     have p1:=(all_perm hnd NDE.out hsub hall).map (gT bs)
     rw[gT_all ND.out] at p1
     exact p1.trans HM.out.prm)
    clear hk hs hall
    go_wp2_with fail
    go_ret
    exact⟨_,_,rfl,RB.out.2.2.1,FIN.out⟩
  · obtain⟨x,hx,rfl⟩:=List.mem_map.1 hp
    have HX:=zz hx
    have XD:Hid (x.2.n∉d.map (·.1)):=zz fun hm=>by
     obtain⟨p,hpp,hpn⟩:=List.mem_map.1 hm
     obtain⟨_,_,_,_,_,_,_,_,_,_,_,_,_,_,hsub,_⟩:=hs.rng
     obtain⟨y,hy,rfl⟩:=List.mem_map.1 (hsub p hpp)
     simp only at hpn
     obtain rfl:y=x:=nodup_one ND.out hy hx hpn
     exact hd hpp
    have HR2:=zz hr2
    have HG2:=zz hg2
    have HS2:=zz hs2
    have HMM:Hid (d.length<bs.length):=zz (by have:=hr2.len_le;simp at this;omega)
    obtain⟨c0,mo0,sm0,nb,es,ht⟩:=(HM.out.all x hx).stp OS.out.st (fun h=>h)
    have HT:=zz ht
    have ltW:∀k,k<w.heap.size→k≠rb:=fun k hk=>by have:=RB.out.1;omega
    have B3:Hid (Below w.heap.size wr w3):=zz ⟨hg2.os,hg2.tape,hg2.output,hs2▸hg2.size,fun i hi=>hg2.block i (Nat.lt_of_lt_of_le hi OS.out.st.size) (fun e=>by injection e with e;exact ltW i hi e)⟩
    obtain⟨c00,mo00,sm00,nb00,es00,ht00⟩:=HM.out.all x hx
    have HX0:x.1<w.heap.size:=ht00.box.lt
    have XB3:Hid (CbB w3 x.1 71 _):=zz (ht.box.grown hg2 (fun e=>ltW x.1 HX0 e))
    have xb:=XB3.out
    simp only[u32V,ptrV] at hrun hent
    clear hk hs hp hd hr2 hg2 hs2 hbel ht ht00
    go_upto_region 7 with (fail)
    clear hrun hent
    have y0:=xb.cell (k:=0) rfl
    have y1:=xb.cell (k:=1) rfl
    have y2:=xb.cell (k:=2) rfl
    have y3:=xb.cell (k:=3) rfl
    have y4:=xb.cell (k:=4) rfl
    have y5:=xb.cell (k:=5) rfl
    have y6:=xb.cell (k:=6) rfl
    clear xb
    go_upto_region 8 with (fail)
    have U3:=zz (show CbB (w3.alloc (.cells #[.string (strOf x.2.sec),.int .i64 (x.2.q:Int),.map (some nb),.pointer (some ⟨c0,0,none⟩),.map (some sm0),.int .u64 (x.2.sn.length:Int),.bool x.2.tu] 71)) w3.heap.size 71 _ from CbB.new w3 _ _)
    have b4:Below w3.heap.size w3 (w3.alloc (.cells #[.string (strOf x.2.sec),.int .i64 (x.2.q:Int),.map (some nb),.pointer (some ⟨c0,0,none⟩),.map (some sm0),.int .u64 (x.2.sn.length:Int),.bool x.2.tu] 71)):=alB
    have z4:(w3.alloc (.cells #[.string (strOf x.2.sec),.int .i64 (x.2.q:Int),.map (some nb),.pointer (some ⟨c0,0,none⟩),.map (some sm0),.int .u64 (x.2.sn.length:Int),.bool x.2.tu] 71)).heap.size=w3.heap.size+1:=by simp
    obtain⟨w4,hw4⟩:∃w4,(w3.alloc (.cells #[.string (strOf x.2.sec),.int .i64 (x.2.q:Int),.map (some nb),.pointer (some ⟨c0,0,none⟩),.map (some sm0),.int .u64 (x.2.sn.length:Int),.bool x.2.tu] 71))=w4:=⟨_,rfl⟩
    rw[hw4] at U3 b4 z4⊢
    have B4:=zz b4
    have Z4:=zz z4
    clear hw4 b4 z4 y0 y1 y2 y3 y4 y5 y6
    obtain⟨u,hu3⟩:∃u,w3.heap.size=u:=⟨_,rfl⟩
    rw[hu3] at U3⊢
    have UU:=zz hu3
    clear hu3
    have XB4:=zz (XB3.out.ab B4.out)
    have SM3:MapB u64V u64Ok w3 sm0 es:=HT.out.snm.grown HG2.out (fun e=>by
     injection e with e
     obtain⟨_,_,_,_,_,_,_,_,_,hh,_⟩:=OS.out.rng
     obtain⟨_,_,hh2,_⟩:=HT.out.snm
     rw[←e,hh] at hh2
     cases hh2)
    have HCL:=zz (snpClone sm0 es w4 (SM3.ab B4.out))
    have y4:w4.cell? ⟨x.1,4,none⟩=some (.map (some sm0)):=XB4.out.cell (k:=4) rfl
    go_wp2_with fail
    refine HCL.out.mono ?_
    rintro e w5 ⟨rfl,hm5,hb5,hz5⟩
    have B5:=zz hb5
    have U5:=zz (U3.out.ab hb5)
    have XB5:=zz (XB4.out.ab hb5)
    have M5:=zz hm5
    have f4:=U5.out.free 4
    have g4:w5.cell? ⟨u,4,none⟩=some (.map (some sm0)):=U5.out.cell (k:=4) rfl
    clear hm5 hb5 hz5 HCL y4
    go_upto_region 9 with (fail)
    have XU:Hid (x.1≠u):=zz fun e=>by have h1:=XB3.out.lt;have:=UU.out;omega
    have U6:=zz (U5.out.set 4 (.map (some w4.heap.size)))
    have F6:=zz (fr_set w5 u 4 (.map (some w4.heap.size)))
    have XB6:=zz (XB5.out.fr F6.out XU.out)
    obtain⟨w6,hw6⟩:∃w6,w5.setCell ⟨u,4,none⟩ (.map (some w4.heap.size))=w6:=⟨_,rfl⟩
    rw[hw6] at U6 F6 XB6⊢
    clear hw6 f4 g4
    obtain⟨sm,hsm⟩:∃sm,w4.heap.size=sm:=⟨_,rfl⟩
    rw[hsm] at U6 M5⊢
    have SM:=zz hsm
    clear hsm
    have LU:Hid (w.heap.size≤u∧u<sm∧sm<w5.heap.size):=zz (by
     have h1:=UU.out
     have h2:=B3.out.size
     have h6:=OS.out.st.size
     have h3:=Z4.out
     have h4:=SM.out
     have h5:=M5.out.lt
     omega)
    have FW:Hid (Fr wr w6 (fun k=>k=rb∨k=u)):=zz ((((Fr.grown HG2.out).imp fun k e=>.inl (by injection e with e;exact e.symm)).tr (Fr.of (below_tr B4.out B5.out B4.out.size) _)).tr (F6.out.imp fun k e=>.inr e))
    have WRS:Hid (wr.heap.size=u):=zz (by rw[←UU.out];exact HS2.out.symm)
    have CP6:=zz (HT.out.caps.frx FW.out (fun e=>by
     have hl:=HT.out.caps.lt.1
     rcases e with e | e
     · obtain⟨l,h4,_⟩:=HT.out.caps.st
       obtain⟨_,_,_,_,_,_,_,_,_,hh,_⟩:=OS.out.rng
       have h5:=h4.box
       unfold CbB at h5
       rw[e,hh] at h5
       cases h5
     · have:=WRS.out;omega) (fun q hq e=>by
     have hl:=HT.out.caps.lt.2 q hq
     rcases e with e | e
     · obtain⟨l,h4,_⟩:=HT.out.caps.st
       obtain⟨_,_,_,_,_,_,_,_,_,hh,_⟩:=OS.out.rng
       obtain⟨_,_,h5,_⟩:=(h4.map q hq).2
       rw[e,hh] at h5
       cases h5
     · have:=WRS.out;omega))
    have HCC:=zz (copyA_any CP6.out)
    have y3:w6.cell? ⟨x.1,3,none⟩=some (.pointer (some ⟨c0,0,none⟩)):=XB6.out.cell (k:=3) rfl
    go_wp2_with fail
    refine HCC.out.mono ?_
    rintro e w7 ⟨c,mo,rfl,hc7,hm7,hA7,hb7⟩
    have B7:=zz hb7
    have C7:=zz hc7
    have M7:=zz hm7
    have A7:=zz hA7
    have U7:=zz (U6.out.ab hb7)
    have f3:=U7.out.free 3
    have g3:w7.cell? ⟨u,3,none⟩=some (.pointer (some ⟨c0,0,none⟩)):=U7.out.cell (k:=3) rfl
    clear hc7 hm7 hA7 hb7 y3 HCC
    go_upto_region 10 with (fail)
    have F8:=zz (fr_set w7 u 3 (.pointer (some ⟨c,0,none⟩)))
    have U8:=zz (U7.out.set 3 (.pointer (some ⟨c,0,none⟩)))
    obtain⟨w8,hw8⟩:∃w8,w7.setCell ⟨u,3,none⟩ (.pointer (some ⟨c,0,none⟩))=w8:=⟨_,rfl⟩
    rw[hw8] at U8 F8⊢
    clear hw8 f3 g3
    have FW8:Hid (Fr wr w8 (fun k=>k=rb∨k=u)):=zz ((FW.out.tr (Fr.of B7.out _)).tr (F8.out.imp fun k e=>.inr e))
    have NU:Hid (∀k,k<w.heap.size+2→k<wr.heap.size→k≠rb→¬(k=rb∨k=u)):=zz fun k _ hk hr e=>by
     rcases e with e | e
     · exact hr e
     · have:=WRS.out;omega
    have BX8:=zz (OS.out.box.fr FW8.out (fun e=>by
     rcases e with e | e
     · exact RB.out.2.2.2.2.1 e.symm
     · have:=OS.out.box.lt;have:=WRS.out;omega))
    have MM8:=zz (OS.out.map.same (FW8.out.block m' OS.out.map.lt (fun e=>by
     rcases e with e | e
     · exact RB.out.2.2.2.2.2.1 e.symm
     · have:=OS.out.map.lt;have:=WRS.out;omega)))
    have y1:w8.cell? ⟨s',1,none⟩=some (.map (some m')):=BX8.out.cell (k:=1) rfl
    have XN:=zz (HM.out.ok x HX.out)
    go_wp2_with (first
     | (refine wpList_mapPut rfl (.tmp 44) (.tmp 45) (.tmp 6) rfl u32_K Tryz.underlying56 rfl MM8.out x.2.n XN.out.n32 rfl (ptrV u) rfl ?_
        intro w9 h9 g9 s9 b9
        have P9:=zz h9
        have G9:=zz g9
        clear h9 g9 s9 b9))
    have F9:=zz ((Fr.grown G9.out).imp fun k (e:some m'=some k)=>(by injection e with e;exact e.symm:k=m'))
    have MU:Hid (m'<w.heap.size+2∧m'<u∧rb<u∧m'<wr.heap.size):=zz (by
     have h1:=OS.out.map.lt
     have h2:=OS.out.rng.lt
     have h3:=WRS.out
     have h4:=RB.out
     refine⟨?_,by omega,by omega,h1⟩
     have:=MW.out
     omega)
    have FWR:Hid (Fr wr w9 (fun k=>k=rb∨k=m')):=zz ⟨F9.out.os.trans FW8.out.os,F9.out.tape.trans FW8.out.tape,F9.out.output.trans FW8.out.output,Nat.le_trans FW8.out.size F9.out.size,fun i hi hn=>by
     refine (F9.out.block i (Nat.lt_of_lt_of_le hi FW8.out.size) (fun e=>hn (.inr e))).trans (FW8.out.block i hi fun e=>?_)
     rcases e with e | e
     · exact hn (.inl e)
     · have:=WRS.out;omega⟩
    have CM:Hid (c≠m'∧c≠u∧∀q,mo=some q→q≠m'∧q≠u∧wr.heap.size≤q∧q≠sm):=zz (by
     have h1:=C7.out
     have h2:=MU.out
     have h3:=WRS.out
     have h4:=LU.out
     have h5:=F6.out.size
     refine⟨by omega,by omega,fun q hq=>?_⟩
     have h6:=M7.out q hq
     omega)
    have U9:=U8.out.fr F9.out (fun e=>by have:=MU.out;omega)
    have cA:CpA w9 0 c mo x.2.A:=by
     have h8:=CpA.frx A7.out F8.out CM.out.2.1 (fun q hq=>(CM.out.2.2 q hq).2.1)
     exact CpA.frx h8 F9.out CM.out.1 (fun q hq=>(CM.out.2.2 q hq).1)
    have m9:MapB u64V u64Ok w9 sm es:=by
     have h1:=LU.out
     have h2:=MU.out
     have e6:w6.heap[sm]? = w5.heap[sm]?:=F6.out.block sm M5.out.lt (by omega)
     have e7:w7.heap[sm]? = w6.heap[sm]?:=B7.out.block sm (Nat.lt_of_lt_of_le M5.out.lt F6.out.size)
     have e8:w8.heap[sm]? = w7.heap[sm]?:=F8.out.block sm (Nat.lt_of_lt_of_le (Nat.lt_of_lt_of_le M5.out.lt F6.out.size) B7.out.size) (by omega)
     have e9:w9.heap[sm]? = w8.heap[sm]?:=F9.out.block sm (Nat.lt_of_lt_of_le (Nat.lt_of_lt_of_le (Nat.lt_of_lt_of_le M5.out.lt F6.out.size) B7.out.size) F8.out.size) (by omega)
     exact M5.out.same (((e9.trans e8).trans e7).trans e6)
    have r9:RngB u32V u32Ok w9 m rb (bs.map fun x=>(x.2.n,ptrV x.1)) (d++[(x.2.n,ptrV x.1)]):=by
     have h1:=LU.out
     have h2:=MU.out
     have hml:m<w.heap.size:=HM.out.map.lt
     have hm':m≠m'∧m≠u:=by have:=RB.out;omega
     have b4:Below w3.heap.size w3 w5:=below_tr B4.out B5.out B4.out.size
     have g:∀k,k<w3.heap.size→k≠m'→k≠u→w9.heap[k]? = w3.heap[k]?:=fun k hk n1 n2=>by
      have l5:k<w5.heap.size:=Nat.lt_of_lt_of_le hk b4.size
      have l6:k<w6.heap.size:=Nat.lt_of_lt_of_le l5 F6.out.size
      have l7:k<w7.heap.size:=Nat.lt_of_lt_of_le l6 B7.out.size
      have l8:k<w8.heap.size:=Nat.lt_of_lt_of_le l7 F8.out.size
      exact (((F9.out.block k l8 n1).trans ((F8.out.block k l7 n2).trans ((B7.out.block k l6).trans (F6.out.block k l5 n2)))).trans (b4.block k hk))
     exact HR2.out.same (g m HR2.out.mapB.lt hm'.1 hm'.2) (g rb HR2.out.lt (fun e=>RB.out.2.2.2.2.2.1 e) (by have:=h2;omega))
    have RES:=zz (cpy_round (s:=s) (w9:=w9) (u:=u) (c:=c) (nb:=nb) (sm:=sm) (mo:=mo) OS.out HX.out ND.out XN.out XD.out HT.out ⟨RB.out.2.2.2.1,RB.out.2.2.2.2.1⟩ ⟨RB.out.1,RB.out.2.1⟩ r9 FWR.out (Nat.le_of_eq WRS.out)
     (by have h1:=C7.out;have h2:=WRS.out;have h4:=LU.out;have h5:=F6.out.size;omega) (fun q hq=>⟨(CM.out.2.2 q hq).2.2.1,(CM.out.2.2 q hq).2.2.2⟩) (by have h2:=WRS.out;have h4:=LU.out;omega) U9 cA m9 P9.out)
    clear U9 cA m9 r9
    go_roundg (bs.length-(d.length+1))
    case measure=>have:=HMM.out;have:=HK.out;omega
    case rel=>exact⟨d++[(x.2.n,ptrV x.1)],_,_,by simp,RES.out⟩
end
open Go.RowKit
section
variable {w:World} {O:Tg} {C:Nat} {A:Option Addr} {n c:Nat}
theorem addG (g i:Nat):(⟨g,0,none⟩:Addr).add i=⟨g,i,none⟩:=by
 by_cases h:i=0
 · rw[h];simp[Addr.add]
 · simp[Addr.add,h]
theorem OwB.sp {l:List Nat} (h:OwB w C (.slice A n c) l) (ht:∀g,(Value.slice A n c).ownBlock=some g→O g=some (0,0)):SpB .u8 w O A n:=by
 obtain⟨X,cx,e,h1,h2⟩:=h.shape
 simp only[Value.slice.injEq] at e
 obtain⟨rfl,rfl,rfl⟩:=e
 refine⟨Nat.le_trans h1 h2,fun i hi=>?_⟩
 obtain⟨g,cap,e,_,_,_,_,h3⟩:=h.form (by omega)
 simp only[Value.slice.injEq] at e
 obtain⟨rfl,_,rfl⟩:=e
 exact⟨g,_,rfl,ht g rfl,h3 i hi,h.free rfl i⟩
theorem KyB.sp {l:List Nat} (h:KyB w C (.slice A n c) l) (ht:∀g,(Value.slice A n c).ownBlock=some g→O g=some (0,0)):SpB .u8 w O A n:=by
 obtain⟨g,n',cap,cs,fr,e,_,hb,hi,hf⟩:=h
 simp only[Value.slice.injEq] at e
 obtain⟨rfl,rfl,rfl⟩:=e
 refine⟨Nat.le_trans hi.1.lenCap hi.1.capMax,fun i hin=>?_⟩
 obtain⟨x,e,_,hc⟩:=hi.cell (by omega)
 injection e with e
 subst e
 have h3:=hc i hin
 rw[addG] at h3
 refine⟨g,_,rfl,ht g rfl,h3,?_⟩
 unfold World.frozen?
 rw[hb]
 obtain⟨lo,hi'⟩:=fr
 simp only at hf⊢
 have:¬lo≤i:=by omega
 simp[this]
theorem NsB.sp {l:List Nat} (h:U32.NsB w C (.slice A n c) l) (ht:∀g,(Value.slice A n c).ownBlock=some g→O g=some (0,0)):SpB .u32 w O A n:=by
 obtain⟨X,cx,e,h1⟩:=h.form
 simp only[Value.slice.injEq] at e
 obtain⟨rfl,rfl,rfl⟩:=e
 have h2:=row_capZ h
 refine⟨Nat.le_trans h2.1 h2.2,fun i hi=>?_⟩
 obtain⟨g,rfl,h3⟩:=h1 i hi
 exact⟨g,_,rfl,ht g rfl,h3,row_freeZ h i⟩
theorem PrB.sp {l:Bk2} (h:PrB w C O (.slice A n c) l):PsB w O A n:=by
 obtain⟨vs,h1,h2,h3,h4⟩:=h
 obtain⟨B,cb,e⟩:=row_shape h1
 simp only[Value.slice.injEq] at e
 obtain⟨rfl,rfl,rfl⟩:=e
 have h5:=row_capZ h1
 refine⟨Nat.le_trans h5.1 h5.2,fun i hi=>?_⟩
 obtain⟨g,hA,hc⟩:=row_cells h1 (by omega)
 obtain⟨p,hp⟩:∃p,vs[i]? = some p:=⟨_,List.getElem?_eq_getElem (by omega)⟩
 obtain⟨q,hq⟩:∃q,l[i]? = some q:=⟨_,List.getElem?_eq_getElem hi⟩
 obtain⟨⟨kl,k1,k2⟩,k3,k4,k5⟩:=h4 i p q hp hq
 obtain⟨f1,f2⟩:=flat_at vs i p hp
 obtain⟨kA,kn,kc,e1⟩:∃kA kn kc,p.1 = .slice kA kn kc:=by obtain⟨g,n,cap,cs,fr,e,_⟩:=id k1;exact⟨_,_,_,e⟩
 obtain⟨vA,vn,vc,e2⟩:=row_sl k3.own
 rw[e1] at k1 k4
 rw[e2] at k3 k5
 exact⟨g,kA,kn,kc,vA,vn,vc,hA,by rw[←e1];exact hc _ _ f1,by rw[←e2];exact hc _ _ f2,k1.sp k4,k3.sp k5⟩
theorem spoilt_ans {cs:Array Value} {a:AnsP} (h:AnsB w C O cs a):Calls Tryz.prog 16 #[.agg cs] w fun e w'=>∃v,e = .returned v∧Stp (fun τ=>τ=(0,0)) w O w' O:=by
 obtain⟨⟨v,p,l,rfl,h1,h2,h3,h4,h5⟩⟩:=h
 obtain⟨A1,n1,c1,rfl⟩:=row_sl h1.own
 obtain⟨A2,n2,c2,rfl⟩:∃A n c,p = .slice A n c:=by obtain⟨vs,q1,_⟩:=h3;exact row_sl q1
 obtain⟨A3,n3,c3,rfl⟩:=row_sl h4
 exact spoilt_any (h1.sp h2) h3.sp (NsB.sp h4 h5) _ _ _ _
end
section
variable {w w':World} {C:Nat} {O:Tg} {F:Nat→Prop}
theorem row_frL {n s:Nat} {e:TypeId} {v:Value} {xs:List Value} (h:w.ownsRow C e s v n xs) (k:Fr w w' F) (hF:∀g,F g→g<C):w'.ownsRow C e s v n xs:=
 row_fr h k fun q hq e1=>by have:=own_ge9 h q hq;have:=hF q e1;omega
theorem OwB.frL {v:Value} {l:List Nat} (h:OwB w C v l) (k:Fr w w' F) (hF:∀g,F g→g<C):OwB w' C v l:=h.fr k fun q hq e=>by have:=h.lt q hq;have:=hF q e;omega
theorem KyB.frL {v:Value} {l:List Nat} (h:KyB w C v l) (k:Fr w w' F) (hF:∀g,F g→g<C):KyB w' C v l:=by
 obtain⟨g',n,cap,cs,fr,rfl,h1,h2,h3,h4⟩:=h
 have hn:¬F g':=fun e=>by have:=hF g' e;omega
 exact⟨g',n,cap,cs,fr,rfl,h1,(k.block g' (lt_of_block h2) hn).trans h2,isB_frZ h3 k fun _ x e=>by injection e with e;rw[←e];exact hn,h4⟩
theorem AnsB.frL {cs:Array Value} {a:AnsP} (h:AnsB w C O cs a) (k:Fr w w' F) (hF:∀g,F g→g<C):AnsB w' C O cs a:=by
 obtain⟨⟨v,p,l,rfl,h1,h2,⟨vs,p1,p2,p3,p4⟩,h4,h5⟩⟩:=h
 exact⟨⟨v,p,l,rfl,h1.frL k hF,h2,⟨vs,row_frL p1 k hF,p2,p3,fun i x y hx hy=>by
  obtain⟨⟨kk,q1,q2⟩,q3,q4,q5⟩:=p4 i x y hx hy
  exact⟨⟨kk,q1.frL k hF,q2⟩,q3.frL k hF,q4,q5⟩⟩,row_frL h4 k hF,h5⟩⟩
theorem SpC.low {P:Nat×Nat→Prop} {O':Tg} {c:CallP} (h:SpC w O c) (s:Stp P w O w' O') (hn:¬P (0,0)):SpC w' (nonTg O' w.heap.size) c:=
 h.stp (P:=P) ⟨s.fr,fun k hk=>(nonTg_lt hk).trans (s.tg k hk)⟩ hn
theorem spoil_low {c:CallP} (h:SpC w (nonTg O C) c):Calls Tryz.prog 13 #[.agg c.cs] w fun e w'=>∃v,e = .returned v∧Fr w w' (fun k=>k<C∧O k=some (0,0)):=by
 refine (spoil_any h).mono ?_
 rintro e w' ⟨v,rfl,st⟩
 refine⟨v,rfl,st.fr.imp fun k ⟨t,e1,e2⟩=>?_⟩
 unfold nonTg at e1
 split at e1
 · next hk=>exact⟨hk,e2▸e1⟩
 · cases e1
end
structure Pl2 (bk:Nat) (w0:World) (s r:Nat) (T T2:List TnP) (W:World) (O:Tg):Prop where
 ib:IdB W O s bk T
 rb:RfB W O r bk T2
 bl:Below w0.heap.size w0 W
 no:∀k,k<w0.heap.size→O k=none
 ne:s≠r
section
variable {P:Nat×Nat→Prop} {bk:Nat} {w0 W W2:World} {O O2:Tg} {s r s':Nat} {T T2 T':List TnP}
theorem Pl2.ps (h:Pl2 bk w0 s r T T2 W O):0<s:=by obtain⟨m,bs,ib⟩:=h.ib;exact ib.pos
theorem Pl2.pr (h:Pl2 bk w0 s r T T2 W O):0<r:=by obtain⟨m,bs,ib⟩:=h.rb;exact ib.pos
theorem Pl2.stp (h:Pl2 bk w0 s r T T2 W O) (k:Stp P W O W2 O2) (h1:∀i,¬P (s,i)) (h2:∀i,¬P (r,i)):Pl2 bk w0 s r T T2 W2 O2:=
 ⟨h.ib.stp k h1,h.rb.stp k h2,k.below h.bl h.bl.size h.no,fun j hj=>(k.tg j (Nat.lt_of_lt_of_le hj h.bl.size)).trans (h.no j hj),h.ne⟩
theorem Pl2.ab (h:Pl2 bk w0 s r T T2 W O) (hb:Below W.heap.size W W2):Pl2 bk w0 s r T T2 W2 (cutTg O W.heap.size):=h.stp (Stp.cut hb (fun _=>False)) (fun _ h=>h) fun _ h=>h
theorem Pl2.zz (h:Pl2 bk w0 s r T T2 W O) (k:Stp (fun τ=>τ=(0,0)) W O W2 O2):Pl2 bk w0 s r T T2 W2 O2:=
 h.stp k (fun i e=>by injection e with e;exact absurd h.ps (by omega)) fun i e=>by injection e with e;exact absurd h.pr (by omega)
theorem Pl2.one (h:Pl2 bk w0 s r T T2 W O) (k:Stp (fun τ=>τ.1=s) W O W2 O2) (ib:IdB W2 O2 s bk T'):Pl2 bk w0 s r T' T2 W2 O2:=
 ⟨ib,h.rb.stp k fun i e=>h.ne e.symm,k.below h.bl h.bl.size h.no,fun j hj=>(k.tg j (Nat.lt_of_lt_of_le hj h.bl.size)).trans (h.no j hj),h.ne⟩
theorem Pl2.two (h:Pl2 bk w0 s r T T2 W O) (k:Stp (fun τ=>τ.1=r) W O W2 O2) (rb:RfB W2 O2 r bk T'):Pl2 bk w0 s r T T' W2 O2:=
 ⟨h.ib.stp k fun i e=>h.ne e,rb,k.below h.bl h.bl.size h.no,fun j hj=>(k.tg j (Nat.lt_of_lt_of_le hj h.bl.size)).trans (h.no j hj),h.ne⟩
theorem Pl2.do1 (h:Pl2 bk w0 s r T T2 W O) {c:CallP} (hc:c.B W) {k:Nat} (hl:LimT2 k T) (hk:k≤800):
 Calls Tryz.prog 8 #[.pointer (some ⟨s,0,none⟩),.agg c.cs] W fun e W2=>∃cs O2,e = .returned (.agg cs)∧AnsB W2 W.heap.size O2 cs (stepP bk T c).1∧Pl2 bk w0 s r (stepP bk T c).2 T2 W2 O2∧Stp (fun τ=>τ.1=s) W O W2 O2:=by
 obtain⟨m,bs,ib⟩:=h.ib
 refine (do_any ib hc (fun t ht=>(hl.all t ht).up hk) (by have:=hl.len;omega)).mono ?_
 rintro e W2 ⟨cs,O2,e1,an,ib2,st⟩
 exact⟨cs,O2,e1,an,h.one st ib2,st⟩
theorem Pl2.do2 (h:Pl2 bk w0 s r T T2 W O) {c:CallP} (hc:c.B W) {k:Nat} (hl:LimT2 k T2) (hk:k≤800):
 Calls Tryz.prog 15 #[.pointer (some ⟨r,0,none⟩),.agg c.cs] W fun e W2=>∃cs O2,e = .returned (.agg cs)∧AnsI W2 cs (stepP bk T2 c).1∧Pl2 bk w0 s r T (stepP bk T2 c).2 W2 O2∧Stp (fun τ=>τ.1=r) W O W2 O2:=by
 obtain⟨av,bs,rb⟩:=h.rb
 have hlen:bs.length≤100000:=by
  have:=rb.prm.length_eq
  rw[List.length_map] at this
  have:=hl.len
  omega
 refine (rdo_any rb hlen hc (fun t ht=>(hl.all t ht).up hk)).mono ?_
 rintro e W2 ⟨cs,O2,e1,an,rb2,st⟩
 exact⟨cs,O2,e1,an,h.two st rb2,st⟩
theorem LimT2.opn {k:Nat} (h:LimT2 k T):LimT2 k (T.map opnT):=⟨fun t ht=>by
 obtain⟨x,hx,rfl⟩:=List.mem_map.1 ht
 have:=h.all x hx
 exact⟨this.now,Nat.zero_le _,fun p hp=>(by cases hp),Nat.zero_le _⟩,by rw[List.length_map];exact h.len⟩
end
def mapE (T:List TnP) (n:Nat):Int:=match fndT T n with | none=>7 | some _=>0
def mapL (T:List TnP) (n:Nat):Bk2:=match fndT T n with | none=>[] | some t=>prsK t.now (kysK t.now)
theorem mapL_len {T:List TnP} {k:Nat} (hl:LimT2 k T) (hk:k≤800) (n:Nat):(mapL T n).length≤1000000:=by
 unfold mapL
 cases hf:fndT T n with
 | none=>exact Nat.zero_le _
 | some t=>
   have:=(hl.all t (fndT_mem hf).1).now
   simp only[prsK,kysK,List.length_map,List.length_mergeSort]
   omega
theorem prR_nil (w:World):PrR w none 0 0 []:=⟨rfl,Nat.zero_le _,fun i q h=>by simp at h⟩
section
variable {bk:Nat} {w0 W W2:World} {O O2:Tg} {s r s':Nat} {T T2 T':List TnP}
theorem Pl2.map1 (h:Pl2 bk w0 s r T T2 W O) {n:Nat} (hn:n<4294967296) {k:Nat} (hl:LimT2 k T) (hk:k≤800):
 Calls Tryz.prog 17 #[.pointer (some ⟨s,0,none⟩),.int .u32 (n:Int)] W fun e W2=>∃A m c,e = .returned (.tuple #[.slice A m c,.int .i64 (mapE T n)])∧PrR W2 A m c (mapL T n)∧Below W.heap.size W W2:=by
 obtain⟨m,bs,ib⟩:=h.ib
 have hL:=mapL_len hl hk n
 have hT:=fnd_T ib n
 cases hf:fnd bs n with
 | none=>
   rw[hf] at hT
   have e1:mapE T n=7:=by unfold mapE;rw[hT];rfl
   have e2:mapL T n=[]:=by unfold mapL;rw[hT];rfl
   rw[e1,e2]
   refine (pmap_none n hn ib hf).mono ?_
   rintro e W2 ⟨rfl,hb⟩
   exact⟨none,0,0,rfl,prR_nil _,hb⟩
 | some x=>
   rw[hf] at hT
   have e1:mapE T n=0:=by unfold mapE;rw[hT];rfl
   have e2:mapL T n=prsK x.2.now (kysK x.2.now):=by unfold mapL;rw[hT];rfl
   rw[e2] at hL
   rw[e1,e2]
   have hx:x.2∈T:=ib.prm.mem_iff.1 (List.mem_map.2 ⟨x,(fnd_mem hf).1,rfl⟩)
   have:=(hl.all _ hx).now
   refine (pmap_some n hn ib x hf (by omega)).mono ?_
   rintro e W2 ⟨v,rfl,hp,hb⟩
   obtain⟨A,m',c,rfl⟩:∃A n c,v = .slice A n c:=by obtain⟨vs,q1,_⟩:=id hp;exact row_sl q1
   exact⟨A,m',c,rfl,hp.rd hL,hb⟩
theorem Pl2.map2 (h:Pl2 bk w0 s r T T2 W O) (n:Nat) {k:Nat} (hl:LimT2 k T2) (hk:k≤800):
 Calls Tryz.prog 18 #[.pointer (some ⟨r,0,none⟩),.int .u32 (n:Int)] W fun e W2=>∃A m c,e = .returned (.tuple #[.slice A m c,.int .i64 (mapE T2 n)])∧PrR W A m c (mapL T2 n)∧W=W2:=by
 obtain⟨av,bs,rb⟩:=h.rb
 have hL:=mapL_len hl hk n
 have hlen:bs.length≤100000:=by
  have:=rb.prm.length_eq
  rw[List.length_map] at this
  have:=hl.len
  omega
 have hT:=rb.fnd_T n
 cases hf:fnd bs n with
 | none=>
   rw[hf] at hT
   have e1:mapE T2 n=7:=by unfold mapE;rw[hT];rfl
   have e2:mapL T2 n=[]:=by unfold mapL;rw[hT];rfl
   rw[e1,e2]
   refine (rmap_none n rb hlen hf).mono ?_
   rintro e W2 ⟨rfl,hb⟩
   exact⟨none,0,0,rfl,prR_nil _,hb⟩
 | some x=>
   rw[hf] at hT
   obtain⟨mv,l,c,cv,sv,ht⟩:=rb.all x (fnd_mem hf).1
   have e1:mapE T2 n=0:=by unfold mapE;rw[hT];rfl
   have e2:mapL T2 n=l:=by
    unfold mapL
    rw[hT]
    exact prsK_all ht.now.asc ht.now.prm
   rw[e2] at hL
   rw[e1,e2]
   refine (rmap_some n rb hlen x hf ht).mono ?_
   rintro e W2 ⟨rfl,hb⟩
   obtain⟨A,c',e⟩:=ht.now.prs.own.sl
   have ho:=ht.now.prs.own
   rw[e] at ho⊢
   exact⟨A,_,c',rfl,ho.rd hL,hb⟩
theorem Pl2.opn1 (h:Pl2 bk w0 s r T T2 W O):Calls Tryz.prog 9 #[.pointer (some ⟨s,0,none⟩)] W fun e W2=>∃O2,e = .returned (.int .i64 0)∧Pl2 bk w0 s r (T.map opnT) T2 W2 O2:=by
 obtain⟨m,bs,ib⟩:=h.ib
 refine (popen_any ib).mono ?_
 rintro e W2 ⟨O2,rfl,ib2,st⟩
 exact⟨O2,rfl,h.one st ib2⟩
theorem Pl2.opn2 (h:Pl2 bk w0 s r T T2 W O) {k:Nat} (hl:LimT2 k T2) (hk:k≤800):Calls Tryz.prog 10 #[.pointer (some ⟨r,0,none⟩)] W fun e W2=>∃O2 v,e = .returned v∧Pl2 bk w0 s r T (T2.map opnT) W2 O2:=by
 obtain⟨av,bs,rb⟩:=h.rb
 have hlen:bs.length≤100000:=by
  have:=rb.prm.length_eq
  rw[List.length_map] at this
  have:=hl.len
  omega
 refine (ropen_any rb hlen).mono ?_
 rintro e W2 ⟨O2,v,rfl,rb2,st⟩
 exact⟨O2,v,rfl,h.two st rb2⟩
theorem Pl2.copy (h:Pl2 bk w0 s r T T2 W O):Calls Tryz.prog 7 #[.pointer (some ⟨s,0,none⟩)] W fun e W2=>∃s' O2,e = .returned (.pointer (some ⟨s',0,none⟩))∧s≠s'∧IdB W2 O2 s bk T∧Pl2 bk w0 s' r T T2 W2 O2:=by
 obtain⟨m,bs,ib⟩:=h.ib
 have hu:=ib.box.lt
 have hr:r<W.heap.size:=by obtain⟨av,bs,rb⟩:=h.rb;exact rb.box.lt
 refine (pcopy_any ib (by omega)).mono ?_
 rintro e W2 ⟨s',O2,rfl,hs,ib2,st⟩
 have h2:=h.stp st (fun _ h=>h) fun _ h=>h
 exact⟨s',O2,rfl,by omega,h2.ib,⟨ib2,h2.rb,h2.bl,h2.no,by omega⟩⟩
theorem Pl2.old (h:Pl2 bk w0 s' r T T2 W O) (hn:s≠s') (hr:s≠r) (st:Stp (fun τ=>τ.1=s) W O W2 O2):Pl2 bk w0 s' r T T2 W2 O2:=h.stp st (fun i e=>hn e.symm) fun i e=>hr e.symm
end
end Go.Proofs.YtgdhinjhbjolgaaGreat
