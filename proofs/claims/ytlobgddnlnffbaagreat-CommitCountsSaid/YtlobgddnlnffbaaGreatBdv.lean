/-
  Parts of the proof, joined.
-/
import Derived.Test.YtlobgddnlnffbaaGreatBdu
namespace Go.Proofs.YtlobgddnlnffbaaGreat
set_option maxHeartbeats 4000000
open Go.RowKit Go.ChangeShapes Go.WideShapes
set_option linter.unusedVariables false
set_option linter.unusedSimpArgs false
theorem wpList_allocG {ops:Array Oper} {rest:List Oper} {o:Oper} {a:Act} {w:World} {Q:Exit→Act→World→Prop} (hgd:o.guard=none) (T:TypeId) (ho:o.op = .alloc T) (z:Value)
 (hz:(Tryz.prog.info? T).map (·.zero)=some (some z))
 (h:∀w2,w2=w.alloc (.cells z.cells T)→wpList Tryz.prog ops Q rest (a.put o.dst (.pointer (some ⟨w.heap.size,0,none⟩))) w2):wpList Tryz.prog ops Q (o::rest) a w:=by
 refine wpList_plain hgd fun K hK=>?_
 cases hi:Tryz.prog.info? T with
 | none=>rw[hi] at hz;cases hz
 | some i=>
   rw[hi] at hz
   have hz':i.zero=some z:=by simpa using hz
   have hrun:=exec_allocB (r:=a.eval) T ho i _ hi hz' w
   unfold Oper.wp
   rw[hrun]
   exact hK _ _ (h _ rfl)
def wrZ:Value:=.agg (#[.int .i64 0]++bts (zeros 256))
def wrA (x:Nat×List Nat):Array Value:=(wrV x).toArray
theorem zeroWr:(Tryz.prog.info? 174).map (·.zero)=some (some wrZ):=by kernel_rfl
theorem szWr:(Tryz.prog.info? 174).map (·.size)=some 257:=by kernel_rfl
theorem wrV_len {x:Nat×List Nat} (h:x.2.length=256):(wrV x).length=257:=by unfold wrV;rw[List.length_cons,Array.length_toList,bts_size,h]
theorem wrA_size {x:Nat×List Nat} (h:x.2.length=256):(wrA x).size=257:=by unfold wrA;rw[List.size_toArray,wrV_len h]
theorem wrZ_size:wrZ.cells.size=257:=by
 unfold wrZ
 simp only[Value.cells]
 rw[Array.size_append,bts_size,zeros_len]
 rfl
theorem wrA_one (x:Nat×List Nat):(wrA x).all (·.oneCell')=true:=by
 unfold wrA wrV bts
 simp[Value.oneCell']
theorem flatW_at:∀(ws:List (Nat×List Nat)),(∀x∈ws,x.2.length=256)→∀(k i:Nat) (x:Nat×List Nat),ws[k]? = some x→i<257→(ws.flatMap wrV)[k*257+i]? = (wrV x)[i]?
 | [],_,k,i,x,h,_=>by simp at h
 | y::ws,hw,0,i,x,h,hi=>by
   simp only[List.getElem?_cons_zero,Option.some.injEq] at h
   subst h
   rw[List.flatMap_cons,List.getElem?_append_left (by rw[wrV_len (hw _ (List.mem_cons_self ..))];omega),Nat.zero_mul,Nat.zero_add]
 | y::ws,hw,k+1,i,x,h,hi=>by
   have ih:=flatW_at ws (fun z hz=>hw z (List.mem_cons_of_mem _ hz)) k i x (by simpa using h) hi
   have hl:=wrV_len (hw _ (List.mem_cons_self ..))
   rw[List.flatMap_cons,List.getElem?_append_right (by rw[hl];omega),hl,show (k+1)*257+i-257=k*257+i from by omega]
   exact ih
theorem row_cellsW {W:World} {B n s:Nat} {e:TypeId} {A:Option Addr} {m c:Nat} {xs:List Value} (h:W.ownsRow B e s (.slice A m c) n xs) (hn:0<n):∃g,A=some ⟨g,0,none⟩∧∀(j:Nat) (u:Value),xs[j]? = some u→W.cell? ⟨g,j,none⟩=some u:=by
 rcases h.2 with ⟨_,h0⟩ | ⟨g,cap,cur,e1,hb,hg,h3,h4,h5,h6⟩
 · omega
 · simp only[Value.slice.injEq] at e1
   refine⟨g,e1.1,fun j u hj=>?_⟩
   have hjl:j<n*s:=by have:=(List.getElem?_eq_some_iff.1 hj).1;rw[h.1] at this;exact this
   have h7:(cur.toList.take (n*s))[j]? = some u:=by rw[h6];exact hj
   rw[List.getElem?_take_of_lt hjl] at h7
   rw[cell_of_row W g j _ _ (0,0) hg]
   simpa using h7
def secD (f:List Nat) (i:Nat) (b:List Nat) (j:Nat):List Nat:=f.take (i*256+j*64)++((b.drop (j*64)).take 64++f.drop (i*256+j*64+64))
def bitM (m j:Nat):Bool:=bits BinOp.and IntKind.u8 ((m/2 ^ j:Nat):Int) 1 != 0
def secF (f:List Nat) (x:Nat×List Nat) (m:Nat):Nat→List Nat
 | 0=>f
 | j+1=>if bitM m j=true then secD (secF f x m j) x.1 x.2 j else secF f x m j
def crF (f:List Nat) (ws:List (Nat×List Nat)) (ms:List Nat):Nat→List Nat
 | 0=>f
 | k+1=>secF (crF f ws ms k) (ws.getD k (0,[])) (at' ms k) 4
def crashD (D:DvS) (ms:List Nat):DvS:={ D with now:=crF D.firm D.ws ms (min D.ws.length ms.length),firm:=crF D.firm D.ws ms (min D.ws.length ms.length),ws:=[],fail:=0,cut:=-1,down:=false }
theorem secD_len {f b:List Nat} {i j n:Nat} (hf:f.length=n*256) (hi:i<n) (hb:b.length=256) (hj:j<4):(secD f i b j).length=n*256:=by
 unfold secD
 simp only[List.length_append,List.length_take,List.length_drop,hf,hb]
 omega
theorem secF_len {f:List Nat} {x:Nat×List Nat} {m n:Nat} (hf:f.length=n*256) (hi:x.1<n) (hb:x.2.length=256):∀j,j≤4→(secF f x m j).length=n*256
 | 0,_=>hf
 | j+1,h=>by
   unfold secF
   split
   · exact secD_len (secF_len hf hi hb j (by omega)) hi hb (by omega)
   · exact secF_len hf hi hb j (by omega)
theorem crF_len {f:List Nat} {ws:List (Nat×List Nat)} {ms:List Nat} {n:Nat} (hf:f.length=n*256) (hw:∀x∈ws,x.1<n∧x.2.length=256):∀k,k≤ws.length→(crF f ws ms k).length=n*256
 | 0,_=>hf
 | k+1,h=>by
   have hx:=hw (ws.getD k (0,[])) (by rw[List.getD_eq_getElem?_getD,List.getElem?_eq_getElem (by omega)];exact List.getElem_mem _)
   unfold crF
   exact secF_len (crF_len hf hw k (by omega)) hx.1 hx.2 4 (Nat.le_refl _)
theorem DsB.rowF {w:World} {B d g1 g2:Nat} {wv:Value} {D:DvS} (h:DsB w B d g1 g2 wv D) (f':List Nat):DsB (w.setRow g2 (bts f')) B d g1 g2 wv { D with firm:=f' }:=
 ⟨h.box.rowFar (bk_ne h.box h.firm (by decide)) _,h.now.rowFar h.ne _,h.firm.row _,row_fr h.row (fr_row _ _ _) (fun g hg e=>row_ne9 h.row h.firm (by decide) hg e),h.ne,h.low⟩
theorem wrA_at {x:Nat×List Nat} {i:Nat} {v:Value} (h:((x.2).map (fun n:Nat=>Value.int .u8 (n:Int)))[i]? = some v):(wrA x)[i+1]? = some v:=by
 unfold wrA wrV bts
 simpa using h
theorem wpList_copyT {ops:Array Oper} {rest:List Oper} {o:Oper} {a:Act} {w:World} {Q:Exit→Act→World→Prop} (hgd:o.guard=none) (s x:Operand)
 (ho:o.op = .call { callee:=.builtin .copy,args:=#[s,x],argTypes:=#[41,41] })
 (g p d dc:Nat) {t:TypeId} {cur l:List Nat} (hg:Bk w g t cur) (hs:a.eval s = .slice (some ⟨g,p,none⟩) d dc) {y:Addr} {n c:Nat} (hx:a.eval x = .slice (some y) n c) (hl:l.length=d) (hr:∀j v,(l.map (fun n:Nat=>Value.int .u8 (n:Int)))[j]? = some v→w.cell? (y.add j)=some v) (hnd:d≤n) (hfit:p+d≤cur.length) (l2:List Nat) (he:cur.take p++(l++cur.drop (p+d))=l2)
 (h:∀w2,w2=w.setRow g (bts l2)→wpList Tryz.prog ops Q rest (a.put o.dst (goInt d)) w2):wpList Tryz.prog ops Q (o::rest) a w:=by
 have hrun:=run_copy_row (P:=Tryz.prog) w 41 41 o.type 5 g p d dc y n c (bts cur) t (l.map (fun n:Nat=>Value.int .u8 (n:Int))) Tryz.underlying41 szByte hg (by rw[List.length_map,hl];exact (Nat.min_eq_right hnd).symm) hr (by rw[List.length_map,bts_size,hl];omega) (by simp[Value.oneCell'])
 rw[List.length_map,hl,List.append_assoc,bts_splice,he] at hrun
 refine wpList_plain hgd fun K hK=>?_
 unfold Oper.wp execOp
 simp only[ho,resolve,invoke,builtin,Sem.run_bind,Sem.run_pure,Result.andThen_ok,List.map_toArray,List.map_cons,List.map_nil,hs,hx,hrun]
 exact hK _ _ (h _ rfl)
section
variable {w:World} {B d g1 g2:Nat} {wv:Value} {D:DvS}
set_option maxRecDepth 100000 in
theorem crashS (mA : Option Addr) (mn mc:Nat) (ms:List Nat) (ok:D.Ok) (hws:D.ws.length≤100000) (h:DsB w B d g1 g2 wv D) (im:IsB w mA mn mc ms) (hM:0<mn→∀x,mA=some x→x.block≠d∧x.block≠g1∧x.block≠g2):
 Calls Tryz.prog 30 #[.pointer (some ⟨d,0,none⟩),.slice mA mn mc] w fun e w'=>e = .returned (.int .i64 0)∧DsB w' B d g1 g2 (.slice none 0 0) (crashD D ms)∧Fr w w' (fun k=>k=d∨k=g1∨k=g2):=by
 obtain⟨A,c,rfl⟩:=row_shape h.row
 have c2:w.cell? ⟨d,2,none⟩=some (.slice A D.ws.length c):=h.box.cell (k:=2) rfl
 have HD:=Lib.hid h
 have OK:=Lib.hid ok
 have IM:=Lib.hid im
 have HM:=Lib.hid hM
 have ML:=Lib.hid im.len
 have HW:=Lib.hid hws
 clear h ok im hM hws
 go_enter Tryz.func30,Tryz.ntmps30
 go_wp2_with fail
 clear c2
 go_loopw [15] (fun z wr=>∃k:Nat,k≤D.ws.length∧k≤mn∧z = .int .i64 (k:Int)∧DsB wr B d g1 g2 (.slice A D.ws.length c) { D with firm:=crF D.firm D.ws ms k }∧Fr w wr (fun q=>q=g2)) (fun z _=>D.ws.length-(intOf z).toNat)
 case atStart=>exact⟨0,Nat.zero_le _,Nat.zero_le _,rfl,HD.out,Fr.of (Below.refl _ _) _⟩
 case round =>
  obtain⟨k,hk,hkm,rfl,hds,hfr⟩:=hrel
  have DS:=Lib.hid hds
  have FR:=Lib.hid hfr
  clear hds hfr
  by_cases hlt:k<D.ws.length
  · have hlti : (k : Int)<(D.ws.length:Int):=by omega
    have HLT:=Lib.hid hlt
    obtain⟨x,hx⟩:∃x,D.ws[k]? = some x:=⟨_,List.getElem?_eq_getElem hlt⟩
    have HX:=Lib.hid hx
    have X3:=Lib.hid (OK.out.ws x (List.mem_of_getElem? hx))
    obtain⟨gw,rfl,hcell⟩:=row_cellsW DS.out.row (show 0<D.ws.length by omega)
    have LC:Hid (∀j v,(wrV x)[j]? = some v→wr.cell? ((⟨gw,k*257,none⟩:Addr).add j)=some v):=Lib.hid fun j v hj=>by
     rw[show (⟨gw,k*257,none⟩:Addr).add j=⟨gw,k*257+j,none⟩ from by unfold Addr.add;split <;> simp_all]
     have hj9:j<257:=by rw[←wrV_len X3.out.2.1];exact (List.getElem?_eq_some_iff.1 hj).1
     exact hcell _ _ ((flatW_at D.ws (fun y hy=>(OK.out.ws y hy).2.1) k j x HX.out hj9).trans hj)
    have WL:Hid ((Tryz.prog.info? 174).map (·.size)=some (wrV x).length):=Lib.hid (by rw[wrV_len X3.out.2.1];exact szWr)
    clear hlt hx hcell
    by_cases hmk:k<mn
    · have hmki : ¬ (mn:Int)≤(k:Int):=by omega
      have HMK:=Lib.hid hmk
      clear hmk hk hkm
      go_wp2_with (first
       | (refine wpList_loadAny rfl 174 (.tmp 18) rfl ⟨gw,k*257,none⟩ rfl (wrV x) _ LC.out Tryz.underlying174 rfl WL.out ?_)
       | (refine wpList_allocG rfl 174 rfl wrZ zeroWr ?_
          intro w3 hw3
          have N3:Hid (CbB w3 wr.heap.size 174 wrZ.cells):=Lib.hid (by rw[hw3];exact CbB.new _ _ _)
          have B3:Hid (Below wr.heap.size wr w3):=Lib.hid (by rw[hw3];exact (Below.refl _ _).alloc (Nat.le_refl _) _)
          clear hw3)
       | (with_reducible refine wpList_storeC (o:=⟨none,.store _ (.tmp 6) (.tmp 19),_,_,_,_⟩) ?_ 174 (.tmp 6) (.tmp 19) ?_ wr.heap.size ?_ (wrA x) ?_ (t:=174) N3.out ?_ ?_ ?_ ?_
          · rfl
          · rfl
          · rfl
          · rfl
          · rw[wrA_size X3.out.2.1];exact szWr
          · rw[wrA_size X3.out.2.1];exact wrZ_size
          · exact wrA_one x
          intro w4 hw4
          have N4:Hid (CbB w4 wr.heap.size 174 (wrA x)):=Lib.hid (by rw[hw4];exact CbB.row N3.out _)
          have B4:Hid (Below wr.heap.size wr w4):=Lib.hid (by rw[hw4];exact Below.row B3.out (Nat.le_refl _) _)
          clear hw4))
      obtain⟨m,hm⟩:∃m,at' ms k=m:=⟨_,rfl⟩
      have HM9:=Lib.hid hm
      obtain⟨f0,hf0⟩:∃f,crF D.firm D.ws ms k=f:=⟨_,rfl⟩
      have D4:=Lib.hid (DS.out.ab B4.out)
      rw[hf0] at D4
      have HF0:=Lib.hid hf0
      have FL:Hid (f0.length=D.n*256):=Lib.hid (by rw[←HF0.out];exact crF_len OK.out.firm (fun y hy=>⟨(OK.out.ws y hy).1,(OK.out.ws y hy).2.1⟩) k (by have:=HLT.out;omega))
      have F4:=Lib.hid (FR.out.tr (Fr.of B4.out _))
      have GN:Hid (wr.heap.size≠g2∧wr.heap.size≠d):=Lib.hid ⟨by have:=DS.out.lt.2.2;omega,by have:=DS.out.lt.1;omega⟩
      clear DS FR N3 B3 B4 LC WL hm hf0
      generalize wr.heap.size=G at *
      go_loopw [24] (fun z wy=>∃j:Nat,j≤4∧z = .int .i64 (j:Int)∧DsB wy B d g1 g2 (.slice (some ⟨gw,0,none⟩) D.ws.length c) { D with firm:=secF f0 x m j }∧CbB wy G 174 (wrA x)∧Fr w wy (fun q=>q=g2)) (fun z _=>4-(intOf z).toNat)
      case atStart=>exact⟨0,Nat.zero_le _,rfl,D4.out,N4.out,F4.out⟩
      case round=>
       obtain⟨j,hj,rfl,hds,hG,hfr⟩:=hrel
       have DS:=Lib.hid hds
       have NG:=Lib.hid hG
       have FR:=Lib.hid hfr
       clear hds hG hfr D4 N4 F4
       obtain⟨ym,rfl,_,hcm⟩:=(IM.out.fr FR.out (fun x hx=>(HM.out (by have:=HMK.out;omega) x hx).2.2)).cell (by have:=HMK.out;omega)
       have cm:wr.cell? (ym.add k)=some (.int .u8 (m:Int)):=by rw[←HM9.out];exact hcm k HMK.out
       by_cases hj4:j<4
       · have hj4i:(j:Int)<4:=by omega
         have hjc:j=0∨j=1∨j=2∨j=3:=by omega
         clear hj hj4 hcm
         rcases hjc with rfl | rfl | rfl | rfl
         · have hbq : (bits BinOp.and IntKind.u8 (m:Int) 1 != 0)=bitM m 0:=by
            unfold bitM
            rw[show ((m/2 ^ 0:Nat):Int)=(m:Int) from by omega]
           have SX:Hid (secF f0 x m (0+1)=if bitM m 0=true then secD (secF f0 x m 0) x.1 x.2 0 else secF f0 x m 0):=Lib.hid rfl
           cases hb9:bitM m 0 with
           | false=>
             rw[hb9] at hbq SX
             rw[if_neg Bool.false_ne_true] at SX
             have HB:=Lib.hid hb9
             clear hb9
             go_wp2_with fail
             go_roundw
             case rel=>exact⟨1,by decide,by go_num,by rw[SX.out];exact DS.out,NG.out,FR.out⟩
             case measure=>simp[intOf]
           | true =>
             rw[hb9] at hbq SX
             rw[if_pos rfl] at SX
             have HB:=Lib.hid hb9
             clear hb9
             go_upto_region 11 with (fail)
             refine wp_wide3 [⟨35,IsR (.pointer (some ⟨d,0,none⟩)),[],false⟩,⟨36,IsR (.pointer (some ⟨d,0,none⟩)),[0],false⟩,⟨37,IsR (.pointer (some ⟨d,1,none⟩)),[1],false⟩,⟨38,IsR (.slice (some ⟨g2,0,none⟩) D.n D.n),[2],false⟩,⟨39,IsR (.pointer (some ⟨G,0,none⟩)),[],false⟩,⟨40,IsR (.int .i64 (x.1:Int)),[4],false⟩,⟨41,IsR (.pointer (some ⟨g2,x.1*256,none⟩)),[3,5],false⟩,⟨42,IsR (.int .i64 ((0:Nat):Int)),[],false⟩,⟨43,IsR (.int .i64 0),[7],false⟩,⟨44,IsR (.int .i64 ((0:Nat):Int)),[],false⟩,⟨45,IsR (.int .i64 1),[9],false⟩,⟨46,IsR (.int .i64 64),[10],false⟩,⟨47,IsR (.slice (some ⟨g2,x.1*256,none⟩) 64 256),[6,8,11],false⟩,⟨48,IsR (.pointer (some ⟨G,1,none⟩)),[],false⟩,⟨49,IsR (.int .i64 ((0:Nat):Int)),[],false⟩,⟨50,IsR (.int .i64 0),[14],false⟩,⟨51,IsR (.slice (some ⟨G,1,none⟩) 256 256),[13,15],false⟩] (by kernel_rfl) (by kernel_rfl) rfl rfl rfl ⟨?_,?_,?_,?_,?_,?_,?_,?_,?_,?_,?_,?_,?_,?_,?_,?_,?_,trivial⟩ ?_
             · refine⟨rfl,IsR.mono _,fun a W hA hb hd=>takes_plain rfl (yields_value _ ?_ rfl)⟩
               have h0:a.tmps[0]?.getD undef = .pointer (some ⟨d,0,none⟩):=(eval_get a 0).trans ((hA.eval (by simp)).trans rfl)
               go_simp
             · refine⟨rfl,IsR.mono _,fun a W hA hb hd=>takes_plain rfl (yields_value _ ?_ rfl)⟩
               have h35:a.tmps[35]?.getD undef = .pointer (some ⟨d,0,none⟩):=(eval_get a 35).trans (hd 0 (by simp) _ rfl)
               go_simp
             · refine⟨rfl,IsR.mono _,fun a W hA hb hd=>takes_plain rfl (yields_value _ ?_ rfl)⟩
               have h36:a.tmps[36]?.getD undef = .pointer (some ⟨d,0,none⟩):=(eval_get a 36).trans (hd 1 (by simp) _ rfl)
               go_simp
             · refine⟨rfl,IsR.mono _,fun a W hA hb hd=>takes_plain rfl (yields_value _ ?_ rfl)⟩
               have h37:a.tmps[37]?.getD undef = .pointer (some ⟨d,1,none⟩):=(eval_get a 37).trans (hd 2 (by simp) _ rfl)
               have hc:W.cell? ⟨d,1,none⟩=some (.slice (some ⟨g2,0,none⟩) D.n D.n):=(DS.out.ab hb).box.cell (k:=1) rfl
               go_simp
             · refine⟨rfl,IsR.mono _,fun a W hA hb hd=>takes_plain rfl (yields_value _ ?_ rfl)⟩
               have h6:a.tmps[6]?.getD undef = .pointer (some ⟨G,0,none⟩):=(eval_get a 6).trans ((hA.eval (by simp)).trans rfl)
               go_simp
             · refine⟨rfl,IsR.mono _,fun a W hA hb hd=>takes_plain rfl (yields_value _ ?_ rfl)⟩
               have h39:a.tmps[39]?.getD undef = .pointer (some ⟨G,0,none⟩):=(eval_get a 39).trans (hd 4 (by simp) _ rfl)
               have hc:W.cell? ⟨G,0,none⟩=some (.int .i64 (x.1:Int)):=(NG.out.ab hb).cell (k:=0) rfl
               go_simp
             · refine⟨rfl,IsR.mono _,fun a W hA hb hd=>takes_plain rfl (yields_value _ ?_ rfl)⟩
               have h38:a.tmps[38]?.getD undef = .slice (some ⟨g2,0,none⟩) D.n D.n:=(eval_get a 38).trans (hd 3 (by simp) _ rfl)
               have h40:a.tmps[40]?.getD undef = .int .i64 (x.1:Int):=(eval_get a 40).trans (hd 5 (by simp) _ rfl)
               have i0:(0:Int)≤(x.1:Int):=by omega
               have i1:(x.1:Int)<(D.n:Int):=by have:=X3.out.1;omega
               go_simp
             · refine⟨rfl,IsR.mono _,fun a W hA hb hd=>takes_plain rfl (yields_value _ ?_ rfl)⟩
               have h7:a.tmps[7]?.getD undef = .int .i64 ((0:Nat):Int):=(eval_get a 7).trans ((hA.eval (by simp)).trans rfl)
               go_simp
             · refine⟨rfl,IsR.mono _,fun a W hA hb hd=>takes_plain rfl ?_⟩
               have h42:a.tmps[42]?.getD undef = .int .i64 ((0:Nat):Int):=(eval_get a 42).trans (hd 7 (by simp) _ rfl)
               refine yields_value (.int .i64 0) ?_ rfl
               go_simp
               rfl
             · refine⟨rfl,IsR.mono _,fun a W hA hb hd=>takes_plain rfl (yields_value _ ?_ rfl)⟩
               have h7:a.tmps[7]?.getD undef = .int .i64 ((0:Nat):Int):=(eval_get a 7).trans ((hA.eval (by simp)).trans rfl)
               go_simp
             · refine⟨rfl,IsR.mono _,fun a W hA hb hd=>takes_plain rfl ?_⟩
               have h44:a.tmps[44]?.getD undef = .int .i64 ((0:Nat):Int):=(eval_get a 44).trans (hd 9 (by simp) _ rfl)
               refine yields_value (.int .i64 1) ?_ rfl
               go_simp
               rfl
             · refine⟨rfl,IsR.mono _,fun a W hA hb hd=>takes_plain rfl ?_⟩
               have h45:a.tmps[45]?.getD undef = .int .i64 1:=(eval_get a 45).trans (hd 10 (by simp) _ rfl)
               refine yields_value (.int .i64 64) ?_ rfl
               go_simp
               rfl
             · refine⟨rfl,IsR.mono _,fun a W hA hb hd=>takes_plain rfl (yields_value _ ?_ rfl)⟩
               have h41:a.tmps[41]?.getD undef = .pointer (some ⟨g2,x.1*256,none⟩):=(eval_get a 41).trans (hd 6 (by simp) _ rfl)
               have h43:a.tmps[43]?.getD undef = .int .i64 0:=(eval_get a 43).trans (hd 8 (by simp) _ rfl)
               have h46:a.tmps[46]?.getD undef = .int .i64 64:=(eval_get a 46).trans (hd 11 (by simp) _ rfl)
               go_simp
             · refine⟨rfl,IsR.mono _,fun a W hA hb hd=>takes_plain rfl (yields_value _ ?_ rfl)⟩
               have h6:a.tmps[6]?.getD undef = .pointer (some ⟨G,0,none⟩):=(eval_get a 6).trans ((hA.eval (by simp)).trans rfl)
               go_simp
             · refine⟨rfl,IsR.mono _,fun a W hA hb hd=>takes_plain rfl (yields_value _ ?_ rfl)⟩
               have h7:a.tmps[7]?.getD undef = .int .i64 ((0:Nat):Int):=(eval_get a 7).trans ((hA.eval (by simp)).trans rfl)
               go_simp
             · refine⟨rfl,IsR.mono _,fun a W hA hb hd=>takes_plain rfl ?_⟩
               have h49:a.tmps[49]?.getD undef = .int .i64 ((0:Nat):Int):=(eval_get a 49).trans (hd 14 (by simp) _ rfl)
               refine yields_value (.int .i64 0) ?_ rfl
               go_simp
               rfl
             · refine⟨rfl,IsR.mono _,fun a W hA hb hd=>takes_plain rfl (yields_value _ ?_ rfl)⟩
               have h48:a.tmps[48]?.getD undef = .pointer (some ⟨G,1,none⟩):=(eval_get a 48).trans (hd 13 (by simp) _ rfl)
               have h50:a.tmps[50]?.getD undef = .int .i64 0:=(eval_get a 50).trans (hd 15 (by simp) _ rfl)
               go_simp
             intro vs w5 hR hF hb
             have e35:vs 35 = .pointer (some ⟨d,0,none⟩):=hR 0 _ rfl
             have e36:vs 36 = .pointer (some ⟨d,0,none⟩):=hR 1 _ rfl
             have e37:vs 37 = .pointer (some ⟨d,1,none⟩):=hR 2 _ rfl
             have e38:vs 38 = .slice (some ⟨g2,0,none⟩) D.n D.n:=hR 3 _ rfl
             have e39:vs 39 = .pointer (some ⟨G,0,none⟩):=hR 4 _ rfl
             have e40:vs 40 = .int .i64 (x.1:Int):=hR 5 _ rfl
             have e41:vs 41 = .pointer (some ⟨g2,x.1*256,none⟩):=hR 6 _ rfl
             have e42:vs 42 = .int .i64 ((0:Nat):Int):=hR 7 _ rfl
             have e43:vs 43 = .int .i64 0:=hR 8 _ rfl
             have e44:vs 44 = .int .i64 ((0:Nat):Int):=hR 9 _ rfl
             have e45:vs 45 = .int .i64 1:=hR 10 _ rfl
             have e46:vs 46 = .int .i64 64:=hR 11 _ rfl
             have e47:vs 47 = .slice (some ⟨g2,x.1*256,none⟩) 64 256:=hR 12 _ rfl
             have e48:vs 48 = .pointer (some ⟨G,1,none⟩):=hR 13 _ rfl
             have e49:vs 49 = .int .i64 ((0:Nat):Int):=hR 14 _ rfl
             have e50:vs 50 = .int .i64 0:=hR 15 _ rfl
             have e51:vs 51 = .slice (some ⟨G,1,none⟩) 256 256:=hR 16 _ rfl
             simp only[List.map_cons,List.map_nil,List.foldl_cons,List.foldl_nil,List.length_cons,List.length_nil,List.drop_succ_cons,List.drop_zero,Act.put,List.setIfInBounds_toArray,List.set_cons_zero,List.set_cons_succ,e35,e36,e37,e38,e39,e40,e41,e42,e43,e44,e45,e46,e47,e48,e49,e50,e51]
             have D5:=Lib.hid (DS.out.ab hb)
             have G5:=Lib.hid (NG.out.ab hb)
             have F5:=Lib.hid (FR.out.tr (Fr.of hb _))
             clear hR hF hb e35 e36 e37 e38 e39 e40 e41 e42 e43 e44 e45 e46 e47 e48 e49 e50 e51
             go_wp2_with (first
              | (refine wpList_copyT (o:=⟨some 52,.call ⟨.builtin .copy,_,_⟩,_,_,_,_⟩) rfl (.tmp 47) (.tmp 51) rfl g2 (x.1*256) 64 256 D5.out.firm rfl (l:=(x.2.drop 0).take 64) rfl (by rw[List.length_take,List.length_drop,X3.out.2.1];decide) (fun i v hv=>?_) (by decide) (by have h1:=secF_len (m:=m) FL.out X3.out.1 X3.out.2.1 0 (by decide);have h2:=X3.out.1;show x.1*256+64≤(secF f0 x m 0).length;omega) (secD (secF f0 x m 0) x.1 x.2 0) rfl ?_
                 · rw[show (⟨G,1,none⟩:Addr).add i=⟨G,0+i+1,none⟩ from by unfold Addr.add;split <;> (simp_all;try omega)]
                   refine CbB.cell G5.out (k:=0+i+1) (wrA_at ?_)
                   rw[List.map_take,List.getElem?_take] at hv
                   split at hv
                   · rw[List.map_drop,List.getElem?_drop] at hv;exact hv
                   · cases hv
                 intro w6 hw6
                 have D6:=Lib.hid (D5.out.rowF (secD (secF f0 x m 0) x.1 x.2 0))
                 rw[←hw6] at D6
                 have G6:Hid (CbB w6 G 174 (wrA x)):=Lib.hid (by rw[hw6];exact G5.out.rowFar GN.out.1 _)
                 have F6:Hid (Fr w w6 (fun q=>q=g2)):=Lib.hid (by rw[hw6];exact F5.out.tr (fr_row _ _ _))
                 clear hw6))
             go_roundw
             case rel=>exact⟨1,by decide,by go_num,by rw[SX.out];exact D6.out,G6.out,F6.out⟩
             case measure=>simp[intOf]
         · have hbq : (bits BinOp.and IntKind.u8 ((m:Int)/2) 1 != 0)=bitM m 1:=by
            unfold bitM
            rw[show ((m/2 ^ 1:Nat):Int)=((m:Int)/2) from by omega]
           have SX:Hid (secF f0 x m (1+1)=if bitM m 1=true then secD (secF f0 x m 1) x.1 x.2 1 else secF f0 x m 1):=Lib.hid rfl
           cases hb9:bitM m 1 with
           | false=>
             rw[hb9] at hbq SX
             rw[if_neg Bool.false_ne_true] at SX
             have HB:=Lib.hid hb9
             clear hb9
             go_wp2_with fail
             go_roundw
             case rel=>exact⟨2,by decide,by go_num,by rw[SX.out];exact DS.out,NG.out,FR.out⟩
             case measure=>simp[intOf]
           | true =>
             rw[hb9] at hbq SX
             rw[if_pos rfl] at SX
             have HB:=Lib.hid hb9
             clear hb9
             go_upto_region 11 with (fail)
             refine wp_wide3 [⟨35,IsR (.pointer (some ⟨d,0,none⟩)),[],false⟩,⟨36,IsR (.pointer (some ⟨d,0,none⟩)),[0],false⟩,⟨37,IsR (.pointer (some ⟨d,1,none⟩)),[1],false⟩,⟨38,IsR (.slice (some ⟨g2,0,none⟩) D.n D.n),[2],false⟩,⟨39,IsR (.pointer (some ⟨G,0,none⟩)),[],false⟩,⟨40,IsR (.int .i64 (x.1:Int)),[4],false⟩,⟨41,IsR (.pointer (some ⟨g2,x.1*256,none⟩)),[3,5],false⟩,⟨42,IsR (.int .i64 ((1:Nat):Int)),[],false⟩,⟨43,IsR (.int .i64 64),[7],false⟩,⟨44,IsR (.int .i64 ((1:Nat):Int)),[],false⟩,⟨45,IsR (.int .i64 2),[9],false⟩,⟨46,IsR (.int .i64 128),[10],false⟩,⟨47,IsR (.slice (some ⟨g2,x.1*256+64,none⟩) 64 192),[6,8,11],false⟩,⟨48,IsR (.pointer (some ⟨G,1,none⟩)),[],false⟩,⟨49,IsR (.int .i64 ((1:Nat):Int)),[],false⟩,⟨50,IsR (.int .i64 64),[14],false⟩,⟨51,IsR (.slice (some ⟨G,65,none⟩) 192 192),[13,15],false⟩] (by kernel_rfl) (by kernel_rfl) rfl rfl rfl ⟨?_,?_,?_,?_,?_,?_,?_,?_,?_,?_,?_,?_,?_,?_,?_,?_,?_,trivial⟩ ?_
             · refine⟨rfl,IsR.mono _,fun a W hA hb hd=>takes_plain rfl (yields_value _ ?_ rfl)⟩
               have h0:a.tmps[0]?.getD undef = .pointer (some ⟨d,0,none⟩):=(eval_get a 0).trans ((hA.eval (by simp)).trans rfl)
               go_simp
             · refine⟨rfl,IsR.mono _,fun a W hA hb hd=>takes_plain rfl (yields_value _ ?_ rfl)⟩
               have h35:a.tmps[35]?.getD undef = .pointer (some ⟨d,0,none⟩):=(eval_get a 35).trans (hd 0 (by simp) _ rfl)
               go_simp
             · refine⟨rfl,IsR.mono _,fun a W hA hb hd=>takes_plain rfl (yields_value _ ?_ rfl)⟩
               have h36:a.tmps[36]?.getD undef = .pointer (some ⟨d,0,none⟩):=(eval_get a 36).trans (hd 1 (by simp) _ rfl)
               go_simp
             · refine⟨rfl,IsR.mono _,fun a W hA hb hd=>takes_plain rfl (yields_value _ ?_ rfl)⟩
               have h37:a.tmps[37]?.getD undef = .pointer (some ⟨d,1,none⟩):=(eval_get a 37).trans (hd 2 (by simp) _ rfl)
               have hc:W.cell? ⟨d,1,none⟩=some (.slice (some ⟨g2,0,none⟩) D.n D.n):=(DS.out.ab hb).box.cell (k:=1) rfl
               go_simp
             · refine⟨rfl,IsR.mono _,fun a W hA hb hd=>takes_plain rfl (yields_value _ ?_ rfl)⟩
               have h6:a.tmps[6]?.getD undef = .pointer (some ⟨G,0,none⟩):=(eval_get a 6).trans ((hA.eval (by simp)).trans rfl)
               go_simp
             · refine⟨rfl,IsR.mono _,fun a W hA hb hd=>takes_plain rfl (yields_value _ ?_ rfl)⟩
               have h39:a.tmps[39]?.getD undef = .pointer (some ⟨G,0,none⟩):=(eval_get a 39).trans (hd 4 (by simp) _ rfl)
               have hc:W.cell? ⟨G,0,none⟩=some (.int .i64 (x.1:Int)):=(NG.out.ab hb).cell (k:=0) rfl
               go_simp
             · refine⟨rfl,IsR.mono _,fun a W hA hb hd=>takes_plain rfl (yields_value _ ?_ rfl)⟩
               have h38:a.tmps[38]?.getD undef = .slice (some ⟨g2,0,none⟩) D.n D.n:=(eval_get a 38).trans (hd 3 (by simp) _ rfl)
               have h40:a.tmps[40]?.getD undef = .int .i64 (x.1:Int):=(eval_get a 40).trans (hd 5 (by simp) _ rfl)
               have i0:(0:Int)≤(x.1:Int):=by omega
               have i1:(x.1:Int)<(D.n:Int):=by have:=X3.out.1;omega
               go_simp
             · refine⟨rfl,IsR.mono _,fun a W hA hb hd=>takes_plain rfl (yields_value _ ?_ rfl)⟩
               have h7:a.tmps[7]?.getD undef = .int .i64 ((1:Nat):Int):=(eval_get a 7).trans ((hA.eval (by simp)).trans rfl)
               go_simp
             · refine⟨rfl,IsR.mono _,fun a W hA hb hd=>takes_plain rfl ?_⟩
               have h42:a.tmps[42]?.getD undef = .int .i64 ((1:Nat):Int):=(eval_get a 42).trans (hd 7 (by simp) _ rfl)
               refine yields_value (.int .i64 64) ?_ rfl
               go_simp
               rfl
             · refine⟨rfl,IsR.mono _,fun a W hA hb hd=>takes_plain rfl (yields_value _ ?_ rfl)⟩
               have h7:a.tmps[7]?.getD undef = .int .i64 ((1:Nat):Int):=(eval_get a 7).trans ((hA.eval (by simp)).trans rfl)
               go_simp
             · refine⟨rfl,IsR.mono _,fun a W hA hb hd=>takes_plain rfl ?_⟩
               have h44:a.tmps[44]?.getD undef = .int .i64 ((1:Nat):Int):=(eval_get a 44).trans (hd 9 (by simp) _ rfl)
               refine yields_value (.int .i64 2) ?_ rfl
               go_simp
               rfl
             · refine⟨rfl,IsR.mono _,fun a W hA hb hd=>takes_plain rfl ?_⟩
               have h45:a.tmps[45]?.getD undef = .int .i64 2:=(eval_get a 45).trans (hd 10 (by simp) _ rfl)
               refine yields_value (.int .i64 128) ?_ rfl
               go_simp
               rfl
             · refine⟨rfl,IsR.mono _,fun a W hA hb hd=>takes_plain rfl (yields_value _ ?_ rfl)⟩
               have h41:a.tmps[41]?.getD undef = .pointer (some ⟨g2,x.1*256,none⟩):=(eval_get a 41).trans (hd 6 (by simp) _ rfl)
               have h43:a.tmps[43]?.getD undef = .int .i64 64:=(eval_get a 43).trans (hd 8 (by simp) _ rfl)
               have h46:a.tmps[46]?.getD undef = .int .i64 128:=(eval_get a 46).trans (hd 11 (by simp) _ rfl)
               go_simp
             · refine⟨rfl,IsR.mono _,fun a W hA hb hd=>takes_plain rfl (yields_value _ ?_ rfl)⟩
               have h6:a.tmps[6]?.getD undef = .pointer (some ⟨G,0,none⟩):=(eval_get a 6).trans ((hA.eval (by simp)).trans rfl)
               go_simp
             · refine⟨rfl,IsR.mono _,fun a W hA hb hd=>takes_plain rfl (yields_value _ ?_ rfl)⟩
               have h7:a.tmps[7]?.getD undef = .int .i64 ((1:Nat):Int):=(eval_get a 7).trans ((hA.eval (by simp)).trans rfl)
               go_simp
             · refine⟨rfl,IsR.mono _,fun a W hA hb hd=>takes_plain rfl ?_⟩
               have h49:a.tmps[49]?.getD undef = .int .i64 ((1:Nat):Int):=(eval_get a 49).trans (hd 14 (by simp) _ rfl)
               refine yields_value (.int .i64 64) ?_ rfl
               go_simp
               rfl
             · refine⟨rfl,IsR.mono _,fun a W hA hb hd=>takes_plain rfl (yields_value _ ?_ rfl)⟩
               have h48:a.tmps[48]?.getD undef = .pointer (some ⟨G,1,none⟩):=(eval_get a 48).trans (hd 13 (by simp) _ rfl)
               have h50:a.tmps[50]?.getD undef = .int .i64 64:=(eval_get a 50).trans (hd 15 (by simp) _ rfl)
               go_simp
             intro vs w5 hR hF hb
             have e35:vs 35 = .pointer (some ⟨d,0,none⟩):=hR 0 _ rfl
             have e36:vs 36 = .pointer (some ⟨d,0,none⟩):=hR 1 _ rfl
             have e37:vs 37 = .pointer (some ⟨d,1,none⟩):=hR 2 _ rfl
             have e38:vs 38 = .slice (some ⟨g2,0,none⟩) D.n D.n:=hR 3 _ rfl
             have e39:vs 39 = .pointer (some ⟨G,0,none⟩):=hR 4 _ rfl
             have e40:vs 40 = .int .i64 (x.1:Int):=hR 5 _ rfl
             have e41:vs 41 = .pointer (some ⟨g2,x.1*256,none⟩):=hR 6 _ rfl
             have e42:vs 42 = .int .i64 ((1:Nat):Int):=hR 7 _ rfl
             have e43:vs 43 = .int .i64 64:=hR 8 _ rfl
             have e44:vs 44 = .int .i64 ((1:Nat):Int):=hR 9 _ rfl
             have e45:vs 45 = .int .i64 2:=hR 10 _ rfl
             have e46:vs 46 = .int .i64 128:=hR 11 _ rfl
             have e47:vs 47 = .slice (some ⟨g2,x.1*256+64,none⟩) 64 192:=hR 12 _ rfl
             have e48:vs 48 = .pointer (some ⟨G,1,none⟩):=hR 13 _ rfl
             have e49:vs 49 = .int .i64 ((1:Nat):Int):=hR 14 _ rfl
             have e50:vs 50 = .int .i64 64:=hR 15 _ rfl
             have e51:vs 51 = .slice (some ⟨G,65,none⟩) 192 192:=hR 16 _ rfl
             simp only[List.map_cons,List.map_nil,List.foldl_cons,List.foldl_nil,List.length_cons,List.length_nil,List.drop_succ_cons,List.drop_zero,Act.put,List.setIfInBounds_toArray,List.set_cons_zero,List.set_cons_succ,e35,e36,e37,e38,e39,e40,e41,e42,e43,e44,e45,e46,e47,e48,e49,e50,e51]
             have D5:=Lib.hid (DS.out.ab hb)
             have G5:=Lib.hid (NG.out.ab hb)
             have F5:=Lib.hid (FR.out.tr (Fr.of hb _))
             clear hR hF hb e35 e36 e37 e38 e39 e40 e41 e42 e43 e44 e45 e46 e47 e48 e49 e50 e51
             go_wp2_with (first
              | (refine wpList_copyT (o:=⟨some 52,.call ⟨.builtin .copy,_,_⟩,_,_,_,_⟩) rfl (.tmp 47) (.tmp 51) rfl g2 (x.1*256+64) 64 192 D5.out.firm rfl (l:=(x.2.drop 64).take 64) rfl (by rw[List.length_take,List.length_drop,X3.out.2.1];decide) (fun i v hv=>?_) (by decide) (by have h1:=secF_len (m:=m) FL.out X3.out.1 X3.out.2.1 1 (by decide);have h2:=X3.out.1;show x.1*256+64+64≤(secF f0 x m 1).length;omega) (secD (secF f0 x m 1) x.1 x.2 1) rfl ?_
                 · rw[show (⟨G,65,none⟩:Addr).add i=⟨G,64+i+1,none⟩ from by unfold Addr.add;split <;> (simp_all;try omega)]
                   refine CbB.cell G5.out (k:=64+i+1) (wrA_at ?_)
                   rw[List.map_take,List.getElem?_take] at hv
                   split at hv
                   · rw[List.map_drop,List.getElem?_drop] at hv;exact hv
                   · cases hv
                 intro w6 hw6
                 have D6:=Lib.hid (D5.out.rowF (secD (secF f0 x m 1) x.1 x.2 1))
                 rw[←hw6] at D6
                 have G6:Hid (CbB w6 G 174 (wrA x)):=Lib.hid (by rw[hw6];exact G5.out.rowFar GN.out.1 _)
                 have F6:Hid (Fr w w6 (fun q=>q=g2)):=Lib.hid (by rw[hw6];exact F5.out.tr (fr_row _ _ _))
                 clear hw6))
             go_roundw
             case rel=>exact⟨2,by decide,by go_num,by rw[SX.out];exact D6.out,G6.out,F6.out⟩
             case measure=>simp[intOf]
         · have hbq : (bits BinOp.and IntKind.u8 ((m:Int)/4) 1 != 0)=bitM m 2:=by
            unfold bitM
            rw[show ((m/2 ^ 2:Nat):Int)=((m:Int)/4) from by omega]
           have SX:Hid (secF f0 x m (2+1)=if bitM m 2=true then secD (secF f0 x m 2) x.1 x.2 2 else secF f0 x m 2):=Lib.hid rfl
           cases hb9:bitM m 2 with
           | false=>
             rw[hb9] at hbq SX
             rw[if_neg Bool.false_ne_true] at SX
             have HB:=Lib.hid hb9
             clear hb9
             go_wp2_with fail
             go_roundw
             case rel=>exact⟨3,by decide,by go_num,by rw[SX.out];exact DS.out,NG.out,FR.out⟩
             case measure=>simp[intOf]
           | true =>
             rw[hb9] at hbq SX
             rw[if_pos rfl] at SX
             have HB:=Lib.hid hb9
             clear hb9
             go_upto_region 11 with (fail)
             refine wp_wide3 [⟨35,IsR (.pointer (some ⟨d,0,none⟩)),[],false⟩,⟨36,IsR (.pointer (some ⟨d,0,none⟩)),[0],false⟩,⟨37,IsR (.pointer (some ⟨d,1,none⟩)),[1],false⟩,⟨38,IsR (.slice (some ⟨g2,0,none⟩) D.n D.n),[2],false⟩,⟨39,IsR (.pointer (some ⟨G,0,none⟩)),[],false⟩,⟨40,IsR (.int .i64 (x.1:Int)),[4],false⟩,⟨41,IsR (.pointer (some ⟨g2,x.1*256,none⟩)),[3,5],false⟩,⟨42,IsR (.int .i64 ((2:Nat):Int)),[],false⟩,⟨43,IsR (.int .i64 128),[7],false⟩,⟨44,IsR (.int .i64 ((2:Nat):Int)),[],false⟩,⟨45,IsR (.int .i64 3),[9],false⟩,⟨46,IsR (.int .i64 192),[10],false⟩,⟨47,IsR (.slice (some ⟨g2,x.1*256+128,none⟩) 64 128),[6,8,11],false⟩,⟨48,IsR (.pointer (some ⟨G,1,none⟩)),[],false⟩,⟨49,IsR (.int .i64 ((2:Nat):Int)),[],false⟩,⟨50,IsR (.int .i64 128),[14],false⟩,⟨51,IsR (.slice (some ⟨G,129,none⟩) 128 128),[13,15],false⟩] (by kernel_rfl) (by kernel_rfl) rfl rfl rfl ⟨?_,?_,?_,?_,?_,?_,?_,?_,?_,?_,?_,?_,?_,?_,?_,?_,?_,trivial⟩ ?_
             · refine⟨rfl,IsR.mono _,fun a W hA hb hd=>takes_plain rfl (yields_value _ ?_ rfl)⟩
               have h0:a.tmps[0]?.getD undef = .pointer (some ⟨d,0,none⟩):=(eval_get a 0).trans ((hA.eval (by simp)).trans rfl)
               go_simp
             · refine⟨rfl,IsR.mono _,fun a W hA hb hd=>takes_plain rfl (yields_value _ ?_ rfl)⟩
               have h35:a.tmps[35]?.getD undef = .pointer (some ⟨d,0,none⟩):=(eval_get a 35).trans (hd 0 (by simp) _ rfl)
               go_simp
             · refine⟨rfl,IsR.mono _,fun a W hA hb hd=>takes_plain rfl (yields_value _ ?_ rfl)⟩
               have h36:a.tmps[36]?.getD undef = .pointer (some ⟨d,0,none⟩):=(eval_get a 36).trans (hd 1 (by simp) _ rfl)
               go_simp
             · refine⟨rfl,IsR.mono _,fun a W hA hb hd=>takes_plain rfl (yields_value _ ?_ rfl)⟩
               have h37:a.tmps[37]?.getD undef = .pointer (some ⟨d,1,none⟩):=(eval_get a 37).trans (hd 2 (by simp) _ rfl)
               have hc:W.cell? ⟨d,1,none⟩=some (.slice (some ⟨g2,0,none⟩) D.n D.n):=(DS.out.ab hb).box.cell (k:=1) rfl
               go_simp
             · refine⟨rfl,IsR.mono _,fun a W hA hb hd=>takes_plain rfl (yields_value _ ?_ rfl)⟩
               have h6:a.tmps[6]?.getD undef = .pointer (some ⟨G,0,none⟩):=(eval_get a 6).trans ((hA.eval (by simp)).trans rfl)
               go_simp
             · refine⟨rfl,IsR.mono _,fun a W hA hb hd=>takes_plain rfl (yields_value _ ?_ rfl)⟩
               have h39:a.tmps[39]?.getD undef = .pointer (some ⟨G,0,none⟩):=(eval_get a 39).trans (hd 4 (by simp) _ rfl)
               have hc:W.cell? ⟨G,0,none⟩=some (.int .i64 (x.1:Int)):=(NG.out.ab hb).cell (k:=0) rfl
               go_simp
             · refine⟨rfl,IsR.mono _,fun a W hA hb hd=>takes_plain rfl (yields_value _ ?_ rfl)⟩
               have h38:a.tmps[38]?.getD undef = .slice (some ⟨g2,0,none⟩) D.n D.n:=(eval_get a 38).trans (hd 3 (by simp) _ rfl)
               have h40:a.tmps[40]?.getD undef = .int .i64 (x.1:Int):=(eval_get a 40).trans (hd 5 (by simp) _ rfl)
               have i0:(0:Int)≤(x.1:Int):=by omega
               have i1:(x.1:Int)<(D.n:Int):=by have:=X3.out.1;omega
               go_simp
             · refine⟨rfl,IsR.mono _,fun a W hA hb hd=>takes_plain rfl (yields_value _ ?_ rfl)⟩
               have h7:a.tmps[7]?.getD undef = .int .i64 ((2:Nat):Int):=(eval_get a 7).trans ((hA.eval (by simp)).trans rfl)
               go_simp
             · refine⟨rfl,IsR.mono _,fun a W hA hb hd=>takes_plain rfl ?_⟩
               have h42:a.tmps[42]?.getD undef = .int .i64 ((2:Nat):Int):=(eval_get a 42).trans (hd 7 (by simp) _ rfl)
               refine yields_value (.int .i64 128) ?_ rfl
               go_simp
               rfl
             · refine⟨rfl,IsR.mono _,fun a W hA hb hd=>takes_plain rfl (yields_value _ ?_ rfl)⟩
               have h7:a.tmps[7]?.getD undef = .int .i64 ((2:Nat):Int):=(eval_get a 7).trans ((hA.eval (by simp)).trans rfl)
               go_simp
             · refine⟨rfl,IsR.mono _,fun a W hA hb hd=>takes_plain rfl ?_⟩
               have h44:a.tmps[44]?.getD undef = .int .i64 ((2:Nat):Int):=(eval_get a 44).trans (hd 9 (by simp) _ rfl)
               refine yields_value (.int .i64 3) ?_ rfl
               go_simp
               rfl
             · refine⟨rfl,IsR.mono _,fun a W hA hb hd=>takes_plain rfl ?_⟩
               have h45:a.tmps[45]?.getD undef = .int .i64 3:=(eval_get a 45).trans (hd 10 (by simp) _ rfl)
               refine yields_value (.int .i64 192) ?_ rfl
               go_simp
               rfl
             · refine⟨rfl,IsR.mono _,fun a W hA hb hd=>takes_plain rfl (yields_value _ ?_ rfl)⟩
               have h41:a.tmps[41]?.getD undef = .pointer (some ⟨g2,x.1*256,none⟩):=(eval_get a 41).trans (hd 6 (by simp) _ rfl)
               have h43:a.tmps[43]?.getD undef = .int .i64 128:=(eval_get a 43).trans (hd 8 (by simp) _ rfl)
               have h46:a.tmps[46]?.getD undef = .int .i64 192:=(eval_get a 46).trans (hd 11 (by simp) _ rfl)
               go_simp
             · refine⟨rfl,IsR.mono _,fun a W hA hb hd=>takes_plain rfl (yields_value _ ?_ rfl)⟩
               have h6:a.tmps[6]?.getD undef = .pointer (some ⟨G,0,none⟩):=(eval_get a 6).trans ((hA.eval (by simp)).trans rfl)
               go_simp
             · refine⟨rfl,IsR.mono _,fun a W hA hb hd=>takes_plain rfl (yields_value _ ?_ rfl)⟩
               have h7:a.tmps[7]?.getD undef = .int .i64 ((2:Nat):Int):=(eval_get a 7).trans ((hA.eval (by simp)).trans rfl)
               go_simp
             · refine⟨rfl,IsR.mono _,fun a W hA hb hd=>takes_plain rfl ?_⟩
               have h49:a.tmps[49]?.getD undef = .int .i64 ((2:Nat):Int):=(eval_get a 49).trans (hd 14 (by simp) _ rfl)
               refine yields_value (.int .i64 128) ?_ rfl
               go_simp
               rfl
             · refine⟨rfl,IsR.mono _,fun a W hA hb hd=>takes_plain rfl (yields_value _ ?_ rfl)⟩
               have h48:a.tmps[48]?.getD undef = .pointer (some ⟨G,1,none⟩):=(eval_get a 48).trans (hd 13 (by simp) _ rfl)
               have h50:a.tmps[50]?.getD undef = .int .i64 128:=(eval_get a 50).trans (hd 15 (by simp) _ rfl)
               go_simp
             intro vs w5 hR hF hb
             have e35:vs 35 = .pointer (some ⟨d,0,none⟩):=hR 0 _ rfl
             have e36:vs 36 = .pointer (some ⟨d,0,none⟩):=hR 1 _ rfl
             have e37:vs 37 = .pointer (some ⟨d,1,none⟩):=hR 2 _ rfl
             have e38:vs 38 = .slice (some ⟨g2,0,none⟩) D.n D.n:=hR 3 _ rfl
             have e39:vs 39 = .pointer (some ⟨G,0,none⟩):=hR 4 _ rfl
             have e40:vs 40 = .int .i64 (x.1:Int):=hR 5 _ rfl
             have e41:vs 41 = .pointer (some ⟨g2,x.1*256,none⟩):=hR 6 _ rfl
             have e42:vs 42 = .int .i64 ((2:Nat):Int):=hR 7 _ rfl
             have e43:vs 43 = .int .i64 128:=hR 8 _ rfl
             have e44:vs 44 = .int .i64 ((2:Nat):Int):=hR 9 _ rfl
             have e45:vs 45 = .int .i64 3:=hR 10 _ rfl
             have e46:vs 46 = .int .i64 192:=hR 11 _ rfl
             have e47:vs 47 = .slice (some ⟨g2,x.1*256+128,none⟩) 64 128:=hR 12 _ rfl
             have e48:vs 48 = .pointer (some ⟨G,1,none⟩):=hR 13 _ rfl
             have e49:vs 49 = .int .i64 ((2:Nat):Int):=hR 14 _ rfl
             have e50:vs 50 = .int .i64 128:=hR 15 _ rfl
             have e51:vs 51 = .slice (some ⟨G,129,none⟩) 128 128:=hR 16 _ rfl
             simp only[List.map_cons,List.map_nil,List.foldl_cons,List.foldl_nil,List.length_cons,List.length_nil,List.drop_succ_cons,List.drop_zero,Act.put,List.setIfInBounds_toArray,List.set_cons_zero,List.set_cons_succ,e35,e36,e37,e38,e39,e40,e41,e42,e43,e44,e45,e46,e47,e48,e49,e50,e51]
             have D5:=Lib.hid (DS.out.ab hb)
             have G5:=Lib.hid (NG.out.ab hb)
             have F5:=Lib.hid (FR.out.tr (Fr.of hb _))
             clear hR hF hb e35 e36 e37 e38 e39 e40 e41 e42 e43 e44 e45 e46 e47 e48 e49 e50 e51
             go_wp2_with (first
              | (refine wpList_copyT (o:=⟨some 52,.call ⟨.builtin .copy,_,_⟩,_,_,_,_⟩) rfl (.tmp 47) (.tmp 51) rfl g2 (x.1*256+128) 64 128 D5.out.firm rfl (l:=(x.2.drop 128).take 64) rfl (by rw[List.length_take,List.length_drop,X3.out.2.1];decide) (fun i v hv=>?_) (by decide) (by have h1:=secF_len (m:=m) FL.out X3.out.1 X3.out.2.1 2 (by decide);have h2:=X3.out.1;show x.1*256+128+64≤(secF f0 x m 2).length;omega) (secD (secF f0 x m 2) x.1 x.2 2) rfl ?_
                 · rw[show (⟨G,129,none⟩:Addr).add i=⟨G,128+i+1,none⟩ from by unfold Addr.add;split <;> (simp_all;try omega)]
                   refine CbB.cell G5.out (k:=128+i+1) (wrA_at ?_)
                   rw[List.map_take,List.getElem?_take] at hv
                   split at hv
                   · rw[List.map_drop,List.getElem?_drop] at hv;exact hv
                   · cases hv
                 intro w6 hw6
                 have D6:=Lib.hid (D5.out.rowF (secD (secF f0 x m 2) x.1 x.2 2))
                 rw[←hw6] at D6
                 have G6:Hid (CbB w6 G 174 (wrA x)):=Lib.hid (by rw[hw6];exact G5.out.rowFar GN.out.1 _)
                 have F6:Hid (Fr w w6 (fun q=>q=g2)):=Lib.hid (by rw[hw6];exact F5.out.tr (fr_row _ _ _))
                 clear hw6))
             go_roundw
             case rel=>exact⟨3,by decide,by go_num,by rw[SX.out];exact D6.out,G6.out,F6.out⟩
             case measure=>simp[intOf]
         · have hbq : (bits BinOp.and IntKind.u8 ((m:Int)/8) 1 != 0)=bitM m 3:=by
            unfold bitM
            rw[show ((m/2 ^ 3:Nat):Int)=((m:Int)/8) from by omega]
           have SX:Hid (secF f0 x m (3+1)=if bitM m 3=true then secD (secF f0 x m 3) x.1 x.2 3 else secF f0 x m 3):=Lib.hid rfl
           cases hb9:bitM m 3 with
           | false=>
             rw[hb9] at hbq SX
             rw[if_neg Bool.false_ne_true] at SX
             have HB:=Lib.hid hb9
             clear hb9
             go_wp2_with fail
             go_roundw
             case rel=>exact⟨4,by decide,by go_num,by rw[SX.out];exact DS.out,NG.out,FR.out⟩
             case measure=>simp[intOf]
           | true =>
             rw[hb9] at hbq SX
             rw[if_pos rfl] at SX
             have HB:=Lib.hid hb9
             clear hb9
             go_upto_region 11 with (fail)
             refine wp_wide3 [⟨35,IsR (.pointer (some ⟨d,0,none⟩)),[],false⟩,⟨36,IsR (.pointer (some ⟨d,0,none⟩)),[0],false⟩,⟨37,IsR (.pointer (some ⟨d,1,none⟩)),[1],false⟩,⟨38,IsR (.slice (some ⟨g2,0,none⟩) D.n D.n),[2],false⟩,⟨39,IsR (.pointer (some ⟨G,0,none⟩)),[],false⟩,⟨40,IsR (.int .i64 (x.1:Int)),[4],false⟩,⟨41,IsR (.pointer (some ⟨g2,x.1*256,none⟩)),[3,5],false⟩,⟨42,IsR (.int .i64 ((3:Nat):Int)),[],false⟩,⟨43,IsR (.int .i64 192),[7],false⟩,⟨44,IsR (.int .i64 ((3:Nat):Int)),[],false⟩,⟨45,IsR (.int .i64 4),[9],false⟩,⟨46,IsR (.int .i64 256),[10],false⟩,⟨47,IsR (.slice (some ⟨g2,x.1*256+192,none⟩) 64 64),[6,8,11],false⟩,⟨48,IsR (.pointer (some ⟨G,1,none⟩)),[],false⟩,⟨49,IsR (.int .i64 ((3:Nat):Int)),[],false⟩,⟨50,IsR (.int .i64 192),[14],false⟩,⟨51,IsR (.slice (some ⟨G,193,none⟩) 64 64),[13,15],false⟩] (by kernel_rfl) (by kernel_rfl) rfl rfl rfl ⟨?_,?_,?_,?_,?_,?_,?_,?_,?_,?_,?_,?_,?_,?_,?_,?_,?_,trivial⟩ ?_
             · refine⟨rfl,IsR.mono _,fun a W hA hb hd=>takes_plain rfl (yields_value _ ?_ rfl)⟩
               have h0:a.tmps[0]?.getD undef = .pointer (some ⟨d,0,none⟩):=(eval_get a 0).trans ((hA.eval (by simp)).trans rfl)
               go_simp
             · refine⟨rfl,IsR.mono _,fun a W hA hb hd=>takes_plain rfl (yields_value _ ?_ rfl)⟩
               have h35:a.tmps[35]?.getD undef = .pointer (some ⟨d,0,none⟩):=(eval_get a 35).trans (hd 0 (by simp) _ rfl)
               go_simp
             · refine⟨rfl,IsR.mono _,fun a W hA hb hd=>takes_plain rfl (yields_value _ ?_ rfl)⟩
               have h36:a.tmps[36]?.getD undef = .pointer (some ⟨d,0,none⟩):=(eval_get a 36).trans (hd 1 (by simp) _ rfl)
               go_simp
             · refine⟨rfl,IsR.mono _,fun a W hA hb hd=>takes_plain rfl (yields_value _ ?_ rfl)⟩
               have h37:a.tmps[37]?.getD undef = .pointer (some ⟨d,1,none⟩):=(eval_get a 37).trans (hd 2 (by simp) _ rfl)
               have hc:W.cell? ⟨d,1,none⟩=some (.slice (some ⟨g2,0,none⟩) D.n D.n):=(DS.out.ab hb).box.cell (k:=1) rfl
               go_simp
             · refine⟨rfl,IsR.mono _,fun a W hA hb hd=>takes_plain rfl (yields_value _ ?_ rfl)⟩
               have h6:a.tmps[6]?.getD undef = .pointer (some ⟨G,0,none⟩):=(eval_get a 6).trans ((hA.eval (by simp)).trans rfl)
               go_simp
             · refine⟨rfl,IsR.mono _,fun a W hA hb hd=>takes_plain rfl (yields_value _ ?_ rfl)⟩
               have h39:a.tmps[39]?.getD undef = .pointer (some ⟨G,0,none⟩):=(eval_get a 39).trans (hd 4 (by simp) _ rfl)
               have hc:W.cell? ⟨G,0,none⟩=some (.int .i64 (x.1:Int)):=(NG.out.ab hb).cell (k:=0) rfl
               go_simp
             · refine⟨rfl,IsR.mono _,fun a W hA hb hd=>takes_plain rfl (yields_value _ ?_ rfl)⟩
               have h38:a.tmps[38]?.getD undef = .slice (some ⟨g2,0,none⟩) D.n D.n:=(eval_get a 38).trans (hd 3 (by simp) _ rfl)
               have h40:a.tmps[40]?.getD undef = .int .i64 (x.1:Int):=(eval_get a 40).trans (hd 5 (by simp) _ rfl)
               have i0:(0:Int)≤(x.1:Int):=by omega
               have i1:(x.1:Int)<(D.n:Int):=by have:=X3.out.1;omega
               go_simp
             · refine⟨rfl,IsR.mono _,fun a W hA hb hd=>takes_plain rfl (yields_value _ ?_ rfl)⟩
               have h7:a.tmps[7]?.getD undef = .int .i64 ((3:Nat):Int):=(eval_get a 7).trans ((hA.eval (by simp)).trans rfl)
               go_simp
             · refine⟨rfl,IsR.mono _,fun a W hA hb hd=>takes_plain rfl ?_⟩
               have h42:a.tmps[42]?.getD undef = .int .i64 ((3:Nat):Int):=(eval_get a 42).trans (hd 7 (by simp) _ rfl)
               refine yields_value (.int .i64 192) ?_ rfl
               go_simp
               rfl
             · refine⟨rfl,IsR.mono _,fun a W hA hb hd=>takes_plain rfl (yields_value _ ?_ rfl)⟩
               have h7:a.tmps[7]?.getD undef = .int .i64 ((3:Nat):Int):=(eval_get a 7).trans ((hA.eval (by simp)).trans rfl)
               go_simp
             · refine⟨rfl,IsR.mono _,fun a W hA hb hd=>takes_plain rfl ?_⟩
               have h44:a.tmps[44]?.getD undef = .int .i64 ((3:Nat):Int):=(eval_get a 44).trans (hd 9 (by simp) _ rfl)
               refine yields_value (.int .i64 4) ?_ rfl
               go_simp
               rfl
             · refine⟨rfl,IsR.mono _,fun a W hA hb hd=>takes_plain rfl ?_⟩
               have h45:a.tmps[45]?.getD undef = .int .i64 4:=(eval_get a 45).trans (hd 10 (by simp) _ rfl)
               refine yields_value (.int .i64 256) ?_ rfl
               go_simp
               rfl
             · refine⟨rfl,IsR.mono _,fun a W hA hb hd=>takes_plain rfl (yields_value _ ?_ rfl)⟩
               have h41:a.tmps[41]?.getD undef = .pointer (some ⟨g2,x.1*256,none⟩):=(eval_get a 41).trans (hd 6 (by simp) _ rfl)
               have h43:a.tmps[43]?.getD undef = .int .i64 192:=(eval_get a 43).trans (hd 8 (by simp) _ rfl)
               have h46:a.tmps[46]?.getD undef = .int .i64 256:=(eval_get a 46).trans (hd 11 (by simp) _ rfl)
               go_simp
             · refine⟨rfl,IsR.mono _,fun a W hA hb hd=>takes_plain rfl (yields_value _ ?_ rfl)⟩
               have h6:a.tmps[6]?.getD undef = .pointer (some ⟨G,0,none⟩):=(eval_get a 6).trans ((hA.eval (by simp)).trans rfl)
               go_simp
             · refine⟨rfl,IsR.mono _,fun a W hA hb hd=>takes_plain rfl (yields_value _ ?_ rfl)⟩
               have h7:a.tmps[7]?.getD undef = .int .i64 ((3:Nat):Int):=(eval_get a 7).trans ((hA.eval (by simp)).trans rfl)
               go_simp
             · refine⟨rfl,IsR.mono _,fun a W hA hb hd=>takes_plain rfl ?_⟩
               have h49:a.tmps[49]?.getD undef = .int .i64 ((3:Nat):Int):=(eval_get a 49).trans (hd 14 (by simp) _ rfl)
               refine yields_value (.int .i64 192) ?_ rfl
               go_simp
               rfl
             · refine⟨rfl,IsR.mono _,fun a W hA hb hd=>takes_plain rfl (yields_value _ ?_ rfl)⟩
               have h48:a.tmps[48]?.getD undef = .pointer (some ⟨G,1,none⟩):=(eval_get a 48).trans (hd 13 (by simp) _ rfl)
               have h50:a.tmps[50]?.getD undef = .int .i64 192:=(eval_get a 50).trans (hd 15 (by simp) _ rfl)
               go_simp
             intro vs w5 hR hF hb
             have e35:vs 35 = .pointer (some ⟨d,0,none⟩):=hR 0 _ rfl
             have e36:vs 36 = .pointer (some ⟨d,0,none⟩):=hR 1 _ rfl
             have e37:vs 37 = .pointer (some ⟨d,1,none⟩):=hR 2 _ rfl
             have e38:vs 38 = .slice (some ⟨g2,0,none⟩) D.n D.n:=hR 3 _ rfl
             have e39:vs 39 = .pointer (some ⟨G,0,none⟩):=hR 4 _ rfl
             have e40:vs 40 = .int .i64 (x.1:Int):=hR 5 _ rfl
             have e41:vs 41 = .pointer (some ⟨g2,x.1*256,none⟩):=hR 6 _ rfl
             have e42:vs 42 = .int .i64 ((3:Nat):Int):=hR 7 _ rfl
             have e43:vs 43 = .int .i64 192:=hR 8 _ rfl
             have e44:vs 44 = .int .i64 ((3:Nat):Int):=hR 9 _ rfl
             have e45:vs 45 = .int .i64 4:=hR 10 _ rfl
             have e46:vs 46 = .int .i64 256:=hR 11 _ rfl
             have e47:vs 47 = .slice (some ⟨g2,x.1*256+192,none⟩) 64 64:=hR 12 _ rfl
             have e48:vs 48 = .pointer (some ⟨G,1,none⟩):=hR 13 _ rfl
             have e49:vs 49 = .int .i64 ((3:Nat):Int):=hR 14 _ rfl
             have e50:vs 50 = .int .i64 192:=hR 15 _ rfl
             have e51:vs 51 = .slice (some ⟨G,193,none⟩) 64 64:=hR 16 _ rfl
             simp only[List.map_cons,List.map_nil,List.foldl_cons,List.foldl_nil,List.length_cons,List.length_nil,List.drop_succ_cons,List.drop_zero,Act.put,List.setIfInBounds_toArray,List.set_cons_zero,List.set_cons_succ,e35,e36,e37,e38,e39,e40,e41,e42,e43,e44,e45,e46,e47,e48,e49,e50,e51]
             have D5:=Lib.hid (DS.out.ab hb)
             have G5:=Lib.hid (NG.out.ab hb)
             have F5:=Lib.hid (FR.out.tr (Fr.of hb _))
             clear hR hF hb e35 e36 e37 e38 e39 e40 e41 e42 e43 e44 e45 e46 e47 e48 e49 e50 e51
             go_wp2_with (first
              | (refine wpList_copyT (o:=⟨some 52,.call ⟨.builtin .copy,_,_⟩,_,_,_,_⟩) rfl (.tmp 47) (.tmp 51) rfl g2 (x.1*256+192) 64 64 D5.out.firm rfl (l:=(x.2.drop 192).take 64) rfl (by rw[List.length_take,List.length_drop,X3.out.2.1];decide) (fun i v hv=>?_) (by decide) (by have h1:=secF_len (m:=m) FL.out X3.out.1 X3.out.2.1 3 (by decide);have h2:=X3.out.1;show x.1*256+192+64≤(secF f0 x m 3).length;omega) (secD (secF f0 x m 3) x.1 x.2 3) rfl ?_
                 · rw[show (⟨G,193,none⟩:Addr).add i=⟨G,192+i+1,none⟩ from by unfold Addr.add;split <;> (simp_all;try omega)]
                   refine CbB.cell G5.out (k:=192+i+1) (wrA_at ?_)
                   rw[List.map_take,List.getElem?_take] at hv
                   split at hv
                   · rw[List.map_drop,List.getElem?_drop] at hv;exact hv
                   · cases hv
                 intro w6 hw6
                 have D6:=Lib.hid (D5.out.rowF (secD (secF f0 x m 3) x.1 x.2 3))
                 rw[←hw6] at D6
                 have G6:Hid (CbB w6 G 174 (wrA x)):=Lib.hid (by rw[hw6];exact G5.out.rowFar GN.out.1 _)
                 have F6:Hid (Fr w w6 (fun q=>q=g2)):=Lib.hid (by rw[hw6];exact F5.out.tr (fr_row _ _ _))
                 clear hw6))
             go_roundw
             case rel=>exact⟨4,by decide,by go_num,by rw[SX.out];exact D6.out,G6.out,F6.out⟩
             case measure=>simp[intOf]
       · obtain rfl:j=4:=by omega
         have EK:crF D.firm D.ws ms (k+1)=secF f0 x m 4:=by
          show secF (crF D.firm D.ws ms k) (D.ws.getD k (0,[])) (at' ms k) 4=_
          rw[HF0.out,HM9.out,List.getD_eq_getElem?_getD,HX.out]
          rfl
         have EKH:=Lib.hid EK
         have kb:(k:Int)≤100000:=by have:=HLT.out;have:=HW.out;omega
         clear hj hj4 hcm EK cm
         go_wp2_with fail
         go_roundw
         case rel=>exact⟨k+1,HLT.out,HMK.out,by go_num,by rw[EKH.out];exact DS.out,FR.out⟩
         case measure=>simp[intOf];have:=HLT.out;omega
    · have hmki:(mn:Int)≤(k:Int):=by omega
      have KE:Hid (min D.ws.length ms.length=k):=Lib.hid (by rw[ML.out];have:=HLT.out;omega)
      have CL:Hid ((crF D.firm D.ws ms k).length=D.n*256):=Lib.hid (crF_len OK.out.firm (fun y hy=>⟨(OK.out.ws y hy).1,(OK.out.ws y hy).2.1⟩) k (by have:=HLT.out;omega))
      clear hmk hk hkm
      go_wp2_with (first
       | (refine wpList_loadAny rfl 174 (.tmp 18) rfl ⟨gw,k*257,none⟩ rfl (wrV x) _ LC.out Tryz.underlying174 rfl WL.out ?_)
       | (refine wpList_allocG rfl 174 rfl wrZ zeroWr ?_
          intro w3 hw3
          have N3:Hid (CbB w3 wr.heap.size 174 wrZ.cells):=Lib.hid (by rw[hw3];exact CbB.new _ _ _)
          have B3:Hid (Below wr.heap.size wr w3):=Lib.hid (by rw[hw3];exact (Below.refl _ _).alloc (Nat.le_refl _) _)
          clear hw3)
       | (with_reducible refine wpList_storeC (o:=⟨none,.store _ (.tmp 6) (.tmp 19),_,_,_,_⟩) ?_ 174 (.tmp 6) (.tmp 19) ?_ wr.heap.size ?_ (wrA x) ?_ (t:=174) N3.out ?_ ?_ ?_ ?_
          · rfl
          · rfl
          · rfl
          · rfl
          · rw[wrA_size X3.out.2.1];exact szWr
          · rw[wrA_size X3.out.2.1];exact wrZ_size
          · exact wrA_one x
          intro w4 hw4
          have B4:Hid (Below wr.heap.size wr w4):=Lib.hid (by rw[hw4];exact Below.row B3.out (Nat.le_refl _) _)
          clear hw4))
      have D4:=Lib.hid (DS.out.ab B4.out)
      have F4:=Lib.hid (FR.out.tr (Fr.of B4.out _))
      clear DS FR N3 B3 B4 LC WL
      go_upto_region 14 with (fail)
      refine wp_wide3 [⟨55,IsR (.pointer (some ⟨d,0,none⟩)),[],false⟩,⟨56,IsR (.pointer (some ⟨d,0,none⟩)),[0],false⟩,⟨57,IsR (.pointer (some ⟨d,0,none⟩)),[1],false⟩,⟨58,IsR (.slice (some ⟨g1,0,none⟩) D.n D.n),[2],false⟩,⟨59,IsR (.pointer (some ⟨d,0,none⟩)),[],false⟩,⟨60,IsR (.pointer (some ⟨d,0,none⟩)),[4],false⟩,⟨61,IsR (.pointer (some ⟨d,1,none⟩)),[5],false⟩,⟨62,IsR (.slice (some ⟨g2,0,none⟩) D.n D.n),[6],false⟩] (by kernel_rfl) (by kernel_rfl) rfl rfl rfl ⟨?_,?_,?_,?_,?_,?_,?_,?_,trivial⟩ ?_
      · refine⟨rfl,IsR.mono _,fun a W hA hb hd=>takes_plain rfl (yields_value _ ?_ rfl)⟩
        have h0:a.tmps[0]?.getD undef = .pointer (some ⟨d,0,none⟩):=(eval_get a 0).trans ((hA.eval (by simp)).trans rfl)
        go_simp
      · refine⟨rfl,IsR.mono _,fun a W hA hb hd=>takes_plain rfl (yields_value _ ?_ rfl)⟩
        have h55:a.tmps[55]?.getD undef = .pointer (some ⟨d,0,none⟩):=(eval_get a 55).trans (hd 0 (by simp) _ rfl)
        go_simp
      · refine⟨rfl,IsR.mono _,fun a W hA hb hd=>takes_plain rfl (yields_value _ ?_ rfl)⟩
        have h56:a.tmps[56]?.getD undef = .pointer (some ⟨d,0,none⟩):=(eval_get a 56).trans (hd 1 (by simp) _ rfl)
        go_simp
      · refine⟨rfl,IsR.mono _,fun a W hA hb hd=>takes_plain rfl (yields_value _ ?_ rfl)⟩
        have h57:a.tmps[57]?.getD undef = .pointer (some ⟨d,0,none⟩):=(eval_get a 57).trans (hd 2 (by simp) _ rfl)
        have hc:W.cell? ⟨d,0,none⟩=some (.slice (some ⟨g1,0,none⟩) D.n D.n):=(D4.out.ab hb).box.cell (k:=0) rfl
        go_simp
      · refine⟨rfl,IsR.mono _,fun a W hA hb hd=>takes_plain rfl (yields_value _ ?_ rfl)⟩
        have h0:a.tmps[0]?.getD undef = .pointer (some ⟨d,0,none⟩):=(eval_get a 0).trans ((hA.eval (by simp)).trans rfl)
        go_simp
      · refine⟨rfl,IsR.mono _,fun a W hA hb hd=>takes_plain rfl (yields_value _ ?_ rfl)⟩
        have h59:a.tmps[59]?.getD undef = .pointer (some ⟨d,0,none⟩):=(eval_get a 59).trans (hd 4 (by simp) _ rfl)
        go_simp
      · refine⟨rfl,IsR.mono _,fun a W hA hb hd=>takes_plain rfl (yields_value _ ?_ rfl)⟩
        have h60:a.tmps[60]?.getD undef = .pointer (some ⟨d,0,none⟩):=(eval_get a 60).trans (hd 5 (by simp) _ rfl)
        go_simp
      · refine⟨rfl,IsR.mono _,fun a W hA hb hd=>takes_plain rfl (yields_value _ ?_ rfl)⟩
        have h61:a.tmps[61]?.getD undef = .pointer (some ⟨d,1,none⟩):=(eval_get a 61).trans (hd 6 (by simp) _ rfl)
        have hc:W.cell? ⟨d,1,none⟩=some (.slice (some ⟨g2,0,none⟩) D.n D.n):=(D4.out.ab hb).box.cell (k:=1) rfl
        go_simp
      intro vs w7 hR hF hb
      have e55:vs 55 = .pointer (some ⟨d,0,none⟩):=hR 0 _ rfl
      have e56:vs 56 = .pointer (some ⟨d,0,none⟩):=hR 1 _ rfl
      have e57:vs 57 = .pointer (some ⟨d,0,none⟩):=hR 2 _ rfl
      have e58:vs 58 = .slice (some ⟨g1,0,none⟩) D.n D.n:=hR 3 _ rfl
      have e59:vs 59 = .pointer (some ⟨d,0,none⟩):=hR 4 _ rfl
      have e60:vs 60 = .pointer (some ⟨d,0,none⟩):=hR 5 _ rfl
      have e61:vs 61 = .pointer (some ⟨d,1,none⟩):=hR 6 _ rfl
      have e62:vs 62 = .slice (some ⟨g2,0,none⟩) D.n D.n:=hR 7 _ rfl
      simp only[List.map_cons,List.map_nil,List.foldl_cons,List.foldl_nil,List.length_cons,List.length_nil,List.drop_succ_cons,List.drop_zero,Act.put,List.setIfInBounds_toArray,List.set_cons_zero,List.set_cons_succ,e55,e56,e57,e58,e59,e60,e61,e62]
      have D7:=Lib.hid (D4.out.ab hb)
      have F7:=Lib.hid (F4.out.tr (Fr.of hb _))
      clear hR hF hb e55 e56 e57 e58 e59 e60 e61 e62
      go_wp2_with (first
       | (refine wpList_copyBlk (o:=⟨some 63,.call { callee:=.builtin .copy,args:=#[.tmp 58,.tmp 62],argTypes:=_ },_,_,_,_⟩) rfl (.tmp 58) (.tmp 62) rfl g1 g2 D.n rfl rfl D7.out.now D7.out.firm OK.out.now CL.out ?_
          intro w8 hk8 hf8
          have K8:=Lib.hid hk8
          have F8:=Lib.hid hf8
          have N8:=Lib.hid (bk_ne D7.out.box D7.out.now (by decide))
          have x1:=D7.out.box.fr hf8 (fun e=>N8.out e)
          have x2:=CbB.set x1 2 (.slice none 0 0)
          have x3:=CbB.set x2 4 (.int .i64 0)
          have x4:=CbB.set x3 5 (.int .i64 (-1))
          have x5:=CbB.set x4 6 (.bool false)
          have p2:w8.cell? ⟨d,2,none⟩=some (.slice (some ⟨gw,0,none⟩) D.ws.length c):=x1.cell (k:=2) rfl
          have q2:=x1.free 2
          have p4:(w8.setCell ⟨d,2,none⟩ (.slice none 0 0)).cell? ⟨d,4,none⟩=some (.int .i64 (D.fail:Int)):=x2.cell (k:=4) rfl
          have q4:=x2.free 4
          have p5:((w8.setCell ⟨d,2,none⟩ (.slice none 0 0)).setCell ⟨d,4,none⟩ (.int .i64 0)).cell? ⟨d,5,none⟩=some (.int .i64 D.cut):=x3.cell (k:=5) rfl
          have q5:=x3.free 5
          have p6:(((w8.setCell ⟨d,2,none⟩ (.slice none 0 0)).setCell ⟨d,4,none⟩ (.int .i64 0)).setCell ⟨d,5,none⟩ (.int .i64 (-1))).cell? ⟨d,6,none⟩=some (.bool D.down):=x4.cell (k:=6) rfl
          have q6:=x4.free 6
          have X5:=Lib.hid x5
          clear hk8 hf8 x1 x2 x3 x4 x5))
      go_wp2_with fail
      go_ret
      have EC:crashD D ms={ D with now:=crF D.firm D.ws ms k,firm:=crF D.firm D.ws ms k,ws:=[],fail:=0,cut:=-1,down:=false }:=by unfold crashD;rw[KE.out]
      rw[EC]
      have f1:=fr_setD w8 d 2 (.slice none 0 0)
      have f2:=f1.tr (fr_setD _ d 4 (.int .i64 0))
      have f3:=f2.tr (fr_setD _ d 5 (.int .i64 (-1)))
      have f4:=f3.tr (fr_setD _ d 6 (.bool false))
      refine⟨rfl,⟨X5.out,bk_fr K8.out f4 (fun e=>N8.out e.symm),bk_fr (bk_fr D7.out.firm F8.out (fun e=>D7.out.ne e.symm)) f4 (fun e=>bk_ne D7.out.box D7.out.firm (by decide) e.symm),World.ownsRow_nil _ _ _ _,D7.out.ne,D7.out.low⟩,?_⟩
      exact (F7.out.imp fun q hq=>.inr (.inr hq)).trW ((F8.out.imp fun q hq=>.inr (.inl hq)).trW (f4.imp fun q hq=>.inl hq))
  · have KE:Hid (min D.ws.length ms.length=k):=Lib.hid (by rw[ML.out];omega)
    have CL:Hid ((crF D.firm D.ws ms k).length=D.n*256):=Lib.hid (crF_len OK.out.firm (fun y hy=>⟨(OK.out.ws y hy).1,(OK.out.ws y hy).2.1⟩) k (by omega))
    have hlti:¬(k:Int)<(D.ws.length:Int):=by omega
    clear hlt hk hkm
    go_upto_region 14 with (fail)
    refine wp_wide3 [⟨55,IsR (.pointer (some ⟨d,0,none⟩)),[],false⟩,⟨56,IsR (.pointer (some ⟨d,0,none⟩)),[0],false⟩,⟨57,IsR (.pointer (some ⟨d,0,none⟩)),[1],false⟩,⟨58,IsR (.slice (some ⟨g1,0,none⟩) D.n D.n),[2],false⟩,⟨59,IsR (.pointer (some ⟨d,0,none⟩)),[],false⟩,⟨60,IsR (.pointer (some ⟨d,0,none⟩)),[4],false⟩,⟨61,IsR (.pointer (some ⟨d,1,none⟩)),[5],false⟩,⟨62,IsR (.slice (some ⟨g2,0,none⟩) D.n D.n),[6],false⟩] (by kernel_rfl) (by kernel_rfl) rfl rfl rfl ⟨?_,?_,?_,?_,?_,?_,?_,?_,trivial⟩ ?_
    · refine⟨rfl,IsR.mono _,fun a W hA hb hd=>takes_plain rfl (yields_value _ ?_ rfl)⟩
      have h0:a.tmps[0]?.getD undef = .pointer (some ⟨d,0,none⟩):=(eval_get a 0).trans ((hA.eval (by simp)).trans rfl)
      go_simp
    · refine⟨rfl,IsR.mono _,fun a W hA hb hd=>takes_plain rfl (yields_value _ ?_ rfl)⟩
      have h55:a.tmps[55]?.getD undef = .pointer (some ⟨d,0,none⟩):=(eval_get a 55).trans (hd 0 (by simp) _ rfl)
      go_simp
    · refine⟨rfl,IsR.mono _,fun a W hA hb hd=>takes_plain rfl (yields_value _ ?_ rfl)⟩
      have h56:a.tmps[56]?.getD undef = .pointer (some ⟨d,0,none⟩):=(eval_get a 56).trans (hd 1 (by simp) _ rfl)
      go_simp
    · refine⟨rfl,IsR.mono _,fun a W hA hb hd=>takes_plain rfl (yields_value _ ?_ rfl)⟩
      have h57:a.tmps[57]?.getD undef = .pointer (some ⟨d,0,none⟩):=(eval_get a 57).trans (hd 2 (by simp) _ rfl)
      have hc:W.cell? ⟨d,0,none⟩=some (.slice (some ⟨g1,0,none⟩) D.n D.n):=(DS.out.ab hb).box.cell (k:=0) rfl
      go_simp
    · refine⟨rfl,IsR.mono _,fun a W hA hb hd=>takes_plain rfl (yields_value _ ?_ rfl)⟩
      have h0:a.tmps[0]?.getD undef = .pointer (some ⟨d,0,none⟩):=(eval_get a 0).trans ((hA.eval (by simp)).trans rfl)
      go_simp
    · refine⟨rfl,IsR.mono _,fun a W hA hb hd=>takes_plain rfl (yields_value _ ?_ rfl)⟩
      have h59:a.tmps[59]?.getD undef = .pointer (some ⟨d,0,none⟩):=(eval_get a 59).trans (hd 4 (by simp) _ rfl)
      go_simp
    · refine⟨rfl,IsR.mono _,fun a W hA hb hd=>takes_plain rfl (yields_value _ ?_ rfl)⟩
      have h60:a.tmps[60]?.getD undef = .pointer (some ⟨d,0,none⟩):=(eval_get a 60).trans (hd 5 (by simp) _ rfl)
      go_simp
    · refine⟨rfl,IsR.mono _,fun a W hA hb hd=>takes_plain rfl (yields_value _ ?_ rfl)⟩
      have h61:a.tmps[61]?.getD undef = .pointer (some ⟨d,1,none⟩):=(eval_get a 61).trans (hd 6 (by simp) _ rfl)
      have hc:W.cell? ⟨d,1,none⟩=some (.slice (some ⟨g2,0,none⟩) D.n D.n):=(DS.out.ab hb).box.cell (k:=1) rfl
      go_simp
    intro vs w7 hR hF hb
    have e55:vs 55 = .pointer (some ⟨d,0,none⟩):=hR 0 _ rfl
    have e56:vs 56 = .pointer (some ⟨d,0,none⟩):=hR 1 _ rfl
    have e57:vs 57 = .pointer (some ⟨d,0,none⟩):=hR 2 _ rfl
    have e58:vs 58 = .slice (some ⟨g1,0,none⟩) D.n D.n:=hR 3 _ rfl
    have e59:vs 59 = .pointer (some ⟨d,0,none⟩):=hR 4 _ rfl
    have e60:vs 60 = .pointer (some ⟨d,0,none⟩):=hR 5 _ rfl
    have e61:vs 61 = .pointer (some ⟨d,1,none⟩):=hR 6 _ rfl
    have e62:vs 62 = .slice (some ⟨g2,0,none⟩) D.n D.n:=hR 7 _ rfl
    simp only[List.map_cons,List.map_nil,List.foldl_cons,List.foldl_nil,List.length_cons,List.length_nil,List.drop_succ_cons,List.drop_zero,Act.put,List.setIfInBounds_toArray,List.set_cons_zero,List.set_cons_succ,e55,e56,e57,e58,e59,e60,e61,e62]
    have D7:=Lib.hid (DS.out.ab hb)
    have F7:=Lib.hid (FR.out.tr (Fr.of hb _))
    clear hR hF hb e55 e56 e57 e58 e59 e60 e61 e62
    go_wp2_with (first
     | (refine wpList_copyBlk (o:=⟨some 63,.call { callee:=.builtin .copy,args:=#[.tmp 58,.tmp 62],argTypes:=_ },_,_,_,_⟩) rfl (.tmp 58) (.tmp 62) rfl g1 g2 D.n rfl rfl D7.out.now D7.out.firm OK.out.now CL.out ?_
        intro w8 hk8 hf8
        have K8:=Lib.hid hk8
        have F8:=Lib.hid hf8
        have N8:=Lib.hid (bk_ne D7.out.box D7.out.now (by decide))
        have x1:=D7.out.box.fr hf8 (fun e=>N8.out e)
        have x2:=CbB.set x1 2 (.slice none 0 0)
        have x3:=CbB.set x2 4 (.int .i64 0)
        have x4:=CbB.set x3 5 (.int .i64 (-1))
        have x5:=CbB.set x4 6 (.bool false)
        have p2:w8.cell? ⟨d,2,none⟩=some (.slice A D.ws.length c):=x1.cell (k:=2) rfl
        have q2:=x1.free 2
        have p4:(w8.setCell ⟨d,2,none⟩ (.slice none 0 0)).cell? ⟨d,4,none⟩=some (.int .i64 (D.fail:Int)):=x2.cell (k:=4) rfl
        have q4:=x2.free 4
        have p5:((w8.setCell ⟨d,2,none⟩ (.slice none 0 0)).setCell ⟨d,4,none⟩ (.int .i64 0)).cell? ⟨d,5,none⟩=some (.int .i64 D.cut):=x3.cell (k:=5) rfl
        have q5:=x3.free 5
        have p6:(((w8.setCell ⟨d,2,none⟩ (.slice none 0 0)).setCell ⟨d,4,none⟩ (.int .i64 0)).setCell ⟨d,5,none⟩ (.int .i64 (-1))).cell? ⟨d,6,none⟩=some (.bool D.down):=x4.cell (k:=6) rfl
        have q6:=x4.free 6
        have X5:=Lib.hid x5
        clear hk8 hf8 x1 x2 x3 x4 x5))
    go_wp2_with fail
    go_ret
    have EC:crashD D ms={ D with now:=crF D.firm D.ws ms k,firm:=crF D.firm D.ws ms k,ws:=[],fail:=0,cut:=-1,down:=false }:=by unfold crashD;rw[KE.out]
    rw[EC]
    have f1:=fr_setD w8 d 2 (.slice none 0 0)
    have f2:=f1.tr (fr_setD _ d 4 (.int .i64 0))
    have f3:=f2.tr (fr_setD _ d 5 (.int .i64 (-1)))
    have f4:=f3.tr (fr_setD _ d 6 (.bool false))
    refine⟨rfl,⟨X5.out,bk_fr K8.out f4 (fun e=>N8.out e.symm),bk_fr (bk_fr D7.out.firm F8.out (fun e=>D7.out.ne e.symm)) f4 (fun e=>bk_ne D7.out.box D7.out.firm (by decide) e.symm),World.ownsRow_nil _ _ _ _,D7.out.ne,D7.out.low⟩,?_⟩
    exact (F7.out.imp fun q hq=>.inr (.inr hq)).trW ((F8.out.imp fun q hq=>.inr (.inl hq)).trW (f4.imp fun q hq=>.inl hq))
end
end Go.Proofs.YtlobgddnlnffbaaGreat
