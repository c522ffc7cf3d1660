/-
  Parts of the proof, joined.
-/
import Derived.Test.YtlobgddnlnffbaaGreatBda
import Derived.StillTailTactics
import Derived.Laws.CopyOwn
import Derived.Deep.MidRow
namespace Go.Proofs.YtlobgddnlnffbaaGreat
set_option maxHeartbeats 1000000
open Go.RowKit
set_option linter.unusedVariables false
def rowAcc (r c:List Nat):Nat→Nat
 | 0=>0
 | k+1=>rowAcc r c k ^^^ gmul (r[k]?.getD 0) (c[k]?.getD 0)
def rowOf (R:List Nat) (i:Nat):List Nat:=(R.drop (4*i)).take 4
def byRows (R c:List Nat):List Nat:=(List.range 4).map fun i=>rowAcc (rowOf R i) c 4
def Byt (l:List Nat):Prop:=∀x∈l,x<256
theorem Byt.get {l:List Nat} (h:Byt l) (k:Nat):l[k]?.getD 0<256:=by
 cases hk:l[k]? with
 | none=>simp
 | some x=>exact h x (List.mem_of_getElem? hk)
theorem rowAcc_lt {r c:List Nat} (hr:Byt r):∀k,rowAcc r c k<256
 | 0=>by simp[rowAcc]
 | k+1=>xor_lt (rowAcc_lt hr k) (gmul_lt _ (hr.get k))
theorem rowOf_byt {R:List Nat} (h:Byt R) (i:Nat):Byt (rowOf R i):=fun x hx=>h x (List.mem_of_mem_drop (List.mem_of_mem_take hx))
theorem byRows_byt {R c:List Nat} (h:Byt R):Byt (byRows R c):=by
 intro x hx
 simp only[byRows,List.mem_map,List.mem_range] at hx
 obtain⟨i,_,rfl⟩:=hx
 exact rowAcc_lt (rowOf_byt h i) 4
theorem byRows_len (R c:List Nat):(byRows R c).length=4:=by simp[byRows]
theorem sz4:(Tryz.prog.info? 318).map (·.size)=some 4:=by kernel_rfl
theorem sz44:(Tryz.prog.info? 326).map (·.size)=some 16:=by kernel_rfl
theorem sz16:(Tryz.prog.info? 263).map (·.size)=some 16:=by kernel_rfl
theorem info4:∃i,Tryz.prog.info? 318=some i∧i.size=4:=by
 have h:=sz4
 cases hq:Tryz.prog.info? 318 with
 | none=>rw[hq] at h;cases h
 | some i=>exact⟨i,rfl,by rw[hq] at h;simpa using h⟩
theorem infoB:∃i,Tryz.prog.info? 5=some i∧i.size=1:=by
 have h:(Tryz.prog.info? 5).map (·.size)=some 1:=by kernel_rfl
 cases hq:Tryz.prog.info? 5 with
 | none=>rw[hq] at h;cases h
 | some i=>exact⟨i,rfl,by rw[hq] at h;simpa using h⟩
def byF (R c:List Nat) (i:Nat):Nat:=rowAcc (rowOf R i) c 4
structure ByOut (B:Nat) (w:World) (R c:List Nat) (i:Nat):Prop where
 out:Bk w (B+1+1+1) 318 (upd (byF R c) [0,0,0,0] i)
 col:Bk w (B+1) 318 c
 res:Bk w (B+1+1) 318 [0,0,0,0]
 size:B+4≤w.heap.size
structure ByIn (B:Nat) (w:World) (R c:List Nat) (i:Nat) (r:List Nat) (k:Nat):Prop where
 out:Bk w (B+1+1+1) 318 ((upd (byF R c) [0,0,0,0] i).set i (rowAcc r c k))
 col:Bk w (B+1) 318 c
 res:Bk w (B+1+1) 318 [0,0,0,0]
 size:B+4≤w.heap.size
theorem byIn_start {B:Nat} {w:World} {R c:List Nat} {i:Nat} {r:List Nat} (h:ByOut B w R c i) (hi:i<4):
 ByIn B ((w.alloc (.cells (bts [0,0,0,0]) 318)).setRow w.heap.size (bts r)) R c i r 0:=by
 have hs:=h.size
 have e:(upd (byF R c) [0,0,0,0] i).set i (rowAcc r c 0)=upd (byF R c) [0,0,0,0] i:=by
  apply List.ext_getElem (by simp)
  intro j h1 h2
  rw[List.getElem_set]
  split
  · rename_i hij
    subst hij
    have:=upd_get (byF R c) [0,0,0,0] i i (by simpa using hi)
    rw[List.getElem?_eq_getElem h2] at this
    simp only[Option.getD_some,Nat.lt_irrefl,if_false] at this
    rw[this]
    match i,hi with
    | 0,_=>rfl
    | 1,_=>rfl
    | 2,_=>rfl
    | 3,_=>rfl
  · rfl
 refine⟨?_,(h.col.alloc _).rowFar (by omega) _,(h.res.alloc _).rowFar (by omega) _,by simp;omega⟩
 rw[e]
 exact (h.out.alloc _).rowFar (by omega) _
theorem ByIn.cell {B:Nat} {w:World} {R c:List Nat} {i:Nat} {r:List Nat} {k:Nat} (h:ByIn B w R c i r k) (hi:i<4):w.cell? ⟨B+1+1+1,i,none⟩=some (.int .u8 (rowAcc r c k:Nat)):=by
 have hl:i<((upd (byF R c) [0,0,0,0] i).set i (rowAcc r c k)).length:=by simp[upd_len];exact hi
 rw[h.out.cell hl]
 simp[upd_len,hi]
theorem byIn_step {B:Nat} {w:World} {R c:List Nat} {i:Nat} {r:List Nat} {k x:Nat} (h:ByIn B w R c i r k) (hi:i<4) (hx:x=rowAcc r c (k+1)):
 ByIn B (w.drew.setCell ⟨B+1+1+1,i,none⟩ (.int .u8 (x:Int))) R c i r (k+1):=by
 subst hx
 refine⟨?_,h.col.drew.far (by omega) _,h.res.drew.far (by omega) _,by simpa using h.size⟩
 have:=h.out.drew.set i (rowAcc r c (k+1))
 rw[List.set_set] at this
 exact this
theorem byIn_end {B:Nat} {w:World} {R c:List Nat} {i:Nat} {r:List Nat} (h:ByIn B w R c i r 4) (hF:byF R c i=rowAcc r c 4) (hi:i<4):ByOut B w R c (i+1):=by
 refine⟨?_,h.col,h.res,h.size⟩
 have:=h.out
 rw[←hF,upd_step (byF R c) [0,0,0,0] i (by simpa using hi)] at this
 exact this
set_option maxRecDepth 100000 in
theorem by_any (R c:List Nat) (hR:Byt R) (hc:Byt c) (lR:R.length=16) (lc:c.length=4) (w:World):
 Calls Tryz.prog 249 #[.agg (bts R),.agg (bts c)] w fun e w'=>e = .returned (.agg (bts (byRows R c)))∧Below w.heap.size w w':=by
 have LR:=Lib.hid lR
 have LC:=Lib.hid lc
 clear lR lc
 go_enter Tryz.func249,Tryz.ntmps249
 go_wp2_with (refine wpList_loadB (o:=⟨some 10,_,_,_,_,_⟩) rfl 326 (.tmp 2) rfl _ rfl ((((Bk.new w 326 R).alloc _).alloc _).alloc _) Tryz.underlying326 (by rw[LR.out];exact sz44) ?_)
 have hsz:((((w.alloc (.cells (bts R) 326)).alloc (.cells (bts c) 318)).alloc (.cells (bts [0,0,0,0]) 318)).alloc (.cells (bts [0,0,0,0]) 318)).heap.size=w.heap.size+4:=by simp
 go_loopw [11] (fun i wr=>∃k:Nat,k≤4∧i = .int .i64 k∧ByOut w.heap.size wr R c k∧Below w.heap.size w wr) (fun i _=>4-(intOf i).toNat)
 case atStart=>
  refine⟨0,by omega,rfl,⟨?_,?_,?_,?_⟩,?_⟩
  · rw[upd_zero]
    exact Bk.newAt _ [0,0,0,0] (by simp)
  · exact ((Bk.newAt _ c (by simp)).alloc _).alloc _
  · exact (Bk.newAt _ [0,0,0,0] (by simp)).alloc _
  · exact Nat.le_of_eq hsz.symm
  · exact ((((Below.refl _ _).alloc (Nat.le_refl _) _).alloc (by simp) _).alloc (by simp;omega) _).alloc (by simp;omega) _
 case round=>
  obtain⟨i,hi,rfl,ho,hb⟩:=hrel
  by_cases hlt:i<4
  · obtain⟨i4,hi4,hs4⟩:=info4
    have hix:∀W:World,(Instr.index 326 (.agg (bts R)) (.int .i64 (i:Int))).run Tryz.prog W = .ok (.agg (bts (rowOf R i))) W:=fun W=>by
     rw[run_index_row W R i Tryz.underlying326 Tryz.underlying318 hi4 hs4 hlt,Nat.mul_comm]
     rfl
    clear hi4 hs4
    have lr:(rowOf R i).length=4:=by
     have:=LR.out
     simp[rowOf]
     omega
    have hr:=rowOf_byt hR i
    have hF:byF R c i=rowAcc (rowOf R i) c 4:=rfl
    generalize rowOf R i=r at hix lr hr hF
    have HL:=Lib.hid lr
    have HO:=Lib.hid ho
    have HB:=Lib.hid hb
    have HF:=Lib.hid hF
    clear lr ho hb hsz hF
    go_wp2_with (first
     | (refine wpList_storeB (o:=⟨none,.store _ _ _,_,_,_,_⟩) rfl 318 (.tmp 7) (.tmp 14) rfl _ rfl r rfl (Bk.new wr 318 [0,0,0,0]) (by rw[HL.out];exact sz4) (by rw[HL.out];rfl) ?_)
     | (refine wpList_loadB (o:=⟨some 15,_,_,_,_,_⟩) rfl 318 (.tmp 7) rfl _ rfl ((Bk.new wr 318 [0,0,0,0]).row r) Tryz.underlying318 (by rw[HL.out];exact sz4) ?_))
    have hin:ByIn w.heap.size ((wr.alloc (.cells (bts [0,0,0,0]) 318)).setRow wr.heap.size (bts r)) R c i r 0:=byIn_start HO.out hlt
    have hbl:Below w.heap.size w ((wr.alloc (.cells (bts [0,0,0,0]) 318)).setRow wr.heap.size (bts r)):=Below.row (HB.out.alloc HB.out.size _) HB.out.size _
    have HIN:=Lib.hid hin
    have HBL:=Lib.hid hbl
    clear hin hbl HO HB
    go_loopw [16] (fun j wq=>∃k:Nat,k≤4∧j = .int .i64 k∧ByIn w.heap.size wq R c i r k∧Below w.heap.size w wq) (fun j _=>4-(intOf j).toNat)
    case atStart=>exact⟨0,by omega,rfl,HIN.out,HBL.out⟩
    case round=>
     obtain⟨k,hk,rfl,hin,hb⟩:=hrel
     clear HIN HBL
     by_cases hlk:k<4
     · obtain⟨iB,hiB,hsB⟩:=infoB
       have hiy:∀W:World,(Instr.index 318 (.agg (bts r)) (.int .i64 (k:Int))).run Tryz.prog W = .ok (.int .u8 (r[k]?.getD 0:Nat)) W:=fun W=>
        run_index_byte W r k Tryz.underlying318 Tryz.underlying5 hiB hsB hlk HL.out
       clear hiB hsB
       have oc:=hin.cell hlt
       have of:=hin.out.free i
       have cc:=hin.col.cell (k:=k) (by rw[LC.out];exact hlk)
       have hz:=hr.get k
       have hy:=hc.get k
       have hx:=rowAcc_lt (c:=c) hr k
       have hs:rowAcc r c (k+1)=rowAcc r c k ^^^ gmul (r[k]?.getD 0) (c[k]?.getD 0):=rfl
       generalize r[k]?.getD 0=z at hiy hz hs
       generalize c[k]?.getD 0=y at cc hy hs
       have hg:=gmul_lt y hz
       have hxo:=bits_xor_u8 (rowAcc r c k) (gmul z y) hx hg
       generalize hxx:rowAcc r c k=x at oc hx hs hxo
       have HXX:=Lib.hid hxx
       have HS:=Lib.hid hs
       have HI:=Lib.hid hin
       have HB2:=Lib.hid hb
       clear hxx hs hin hb
       go_wp2_with fail
       refine wp_still_tail 10 (by kernel_rfl) (by kernel_rfl) ?_
       simp only[List.take_succ_cons,List.take_zero,List.drop_succ_cons,List.drop_zero]
       repeat still_step
       refine wpStill_step (fun K hK=>?_)
       go_simp
       refine⟨_,same_of (mul_any z y hz hy _),hK _ ?_⟩
       clear hK K
       repeat still_step
       refine wpStill_nil ?_
       go_wp2
       go_roundw
       case rel=>exact⟨k+1,by omega,by go_num,byIn_step HI.out hlt (by rw[HS.out]) ,HB2.out.drew.setCell (by show w.heap.size≤w.heap.size+1+1+1;omega) _⟩
       case measure=>simp[intOf];omega
     · obtain rfl:k=4:=by omega
       have ho':=byIn_end hin HF.out hlt
       have HO':=Lib.hid ho'
       have HB2:=Lib.hid hb
       clear hin hb ho'
       go_wp2
       go_roundw
       case rel=>exact⟨i+1,by omega,by go_num,HO'.out,HB2.out⟩
       case measure=>simp[intOf];omega
  · obtain rfl:i=4:=by omega
    have h1:=ho.out
    have e1:upd (byF R c) [0,0,0,0] 4=byRows R c:=upd_all (byF R c) [0,0,0,0]
    rw[e1] at h1
    have h2:=ho.res
    have H1:=Lib.hid h1
    have H2:=Lib.hid h2
    have HB2:=Lib.hid hb
    have HS:=Lib.hid ho.size
    clear h1 h2 hb ho e1 hsz
    go_wp2_with (first
     | (refine wpList_loadB (o:=⟨some 32,_,_,_,_,_⟩) rfl 318 (.tmp 5) rfl _ rfl H1.out Tryz.underlying318 (by rw[byRows_len];exact sz4) ?_)
     | (refine wpList_storeB (o:=⟨none,.store _ _ _,_,_,_,_⟩) rfl 318 (.tmp 4) (.tmp 32) rfl _ rfl (byRows R c) rfl H2.out (by rw[byRows_len];exact sz4) (by rw[byRows_len];rfl) ?_))
    refine bodyPost_ret (results_bts Tryz.results249 _ _ _ rfl (H2.out.row (byRows R c)) Tryz.underlying318 (by rw[byRows_len];exact sz4)) rfl ?_
    exact⟨rfl,Below.row HB2.out (by omega) _⟩
def mixM:List Nat:=[2,3,1,1,1,2,3,1,1,1,2,3,3,1,1,2]
def mix (c:List Nat):List Nat:=byRows mixM c
theorem mixM_byt:Byt mixM:=by unfold Byt mixM;decide
theorem mix_len (c:List Nat):(mix c).length=4:=byRows_len _ _
theorem mix_byt (c:List Nat):Byt (mix c):=byRows_byt mixM_byt
set_option maxRecDepth 100000 in
theorem mix_any (c:List Nat) (hc:Byt c) (lc:c.length=4) (w:World):
 Calls Tryz.prog 221 #[.agg (bts c)] w fun e w'=>e = .returned (.agg (bts (mix c)))∧Below w.heap.size w w':=by
 have LC:=Lib.hid lc
 clear lc
 go_enter Tryz.func221,Tryz.ntmps221
 go_wp2_with (refine wpList_loadB (o:=⟨some 8,_,_,_,_,_⟩) rfl 318 (.tmp 1) rfl _ rfl ((Bk.newAt _ c rfl).alloc _) Tryz.underlying318 (by rw[LC.out];exact sz4) ?_)
 refine (by_any mixM c mixM_byt hc rfl LC.out _).mono ?_
 rintro e w1 ⟨rfl,hb⟩
 have hr:Bk w1 (w.heap.size+1) 318 [0,0,0,0]:=Bk.below (Bk.newAt (w:=w.alloc (.cells (bts c) 318)) 318 [0,0,0,0] (by simp)) hb (by simp)
 have hbw:Below w.heap.size w w1:=(((Below.refl _ _).alloc (Nat.le_refl _) _).alloc (by simp) _).trans (hb.mono (by simp;omega))
 have HR:=Lib.hid hr
 have HB:=Lib.hid hbw
 clear hb hr hbw
 go_wp2_with (refine wpList_storeB (o:=⟨none,.store _ _ _,_,_,_,_⟩) rfl 318 (.tmp 2) (.tmp 9) rfl _ rfl (mix c) rfl HR.out (by rw[show (mix c).length=4 from byRows_len _ _];exact sz4) (by rw[show (mix c).length=4 from byRows_len _ _];rfl) ?_)
 refine bodyPost_ret (results_bts Tryz.results221 _ _ _ rfl (HR.out.row (mix c)) Tryz.underlying318 (by rw[show (mix c).length=4 from byRows_len _ _];exact sz4)) rfl ?_
 exact⟨rfl,Below.row HB.out (by omega) _⟩
def z16:List Nat:=[0,0,0,0,0,0,0,0,0,0,0,0,0,0,0,0]
structure St16 (B:Nat) (t:TypeId) (w0 w:World) (l:List Nat):Prop where
 cur:Bk w B t l
 res:Bk w (B+1) t z16
 below:Below B w0 w
theorem St16.start (w:World) (t:TypeId) (s:List Nat):St16 w.heap.size t w ((w.alloc (.cells (bts s) t)).alloc (.cells (bts z16) t)) s:=
 ⟨(Bk.newAt t s rfl).alloc _,Bk.newAt t z16 (by simp),((Below.refl _ _).alloc (Nat.le_refl _) _).alloc (by simp) _⟩
theorem St16.set {B:Nat} {t:TypeId} {w0 w:World} {F:Nat→Nat} {s:List Nat} {k x:Nat} (h:St16 B t w0 w (upd F s k)) (hk:k<s.length) (hx:x=F k):
 St16 B t w0 (w.drew.setCell ⟨B,k,none⟩ (.int .u8 (x:Int))) (upd F s (k+1)):=by
 subst hx
 refine⟨?_,h.res.drew.far (by omega) _,h.below.drew.setCell (Nat.le_refl _) _⟩
 have:=h.cur.drew.set k (F k)
 rw[upd_step F s k hk] at this
 exact this
theorem upd_cell {F:Nat→Nat} {s:List Nat} {k:Nat} (hk:k<s.length):(upd F s k)[k]?.getD 0=s[k]?.getD 0:=by
 rw[upd_get F s k k hk,if_neg (Nat.lt_irrefl _)]
theorem szSt:(Tryz.prog.info? 297).map (·.size)=some 16:=by kernel_rfl
theorem quarters (k:Nat) (hk:k<16):∃q p:Nat,k=q*4+p∧IntKind.i64.wrap ((k:Int)/4)=(q:Int)∧(k:Int).tmod 4=(p:Int)∧q<4∧p<4∧(q:Int)<4∧(p:Int)<4:=by
 refine⟨k/4,k%4,by omega,?_,?_,by omega,by omega,by omega,by omega⟩
 · rw[IntWalk.i64_in _ (by omega)];omega
 · rw[Int.tmod_eq_emod_of_nonneg (by omega)];omega
def addF (s W:List Nat) (o i:Nat):Nat:=s[i]?.getD 0 ^^^ W[o+i]?.getD 0
def addK (s W:List Nat) (o:Nat):List Nat:=(List.range 16).map (addF s W o)
theorem addK_len (s W:List Nat) (o:Nat):(addK s W o).length=16:=by simp[addK]
theorem addK_byt {s W:List Nat} (hs:Byt s) (hW:Byt W) (o:Nat):Byt (addK s W o):=by
 intro x hx
 simp only[addK,List.mem_map,List.mem_range] at hx
 obtain⟨i,_,rfl⟩:=hx
 exact xor_lt (hs.get i) (hW.get _)
set_option maxRecDepth 100000 in
theorem add_any (s W:List Nat) (g o c:Nat) (hs:Byt s) (ls:s.length=16) (hW:Byt W) (w:World) (hg:Bk w g 318 W) (hl:o+16≤W.length):
 Calls Tryz.prog 217 #[.agg (bts s),.slice (some ⟨g,o,none⟩) 4 c] w fun e w'=>e = .returned (.agg (bts (addK s W o)))∧Below w.heap.size w w':=by
 have LS:=Lib.hid ls
 have HG:=Lib.hid hg
 have hglt:=hg.lt
 clear ls hg
 have hst:=Lib.hid (St16.start w 297 s)
 go_enter Tryz.func217,Tryz.ntmps217
 go_wp2_with fail
 go_loopw [6] (fun j wr=>∃k:Nat,k≤16∧j = .int .i64 k∧St16 w.heap.size 297 w wr (upd (addF s W o) s k)) (fun j _=>16-(intOf j).toNat)
 case atStart=>exact⟨0,by omega,rfl,by rw[upd_zero];exact hst.out⟩
 case round=>
  obtain⟨k,hk,rfl,hin⟩:=hrel
  clear hst
  by_cases hlt:k<16
  · have hki:(k:Int)<16:=by omega
    have c1:=hin.cur.cell (k:=k) (by rw[upd_len,LS.out];exact hlt)
    rw[upd_cell (by rw[LS.out];exact hlt)] at c1
    have f1:=hin.cur.free k
    have c2:=(HG.out.below hin.below hglt).cell (k:=o+k) (by omega)
    have hx:=hs.get k
    have hy:=hW.get (o+k)
    have hF:addF s W o k=s[k]?.getD 0 ^^^ W[o+k]?.getD 0:=rfl
    generalize s[k]?.getD 0=x at c1 hx hF
    generalize W[o+k]?.getD 0=y at c2 hy hF
    have hxo:=bits_xor_u8 x y hx hy
    obtain⟨q,p,hqp,hq0,hp0,hq1,hp1,hq2,hp2⟩:=quarters k hlt
    rw[hqp,←Nat.add_assoc] at c2
    have HF:=Lib.hid hF
    have HI:=Lib.hid hin
    have HQ:=Lib.hid hqp
    clear hF hin hqp
    go_wp2_with fail
    refine wp_still_tail 13 (by kernel_rfl) (by kernel_rfl) ?_
    simp only[List.take_succ_cons,List.take_zero,List.drop_succ_cons,List.drop_zero]
    repeat still_step
    refine wpStill_nil ?_
    clear hq0 hp0
    go_wp2
    go_roundw
    case rel=>exact⟨k+1,by omega,by go_num,HI.out.set (by rw[LS.out];exact hlt) (by rw[HF.out])⟩
    case measure=>simp[intOf];omega
  · obtain rfl:k=16:=by omega
    have h1:=hin.cur
    have e1:upd (addF s W o) s 16=addK s W o:=by
     have:=upd_all (addF s W o) s
     rw[LS.out] at this
     exact this
    rw[e1] at h1
    have H1:=Lib.hid h1
    have H2:=Lib.hid hin.res
    have HB2:=Lib.hid hin.below
    clear h1 hin e1
    go_wp2_with (first
     | (refine wpList_loadB (o:=⟨some 23,_,_,_,_,_⟩) rfl 297 (.tmp 2) rfl _ rfl H1.out Tryz.underlying297 (by rw[addK_len];exact szSt) ?_)
     | (refine wpList_storeB (o:=⟨none,.store _ _ _,_,_,_,_⟩) rfl 297 (.tmp 4) (.tmp 23) rfl _ rfl (addK s W o) rfl H2.out (by rw[addK_len];exact szSt) (by rw[addK_len];rfl) ?_))
    refine bodyPost_ret (results_bts Tryz.results217 _ _ _ rfl (H2.out.row (addK s W o)) Tryz.underlying297 (by rw[addK_len];exact szSt)) rfl ?_
    exact⟨rfl,Below.row HB2.out (by omega) _⟩
def eachF (T:Nat→Nat) (s:List Nat) (i:Nat):Nat:=T (s[i]?.getD 0)
def eachK (T:Nat→Nat) (s:List Nat):List Nat:=(List.range 16).map (eachF T s)
theorem eachK_len (T:Nat→Nat) (s:List Nat):(eachK T s).length=16:=by simp[eachK]
theorem eachK_byt {T:Nat→Nat} {s:List Nat} (hs:Byt s) (hT:∀x,x<256→T x<256):Byt (eachK T s):=by
 intro x hx
 simp only[eachK,List.mem_map,List.mem_range] at hx
 obtain⟨i,_,rfl⟩:=hx
 exact hT _ (hs.get i)
def TabAt (w:World) (g o:Nat) (T:Nat→Nat):Prop:=g<w.heap.size∧∀x,x<256→w.cell? ⟨g,o+x,none⟩=some (.int .u8 (T x:Nat))
theorem TabAt.below {w w':World} {g o:Nat} {T:Nat→Nat} (h:TabAt w g o T) (hb:Below w.heap.size w w'):TabAt w' g o T:=
 ⟨Nat.lt_of_lt_of_le h.1 hb.size,fun x hx=>(hb.cell (p:=⟨g,o+x,none⟩) h.1).trans (h.2 x hx)⟩
set_option maxRecDepth 100000 in
theorem each_any (T:Nat→Nat) (s:List Nat) (g o:Nat) (hs:Byt s) (ls:s.length=16) (hT:∀x,x<256→T x<256) (w:World) (ht:TabAt w g o T):
 Calls Tryz.prog 218 #[.agg (bts s),.pointer (some ⟨g,o,none⟩)] w fun e w'=>e = .returned (.agg (bts (eachK T s)))∧Below w.heap.size w w':=by
 have LS:=Lib.hid ls
 have HG:=Lib.hid ht
 clear ls ht
 have hst:=Lib.hid (St16.start w 297 s)
 go_enter Tryz.func218,Tryz.ntmps218
 go_wp2_with fail
 go_loopw [6] (fun j wr=>∃k:Nat,k≤16∧j = .int .i64 k∧St16 w.heap.size 297 w wr (upd (eachF T s) s k)) (fun j _=>16-(intOf j).toNat)
 case atStart=>exact⟨0,by omega,rfl,by rw[upd_zero];exact hst.out⟩
 case round=>
  obtain⟨k,hk,rfl,hin⟩:=hrel
  clear hst
  by_cases hlt:k<16
  · have hki:(k:Int)<16:=by omega
    have c1:=hin.cur.cell (k:=k) (by rw[upd_len,LS.out];exact hlt)
    rw[upd_cell (by rw[LS.out];exact hlt)] at c1
    have f1:=hin.cur.free k
    have hx:=hs.get k
    have hF:eachF T s k=T (s[k]?.getD 0):=rfl
    generalize s[k]?.getD 0=x at c1 hx hF
    have hxi:(x:Int)<256:=by omega
    have c2:=(HG.out.below hin.below).2 x hx
    generalize T x=y at c2 hF
    have HF:=Lib.hid hF
    have HI:=Lib.hid hin
    clear hF hin
    go_wp2_with fail
    refine wp_still_tail 9 (by kernel_rfl) (by kernel_rfl) ?_
    simp only[List.take_succ_cons,List.take_zero,List.drop_succ_cons,List.drop_zero]
    repeat still_step
    refine wpStill_nil ?_
    go_wp2
    go_roundw
    case rel=>exact⟨k+1,by omega,by go_num,HI.out.set (by rw[LS.out];exact hlt) (by rw[HF.out])⟩
    case measure=>simp[intOf];omega
  · obtain rfl:k=16:=by omega
    have h1:=hin.cur
    have e1:upd (eachF T s) s 16=eachK T s:=by
     have:=upd_all (eachF T s) s
     rw[LS.out] at this
     exact this
    rw[e1] at h1
    have H1:=Lib.hid h1
    have H2:=Lib.hid hin.res
    have HB2:=Lib.hid hin.below
    clear h1 hin e1
    go_wp2_with (first
     | (refine wpList_loadB (o:=⟨some 19,_,_,_,_,_⟩) rfl 297 (.tmp 2) rfl _ rfl H1.out Tryz.underlying297 (by rw[eachK_len];exact szSt) ?_)
     | (refine wpList_storeB (o:=⟨none,.store _ _ _,_,_,_,_⟩) rfl 297 (.tmp 4) (.tmp 19) rfl _ rfl (eachK T s) rfl H2.out (by rw[eachK_len];exact szSt) (by rw[eachK_len];rfl) ?_))
    refine bodyPost_ret (results_bts Tryz.results218 _ _ _ rfl (H2.out.row (eachK T s)) Tryz.underlying297 (by rw[eachK_len];exact szSt)) rfl ?_
    exact⟨rfl,Below.row HB2.out (by omega) _⟩
def shiftF (by':Nat) (s:List Nat) (i:Nat):Nat:=s[4*((i/4+by'*(i%4))%4)+i%4]?.getD 0
def shiftK (by':Nat) (s:List Nat):List Nat:=(List.range 16).map (shiftF by' s)
theorem shiftK_len (b:Nat) (s:List Nat):(shiftK b s).length=16:=by simp[shiftK]
theorem shiftK_byt {b:Nat} {s:List Nat} (hs:Byt s):Byt (shiftK b s):=by
 intro x hx
 simp only[shiftK,List.mem_map,List.mem_range] at hx
 obtain⟨i,_,rfl⟩:=hx
 exact hs.get _
structure Sh16 (B:Nat) (t:TypeId) (w0 w:World) (s l:List Nat):Prop where
 src:Bk w B t s
 cur:Bk w (B+1+1) t l
 res:Bk w (B+1) t z16
 below:Below B w0 w
theorem Sh16.start (w:World) (t:TypeId) (s:List Nat):Sh16 w.heap.size t w (((w.alloc (.cells (bts s) t)).alloc (.cells (bts z16) t)).alloc (.cells (bts z16) t)) s z16:=
 ⟨((Bk.newAt t s rfl).alloc _).alloc _,Bk.newAt t z16 (by simp),(Bk.newAt t z16 (by simp)).alloc _,(((Below.refl _ _).alloc (Nat.le_refl _) _).alloc (by simp) _).alloc (by simp;omega) _⟩
theorem Sh16.set {B:Nat} {t:TypeId} {w0 w:World} {F:Nat→Nat} {s:List Nat} {k x:Nat} (h:Sh16 B t w0 w s (upd F z16 k)) (hk:k<16) (hx:x=F k):
 Sh16 B t w0 (w.setCell ⟨B+1+1,k,none⟩ (.int .u8 (x:Int))) s (upd F z16 (k+1)):=by
 subst hx
 refine⟨h.src.far (by omega) _,?_,h.res.far (by omega) _,h.below.setCell (by show B≤B+1+1;omega) _⟩
 have:=h.cur.set k (F k)
 rw[upd_step F z16 k hk] at this
 exact this
set_option maxRecDepth 100000 in
theorem shift1_any (s:List Nat) (hs:Byt s) (ls:s.length=16) (w:World):
 Calls Tryz.prog 219 #[.agg (bts s),.int .i64 1] w fun e w'=>e = .returned (.agg (bts (shiftK 1 s)))∧Below w.heap.size w w':=by
 have LS:=Lib.hid ls
 clear ls
 go_enter Tryz.func219,Tryz.ntmps219
 go_wp2_with fail
 go_loopw [9] (fun j wr=>∃k:Nat,k≤16∧j = .int .i64 k∧Sh16 w.heap.size 297 w wr s (upd (shiftF 1 s) z16 k)) (fun j _=>16-(intOf j).toNat)
 case atStart=>exact⟨0,by omega,rfl,by rw[upd_zero];exact Sh16.start w _ s⟩
 case round=>
  obtain⟨k,hk,rfl,hin⟩:=hrel
  by_cases hlt:k<16
  · have hki:(k:Int)<16:=by omega
    obtain⟨q,p,hqp,hq0,hp0,hq1,hp1,hq2,hp2⟩:=quarters k hlt
    have hm:4*((q+p)%4)+p<16:=by omega
    have c1:=hin.src.cell (k:=4*((q+p)%4)+p) (by rw[LS.out];exact hm)
    have f1:=hin.cur.free k
    have c2:=hin.cur.cell (k:=k) (by rw[upd_len];exact hlt)
    have hF:shiftF 1 s k=s[4*((q+p)%4)+p]?.getD 0:=by
     unfold shiftF
     rw[show k/4=q from by omega,show k%4=p from by omega,Nat.one_mul]
    have hx:=hs.get (4*((q+p)%4)+p)
    have hmi:((q:Int)+(p:Int))%4=(((q+p)%4:Nat):Int):=by omega
    generalize (q+p)%4=m at c1 hm hF hx hmi
    have hmj:4*(m:Int)+(p:Int)<16:=by omega
    generalize s[4*m+p]?.getD 0=x at c1 hx hF
    have HF:=Lib.hid hF
    have HI:=Lib.hid hin
    have HQ:=Lib.hid hqp
    clear hF hin hqp
    go_wp2
    go_roundw
    case rel=>exact⟨k+1,by omega,by go_num,HI.out.set hlt (by rw[HF.out])⟩
    case measure=>simp[intOf];omega
  · obtain rfl:k=16:=by omega
    have h1:=hin.cur
    have e1:upd (shiftF 1 s) z16 16=shiftK 1 s:=upd_all (shiftF 1 s) z16
    rw[e1] at h1
    have H1:=Lib.hid h1
    have H2:=Lib.hid hin.res
    have HB2:=Lib.hid hin.below
    clear h1 hin e1
    go_wp2_with (first
     | (refine wpList_loadB (o:=⟨some 30,_,_,_,_,_⟩) rfl 297 (.tmp 5) rfl _ rfl H1.out Tryz.underlying297 (by rw[shiftK_len];exact szSt) ?_)
     | (refine wpList_storeB (o:=⟨none,.store _ _ _,_,_,_,_⟩) rfl 297 (.tmp 4) (.tmp 30) rfl _ rfl (shiftK 1 s) rfl H2.out (by rw[shiftK_len];exact szSt) (by rw[shiftK_len];rfl) ?_))
    refine bodyPost_ret (results_bts Tryz.results219 _ _ _ rfl (H2.out.row (shiftK 1 s)) Tryz.underlying297 (by rw[shiftK_len];exact szSt)) rfl ?_
    exact⟨rfl,Below.row HB2.out (by omega) _⟩
def colF (H:List Nat→List Nat) (s:List Nat) (i:Nat):Nat:=(H (rowOf s (i/4)))[i%4]?.getD 0
def colK (H:List Nat→List Nat) (s:List Nat):List Nat:=(List.range 16).map (colF H s)
theorem colK_len (H:List Nat→List Nat) (s:List Nat):(colK H s).length=16:=by simp[colK]
theorem colK_byt {H:List Nat→List Nat} {s:List Nat} (hH:∀c,Byt (H c)):Byt (colK H s):=by
 intro x hx
 simp only[colK,List.mem_map,List.mem_range] at hx
 obtain⟨i,_,rfl⟩:=hx
 exact (hH _).get _
theorem col_copy (H:List Nat→List Nat) (s:List Nat) (j:Nat) (hs:s.length=16) (hj:j<4) (hH:(H (rowOf s j)).length=4):
 (upd (colF H s) s (4*j)).take (4*j)++(H (rowOf s j)++(upd (colF H s) s (4*j)).drop (4*j+4))=upd (colF H s) s (4*(j+1)):=by
 apply List.ext_getElem (by simp[upd_len,hs,hH];omega)
 intro i h1 h2
 have hi:i<16:=by rw[upd_len,hs] at h2;exact h2
 have hR:(upd (colF H s) s (4*(j+1)))[i]=if i<4*(j+1) then colF H s i else s[i]?.getD 0:=by
  have:=upd_get (colF H s) s (4*(j+1)) i (by omega)
  rw[List.getElem?_eq_getElem h2] at this
  exact this
 have hU:∀(m:Nat) (hm:m<(upd (colF H s) s (4*j)).length),(upd (colF H s) s (4*j))[m]=if m<4*j then colF H s m else s[m]?.getD 0:=by
  intro m hm
  have:=upd_get (colF H s) s (4*j) m (by rw[upd_len] at hm;exact hm)
  rw[List.getElem?_eq_getElem hm] at this
  exact this
 rw[hR]
 have ht:((upd (colF H s) s (4*j)).take (4*j)).length=4*j:=by simp[upd_len,hs];omega
 by_cases ha:i<4*j
 · rw[List.getElem_append_left (by omega),List.getElem_take,hU,if_pos ha,if_pos (by omega)]
 · rw[List.getElem_append_right (by omega)]
   by_cases hb:i<4*j+4
   · rw[List.getElem_append_left (by omega),if_pos (by omega)]
     unfold colF
     rw[show i/4=j from by omega,List.getElem?_eq_getElem (by omega)]
     simp only[Option.getD_some]
     congr 1
     have ht':((upd (fun i=>(H (rowOf s (i/4)))[i%4]?.getD 0) s (4*j)).take (4*j)).length=4*j:=ht
     rw[ht']
     omega
   · rw[List.getElem_append_right (by omega),List.getElem_drop,hU,if_neg (by omega),if_neg (by omega)]
     congr 2
     rw[ht,hH]
     omega
theorem bts_splice (l c:List Nat) (k m:Nat):((bts l).toList.take k++(c.map (fun n:Nat=>Value.int .u8 (n:Int))++(bts l).toList.drop m)).toArray=bts (l.take k++(c++l.drop m)):=by
 simp[bts,List.map_take,List.map_drop]
theorem col_row (H:List Nat→List Nat) (s:List Nat) (j:Nat) (hs:s.length=16) (hj:j<4) (i:Nat) (v:Value) (hv:((rowOf s j).map (fun n:Nat=>Value.int .u8 (n:Int)))[i]? = some v):
 i<4∧v = .int .u8 ((upd (colF H s) s (4*j))[4*j+i]?.getD 0:Nat):=by
 rw[List.getElem?_map] at hv
 have hi:i<4:=by
  have hl:(rowOf s j).length=4:=by simp[rowOf,hs];omega
  by_cases h:i<4
  · exact h
  · rw[List.getElem?_eq_none (by omega)] at hv;simp at hv
 refine⟨hi,?_⟩
 rw[upd_get _ _ _ _ (by omega),if_neg (by omega)]
 simp only[rowOf,List.getElem?_take,if_pos hi,List.getElem?_drop] at hv
 rw[List.getElem?_eq_getElem (by omega)] at hv⊢
 simpa using hv.symm
theorem St16.cols {B:Nat} {t:TypeId} {w0 w:World} {H:List Nat→List Nat} {s:List Nat} {j:Nat} (h:St16 B t w0 w (upd (colF H s) s (4*j))) (hs:s.length=16) (hj:j<4) (hH:(H (rowOf s j)).length=4) (cs:Array Value)
 (hc:cs=((bts (upd (colF H s) s (4*j))).toList.take (4*j)++((H (rowOf s j)).map (fun n:Nat=>Value.int .u8 (n:Int))++(bts (upd (colF H s) s (4*j))).toList.drop (4*j+4))).toArray):
 St16 B t w0 (w.setRow B cs) (upd (colF H s) s (4*(j+1))):=by
 rw[bts_splice,col_copy H s j hs hj hH] at hc
 subst hc
 exact⟨h.cur.row _,h.res.rowFar (by omega) _,Below.row h.below (Nat.le_refl _) _⟩
theorem szByte:(Tryz.prog.info? 5).map (·.size)=some 1:=by kernel_rfl
theorem st_under:Tryz.prog.underlying 297=some (.array (Tryz.prog.arrayLen 297) (Tryz.prog.elem 297)):=by kernel_rfl
theorem st_alen:Tryz.prog.arrayLen 297=16:=by kernel_rfl
theorem st_size (w:World):(sizeOf (Tryz.prog.elem 297)).run Tryz.prog w = .ok 1 w:=by
 have h:(Tryz.prog.info? (Tryz.prog.elem 297)).map (·.size)=some 1:=by kernel_rfl
 cases hq:Tryz.prog.info? (Tryz.prog.elem 297) with
 | none=>rw[hq] at h;cases h
 | some i=>rw[hq] at h;simp only[Option.map_some,Option.some.injEq] at h;simp[sizeOf,typeInfo,hq,h]
theorem st_cut (W:World) (b q:Nat) (hq:q≤12):(Instr.sliceAt 297 (.pointer (some ⟨b,0,none⟩)) (some (.int .i64 (q:Int))) (some (.int .i64 ((q:Int)+4))) none).run Tryz.prog W = .ok (.slice (some ⟨b,q,none⟩) 4 (16-q)) W:=by
 rw[run_sliceAt_array_lh W 297 ⟨b,0,none⟩ st_under .i64 .i64 q (q+4) (by omega) (by omega) (by rw[st_alen];omega),st_size,st_alen]
 simp only[Result.andThen_ok,slicedAt,Int.toNat_natCast,Nat.mul_one,Addr.add_mid,Nat.zero_add]
 rw[if_neg (by omega),show ((q:Int)+4).toNat-q=4 from by omega]
theorem st_from (W:World) (b q:Nat) (hq:q≤12):(Instr.sliceAt 297 (.pointer (some ⟨b,0,none⟩)) (some (.int .i64 (q:Int))) none none).run Tryz.prog W = .ok (.slice (some ⟨b,q,none⟩) (16-q) (16-q)) W:=by
 rw[run_sliceAt_array_l W 297 ⟨b,0,none⟩ st_under .i64 q (by omega) (by rw[st_alen];omega),st_size,st_alen]
 simp only[Result.andThen_ok,slicedAt,Int.toNat_natCast,Nat.mul_one,Addr.add_mid,Nat.zero_add]
 rw[if_neg (by omega)]
theorem arr4 (W:World) (a:Addr) (c:Nat):(Instr.arrayAt 318 (.slice (some a) 4 c)).run Tryz.prog W = .ok (.pointer (some a)) W:=by
 have hu:=Tryz.underlying318
 simp[Instr.arrayAt,run_underlying hu]
set_option maxRecDepth 100000 in
theorem columns_mix (s:List Nat) (hs:Byt s) (ls:s.length=16) (w:World):
 Calls Tryz.prog 220 #[.agg (bts s),.func (.func 221) #[] #[]] w fun e w'=>e = .returned (.agg (bts (colK mix s)))∧Below w.heap.size w w':=by
 have LS:=Lib.hid ls
 clear ls
 have hst:=Lib.hid (St16.start w 297 s)
 go_enter Tryz.func220,Tryz.ntmps220
 go_wp2_with fail
 go_loopw [5] (fun j wr=>∃k:Nat,k≤4∧j = .int .i64 (4*k:Nat)∧St16 w.heap.size 297 w wr (upd (colF mix s) s (4*k))) (fun j _=>16-(intOf j).toNat)
 case atStart=>exact⟨0,by omega,rfl,by rw[Nat.mul_zero,upd_zero];exact hst.out⟩
 case round=>
  obtain⟨k,hk,rfl,hin⟩:=hrel
  clear hst
  by_cases hlt:k<4
  · have lr:(rowOf s k).length=4:=by
     have:=LS.out
     simp[rowOf]
     omega
    have hrng:wr.rangeAt w.heap.size (4*k) ((rowOf s k).map (fun n:Nat=>Value.int .u8 (n:Int))):=by
     intro i v hv
     obtain⟨hi,rfl⟩:=col_row mix s k LS.out hlt i v hv
     exact hin.cur.cell (by rw[upd_len,LS.out];omega)
    have hrb:=rowOf_byt hs k
    have hbig:w.heap.size<wr.heap.size:=hin.cur.lt
    have HR:=Lib.hid hrng
    have HI:=Lib.hid hin
    have HL:=Lib.hid lr
    clear hrng hin lr
    obtain⟨q,hq⟩:∃q,4*k=q:=⟨_,rfl⟩
    have hqi:(q:Int)<16:=by omega
    rw[hq] at HR
    have HQ:=Lib.hid hq
    simp only[hq]
    have hq4:q≤12:=by omega
    have hq5:(q:Int)+4≤16:=by omega
    have hq6:¬(16=q):=by omega
    clear hq
    have sl1:=fun W=>st_cut W w.heap.size q hq4
    have sl2:=fun W=>st_from W w.heap.size q hq4
    have sl3:=arr4
    go_wp2_with (first
     | (refine wpList_load_mid (op:=⟨some 17,_,_,_,_,_⟩) rfl 318 (.tmp 16) rfl w.heap.size q rfl _ _ HR.out Tryz.underlying318 rfl (by rw[List.length_map,HL.out];exact sz4) ?_))
    refine (mix_any (rowOf s k) hrb HL.out _).mono ?_
    rintro e w1 ⟨rfl,hb⟩
    have h1:St16 w.heap.size 297 w w1 (upd (colF mix s) s (4*k)):=⟨HI.out.cur.below hb hbig,HI.out.res.below hb HI.out.res.lt,HI.out.below.trans (hb.mono HI.out.below.size)⟩
    have hbig1:w.heap.size<w1.heap.size:=h1.cur.lt
    have H1:=Lib.hid h1
    clear HI hb h1
    have hm:(mix (rowOf s k)).length=4:=mix_len _
    have HM:=Lib.hid hm
    generalize hme:mix (rowOf s k)=m at hm HM
    have HME:=Lib.hid hme
    clear hme hm
    go_wp2_with (refine wpList_storeB (o:=⟨none,.store _ _ _,_,_,_,_⟩) rfl 318 (.tmp 6) (.tmp 18) rfl _ rfl m rfl (Bk.new w1 318 [0,0,0,0]) (by rw[HM.out];exact sz4) (by rw[HM.out];rfl) ?_)
    refine wp_still_tail 3 (by kernel_rfl) (by kernel_rfl) ?_
    simp only[List.take_succ_cons,List.take_zero,List.drop_succ_cons,List.drop_zero]
    repeat still_step
    refine wpStill_nil ?_
    have hW:St16 w.heap.size 297 w ((w1.alloc (.cells (bts [0,0,0,0]) 318)).setRow w1.heap.size (bts m)).drew (upd (colF mix s) s (4*k)):=
     ⟨((H1.out.cur.alloc _).rowFar (by omega) _).drew,((H1.out.res.alloc _).rowFar (by have:=H1.out.res.lt;omega) _).drew,(Below.row (H1.out.below.alloc H1.out.below.size _) H1.out.below.size _).drew⟩
    have hS:Bk ((w1.alloc (.cells (bts [0,0,0,0]) 318)).setRow w1.heap.size (bts m)).drew w1.heap.size 318 m:=((Bk.new w1 318 [0,0,0,0]).row m).drew
    refine wpList_copy_own (o:=⟨some 22,_,_,_,_,_⟩) rfl (.tmp 20) (.tmp 21) 41 41 rfl 5 Tryz.underlying41 szByte w.heap.size q _ _ ⟨w1.heap.size,0,none⟩ 4 4 rfl rfl _ 297 hW.cur (m.map (fun n:Nat=>Value.int .u8 (n:Int)))
     (by rw[List.length_map,HM.out];show 4=min 4 (16-q);omega) ?_ (by rw[List.length_map,HM.out,bts_size,upd_len,LS.out];omega) (by simp[Value.oneCell']) ?_
    · intro i v hv
      rw[List.getElem?_map] at hv
      have hi:i<4:=by
       by_cases h:i<4
       · exact h
       · rw[List.getElem?_eq_none (by rw[HM.out];omega)] at hv;simp at hv
      rw[List.getElem?_eq_getElem (by rw[HM.out];exact hi)] at hv
      rw[Addr.add_mid,Nat.zero_add]
      refine (hS.cell (by rw[HM.out];exact hi)).trans ?_
      rw[List.getElem?_eq_getElem (by rw[HM.out];exact hi)]
      simpa using hv
    have hlen:(m.map (fun n:Nat=>Value.int .u8 (n:Int))).length=4:=by rw[List.length_map,HM.out]
    have hN:St16 w.heap.size 297 w (((w1.alloc (.cells (bts [0,0,0,0]) 318)).setRow w1.heap.size (bts m)).drew.setRow w.heap.size ((bts (upd (colF mix s) s (4*k))).toList.take q++((m.map (fun n:Nat=>Value.int .u8 (n:Int)))++(bts (upd (colF mix s) s (4*k))).toList.drop (q+(m.map (fun n:Nat=>Value.int .u8 (n:Int))).length))).toArray) (upd (colF mix s) s (4*(k+1))):=by
     have hN:=St16.cols hW LS.out hlt (by rw[HME.out];exact HM.out) _ rfl
     rw[HME.out] at hN
     have e:=HQ.out
     subst e
     rw[hlen]
     exact hN
    rw[show (m.map (fun n:Nat=>Value.int .u8 (n:Int))).length=4 from hlen] at hN⊢
    generalize ((bts (upd (colF mix s) s (4*k))).toList.take q++(m.map (fun n:Nat=>Value.int .u8 (n:Int))++(bts (upd (colF mix s) s (4*k))).toList.drop (q+4))).toArray=cells at hN⊢
    have HN:=Lib.hid hN
    clear hN hlen hW hS sl1 sl2 sl3
    go_wp2
    go_roundw
    case rel=>exact⟨k+1,by omega,by have:=HQ.out;rw[show 4*(k+1)=q+4 from by omega];go_num,HN.out⟩
    case measure=>have:=HQ.out;simp[intOf];omega
  · obtain rfl:k=4:=by omega
    have h1:=hin.cur
    have e1:upd (colF mix s) s (4*4)=colK mix s:=by
     have:=upd_all (colF mix s) s
     rw[LS.out] at this
     exact this
    rw[e1] at h1
    have H1:=Lib.hid h1
    have H2:=Lib.hid hin.res
    have HB2:=Lib.hid hin.below
    clear h1 hin e1
    go_wp2_with (first
     | (refine wpList_loadB (o:=⟨some 23,_,_,_,_,_⟩) rfl 297 (.tmp 2) rfl _ rfl H1.out Tryz.underlying297 (by rw[colK_len];exact szSt) ?_)
     | (refine wpList_storeB (o:=⟨none,.store _ _ _,_,_,_,_⟩) rfl 297 (.tmp 4) (.tmp 23) rfl _ rfl (colK mix s) rfl H2.out (by rw[colK_len];exact szSt) (by rw[colK_len];rfl) ?_))
    refine bodyPost_ret (results_bts Tryz.results220 _ _ _ rfl (H2.out.row (colK mix s)) Tryz.underlying297 (by rw[colK_len];exact szSt)) rfl ?_
    exact⟨rfl,Below.row HB2.out (by omega) _⟩
def at' (l:List Nat) (i:Nat):Nat:=l[i]?.getD 0
def nx (k:Nat) (E:List Nat) (i:Nat):List Nat:=
 if i%k=0 then [sbox (at' E (4*(i-1)+1)) ^^^ gpow 2 (i/k-1),sbox (at' E (4*(i-1)+2)),sbox (at' E (4*(i-1)+3)),sbox (at' E (4*(i-1)))]
 else if k=8∧i%8=4 then [sbox (at' E (4*(i-1))),sbox (at' E (4*(i-1)+1)),sbox (at' E (4*(i-1)+2)),sbox (at' E (4*(i-1)+3))]
 else [at' E (4*(i-1)),at' E (4*(i-1)+1),at' E (4*(i-1)+2),at' E (4*(i-1)+3)]
theorem nx_len (k:Nat) (E:List Nat) (i:Nat):(nx k E i).length=4:=by unfold nx;split <;> (try split) <;> rfl
def nextWord (k:Nat) (E:List Nat) (i:Nat):List Nat:=(List.range 4).map fun p=>at' (nx k E i) p ^^^ at' E (4*(i-k)+p)
def wordsOf (k:Nat) (key:List Nat):Nat→List Nat
 | 0=>key
 | n+1=>wordsOf k key n++nextWord k (wordsOf k key n) (k+n)
def wordsAll (k:Nat) (key:List Nat):List Nat:=wordsOf k key (4*(k+7)-k)
theorem wordsOf_len (k:Nat) (key:List Nat) (h:key.length=4*k):∀n,(wordsOf k key n).length=4*(k+n)
 | 0=>by simp[wordsOf,h]
 | n+1=>by simp[wordsOf,wordsOf_len k key h n,nextWord];omega
theorem wordsOf_pre (k:Nat) (key:List Nat) (h:key.length=4*k) (m:Nat):∀n j,m<4*(k+n)→at' (wordsOf k key (n+j)) m=at' (wordsOf k key n) m
 | n,0,_=>rfl
 | n,j+1,hm=>by
   have ih:=wordsOf_pre k key h m n j hm
   rw[←ih]
   show at' (wordsOf k key (n+j)++_) m=_
   unfold at'
   rw[List.getElem?_append_left (by rw[wordsOf_len k key h];omega)]
structure Exp (k:Nat) (key E:List Nat):Prop where
 len:E.length=4*(4*(k+7))
 byt:Byt E
 own:∀m,m<4*k→at' E m=at' key m
 next:∀i,k≤i→i<4*(k+7)→∀p,p<4→at' E (4*i+p)=at' (nx k E i) p ^^^ at' E (4*(i-k)+p)
theorem nx_eq (k:Nat) (E F:List Nat) (i:Nat) (h:∀m,m<4*i→at' E m=at' F m) (hi:0<i):nx k E i=nx k F i:=by
 unfold nx
 rw[h _ (by omega),h _ (by omega),h _ (by omega),h _ (by omega)]
theorem gpow_byt {n:Nat} (h:n<16):gpow 2 n<256:=gpow_lt n h
theorem Byt.at' {l:List Nat} (h:Byt l) (k:Nat):at' l k<256:=h.get k
theorem nx_byt {k:Nat} {E:List Nat} {i:Nat} (hE:Byt E) (hk:k=4∨k=8) (hi:i<4*(k+7)):Byt (nx k E i):=by
 have s:=fun m=>sbox_lt _ (hE.at' m)
 have h16:i/k-1<16:=by rcases hk with rfl | rfl <;> omega
 intro x hx
 unfold nx at hx
 split at hx
 · simp only[List.mem_cons,List.not_mem_nil,or_false] at hx
   rcases hx with rfl | rfl | rfl | rfl
   · exact xor_lt (s _) (gpow_byt h16)
   all_goals exact s _
 · split at hx
   · simp only[List.mem_cons,List.not_mem_nil,or_false] at hx
     rcases hx with rfl | rfl | rfl | rfl <;> exact s _
   · simp only[List.mem_cons,List.not_mem_nil,or_false] at hx
     rcases hx with rfl | rfl | rfl | rfl <;> exact hE.at' _
theorem wordsOf_byt {k:Nat} {key:List Nat} (hk:k=4∨k=8) (hb:Byt key):∀n,k+n≤4*(k+7)→Byt (wordsOf k key n)
 | 0,_=>hb
 | n + 1,hn=>by
   have ih:=wordsOf_byt hk hb n (by omega)
   intro x hx
   rcases List.mem_append.1 hx with hx | hx
   · exact ih x hx
   · simp only[nextWord,List.mem_map,List.mem_range] at hx
     obtain⟨p,_,rfl⟩:=hx
     exact xor_lt ((nx_byt ih hk (by omega)).at' p) (ih.at' _)
theorem wordsAll_exp {k:Nat} {key:List Nat} (hk:k=4∨k=8) (h:key.length=4*k) (hb:Byt key):Exp k key (wordsAll k key):=by
 have hk1:0<k:=by omega
 refine⟨by rw[wordsAll,wordsOf_len k key h];omega,wordsOf_byt hk hb _ (by omega),?_,?_⟩
 · intro m hm
   have:=wordsOf_pre k key h m 0 (4*(k+7)-k) (by omega)
   rw[Nat.zero_add] at this
   exact this
 · intro i h0 h1 p hp
   have e1:∀m,m<4*i→at' (wordsAll k key) m=at' (wordsOf k key (i-k)) m:=by
    intro m hm
    have:=wordsOf_pre k key h m (i-k) (4*(k+7)-k-(i-k)) (by omega)
    rw[show i-k+(4*(k+7)-k-(i-k))=4*(k+7)-k from by omega] at this
    exact this
   have e2:at' (wordsAll k key) (4*i+p)=at' (wordsOf k key (i-k+1)) (4*i+p):=by
    have:=wordsOf_pre k key h (4*i+p) (i-k+1) (4*(k+7)-k-(i-k+1)) (by omega)
    rw[show i-k+1+(4*(k+7)-k-(i-k+1))=4*(k+7)-k from by omega] at this
    exact this
   rw[e2,nx_eq k _ _ i e1 (by omega),e1 _ (by omega)]
   have hl:=wordsOf_len k key h (i-k)
   show at' (wordsOf k key (i-k)++nextWord k (wordsOf k key (i-k)) (k+(i-k))) (4*i+p)=_
   rw[show k+(i-k)=i from by omega]
   generalize wordsOf k key (i-k)=F at hl
   have:at' (F++nextWord k F i) (4*i+p)=at' (nextWord k F i) p:=by
    unfold at'
    rw[List.getElem?_append_right (by omega),show 4*i+p-F.length=p from by omega]
   rw[this]
   simp[nextWord,at',hp]
def IsB (w:World) (A:Option Addr) (n c:Nat) (l:List Nat):Prop:=IsRow .u8 w A n c (l.map fun x:Nat=>(x:Int))∧Byt l
theorem IsB.len {w:World} {A:Option Addr} {n c:Nat} {l:List Nat} (h:IsB w A n c l):l.length=n:=by simpa using h.1.len
theorem IsB.cell {w:World} {A:Option Addr} {n c:Nat} {l:List Nat} (h:IsB w A n c l) (hn:0<n):∃x,A=some x∧x.block<w.heap.size∧∀i,i<n→w.cell? (x.add i)=some (.int .u8 (at' l i:Nat)):=by
 obtain⟨x,e,hb,hx⟩:=h.1.at hn
 refine⟨x,e,hb,fun i hi=>?_⟩
 have hl:=h.len
 rw[hx i hi]
 simp[List.getD,at',List.getElem?_eq_getElem (show i<l.length by omega)]
theorem IsB.below {w w':World} {A:Option Addr} {n c:Nat} {l:List Nat} (h:IsB w A n c l) (hb:Below w.heap.size w w'):IsB w' A n c l:=⟨h.1.below hb,h.2⟩
theorem byt_of_row {w:World} {A:Option Addr} {n c:Nat} {zs:List Int} (h:IsRow .u8 w A n c zs):∃l:List Nat,zs=l.map (fun x:Nat=>(x:Int))∧Byt l:=by
 have hw:∀z∈zs,0≤z∧z<256:=by
  intro z hz
  have:=h.wf z hz
  simp only[Lit.wf,Bool.and_eq_true,decide_eq_true_eq] at this
  have e1:IntKind.u8.min=0:=rfl
  have e2:IntKind.u8.max=255:=rfl
  omega
 refine⟨zs.map Int.toNat,?_,?_⟩
 · rw[List.map_map]
   refine (List.map_id' _).symm.trans (List.map_congr_left fun z hz=>?_)
   simp only[Function.comp]
   have:=hw z hz
   omega
 · intro x hx
   obtain⟨z,hz,rfl⟩:=List.mem_map.1 hx
   have:=hw z hz
   omega
section
variable {P:Program}
theorem wp_loadAny {op:Oper} {a:Act} {w:World} {K:Act→World→Prop} {Q:Exit→Act→World→Prop} (ty:TypeId) (x:Operand) (ho:op.op = .load ty x)
 (p:Addr) (hx:a.eval x = .pointer (some p)) (cs:List Value) (d:TypeDesc) (hc:∀j v,cs[j]? = some v→w.cell? (p.add j)=some v)
 (hu:P.underlying ty=some d) (hd:d.isRow=true) (hi:(P.info? ty).map (·.size)=some cs.length)
 (h:K (a.put op.dst (.agg cs.toArray)) w):op.wp P a w K Q:=by
 have hrun:(loadVar ty p).run P w = .ok (.agg cs.toArray) w:=by
  have hl:(loadCells p cs.length).run P w = .ok cs.toArray w:=run_loadCells_list (P:=P) w p cs hc
  cases hq:P.info? ty with
  | none=>simp[hq] at hi
  | some i=>
    have hs:i.size=cs.length:=by simpa[hq] using hi
    have hagg:(isAgg ty).run P w = .ok true w:=by
     unfold isAgg
     rw[Sem.run_bind,run_underlying hu w]
     cases d <;> simp_all
    simp[loadVar,Sem.run_bind,hagg,sizeOf,typeInfo,hq,hs,hl]
 unfold Oper.wp execOp
 simp only[ho,hx,Instr.loadAt,Instr.sureAddr,Sem.run_bind,Sem.run_pure,Result.andThen_ok,hrun]
 exact h
theorem wpList_loadAny {ops:Array Oper} {rest:List Oper} {op:Oper} {a:Act} {w:World} {Q:Exit→Act→World→Prop} (hgd:op.guard=none) (ty:TypeId) (x:Operand) (ho:op.op = .load ty x)
 (p:Addr) (hx:a.eval x = .pointer (some p)) (cs:List Value) (d:TypeDesc) (hc:∀j v,cs[j]? = some v→w.cell? (p.add j)=some v)
 (hu:P.underlying ty=some d) (hd:d.isRow=true) (hi:(P.info? ty).map (·.size)=some cs.length)
 (h:wpList P ops Q rest (a.put op.dst (.agg cs.toArray)) w):wpList P ops Q (op::rest) a w:=
 wpList_plain hgd fun _ hK=>wp_loadAny ty x ho p hx cs d hc hu hd hi (hK _ _ h)
end
end Go.Proofs.YtlobgddnlnffbaaGreat
