/-
  Parts of the proof, joined.
-/
import Derived.Test.YtlobgddnlnffbaaGreatBdc
import Derived.Deep.DeepCutAuto
import Derived.Laws.MakeOwn
import Derived.Outline
import Derived.Deep.RegionHeld3
import Derived.ChangeKeysEq
import Derived.Laws.StructEq
import Derived.WideShapes
namespace Go.Proofs.YtlobgddnlnffbaaGreat
set_option maxHeartbeats 4000000
open Go.RowKit
set_option linter.unusedVariables false
theorem info4z:(Tryz.prog.info? 318).map (fun i=>(i.zero,i.size,i.bytes))=some (some (.agg #[.int .u8 0,.int .u8 0,.int .u8 0,.int .u8 0]),4,4):=by kernel_rfl
theorem make_words (n:Nat) (hn:n≤100) (hz:madeCells #[.int .u8 0,.int .u8 0,.int .u8 0,.int .u8 0] (n*4)=bts (zeros (4*n))) (W:World):
 (Instr.makeSlice 291 (.int .i64 (n:Int)) (.int .i64 (n:Int))).run Tryz.prog W = .ok (.slice (some ⟨W.heap.size,0,none⟩) n n) (W.alloc (.cells (bts (zeros (4*n))) 318)):=by
 obtain⟨i0,hi0,h0,h1,h2⟩:=info_parts info4z
 have:=run_make (P:=Tryz.prog) W 291 318 i0 _ Tryz.underlying291 hi0 h0 .i64 .i64 n n (by omega) (by omega) (by rw[h2];omega) (by omega)
 rw[this,h1]
 simp only[Int.toNat_natCast]
 rw[←hz]
 rfl
theorem sl_cut4 (W:World) (x:Addr) (n c i:Nat) (hi:4*i+4≤n) (hc:n≤c):(Instr.sliceAt 41 (.slice (some x) n c) (some (.int .i64 (4*(i:Int)))) (some (.int .i64 (4*(i:Int)+4))) none).run Tryz.prog W = .ok (.slice (some (x.add (4*i))) 4 (c-4*i)) W:=by
 have h:Tryz.prog.underlying 41=some (.slice (Tryz.prog.elem 41)):=by kernel_rfl
 have hs:(sizeOf (Tryz.prog.elem 41)).run Tryz.prog W = .ok 1 W:=by
  have h:(Tryz.prog.info? (Tryz.prog.elem 41)).map (·.size)=some 1:=by kernel_rfl
  cases hq:Tryz.prog.info? (Tryz.prog.elem 41) with
  | none=>rw[hq] at h;cases h
  | some i=>rw[hq] at h;simp only[Option.map_some,Option.some.injEq] at h;simp[sizeOf,typeInfo,hq,h]
 rw[run_sliceAt_slice W _ _ _ _ _ h,run_slice_lh W _ _ _ _ h .i64 .i64 (4*(i:Int)) (4*(i:Int)+4) (by omega) (by omega) (by omega),hs]
 simp only[Result.andThen_ok,sliced,Nat.mul_one]
 rw[if_neg (by omega),show (4*(i:Int)).toNat=4*i from by omega,show (4*(i:Int)+4).toNat-4*i=4 from by omega]
 rfl
theorem addr_add (x:Addr) (m i:Nat):(x.add m).add i=x.add (m+i):=by
 unfold Addr.add
 by_cases h1:m=0 <;> by_cases h2:i=0 <;> simp[h1,h2,Nat.add_assoc]
theorem IsB.some {w:World} {x:Addr} {n c:Nat} {l:List Nat} (h:IsB w (some x) n c l) (i:Nat) (hi:i<n):w.cell? (x.add i) = .some (.int .u8 (at' l i:Nat)):=by
 obtain⟨y,e,_,hy⟩:=h.cell (by omega)
 injection e with e
 rw[e]
 exact hy i hi
theorem pow2_any (n:Nat) {g:Nat} (hn:n<16) (hg:Hid (gpow 2 n=g)) (w:World):Calls Tryz.prog 246 #[.int .u8 2,.int .u32 (n:Int)] w fun e w'=>e = .returned (.int .u8 (g:Int))∧w=w':=by
 have e:=hg.out
 subst e
 exact pow_any 2 n (by omega) (by omega) w
theorem sub_at (a:Nat) {s:Nat} (ha:a<256) (hs:Hid (sbox a=s)) (w:World):Calls Tryz.prog 216 #[.int .u8 (a:Int)] w fun e w'=>e = .returned (.int .u8 (s:Int))∧∃m,w'=w.drewN m:=by
 have e:=hs.out
 subst e
 exact sub_any a ha w
theorem wrap_u32 (z:Int) (h0:0≤z) (h1:z<4294967296):IntKind.u32.wrap z=z:=by
 show z%4294967296=z
 omega
structure Wst (B:Nat) (w0 w:World) (E:List Nat) (m:Nat):Prop where
 row:Bk w B 318 (upd (at' E) (zeros E.length) m)
 below:Below B w0 w
theorem Wst.step {B:Nat} {w0 w:World} {E:List Nat} {m x:Nat} (h:Wst B w0 w E m) (hm:m<E.length) (hx:x=at' E m):Wst B w0 (w.drew.setCell ⟨B,m,none⟩ (.int .u8 (x:Int))) E (m+1):=by
 subst hx
 refine⟨?_,h.below.drew.setCell (Nat.le_refl _) _⟩
 have:=h.row.drew.set m (at' E m)
 rw[upd_step (at' E) (zeros E.length) m (by rw[zeros_len];exact hm)] at this
 exact this
theorem Wst.step' {B:Nat} {w0 w:World} {E:List Nat} {m x:Nat} (h:Wst B w0 w E m) (hm:m<E.length) (hx:x=at' E m):Wst B w0 (w.setCell ⟨B,m,none⟩ (.int .u8 (x:Int))) E (m+1):=by
 subst hx
 refine⟨?_,h.below.setCell (Nat.le_refl _) _⟩
 have:=h.row.set m (at' E m)
 rw[upd_step (at' E) (zeros E.length) m (by rw[zeros_len];exact hm)] at this
 exact this
theorem Wst.alloc {B:Nat} {w0 w:World} {E:List Nat} {m:Nat} (h:Wst B w0 w E m) (o:Obj):Wst B w0 (w.alloc o) E m:=⟨h.row.alloc o,h.below.alloc (Nat.le_of_lt h.row.lt) o⟩
theorem Wst.drewN {B:Nat} {w0 w:World} {E:List Nat} {m:Nat} (h:Wst B w0 w E m) (n:Nat):Wst B w0 (w.drewN n) E m:=⟨h.row.drewN n,below_dn h.below n⟩
theorem Wst.far {B g k:Nat} {w0 w:World} {E:List Nat} {m:Nat} (h:Wst B w0 w E m) (hg:B<g) (u:Value):Wst B w0 (w.setCell ⟨g,k,none⟩ u) E m:=⟨h.row.far (by omega) u,h.below.setCell (by show B≤g;omega) u⟩
theorem Wst.start {w:World} {E:List Nat}:Wst w.heap.size w (w.alloc (.cells (bts (zeros E.length)) 318)) E 0:=by
 refine⟨?_,(Below.refl _ _).alloc (Nat.le_refl _) _⟩
 rw[upd_zero]
 exact Bk.new _ _ _
set_option maxRecDepth 100000 in
theorem words4_any (l:List Nat) (A:Option Addr) (c:Nat) (w:World) (hin:IsB w A 16 c l):
 Calls Tryz.prog 215 #[.slice A 16 c] w fun e w'=>e = .returned (.tuple #[.slice (some ⟨w.heap.size,0,none⟩) 44 44,.int .i64 0])∧Bk w' w.heap.size 318 (wordsAll 4 l)∧Below w.heap.size w w':=by
 have hE:=wordsAll_exp (k:=4) (key:=l) (by omega) (by rw[hin.len]) hin.2
 generalize wordsAll 4 l=E at hE
 obtain⟨x,rfl,hxb,hx⟩:=hin.cell (by omega)
 have hc:=hin.1.lenCap
 have hcm:=hin.1.capMax
 have hlen:E.length=176:=hE.len
 have hmk:∀W:World,(Instr.makeSlice 291 (.int .i64 44) (.int .i64 44)).run Tryz.prog W = .ok (.slice (some ⟨W.heap.size,0,none⟩) 44 44) (W.alloc (.cells (bts (zeros (4*44))) 318)):=make_words 44 (by omega) (by kernel_rfl)
 have HX:=Lib.hid hx
 have HE:=Lib.hid hE
 have HI:=Lib.hid hin
 have HL:=Lib.hid hlen
 have hst:Wst w.heap.size w (w.alloc (.cells (bts (zeros (4*44))) 318)) E 0:=by
  have:=Wst.start (w:=w) (E:=E)
  rw[hlen] at this
  exact this
 have HST:=Lib.hid hst
 clear hx hE hin hlen hst
 go_enter Tryz.func215,Tryz.ntmps215
 go_wp2_with fail
 go_loopw [26] (fun j wr=>∃i:Nat,i≤44∧j = .int .i64 i∧Wst w.heap.size w wr E (i*4)) (fun j _=>44-(intOf j).toNat)
 case atStart=>exact⟨0,by omega,rfl,HST.out⟩
 case round=>
  obtain⟨i,hi,rfl,ho⟩:=hrel
  clear HST hmk
  by_cases hlt:i<44
  · have hlti : (i:Int)<44:=by omega
    by_cases hk:i<4
    · have hki:(i:Int)<4:=by omega
      have hkd:decide ((i:Int)<4)=true:=by simpa using hki
      have hcut:=fun W=>sl_cut4 W x 16 c i (by omega) hc
      have ha4:=arr4
      have hx0:=(HI.out.below ho.below).some (4*i) (by omega)
      have hx1:wr.cell? ⟨(x.add (4*i)).block,(x.add (4*i)).off+1,none⟩=_:=(congrArg wr.cell? (addr_add x (4*i) 1)).trans ((HI.out.below ho.below).some (4*i+1) (by omega))
      have hx2:wr.cell? ⟨(x.add (4*i)).block,(x.add (4*i)).off+2,none⟩=_:=(congrArg wr.cell? (addr_add x (4*i) 2)).trans ((HI.out.below ho.below).some (4*i+2) (by omega))
      have hx3:wr.cell? ⟨(x.add (4*i)).block,(x.add (4*i)).off+3,none⟩=_:=(congrArg wr.cell? (addr_add x (4*i) 3)).trans ((HI.out.below ho.below).some (4*i+3) (by omega))
      have hl:l.length=16:=HI.out.len
      have e0:at' l (4*i)=at' E (i*4):=by rw[HE.out.own _ (by omega),Nat.mul_comm]
      have e1:at' l (4*i+1)=at' E (i*4+1):=by rw[HE.out.own _ (by omega),Nat.mul_comm]
      have e2:at' l (4*i+2)=at' E (i*4+2):=by rw[HE.out.own _ (by omega),Nat.mul_comm]
      have e3:at' l (4*i+3)=at' E (i*4+3):=by rw[HE.out.own _ (by omega),Nat.mul_comm]
      rw[e0] at hx0
      rw[e1] at hx1
      rw[e2] at hx2
      rw[e3] at hx3
      have c0:=ho.row.cell (k:=i*4) (by rw[upd_len,zeros_len,HL.out];omega)
      have c1:=ho.row.cell (k:=i*4+1) (by rw[upd_len,zeros_len,HL.out];omega)
      have c2:=ho.row.cell (k:=i*4+2) (by rw[upd_len,zeros_len,HL.out];omega)
      have c3:=ho.row.cell (k:=i*4+3) (by rw[upd_len,zeros_len,HL.out];omega)
      have f0:=ho.row.free (i*4)
      have f1:=ho.row.free (i*4+1)
      have f2:=ho.row.free (i*4+2)
      have f3:=ho.row.free (i*4+3)
      have hst:=((((ho.step' (by rw[HL.out];omega) rfl).step' (by rw[HL.out];omega) rfl).step' (by rw[HL.out];omega) rfl).step' (by rw[HL.out];omega) rfl)
      clear e0 e1 e2 e3 hl ho
      generalize at' E (i*4)=a0 at *
      generalize at' E (i*4+1)=a1 at *
      generalize at' E (i*4+2)=a2 at *
      generalize at' E (i*4+3)=a3 at *
      have HST:=Lib.hid hst
      clear hst
      go_wp2
      go_roundw
      case rel=>exact⟨i+1,by omega,by go_num,by rw[Nat.add_mul];exact HST.out⟩
      case measure=>simp[intOf];omega
    · have hki:¬(i:Int)<4:=by omega
      obtain⟨j,hj⟩:∃j,i=j+1:=⟨i-1,by omega⟩
      have hj1:(i:Int)-1=(j:Int):=by omega
      have hj2:(j:Int)<44:=by omega
      have hcell:∀p,p<4→wr.cell? ⟨w.heap.size,j*4+p,none⟩=some (.int .u8 (at' E (4*(i-1)+p):Nat)):=by
       intro p hp
       rw[ho.row.cell (k:=j*4+p) (by rw[upd_len,zeros_len,HL.out];omega),upd_get _ _ _ _ (by rw[zeros_len,HL.out];omega),if_pos (by omega),show 4*(i-1)+p=j*4+p from by omega]
      have c0:=hcell 0 (by omega)
      have c1:=hcell 1 (by omega)
      have c2:=hcell 2 (by omega)
      have c3:=hcell 3 (by omega)
      rw[Nat.add_zero] at c0 c1 c2 c3
      have hb0:=HE.out.byt.at' (4*(i-1))
      have hb1:=HE.out.byt.at' (4*(i-1)+1)
      have hb2:=HE.out.byt.at' (4*(i-1)+2)
      have hb3:=HE.out.byt.at' (4*(i-1)+3)
      have hnx:nx 4 E i=nx 4 E i:=rfl
      conv at hnx=>rhs;unfold nx
      generalize at' E (4*(i-1))=t0 at *
      generalize at' E (4*(i-1)+1)=t1 at *
      generalize at' E (4*(i-1)+2)=t2 at *
      generalize at' E (4*(i-1)+3)=t3 at *
      obtain⟨s0,hs0⟩:∃s,sbox t0=s:=⟨_,rfl⟩
      obtain⟨s1,hs1⟩:∃s,sbox t1=s:=⟨_,rfl⟩
      obtain⟨s2,hs2⟩:∃s,sbox t2=s:=⟨_,rfl⟩
      obtain⟨s3,hs3⟩:∃s,sbox t3=s:=⟨_,rfl⟩
      have hsb1:=sbox_lt t1 hb1
      rw[hs1] at hsb1
      rw[hs0,hs1,hs2,hs3] at hnx
      have HS0:=Lib.hid hs0
      have HS1:=Lib.hid hs1
      have HS2:=Lib.hid hs2
      have HS3:=Lib.hid hs3
      clear hs0 hs1 hs2 hs3
      have HO:=Lib.hid ho
      have HJ:=Lib.hid hj
      have HNX:=Lib.hid hnx
      have hbig:w.heap.size<wr.heap.size:=ho.row.lt
      have hil:1≤i:=by omega
      clear hj hnx hcell ho
      obtain⟨r,hr⟩:∃r,i%4=r:=⟨_,rfl⟩
      have hmod:(i:Int).tmod 4=(r:Int):=by rw[Int.tmod_eq_emod_of_nonneg (by omega)];omega
      have HR:=Lib.hid hr
      clear hr
      go_upto_if 52 with (fail)
      clear hmod
      go_cut [] from 51 to 92 (fun wx=>Bk wx wr.heap.size 318 (nx 4 E i)∧Wst w.heap.size w wx E (i*4))
      case first=>
       by_cases hr0:r=0
       · subst hr0
         obtain⟨q,hq⟩:∃q,i=4*(q+1):=⟨i/4-1,by have:=HR.out;omega⟩
         have hq0:IntKind.i64.wrap ((i:Int)/4)=(q:Int)+1:=by rw[IntWalk.i64_in _ (by omega)];omega
         have hq1:IntKind.i64.wrap (q:Int)=(q:Int):=by rw[IntWalk.i64_in _ (by omega)]
         have hq2:IntKind.u32.wrap (q:Int)=(q:Int):=wrap_u32 _ (by omega) (by omega)
         have HQ:=Lib.hid hq
         have hq15:q<16:=by omega
         clear hq
         obtain⟨g,hg⟩:∃g,gpow 2 q=g:=⟨_,rfl⟩
         have hgb:=gpow_lt q hq15
         rw[hg] at hgb
         have hxo:=bits_xor_u8 s1 g hsb1 hgb
         have HG:=Lib.hid hg
         clear hg
         obtain⟨y,hy⟩:∃y,s1 ^^^ g=y:=⟨_,rfl⟩
         rw[hy] at hxo
         have HY:=Lib.hid hy
         clear hy
         go_wp2_with fail
         refine wp_quiet_tail_drew 20 (by kernel_rfl) (by kernel_rfl) ?_
         simp only[List.take_succ_cons,List.take_zero,List.drop_succ_cons,List.drop_zero]
         repeat (quiet_step (first
          | (go_at_call_of 216 (Value.int .u8 (t0:Int));exact Calls.quiet_of (sub_at t0 hb0 HS0 _))
          | (go_at_call_of 216 (Value.int .u8 (t1:Int));exact Calls.quiet_of (sub_at t1 hb1 HS1 _))
          | (go_at_call_of 216 (Value.int .u8 (t2:Int));exact Calls.quiet_of (sub_at t2 hb2 HS2 _))
          | (go_at_call_of 216 (Value.int .u8 (t3:Int));exact Calls.quiet_of (sub_at t3 hb3 HS3 _))
          | (go_at_call 246;exact Calls.quiet_of_same (same_of (pow2_any q hq15 HG _)))))
         refine wpQuiet_nil ?_
         intro _ hw'
         obtain⟨nq,rfl⟩:=hw'
         go_wp2
         go_meet
         have hn:nx 4 E i=[y,s2,s3,s0]:=by
          rw[HNX.out,if_pos HR.out,←HY.out,←HG.out,show i/4-1=q from by have:=HQ.out;omega]
         rw[hn]
         exact⟨((((Bk.new wr 318 [t0,t1,t2,t3]).drewN nq).set 0 y).set 1 s2 |>.set 2 s3 |>.set 3 s0),((((HO.out.alloc _).drewN nq).far hbig _).far hbig _ |>.far hbig _ |>.far hbig _)⟩
       · have hri:¬(r:Int)=0:=by omega
         go_wp2
         go_meet
         have hn:nx 4 E i=[t0,t1,t2,t3]:=by
          rw[HNX.out,if_neg (by have:=HR.out;omega),if_neg (by omega)]
         rw[hn]
         exact⟨Bk.new wr 318 [t0,t1,t2,t3],HO.out.alloc _⟩
      case rest=>
       obtain⟨hu,hw⟩:=hcut
       clear HO
       generalize wr.heap.size=g7 at *
       have hul:(nx 4 E i).length=4:=nx_len _ _ _
       have hub:=nx_byt (k:=4) HE.out.byt (by omega) hlt
       have HNE:=Lib.hid (HE.out.next i (by omega) hlt)
       generalize nx 4 E i=U at hu hul hub HNX HNE
       have HUL:=Lib.hid hul
       have HU:=Lib.hid hu
       have HW:=Lib.hid hw
       clear hu hw hul
       go_wp2_with fail
       go_loopw [93] (fun v wr=>∃p:Nat,p≤4∧v = .int .i64 p∧Bk wr g7 318 U∧Wst w.heap.size w wr E (i*4+p)) (fun v _=>4-(intOf v).toNat)
       case atStart=>exact⟨0,by omega,rfl,HU.out,HW.out⟩
       case round=>
        obtain⟨p,hp,rfl,hu,ho⟩:=hrel
        clear HU HW
        by_cases hlp:p<4
        · have hpi:(p:Int)<4:=by omega
          obtain⟨d,hd⟩:∃d,i=d+4:=⟨i-4,by omega⟩
          have hd1:IntKind.i64.wrap ((i:Int)-4)=(d:Int):=by rw[IntWalk.i64_in _ (by omega)];omega
          have hd2:(d:Int)<44:=by omega
          have c1:=hu.cell (k:=p) (by rw[HUL.out];exact hlp)
          have c2:wr.cell? ⟨w.heap.size,d*4+p,none⟩=some (.int .u8 (at' E (4*(i-4)+p):Nat)):=by
           rw[ho.row.cell (k:=d*4+p) (by rw[upd_len,zeros_len,HL.out];omega),upd_get _ _ _ _ (by rw[zeros_len,HL.out];omega),if_pos (by omega),show 4*(i-4)+p=d*4+p from by omega]
          have c3:=ho.row.cell (k:=i*4+p) (by rw[upd_len,zeros_len,HL.out];omega)
          have f1:=ho.row.free (i*4+p)
          have hzx:=hub.at' p
          have hzy:=HE.out.byt.at' (4*(i-4)+p)
          have hne:=HNE.out p hlp
          change wr.cell? ⟨g7,p,none⟩=some (.int .u8 (at' U p:Nat)) at c1
          generalize at' U p=zx at c1 hzx hne
          generalize at' E (4*(i-4)+p)=zy at c2 hzy hne
          have hxo:=bits_xor_u8 zx zy hzx hzy
          have hst:=ho.step (x:=zx ^^^ zy) (by rw[HL.out];omega) (by rw[←hne,Nat.mul_comm])
          have HST:=Lib.hid hst
          have hu2:=hu.drew.far (c:=w.heap.size) (k:=i*4+p) (by omega) (.int .u8 ((zx ^^^ zy:Nat):Int))
          have HU2:=Lib.hid hu2
          have HD:=Lib.hid hd
          clear hst hu2 hu ho hne hd
          go_wp2_with fail
          refine wp_still_tail 17 (by kernel_rfl) (by kernel_rfl) ?_
          simp only[List.take_succ_cons,List.take_zero,List.drop_succ_cons,List.drop_zero]
          repeat still_step
          refine wpStill_nil ?_
          clear hd1
          go_wp2
          go_roundw
          case rel=>exact⟨p+1,by omega,by go_num,HU2.out,HST.out⟩
          case measure=>simp[intOf];omega
        · obtain rfl:p=4:=by omega
          have HO4:=Lib.hid ho
          clear ho hu
          go_wp2
          go_roundw
          case rel=>exact⟨i+1,by omega,by go_num,by rw[Nat.add_mul];exact HO4.out⟩
          case measure=>simp[intOf];omega
  · obtain rfl:i=44:=by omega
    have h1:=ho.row
    have e1:upd (at' E) (zeros E.length) (44*4)=E:=by
     have hh:=upd_all (at' E) (zeros E.length)
     rw[zeros_len,HL.out] at hh
     rw[HL.out]
     refine hh.trans ?_
     apply List.ext_getElem (by simp[HL.out])
     intro j h1 h2
     simp[at',List.getElem?_eq_getElem h2]
    rw[e1] at h1
    have H1:=Lib.hid h1
    have HB2:=Lib.hid ho.below
    clear h1 ho e1
    go_wp2
    go_ret2
    exact⟨rfl,H1.out,HB2.out⟩
set_option maxRecDepth 100000 in
theorem words8_any (l:List Nat) (A:Option Addr) (c:Nat) (w:World) (hin:IsB w A 32 c l):
 Calls Tryz.prog 215 #[.slice A 32 c] w fun e w'=>e = .returned (.tuple #[.slice (some ⟨w.heap.size,0,none⟩) 60 60,.int .i64 0])∧Bk w' w.heap.size 318 (wordsAll 8 l)∧Below w.heap.size w w':=by
 have hE:=wordsAll_exp (k:=8) (key:=l) (by omega) (by rw[hin.len]) hin.2
 generalize wordsAll 8 l=E at hE
 obtain⟨x,rfl,hxb,hx⟩:=hin.cell (by omega)
 have hc:=hin.1.lenCap
 have hcm:=hin.1.capMax
 have hlen:E.length=240:=hE.len
 have hmk:∀W:World,(Instr.makeSlice 291 (.int .i64 60) (.int .i64 60)).run Tryz.prog W = .ok (.slice (some ⟨W.heap.size,0,none⟩) 60 60) (W.alloc (.cells (bts (zeros (4*60))) 318)):=make_words 60 (by omega) (by kernel_rfl)
 have HX:=Lib.hid hx
 have HE:=Lib.hid hE
 have HI:=Lib.hid hin
 have HL:=Lib.hid hlen
 have hst:Wst w.heap.size w (w.alloc (.cells (bts (zeros (4*60))) 318)) E 0:=by
  have:=Wst.start (w:=w) (E:=E)
  rw[hlen] at this
  exact this
 have HST:=Lib.hid hst
 clear hx hE hin hlen hst
 go_enter Tryz.func215,Tryz.ntmps215
 go_wp2_with fail
 go_loopw [26] (fun j wr=>∃i:Nat,i≤60∧j = .int .i64 i∧Wst w.heap.size w wr E (i*4)) (fun j _=>60-(intOf j).toNat)
 case atStart=>exact⟨0,by omega,rfl,HST.out⟩
 case round=>
  obtain⟨i,hi,rfl,ho⟩:=hrel
  clear HST hmk
  by_cases hlt:i<60
  · have hlti : (i:Int)<60:=by omega
    by_cases hk:i<8
    · have hki:(i:Int)<8:=by omega
      have hkd:decide ((i:Int)<8)=true:=by simpa using hki
      have hcut:=fun W=>sl_cut4 W x 32 c i (by omega) hc
      have ha4:=arr4
      have hx0:=(HI.out.below ho.below).some (4*i) (by omega)
      have hx1:wr.cell? ⟨(x.add (4*i)).block,(x.add (4*i)).off+1,none⟩=_:=(congrArg wr.cell? (addr_add x (4*i) 1)).trans ((HI.out.below ho.below).some (4*i+1) (by omega))
      have hx2:wr.cell? ⟨(x.add (4*i)).block,(x.add (4*i)).off+2,none⟩=_:=(congrArg wr.cell? (addr_add x (4*i) 2)).trans ((HI.out.below ho.below).some (4*i+2) (by omega))
      have hx3:wr.cell? ⟨(x.add (4*i)).block,(x.add (4*i)).off+3,none⟩=_:=(congrArg wr.cell? (addr_add x (4*i) 3)).trans ((HI.out.below ho.below).some (4*i+3) (by omega))
      have hl:l.length=32:=HI.out.len
      have e0:at' l (4*i)=at' E (i*4):=by rw[HE.out.own _ (by omega),Nat.mul_comm]
      have e1:at' l (4*i+1)=at' E (i*4+1):=by rw[HE.out.own _ (by omega),Nat.mul_comm]
      have e2:at' l (4*i+2)=at' E (i*4+2):=by rw[HE.out.own _ (by omega),Nat.mul_comm]
      have e3:at' l (4*i+3)=at' E (i*4+3):=by rw[HE.out.own _ (by omega),Nat.mul_comm]
      rw[e0] at hx0
      rw[e1] at hx1
      rw[e2] at hx2
      rw[e3] at hx3
      have c0:=ho.row.cell (k:=i*4) (by rw[upd_len,zeros_len,HL.out];omega)
      have c1:=ho.row.cell (k:=i*4+1) (by rw[upd_len,zeros_len,HL.out];omega)
      have c2:=ho.row.cell (k:=i*4+2) (by rw[upd_len,zeros_len,HL.out];omega)
      have c3:=ho.row.cell (k:=i*4+3) (by rw[upd_len,zeros_len,HL.out];omega)
      have f0:=ho.row.free (i*4)
      have f1:=ho.row.free (i*4+1)
      have f2:=ho.row.free (i*4+2)
      have f3:=ho.row.free (i*4+3)
      have hst:=((((ho.step' (by rw[HL.out];omega) rfl).step' (by rw[HL.out];omega) rfl).step' (by rw[HL.out];omega) rfl).step' (by rw[HL.out];omega) rfl)
      clear e0 e1 e2 e3 hl ho
      generalize at' E (i*4)=a0 at *
      generalize at' E (i*4+1)=a1 at *
      generalize at' E (i*4+2)=a2 at *
      generalize at' E (i*4+3)=a3 at *
      have HST:=Lib.hid hst
      clear hst
      go_wp2
      go_roundw
      case rel=>exact⟨i+1,by omega,by go_num,by rw[Nat.add_mul];exact HST.out⟩
      case measure=>simp[intOf];omega
    · have hki:¬(i:Int)<8:=by omega
      obtain⟨j,hj⟩:∃j,i=j+1:=⟨i-1,by omega⟩
      have hj1:(i:Int)-1=(j:Int):=by omega
      have hj2:(j:Int)<60:=by omega
      have hcell:∀p,p<4→wr.cell? ⟨w.heap.size,j*4+p,none⟩=some (.int .u8 (at' E (4*(i-1)+p):Nat)):=by
       intro p hp
       rw[ho.row.cell (k:=j*4+p) (by rw[upd_len,zeros_len,HL.out];omega),upd_get _ _ _ _ (by rw[zeros_len,HL.out];omega),if_pos (by omega),show 4*(i-1)+p=j*4+p from by omega]
      have c0:=hcell 0 (by omega)
      have c1:=hcell 1 (by omega)
      have c2:=hcell 2 (by omega)
      have c3:=hcell 3 (by omega)
      rw[Nat.add_zero] at c0 c1 c2 c3
      have hb0:=HE.out.byt.at' (4*(i-1))
      have hb1:=HE.out.byt.at' (4*(i-1)+1)
      have hb2:=HE.out.byt.at' (4*(i-1)+2)
      have hb3:=HE.out.byt.at' (4*(i-1)+3)
      have hnx:nx 8 E i=nx 8 E i:=rfl
      conv at hnx=>rhs;unfold nx
      generalize at' E (4*(i-1))=t0 at *
      generalize at' E (4*(i-1)+1)=t1 at *
      generalize at' E (4*(i-1)+2)=t2 at *
      generalize at' E (4*(i-1)+3)=t3 at *
      obtain⟨s0,hs0⟩:∃s,sbox t0=s:=⟨_,rfl⟩
      obtain⟨s1,hs1⟩:∃s,sbox t1=s:=⟨_,rfl⟩
      obtain⟨s2,hs2⟩:∃s,sbox t2=s:=⟨_,rfl⟩
      obtain⟨s3,hs3⟩:∃s,sbox t3=s:=⟨_,rfl⟩
      have hsb1:=sbox_lt t1 hb1
      rw[hs1] at hsb1
      rw[hs0,hs1,hs2,hs3] at hnx
      have HS0:=Lib.hid hs0
      have HS1:=Lib.hid hs1
      have HS2:=Lib.hid hs2
      have HS3:=Lib.hid hs3
      clear hs0 hs1 hs2 hs3
      have HO:=Lib.hid ho
      have HJ:=Lib.hid hj
      have HNX:=Lib.hid hnx
      have hbig:w.heap.size<wr.heap.size:=ho.row.lt
      have hil:1≤i:=by omega
      clear hj hnx hcell ho
      obtain⟨r,hr⟩:∃r,i%8=r:=⟨_,rfl⟩
      have hmod:(i:Int).tmod 8=(r:Int):=by rw[Int.tmod_eq_emod_of_nonneg (by omega)];omega
      have HR:=Lib.hid hr
      clear hr
      go_upto_if 52 with (fail)
      go_cut [] from 51 to 92 (fun wx=>Bk wx wr.heap.size 318 (nx 8 E i)∧Wst w.heap.size w wx E (i*4))
      case first=>
       by_cases hr0:r=0
       · subst hr0
         obtain⟨q,hq⟩:∃q,i=8*(q+1):=⟨i/8-1,by have:=HR.out;omega⟩
         have hq0:IntKind.i64.wrap ((i:Int)/8)=(q:Int)+1:=by rw[IntWalk.i64_in _ (by omega)];omega
         have hq1:IntKind.i64.wrap (q:Int)=(q:Int):=by rw[IntWalk.i64_in _ (by omega)]
         have hq2:IntKind.u32.wrap (q:Int)=(q:Int):=wrap_u32 _ (by omega) (by omega)
         have HQ:=Lib.hid hq
         have hq15:q<16:=by omega
         clear hq
         obtain⟨g,hg⟩:∃g,gpow 2 q=g:=⟨_,rfl⟩
         have hgb:=gpow_lt q hq15
         rw[hg] at hgb
         have hxo:=bits_xor_u8 s1 g hsb1 hgb
         have HG:=Lib.hid hg
         clear hg
         obtain⟨y,hy⟩:∃y,s1 ^^^ g=y:=⟨_,rfl⟩
         rw[hy] at hxo
         have HY:=Lib.hid hy
         clear hy
         go_wp2_with fail
         refine wp_quiet_tail_drew 20 (by kernel_rfl) (by kernel_rfl) ?_
         simp only[List.take_succ_cons,List.take_zero,List.drop_succ_cons,List.drop_zero]
         repeat (quiet_step (first
          | (go_at_call_of 216 (Value.int .u8 (t0:Int));exact Calls.quiet_of (sub_at t0 hb0 HS0 _))
          | (go_at_call_of 216 (Value.int .u8 (t1:Int));exact Calls.quiet_of (sub_at t1 hb1 HS1 _))
          | (go_at_call_of 216 (Value.int .u8 (t2:Int));exact Calls.quiet_of (sub_at t2 hb2 HS2 _))
          | (go_at_call_of 216 (Value.int .u8 (t3:Int));exact Calls.quiet_of (sub_at t3 hb3 HS3 _))
          | (go_at_call 246;exact Calls.quiet_of_same (same_of (pow2_any q hq15 HG _)))))
         refine wpQuiet_nil ?_
         intro _ hw'
         obtain⟨nq,rfl⟩:=hw'
         go_wp2
         go_meet
         have hn:nx 8 E i=[y,s2,s3,s0]:=by
          rw[HNX.out,if_pos HR.out,←HY.out,←HG.out,show i/8-1=q from by have:=HQ.out;omega]
         rw[hn]
         exact⟨((((Bk.new wr 318 [t0,t1,t2,t3]).drewN nq).set 0 y).set 1 s2 |>.set 2 s3 |>.set 3 s0),((((HO.out.alloc _).drewN nq).far hbig _).far hbig _ |>.far hbig _ |>.far hbig _)⟩
       · have hri:¬(r:Int)=0:=by omega
         by_cases hr4:r=4
         · have hri4:(r:Int)=4:=by omega
           subst hr4
           go_wp2_with fail
           refine wp_quiet_tail_drew 13 (by kernel_rfl) (by kernel_rfl) ?_
           simp only[List.take_succ_cons,List.take_zero,List.drop_succ_cons,List.drop_zero]
           repeat (quiet_step (first
            | (go_at_call_of 216 (Value.int .u8 (t0:Int));exact Calls.quiet_of (sub_at t0 hb0 HS0 _))
            | (go_at_call_of 216 (Value.int .u8 (t1:Int));exact Calls.quiet_of (sub_at t1 hb1 HS1 _))
            | (go_at_call_of 216 (Value.int .u8 (t2:Int));exact Calls.quiet_of (sub_at t2 hb2 HS2 _))
            | (go_at_call_of 216 (Value.int .u8 (t3:Int));exact Calls.quiet_of (sub_at t3 hb3 HS3 _))))
           refine wpQuiet_nil ?_
           intro _ hw'
           obtain⟨nq,rfl⟩:=hw'
           go_wp2
           go_meet
           have hn:nx 8 E i=[s0,s1,s2,s3]:=by
            rw[HNX.out,if_neg (by have:=HR.out;omega),if_pos (by refine⟨?_,HR.out⟩;trivial)]
           rw[hn]
           exact⟨((((Bk.new wr 318 [t0,t1,t2,t3]).drewN nq).set 0 s0).set 1 s1 |>.set 2 s2 |>.set 3 s3),((((HO.out.alloc _).drewN nq).far hbig _).far hbig _ |>.far hbig _ |>.far hbig _)⟩
         · have hri4:¬(r:Int)=4:=by omega
           go_wp2
           go_meet
           have hn:nx 8 E i=[t0,t1,t2,t3]:=by
            rw[HNX.out,if_neg (by have:=HR.out;omega),if_neg (by have:=HR.out;omega)]
           rw[hn]
           exact⟨Bk.new wr 318 [t0,t1,t2,t3],HO.out.alloc _⟩
      case rest=>
       obtain⟨hu,hw⟩:=hcut
       clear HO
       generalize wr.heap.size=g7 at *
       have hul:(nx 8 E i).length=4:=nx_len _ _ _
       have hub:=nx_byt (k:=8) HE.out.byt (by omega) hlt
       have HNE:=Lib.hid (HE.out.next i (by omega) hlt)
       generalize nx 8 E i=U at hu hul hub HNX HNE
       have HUL:=Lib.hid hul
       have HU:=Lib.hid hu
       have HW:=Lib.hid hw
       clear hu hw hul
       go_wp2_with fail
       go_loopw [93] (fun v wr=>∃p:Nat,p≤4∧v = .int .i64 p∧Bk wr g7 318 U∧Wst w.heap.size w wr E (i*4+p)) (fun v _=>4-(intOf v).toNat)
       case atStart=>exact⟨0,by omega,rfl,HU.out,HW.out⟩
       case round=>
        obtain⟨p,hp,rfl,hu,ho⟩:=hrel
        clear HU HW
        by_cases hlp:p<4
        · have hpi:(p:Int)<4:=by omega
          obtain⟨d,hd⟩:∃d,i=d+8:=⟨i-8,by omega⟩
          have hd1:IntKind.i64.wrap ((i:Int)-8)=(d:Int):=by rw[IntWalk.i64_in _ (by omega)];omega
          have hd2:(d:Int)<60:=by omega
          have c1:=hu.cell (k:=p) (by rw[HUL.out];exact hlp)
          have c2:wr.cell? ⟨w.heap.size,d*4+p,none⟩=some (.int .u8 (at' E (4*(i-8)+p):Nat)):=by
           rw[ho.row.cell (k:=d*4+p) (by rw[upd_len,zeros_len,HL.out];omega),upd_get _ _ _ _ (by rw[zeros_len,HL.out];omega),if_pos (by omega),show 4*(i-8)+p=d*4+p from by omega]
          have c3:=ho.row.cell (k:=i*4+p) (by rw[upd_len,zeros_len,HL.out];omega)
          have f1:=ho.row.free (i*4+p)
          have hzx:=hub.at' p
          have hzy:=HE.out.byt.at' (4*(i-8)+p)
          have hne:=HNE.out p hlp
          change wr.cell? ⟨g7,p,none⟩=some (.int .u8 (at' U p:Nat)) at c1
          generalize at' U p=zx at c1 hzx hne
          generalize at' E (4*(i-8)+p)=zy at c2 hzy hne
          have hxo:=bits_xor_u8 zx zy hzx hzy
          have hst:=ho.step (x:=zx ^^^ zy) (by rw[HL.out];omega) (by rw[←hne,Nat.mul_comm])
          have HST:=Lib.hid hst
          have hu2:=hu.drew.far (c:=w.heap.size) (k:=i*4+p) (by omega) (.int .u8 ((zx ^^^ zy:Nat):Int))
          have HU2:=Lib.hid hu2
          have HD:=Lib.hid hd
          clear hst hu2 hu ho hne hd
          go_wp2_with fail
          refine wp_still_tail 17 (by kernel_rfl) (by kernel_rfl) ?_
          simp only[List.take_succ_cons,List.take_zero,List.drop_succ_cons,List.drop_zero]
          repeat still_step
          refine wpStill_nil ?_
          clear hd1
          go_wp2
          go_roundw
          case rel=>exact⟨p+1,by omega,by go_num,HU2.out,HST.out⟩
          case measure=>simp[intOf];omega
        · obtain rfl:p=4:=by omega
          have HO4:=Lib.hid ho
          clear ho hu
          go_wp2
          go_roundw
          case rel=>exact⟨i+1,by omega,by go_num,by rw[Nat.add_mul];exact HO4.out⟩
          case measure=>simp[intOf];omega
  · obtain rfl:i=60:=by omega
    have h1:=ho.row
    have e1:upd (at' E) (zeros E.length) (60*4)=E:=by
     have hh:=upd_all (at' E) (zeros E.length)
     rw[zeros_len,HL.out] at hh
     rw[HL.out]
     refine hh.trans ?_
     apply List.ext_getElem (by simp[HL.out])
     intro j h1 h2
     simp[at',List.getElem?_eq_getElem h2]
    rw[e1] at h1
    have H1:=Lib.hid h1
    have HB2:=Lib.hid ho.below
    clear h1 ho e1
    go_wp2
    go_ret2
    exact⟨rfl,H1.out,HB2.out⟩
set_option maxRecDepth 100000 in
theorem words_bad (A:Option Addr) (n c:Nat) (h:n≠16) (h':n≠32) (w:World):
 Calls Tryz.prog 215 #[.slice A n c] w fun e w'=>e = .returned (.tuple #[.slice none 0 0,.int .i64 2])∧w=w':=by
 have h1:((n:Int) != 16)=true:=by simp;omega
 have h2:((n:Int) != 32)=true:=by simp;omega
 go_enter Tryz.func215,Tryz.ntmps215
 go_wp2
 go_ret2
 exact⟨rfl,rfl⟩
theorem new_bad (A:Option Addr) (n c:Nat) (h:n≠16) (h':n≠32) (w:World):
 Calls Tryz.prog 183 #[.slice A n c] w fun e w'=>e = .returned (.tuple #[.pointer none,.int .i64 2])∧w=w':=by
 go_enter Tryz.func183,Tryz.ntmps183
 go_wp2_with fail
 refine (words_bad A n c h h' w).mono ?_
 rintro e w' ⟨rfl,rfl⟩
 go_wp2
 go_ret2
 exact⟨rfl,rfl⟩
def cipL (i:Nat):List Nat:=(List.range 512).map fun k=>if k<256 then (if k<i then sbox k else 0) else (if sinv (k-256)<i then sinv (k-256) else 0)
def cipC (v:Value) (i:Nat):Array Value:=#[v]++bts (cipL i)
theorem cipL_len (i:Nat):(cipL i).length=512:=by simp[cipL]
theorem cipL_at (i k:Nat) (h:k<512):at' (cipL i) k=if k<256 then (if k<i then sbox k else 0) else (if sinv (k-256)<i then sinv (k-256) else 0):=by
 simp[at',cipL,h]
set_option maxRecDepth 100000 in
theorem cipL_zero:cipL 0=zeros 512:=by
 show (List.range 512).map _=List.replicate 512 0
 rw[List.eq_replicate_iff]
 refine⟨by rw[List.length_map,List.length_range],fun b hb=>?_⟩
 obtain⟨k,_,rfl⟩:=List.mem_map.1 hb
 split <;> rfl
theorem cipL_step (i:Nat) (hi:i<256):((cipL i).set i (sbox i)).set (256+sbox i) i=cipL (i+1):=by
 apply List.ext_getElem (by simp[cipL])
 intro k h1 h2
 have hk:k<512:=by rw[cipL_len] at h2;exact h2
 have e:∀j (h:k<(cipL j).length),(cipL j)[k]=at' (cipL j) k:=fun j h=>by simp[at',List.getElem?_eq_getElem h]
 have hs:=sbox_lt i hi
 rw[List.getElem_set,List.getElem_set]
 rw[e (i+1) h2,e i (by rw[cipL_len];exact hk),cipL_at _ _ hk,cipL_at _ _ hk]
 by_cases h1:256+sbox i=k
 · rw[if_pos h1,if_neg (by omega),show k-256=sbox i from by omega,sinv_sbox i hi,if_pos (by omega)]
 · rw[if_neg h1]
   by_cases h2:i=k
   · subst h2
     rw[if_pos rfl,if_pos hi,if_pos (by omega)]
   · rw[if_neg h2]
     by_cases h3:k<256
     · rw[if_pos h3,if_pos h3]
       have:(k<i+1)↔k<i:=by omega
       simp[this]
     · rw[if_neg h3,if_neg h3]
       have hne:sinv (k-256)≠i:=by
        intro e
        have:=sbox_sinv (k-256) (by omega)
        rw[e] at this
        omega
       have:(sinv (k-256)<i+1)↔sinv (k-256)<i:=by omega
       simp[this]
theorem cipZ (v:Value):Tryz.zeroCells295.setIfInBounds 0 v=cipC v 0:=by
 have h:Tryz.zeroCells295 = #[Value.slice none 0 0]++bts (zeros 512):=by kernel_rfl
 rw[h,cipC,cipL_zero]
 apply Array.ext
 · simp
 · intro i h1 h2
   rw[Array.getElem_setIfInBounds (by simpa using h2)]
   by_cases h0:0=i
   · subst h0
     simp
   · rw[if_neg h0,Array.getElem_append_right (by simp;omega),Array.getElem_append_right (by simp;omega)]
     simp
theorem cipC_get (v:Value) (i k:Nat) (hk:k<512):(cipC v i)[k+1]? = some (.int .u8 (at' (cipL i) k:Nat)):=by
 have:=bts_get (cipL i) k (by rw[cipL_len];exact hk)
 rw[cipC,Array.getElem?_append_right (by simp)]
 simpa[at'] using this
theorem cipC_zero (v:Value) (i:Nat):(cipC v i)[0]? = some v:=by
 rw[cipC,Array.getElem?_append_left (by simp)]
 rfl
theorem cipC_set (v:Value) (l:List Nat) (k x:Nat):(#[v]++bts l).setIfInBounds (k+1) (.int .u8 (x:Int)) = #[v]++bts (l.set k x):=by
 apply Array.toList_inj.1
 simp[bts,List.map_set]
structure Cip (w:World) (g:Nat) (v:Value) (i:Nat):Prop where
 row:w.heap[g]? = some (.cells (cipC v i) 295 (0,0))
theorem Cip.lt {w:World} {g:Nat} {v:Value} {i:Nat} (h:Cip w g v i):g<w.heap.size:=lt_of_block h.row
theorem Cip.cell {w:World} {g:Nat} {v:Value} {i:Nat} (h:Cip w g v i) {k:Nat} (hk:k<512):w.cell? ⟨g,k+1,none⟩=some (.int .u8 (at' (cipL i) k:Nat)):=by
 rw[cell_of_row w g (k+1) _ _ (0,0) h.row,cipC_get v i k hk]
theorem Cip.head {w:World} {g:Nat} {v:Value} {i:Nat} (h:Cip w g v i):w.cell? ⟨g,0,none⟩=some v:=by
 rw[cell_of_row w g 0 _ _ (0,0) h.row,cipC_zero]
theorem Cip.free {w:World} {g:Nat} {v:Value} {i:Nat} (h:Cip w g v i) (k:Nat):w.frozen? ⟨g,k,none⟩=false:=frozen_of_row w g k _ _ h.row
theorem Cip.below {w w':World} {g B:Nat} {v:Value} {i:Nat} (h:Cip w g v i) (hb:Below B w w') (hB:g<B):Cip w' g v i:=⟨(hb.block g hB).trans h.row⟩
theorem Cip.drewN {w:World} {g:Nat} {v:Value} {i:Nat} (h:Cip w g v i) (m:Nat):Cip (w.drewN m) g v i:=⟨h.row⟩
theorem Cip.step {w:World} {g:Nat} {v:Value} {i:Nat} (h:Cip w g v i) (hi:i<256) {s:Nat} (hs:sbox i=s):
 Cip ((w.setCell ⟨g,1+i,none⟩ (.int .u8 (s:Int))).setCell ⟨g,257+s,none⟩ (.int .u8 (i:Int))) g v (i+1):=by
 subst hs
 have h1:=heap_setCell_same w g (i+1) _ _ (.int .u8 ((sbox i:Nat):Int)) h.row
 rw[cipC,cipC_set] at h1
 have h2:=heap_setCell_same _ g (256+sbox i+1) _ _ (.int .u8 (i:Int)) h1
 rw[cipC_set,cipL_step i hi] at h2
 rw[show 257+sbox i=256+sbox i+1 from by omega,Nat.add_comm 1 i]
 exact⟨h2⟩
theorem Cip.tabs {w:World} {g:Nat} {v:Value} (h:Cip w g v 256):TabAt w g 1 sbox∧TabAt w g 257 sinv:=by
 refine⟨⟨h.lt,fun x hx=>?_⟩,⟨h.lt,fun x hx=>?_⟩⟩
 · rw[Nat.add_comm,h.cell (by omega),cipL_at _ _ (by omega),if_pos hx,if_pos hx]
 · rw[show 257+x=256+x+1 from by omega,h.cell (by omega),cipL_at _ _ (by omega),if_neg (by omega),show 256+x-256=x from by omega,if_pos (sinv_lt x hx)]
set_option maxRecDepth 100000 in
theorem new4_any (l:List Nat) (A:Option Addr) (c:Nat) (w:World) (hin:IsB w A 16 c l):
 Calls Tryz.prog 183 #[.slice A 16 c] w fun e w'=>∃b g,e = .returned (.tuple #[.pointer (some ⟨g,0,none⟩),.int .i64 0])∧b<g∧w.heap.size≤b∧Bk w' b 318 (wordsAll 4 l)∧Cip w' g (.slice (some ⟨b,0,none⟩) 44 44) 256∧Below w.heap.size w w':=by
 go_enter Tryz.func183,Tryz.ntmps183
 go_wp2_with fail
 refine (words4_any l A c w hin).mono ?_
 rintro e w1 ⟨rfl,hW,hb⟩
 have hbig:=hW.lt
 have HW:=Lib.hid hW
 have HB:=Lib.hid hb
 clear hW hb
 go_upto_region 5 with fail
 rw[cipZ]
 have hcip:Cip (w1.alloc (.cells (cipC (Value.slice (some ⟨w.heap.size,0,none⟩) 44 44) 0) 295)) w1.heap.size (Value.slice (some ⟨w.heap.size,0,none⟩) 44 44) 0:=⟨heap_alloc_new w1 _⟩
 have hbl:Below w1.heap.size w1 (w1.alloc (.cells (cipC (Value.slice (some ⟨w.heap.size,0,none⟩) 44 44) 0) 295)):=(Below.refl _ _).alloc (Nat.le_refl _) _
 have HC:=Lib.hid hcip
 have HBL:=Lib.hid hbl
 clear hcip hbl
 generalize cipC (Value.slice (some ⟨w.heap.size,0,none⟩) 44 44) 0=cells at HC HBL⊢
 go_wp2_with fail
 go_loopw [20] (fun j wr=>∃i:Nat,i≤256∧j = .int .i64 i∧Cip wr w1.heap.size (Value.slice (some ⟨w.heap.size,0,none⟩) 44 44) i∧Below w1.heap.size w1 wr) (fun j _=>256-(intOf j).toNat)
 case atStart=>exact⟨0,by omega,rfl,HC.out,HBL.out⟩
 case round=>
  obtain⟨i,hi,rfl,ho,hbr⟩:=hrel
  clear HC HBL
  by_cases hlt:i<256
  · have hlti:(i:Int)<256:=by omega
    have hu8:IntKind.u8.wrap (i:Int)=(i:Int):=by show (i:Int)%256=(i:Int);omega
    obtain⟨s,hs⟩:∃s,sbox i=s:=⟨_,rfl⟩
    have hsb:s<256:=hs▸sbox_lt i hlt
    have HS:=Lib.hid hs
    have c1:=ho.cell (k:=i) (by omega)
    rw[Nat.add_comm] at c1
    have c2:∀x,x<256→wr.cell? ⟨w1.heap.size,257+s,none⟩=some (.int .u8 (at' (cipL i) (256+s):Nat)):=fun x hx=>by
     rw[show 257+s=(256+s)+1 from by omega]
     exact ho.cell (k:=256+s) (by omega)
    have c2:=c2 0 (by omega)
    have f1:=ho.free (1+i)
    have f2:=ho.free (257+s)
    have HO:=Lib.hid ho
    have HBR:=Lib.hid hbr
    generalize at' (cipL i) i=y1 at c1
    generalize at' (cipL i) (256+s)=y2 at c2
    clear hbr ho hs
    go_wp2_with fail
    refine (sub_at i hlt HS _).mono ?_
    rintro e w' ⟨rfl,m,rfl⟩
    have HST:=Lib.hid ((HO.out.drewN m).step hlt HS.out)
    go_wp2
    go_roundw
    case rel=>exact⟨i+1,by omega,by go_num,HST.out,((below_dn HBR.out m).setCell (Nat.le_refl _) _).setCell (Nat.le_refl _) _⟩
    case measure=>simp[intOf];omega
  · obtain rfl:i=256:=by omega
    have HO:=Lib.hid ho
    have HBR:=Lib.hid hbr
    clear ho hbr
    go_wp2
    go_ret2
    exact⟨w.heap.size,w1.heap.size,rfl,hbig,Nat.le_refl _,Bk.below HW.out HBR.out hbig,HO.out,HB.out.trans (HBR.out.mono (Nat.le_of_lt hbig))⟩
set_option maxRecDepth 100000 in
theorem new8_any (l:List Nat) (A:Option Addr) (c:Nat) (w:World) (hin:IsB w A 32 c l):
 Calls Tryz.prog 183 #[.slice A 32 c] w fun e w'=>∃b g,e = .returned (.tuple #[.pointer (some ⟨g,0,none⟩),.int .i64 0])∧b<g∧w.heap.size≤b∧Bk w' b 318 (wordsAll 8 l)∧Cip w' g (.slice (some ⟨b,0,none⟩) 60 60) 256∧Below w.heap.size w w':=by
 go_enter Tryz.func183,Tryz.ntmps183
 go_wp2_with fail
 refine (words8_any l A c w hin).mono ?_
 rintro e w1 ⟨rfl,hW,hb⟩
 have hbig:=hW.lt
 have HW:=Lib.hid hW
 have HB:=Lib.hid hb
 clear hW hb
 go_upto_region 5 with fail
 rw[cipZ]
 have hcip:Cip (w1.alloc (.cells (cipC (Value.slice (some ⟨w.heap.size,0,none⟩) 60 60) 0) 295)) w1.heap.size (Value.slice (some ⟨w.heap.size,0,none⟩) 60 60) 0:=⟨heap_alloc_new w1 _⟩
 have hbl:Below w1.heap.size w1 (w1.alloc (.cells (cipC (Value.slice (some ⟨w.heap.size,0,none⟩) 60 60) 0) 295)):=(Below.refl _ _).alloc (Nat.le_refl _) _
 have HC:=Lib.hid hcip
 have HBL:=Lib.hid hbl
 clear hcip hbl
 generalize cipC (Value.slice (some ⟨w.heap.size,0,none⟩) 60 60) 0=cells at HC HBL⊢
 go_wp2_with fail
 go_loopw [20] (fun j wr=>∃i:Nat,i≤256∧j = .int .i64 i∧Cip wr w1.heap.size (Value.slice (some ⟨w.heap.size,0,none⟩) 60 60) i∧Below w1.heap.size w1 wr) (fun j _=>256-(intOf j).toNat)
 case atStart=>exact⟨0,by omega,rfl,HC.out,HBL.out⟩
 case round=>
  obtain⟨i,hi,rfl,ho,hbr⟩:=hrel
  clear HC HBL
  by_cases hlt:i<256
  · have hlti:(i:Int)<256:=by omega
    have hu8:IntKind.u8.wrap (i:Int)=(i:Int):=by show (i:Int)%256=(i:Int);omega
    obtain⟨s,hs⟩:∃s,sbox i=s:=⟨_,rfl⟩
    have hsb:s<256:=hs▸sbox_lt i hlt
    have HS:=Lib.hid hs
    have c1:=ho.cell (k:=i) (by omega)
    rw[Nat.add_comm] at c1
    have c2:∀x,x<256→wr.cell? ⟨w1.heap.size,257+s,none⟩=some (.int .u8 (at' (cipL i) (256+s):Nat)):=fun x hx=>by
     rw[show 257+s=(256+s)+1 from by omega]
     exact ho.cell (k:=256+s) (by omega)
    have c2:=c2 0 (by omega)
    have f1:=ho.free (1+i)
    have f2:=ho.free (257+s)
    have HO:=Lib.hid ho
    have HBR:=Lib.hid hbr
    generalize at' (cipL i) i=y1 at c1
    generalize at' (cipL i) (256+s)=y2 at c2
    clear hbr ho hs
    go_wp2_with fail
    refine (sub_at i hlt HS _).mono ?_
    rintro e w' ⟨rfl,m,rfl⟩
    have HST:=Lib.hid ((HO.out.drewN m).step hlt HS.out)
    go_wp2
    go_roundw
    case rel=>exact⟨i+1,by omega,by go_num,HST.out,((below_dn HBR.out m).setCell (Nat.le_refl _) _).setCell (Nat.le_refl _) _⟩
    case measure=>simp[intOf];omega
  · obtain rfl:i=256:=by omega
    have HO:=Lib.hid ho
    have HBR:=Lib.hid hbr
    clear ho hbr
    go_wp2
    go_ret2
    exact⟨w.heap.size,w1.heap.size,rfl,hbig,Nat.le_refl _,Bk.below HW.out HBR.out hbig,HO.out,HB.out.trans (HBR.out.mono (Nat.le_of_lt hbig))⟩
def mixIf (b:Bool) (s:List Nat):List Nat:=if b then colK mix s else s
def rndE (W:List Nat) (R j:Nat) (s:List Nat):List Nat:=addK (mixIf (decide (j<R)) (shiftK 1 (eachK sbox s))) W (16*j)
def encTo (W:List Nat) (R:Nat) (s:List Nat):Nat→List Nat
 | 0=>addK s W 0
 | j+1=>rndE W R (j+1) (encTo W R s j)
def encK (W:List Nat) (R:Nat) (s:List Nat):List Nat:=encTo W R s R
theorem mixIf_byt {b:Bool} {s:List Nat} (h:Byt s):Byt (mixIf b s):=by unfold mixIf;split;exact colK_byt mix_byt;exact h
theorem encTo_len (W:List Nat) (R:Nat) (s:List Nat):∀j,(encTo W R s j).length=16
 | 0=>addK_len _ _ _
 | j+1=>addK_len _ _ _
theorem encTo_byt {W:List Nat} {R:Nat} {s:List Nat} (hW:Byt W) (hs:Byt s):∀j,Byt (encTo W R s j)
 | 0=>addK_byt hs hW _
 | j+1=>addK_byt (mixIf_byt (shiftK_byt (eachK_byt (encTo_byt hW hs j) sbox_lt))) hW _
theorem encK_len (W:List Nat) (R:Nat) (s:List Nat):(encK W R s).length=16:=encTo_len W R s R
theorem encK_byt {W:List Nat} {R:Nat} {s:List Nat} (hW:Byt W) (hs:Byt s):Byt (encK W R s):=encTo_byt hW hs R
structure EncSt (B g:Nat) (w0 w:World) (s:List Nat):Prop where
 cur:Bk w g 297 s
 res:Bk w (B+1) 263 z16
 below:Below B w0 w
 far:B+1<g
theorem EncSt.drew {B g:Nat} {w0 w:World} {s:List Nat} (h:EncSt B g w0 w s):EncSt B g w0 w.drew s:=⟨h.cur.drew,h.res.drew,h.below.drew,h.far⟩
theorem EncSt.call {B g:Nat} {w0 w w1:World} {s:List Nat} (h:EncSt B g w0 w s) (hb:Below w.heap.size w w1):EncSt B g w0 w1 s:=
 ⟨h.cur.below hb h.cur.lt,h.res.below hb h.res.lt,h.below.trans (hb.mono (by have:=h.res.lt;omega)),h.far⟩
theorem EncSt.row {B g:Nat} {w0 w:World} {s:List Nat} (h:EncSt B g w0 w s) (s':List Nat):EncSt B g w0 (w.setRow g (bts s')) s':=
 ⟨h.cur.row s',h.res.rowFar (by have:=h.far;omega) _,Below.row h.below (by have:=h.far;omega) _,h.far⟩
theorem words_elem:Tryz.prog.underlying 291=some (.slice (Tryz.prog.elem 291)):=by kernel_rfl
theorem words_size (W:World):(sizeOf (Tryz.prog.elem 291)).run Tryz.prog W = .ok 4 W:=by
 have h:(Tryz.prog.info? (Tryz.prog.elem 291)).map (·.size)=some 4:=by kernel_rfl
 cases hq:Tryz.prog.info? (Tryz.prog.elem 291) with
 | none=>rw[hq] at h;cases h
 | some i=>rw[hq] at h;simp only[Option.map_some,Option.some.injEq] at h;simp[sizeOf,typeInfo,hq,h]
theorem words_cut (W:World) (b N j:Nat) (h:4*j+4≤N):(Instr.sliceAt 291 (.slice (some ⟨b,0,none⟩) N N) (some (.int .i64 (4*(j:Int)))) (some (.int .i64 (4*(j:Int)+4))) none).run Tryz.prog W = .ok (.slice (some ⟨b,16*j,none⟩) 4 (N-4*j)) W:=by
 rw[run_sliceAt_slice W _ _ _ _ _ words_elem,run_slice_lh W _ _ _ _ words_elem .i64 .i64 (4*(j:Int)) (4*(j:Int)+4) (by omega) (by omega) (by omega),words_size]
 simp only[Result.andThen_ok,sliced]
 rw[if_neg (by omega),show (4*(j:Int)).toNat=4*j from by omega,show (4*(j:Int)+4).toNat-4*j=4 from by omega,Option.map_some,Addr.add_mid,Nat.zero_add,show 4*j*4=16*j from by omega]
set_option maxRecDepth 100000 in
theorem enc_any (g b N R:Nat) (W x:List Nat) (w:World) (hx:Byt x) (lx:x.length=16) (hW:Byt W) (lW:W.length=16*(R+1)) (hN:N=4*(R+1)) (hR:1≤R) (hR2:R≤14) (hC:Cip w g (.slice (some ⟨b,0,none⟩) N N) 256) (hB:Bk w b 318 W):
 Calls Tryz.prog 185 #[.pointer (some ⟨g,0,none⟩),.agg (bts x)] w fun e w'=>e = .returned (.tuple #[.agg (bts (encK W R x)),.int .i64 0])∧Below w.heap.size w w':=by
 have h0:=hC.head
 have hgl:=hC.lt
 have hbl:=hB.lt
 have hgl2:g≠w.heap.size:=by omega
 have hgl3:g≠w.heap.size+1:=by omega
 have hNR:IntKind.i64.wrap ((N:Int)/4)=(R:Int)+1:=by rw[IntWalk.i64_in _ (by omega)];omega
 have hN4:(4:Int)≤(N:Int):=by omega
 have HC:=Lib.hid hC
 have HB:=Lib.hid hB
 have LX:=Lib.hid lx
 have LW:=Lib.hid lW
 have HN:=Lib.hid hN
 clear hC hB lx lW hN
 go_enter Tryz.func185,Tryz.ntmps185
 go_upto_region 4 with (fail)
 go_cut [7] from 19 to 25 (fun v wx=>∃g7,v = .pointer (some ⟨g7,0,none⟩)∧EncSt w.heap.size g7 w wx (addK x W 0))
 case first=>
  obtain⟨w2,hw2⟩:∃w2,(w.alloc (Obj.cells (bts x) 263)).alloc (Obj.cells #[Value.int .u8 0,Value.int .u8 0,Value.int .u8 0,Value.int .u8 0,Value.int .u8 0,Value.int .u8 0,Value.int .u8 0,Value.int .u8 0,Value.int .u8 0,Value.int .u8 0,Value.int .u8 0,Value.int .u8 0,Value.int .u8 0,Value.int .u8 0,Value.int .u8 0,Value.int .u8 0] 263)=w2:=⟨_,rfl⟩
  rw[hw2]
  have hw0:Below w.heap.size w w2:=by rw[←hw2];exact ((Below.refl _ _).alloc (Nat.le_refl _) _).alloc (by simp) _
  have hb0:Bk w2 w.heap.size 263 x:=by rw[←hw2];exact (Bk.newAt _ x rfl).alloc _
  have hb1:Bk w2 (w.heap.size+1) 263 z16:=by rw[←hw2];exact Bk.newAt _ z16 (by simp)
  clear hw2
  refine wp_takes 6 3 (AbW _) rfl (by kernel_rfl) (AbW.refl _) (by kernel_rfl) (by kernel_rfl) (fun _ _ _ d _ h=>by cases d <;> exact h) ?_
  simp only[List.take_succ_cons,List.take_zero]
  have hcell:∀w',AbW w2.drew w'→w'.cell? ⟨g,0,none⟩=some (.slice (some ⟨b,0,none⟩) N N):=fun w' h=>(h.cell (p:=⟨g,0,none⟩) (show g<w2.heap.size from Nat.lt_of_lt_of_le hgl hw0.size)).trans ((hw0.cell (p:=⟨g,0,none⟩) hgl).trans h0)
  have hrow:∀w',AbW w2.drew w'→Bk w' w.heap.size 263 x:=fun w' h=>hb0.drew.below h hb0.lt
  refine takesB_loadB rfl 263 (.tmp 3) rfl _ rfl hrow Tryz.underlying263 (by rw[LX.out];exact sz16) ?_
  refine takesB_step (v:=?v1) rfl ?h1 ?k1
  case h1=>(intro w' hw';have hc:=hcell w' hw';go_simp;rfl)
  refine takesB_step (v:=?v2) rfl ?h2 ?k2
  case h2=>(intro w' hw';have hc:=hcell w' hw';go_simp;rfl)
  refine takesB_step (v:=?v3) rfl ?h3 ?k3
  case h3=>(intro w' hw';have hc:=hcell w' hw';go_simp;rfl)
  refine takesB_step (v:=?v4) rfl ?h4 ?k4
  case h4=>(intro w' hw';have hc:=hcell w' hw';go_simp;rfl)
  refine takesB_step (v:=?v5) rfl ?h5 ?k5
  case h5=>(intro w' hw';have hc:=hcell w' hw';go_simp;rfl)
  refine takesB_nil ?_
  refine wpAnyH_ready (rs:=[6,7]) (by kernel_rfl) (by simp) ?_
  refine AllReadyH.cons (o:=⟨some 25,_,_,_,_,_⟩) rfl (fun K hK=>?_) ?_
  · go_simp
    refine (add_any x W b 0 N hx LX.out hW _ (HB.out.below (hw0.drew) hbl) (by rw[LW.out];omega)).mono ?_
    rintro e w3 ⟨rfl,hb3⟩
    refine hK.out _ _ hb3 (fun hab=>?_)
    clear hK K
    refine wpAnyH_ready (rs:=[7]) (by kernel_rfl) (by simp) ?_
    refine AllReadyH.cons (o:=⟨some 7,_,_,_,_,_⟩) rfl (fun K hK=>?_) AllReadyH.nil
    go_simp
    refine hK.out _ _ (hb3.alloc hb3.size _) (fun _=>?_)
    clear hK K
    have hz:Bk (w3.alloc (.cells (bts z16) 297)) w3.heap.size 297 z16:=Bk.new _ _ _
    have HZ:=Lib.hid hz
    have HA:=Lib.hid (hb3.alloc hb3.size (.cells (bts z16) 297))
    have hsz:w2.heap.size≤w3.heap.size:=hb3.size
    clear hz
    refine wpAnyH_ready (rs:=[8]) (by kernel_rfl) (by simp) ?_
    refine AllReadyH.cons (o:=⟨none,.store _ _ _,_,_,_,_⟩) rfl (fun K hK=>?_) AllReadyH.nil
    rw[if_pos (by rfl)]
    refine wp_storeB 297 (.tmp 7) (.tmp 25) rfl _ rfl (addK x W 0) rfl HZ.out (by rw[addK_len];exact szSt) (by rw[addK_len];rfl) ?_
    refine hK.out _ _ (Below.row HA.out (show w2.heap.size≤w3.heap.size from hsz) _) (fun _=>?_)
    clear hK K
    refine wpAnyH_done (by kernel_rfl) ?_ _
    go_wp2
    go_meet
    exact⟨w3.heap.size,rfl,⟨(Bk.new w3 297 z16).row _,((hb1.drew.below hb3 hb1.lt).alloc _).rowFar (by have:=hb1.lt;omega) _,Below.row ((hw0.drew.trans (hb3.mono hw0.size)).alloc (Nat.le_trans hw0.size hsz) _) (Nat.le_trans hw0.size hsz) _,by have:=hb1.lt;omega⟩⟩
  · refine AllReadyH.cons (o:=⟨some 7,_,_,_,_,_⟩) rfl (fun K hK=>?_) AllReadyH.nil
    go_simp
    have hal:Below w2.drew.heap.size w2.drew (w2.drew.alloc (.cells (bts z16) 297)):=(Below.refl _ _).alloc (Nat.le_refl _) _
    refine hK.out _ _ hal (fun _=>?_)
    clear hK K
    refine wpAnyH_ready (rs:=[6]) (by kernel_rfl) (by simp) ?_
    refine AllReadyH.cons (o:=⟨some 25,_,_,_,_,_⟩) rfl (fun K hK=>?_) AllReadyH.nil
    go_simp
    refine (add_any x W b 0 N hx LX.out hW _ ((HB.out.below (hw0.drew) hbl).below hal (Nat.lt_of_lt_of_le hbl hw0.size)) (by rw[LW.out];omega)).mono ?_
    rintro e w3 ⟨rfl,hb3⟩
    have hw3:Below w2.drew.heap.size w2.drew w3:=hal.trans (hb3.mono hal.size)
    refine hK.out _ _ hw3 (fun _=>?_)
    clear hK K
    have hz:Bk w3 w2.heap.size 297 z16:=(Bk.new w2.drew 297 z16).below hb3 (by simp)
    have HZ:=Lib.hid hz
    have HA:=Lib.hid hw3
    clear hz
    refine wpAnyH_ready (rs:=[8]) (by kernel_rfl) (by simp) ?_
    refine AllReadyH.cons (o:=⟨none,.store _ _ _,_,_,_,_⟩) rfl (fun K hK=>?_) AllReadyH.nil
    rw[if_pos (by rfl)]
    refine wp_storeB 297 (.tmp 7) (.tmp 25) rfl _ rfl (addK x W 0) rfl HZ.out (by rw[addK_len];exact szSt) (by rw[addK_len];rfl) ?_
    refine hK.out _ _ (Below.row HA.out (Nat.le_refl w2.heap.size) _) (fun _=>?_)
    clear hK K
    refine wpAnyH_done (by kernel_rfl) ?_ _
    go_wp2
    go_meet
    exact⟨w2.heap.size,rfl,⟨HZ.out.row _,(hb1.drew.below HA.out hb1.lt).rowFar (by have:=hb1.lt;omega) _,Below.row (hw0.drew.trans (HA.out.mono hw0.size)) hw0.size _,by have:=hb1.lt;omega⟩⟩
 case rest =>
  obtain⟨g7,rfl,hst⟩:=hcut
  have HST:=Lib.hid hst
  clear hst
  go_wp2_with fail
  go_loopw [8] (fun v wr=>∃j:Nat,1≤j∧j≤R+1∧v = .int .i64 j∧EncSt w.heap.size g7 w wr (encTo W R x (j-1))) (fun v _=>R+1-(intOf v).toNat)
  case atStart=>exact⟨1,by omega,by omega,rfl,HST.out⟩
  case round=>
   obtain⟨j,hj1,hj2,rfl,ho⟩:=hrel
   clear HST
   by_cases hlt:j≤R
   · have hji:(j:Int)≤(R:Int):=by omega
     have hcell:wr.cell? ⟨g,0,none⟩=some (.slice (some ⟨b,0,none⟩) N N):=(ho.below.cell (p:=⟨g,0,none⟩) hgl).trans h0
     have hc4:=fun W'=>words_cut W' b N j (by have:=HN.out;omega)
     have hsl:(encTo W R x (j-1)).length=16:=encTo_len _ _ _ _
     have hsb:Byt (encTo W R x (j-1)):=encTo_byt hW hx _
     have hnx:encTo W R x j=rndE W R j (encTo W R x (j-1)):=by
      conv=>lhs;rw[show j=(j-1)+1 from by omega]
      rw[encTo,show j-1+1=j from by omega]
     rw[rndE] at hnx
     generalize encTo W R x (j-1)=s0 at *
     have HO:=Lib.hid ho
     have HSL:=Lib.hid hsl
     have HNX:=Lib.hid hnx
     clear ho hsl hnx
     go_wp2_with fail
     refine wp_still_tail 4 (by kernel_rfl) (by kernel_rfl) ?_
     simp only[List.take_succ_cons,List.take_zero,List.drop_succ_cons,List.drop_zero]
     refine wpStill_loadB rfl 297 (.tmp 7) rfl _ rfl HO.out.cur.drew Tryz.underlying297 (by rw[HSL.out];exact szSt) ?_
     repeat still_step
     refine wpStill_nil ?_
     go_wp2_with fail
     refine (each_any sbox s0 g 1 hsb HSL.out sbox_lt _ (HC.out.tabs.1.below HO.out.below.drew)).mono ?_
     rintro e w1 ⟨rfl,hb1⟩
     have H1:=Lib.hid (HO.out.drew.call hb1)
     clear hb1 HO
     have he:(eachK sbox s0).length=16:=eachK_len _ _
     have heb:Byt (eachK sbox s0):=eachK_byt hsb sbox_lt
     generalize eachK sbox s0=s1 at *
     have HE:=Lib.hid he
     clear he
     go_wp2_with fail
     refine (shift1_any s1 heb HE.out _).mono ?_
     rintro e w2 ⟨rfl,hb2⟩
     have H2:=Lib.hid (H1.out.call hb2)
     clear hb2 H1
     have hf:(shiftK 1 s1).length=16:=shiftK_len _ _
     have hfb:Byt (shiftK 1 s1):=shiftK_byt heb
     generalize shiftK 1 s1=s2 at *
     have HF:=Lib.hid hf
     have H3:=Lib.hid (H2.out.row s2)
     clear hf
     by_cases hjR:j<R
     · have hjd:(j:Int)<(R:Int):=by omega
       rw[decide_eq_true hjR] at HNX
       go_wp2_with (first
        | (refine wpList_storeB (o:=⟨none,.store _ (.tmp 7) (.tmp 36),_,_,_,_⟩) rfl 297 (.tmp 7) (.tmp 36) rfl _ rfl s2 rfl H2.out.cur (by rw[HF.out];exact szSt) (by rw[HF.out,HSL.out]) ?_)
        | (refine wpList_loadB (o:=⟨some 40,_,_,_,_,_⟩) rfl 297 (.tmp 7) rfl _ rfl H3.out.cur Tryz.underlying297 (by rw[HF.out];exact szSt) ?_))
       refine (columns_mix s2 hfb HF.out _).mono ?_
       rintro e w3 ⟨rfl,hb3⟩
       have H4:=Lib.hid (H3.out.call hb3)
       clear hb3
       have hg:(colK mix s2).length=16:=colK_len _ _
       have hgb:Byt (colK mix s2):=colK_byt mix_byt
       rw[mixIf,if_pos rfl] at HNX
       generalize colK mix s2=s3 at *
       have HG:=Lib.hid hg
       have HH:=Lib.hid (H4.out.row s3)
       clear hg
       go_wp2_with (refine wpList_storeB (o:=⟨none,.store _ (.tmp 7) (.tmp 41),_,_,_,_⟩) rfl 297 (.tmp 7) (.tmp 41) rfl _ rfl s3 rfl H4.out.cur (by rw[HG.out];exact szSt) (by rw[HG.out,HF.out]) ?_)
       have hcx:=(HH.out.below.cell (p:=⟨g,0,none⟩) hgl).trans h0
       have hv1:IntKind.i64.wrap (4*(j:Int))=4*(j:Int):=IntWalk.i64_in _ (by omega)
       have hv2:IntKind.i64.wrap (4*(j:Int)+4)=4*(j:Int)+4:=IntWalk.i64_in _ (by omega)
       refine wp_still_tail 11 (by kernel_rfl) (by kernel_rfl) ?_
       simp only[List.take_succ_cons,List.take_zero,List.drop_succ_cons,List.drop_zero]
       refine wpStill_loadB rfl 297 (.tmp 7) rfl _ rfl HH.out.cur.drew Tryz.underlying297 (by rw[HG.out];exact szSt) ?_
       repeat still_step
       refine wpStill_nil ?_
       clear hcx hv1 hv2
       go_wp2_with fail
       refine (add_any s3 W b (16*j) (N-4*j) hgb HG.out hW _ (HB.out.below HH.out.below.drew hbl) (by rw[LW.out];omega)).mono ?_
       rintro e w5 ⟨rfl,hb5⟩
       have H5:=Lib.hid (HH.out.drew.call hb5)
       have H6:=Lib.hid (H5.out.row (addK s3 W (16*j)))
       clear hb5
       have hal:(addK s3 W (16*j)).length=16:=addK_len _ _ _
       generalize addK s3 W (16*j)=s5 at *
       have HAL:=Lib.hid hal
       clear hal
       go_wp2_with (refine wpList_storeB (o:=⟨none,.store _ _ _,_,_,_,_⟩) rfl 297 (.tmp 7) (.tmp 53) rfl _ rfl s5 rfl H5.out.cur (by rw[HAL.out];exact szSt) (by rw[HAL.out,HG.out]) ?_)
       go_roundw
       case rel=>exact⟨j+1,by omega,by omega,by go_num,by rw[show j+1-1=j from by omega,HNX.out];exact H6.out⟩
       case measure=>simp[intOf];omega
     · have hjd:¬(j:Int)<(R:Int):=by omega
       rw[decide_eq_false hjR,mixIf,if_neg (by simp)] at HNX
       go_wp2_with (refine wpList_storeB (o:=⟨none,.store _ (.tmp 7) (.tmp 36),_,_,_,_⟩) rfl 297 (.tmp 7) (.tmp 36) rfl _ rfl s2 rfl H2.out.cur (by rw[HF.out];exact szSt) (by rw[HF.out,HSL.out]) ?_)
       have hcx:=(H3.out.below.cell (p:=⟨g,0,none⟩) hgl).trans h0
       have hv1:IntKind.i64.wrap (4*(j:Int))=4*(j:Int):=IntWalk.i64_in _ (by omega)
       have hv2:IntKind.i64.wrap (4*(j:Int)+4)=4*(j:Int)+4:=IntWalk.i64_in _ (by omega)
       refine wp_still_tail 11 (by kernel_rfl) (by kernel_rfl) ?_
       simp only[List.take_succ_cons,List.take_zero,List.drop_succ_cons,List.drop_zero]
       refine wpStill_loadB rfl 297 (.tmp 7) rfl _ rfl H3.out.cur.drew Tryz.underlying297 (by rw[HF.out];exact szSt) ?_
       repeat still_step
       refine wpStill_nil ?_
       clear hcx hv1 hv2
       go_wp2_with fail
       refine (add_any s2 W b (16*j) (N-4*j) hfb HF.out hW _ (HB.out.below H3.out.below.drew hbl) (by rw[LW.out];omega)).mono ?_
       rintro e w5 ⟨rfl,hb5⟩
       have H5:=Lib.hid (H3.out.drew.call hb5)
       have H6:=Lib.hid (H5.out.row (addK s2 W (16*j)))
       clear hb5
       have hal:(addK s2 W (16*j)).length=16:=addK_len _ _ _
       generalize addK s2 W (16*j)=s5 at *
       have HAL:=Lib.hid hal
       clear hal
       go_wp2_with (refine wpList_storeB (o:=⟨none,.store _ _ _,_,_,_,_⟩) rfl 297 (.tmp 7) (.tmp 53) rfl _ rfl s5 rfl H5.out.cur (by rw[HAL.out];exact szSt) (by rw[HAL.out,HF.out]) ?_)
       go_roundw
       case rel=>exact⟨j+1,by omega,by omega,by go_num,by rw[show j+1-1=j from by omega,HNX.out];exact H6.out⟩
       case measure=>simp[intOf];omega
   · have hj3:j-1=R:=by omega
     have hl:(encK W R x).length=16:=encK_len _ _ _
     have ho2:EncSt w.heap.size g7 w wr (encK W R x):=by rw[hj3] at ho;exact ho
     have hri:(R:Int)<(j:Int):=by omega
     clear ho hj3
     generalize hye:encK W R x=y at hl ho2
     have HYE:=Lib.hid hye
     clear hye
     have HY:=Lib.hid hl
     have HO:=Lib.hid ho2
     clear hl ho2
     go_wp2_with (first
      | (refine wpList_loadB (o:=⟨some 54,_,_,_,_,_⟩) rfl 297 (.tmp 7) rfl _ rfl HO.out.cur Tryz.underlying297 (by rw[HY.out];exact szSt) ?_)
      | (refine wpList_storeB (o:=⟨none,.store _ (.tmp 4) (.tmp 54),_,_,_,_⟩) rfl 263 (.tmp 4) (.tmp 54) rfl _ rfl y rfl HO.out.res (by rw[HY.out];exact sz16) (by rw[HY.out];rfl) ?_))
     refine bodyPost_ret (results_bts2 Tryz.results185 _ _ _ rfl (HO.out.res.row y) Tryz.underlying263 (by rw[HY.out];exact sz16)) rfl ?_
     exact⟨by rw[HYE.out];rfl,Below.row HO.out.below (by omega) _⟩
theorem wordsAll_len {K R:Nat} (l:List Nat) (hK:K=4∨K=8) (hR:R=K+6) (hl:l.length=4*K):(wordsAll K l).length=16*(R+1):=by
 subst hR
 rw[wordsAll,wordsOf_len K l hl]
 rcases hK with rfl | rfl <;> rfl
theorem Cip.ab {w w':World} {g:Nat} {v:Value} {i:Nat} (h:Cip w g v i) (hb:Below w.heap.size w w'):Cip w' g v i:=h.below hb h.lt
theorem Bk.ab {w w':World} {b:Nat} {t:TypeId} {l:List Nat} (h:Bk w b t l) (hb:Below w.heap.size w w'):Bk w' b t l:=h.below hb h.lt
structure CipK (w:World) (b g K:Nat) (l:List Nat):Prop where
 wd:Bk w b 318 (wordsAll K l)
 cip:Cip w g (.slice (some ⟨b,0,none⟩) (4*(K+7)) (4*(K+7))) 256
theorem CipK.ab {w w':World} {b g K:Nat} {l:List Nat} (h:CipK w b g K l) (hb:Below w.heap.size w w'):CipK w' b g K l:=⟨h.wd.ab hb,h.cip.ab hb⟩
theorem new_any (K n:Nat) (l:List Nat) (A:Option Addr) (c:Nat) (w:World) (hK:K=4∨K=8) (hn:n=4*K) (hin:IsB w A n c l):
 Calls Tryz.prog 183 #[.slice A n c] w fun e w'=>∃b g,e = .returned (.tuple #[.pointer (some ⟨g,0,none⟩),.int .i64 0])∧b<g∧w.heap.size≤b∧CipK w' b g K l∧Below w.heap.size w w':=by
 subst hn
 rcases hK with rfl | rfl
 · exact (new4_any l A c w hin).mono fun e w' ⟨b,g,h1,h2,h3,h4,h5,h6⟩=>⟨b,g,h1,h2,h3,⟨h4,h5⟩,h6⟩
 · exact (new8_any l A c w hin).mono fun e w' ⟨b,g,h1,h2,h3,h4,h5,h6⟩=>⟨b,g,h1,h2,h3,⟨h4,h5⟩,h6⟩
theorem encC_any (b g K:Nat) (l x:List Nat) (w:World) (hK:K=4∨K=8) (hl:l.length=4*K) (hb:Byt l) (hx:Byt x) (lx:x.length=16) (hC:CipK w b g K l):
 Calls Tryz.prog 185 #[.pointer (some ⟨g,0,none⟩),.agg (bts x)] w fun e w'=>e = .returned (.tuple #[.agg (bts (encK (wordsAll K l) (K+6) x)),.int .i64 0])∧Below w.heap.size w w':=
 enc_any g b (4*(K+7)) (K+6) (wordsAll K l) x w hx lx (wordsAll_exp hK hl hb).byt (wordsAll_len l hK rfl hl) rfl (by omega) (by omega) hC.cip hC.wd
theorem may_yes (A:Option Addr) (n c:Nat) (w:World) (h:n=16∨n=32):Calls Tryz.prog 99 #[.slice A n c] w fun e w'=>e = .returned (.bool true)∧w=w':=by
 rcases h with rfl | rfl
 all_goals
  go_enter Tryz.func99,Tryz.ntmps99
  go_wp2
  go_ret
  exact⟨rfl,rfl⟩
theorem may_no (A:Option Addr) (n c:Nat) (w:World) (h:n≠16) (h':n≠32):Calls Tryz.prog 99 #[.slice A n c] w fun e w'=>e = .returned (.bool false)∧w=w':=by
 have h1:((n:Int)==16)=false:=by rw[beq_eq_false_iff_ne];omega
 have h2:((n:Int)==32)=false:=by rw[beq_eq_false_iff_ne];omega
 go_enter Tryz.func99,Tryz.ntmps99
 go_wp2
 go_ret
 exact⟨rfl,rfl⟩
end Go.Proofs.YtlobgddnlnffbaaGreat
