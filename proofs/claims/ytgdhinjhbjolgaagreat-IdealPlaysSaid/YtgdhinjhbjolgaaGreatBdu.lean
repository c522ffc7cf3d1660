/-
  Parts of the proof, joined.
-/
import Derived.Test.YtgdhinjhbjolgaaGreatBdt
import Derived.Test.YtgdhinjhbjolgaaGreatBds
import Derived.Test.YtgdhinjhbjolgaaGreatBdi
namespace Go.Proofs.YtgdhinjhbjolgaaGreat
set_option maxHeartbeats 4000000
open Go.RowKit Go.Sort
set_option linter.unusedVariables false
set_option linter.unusedSimpArgs false
theorem chg_take {l:Bk2} {k:Nat} {p:Ky×List Nat} (h:l[k]? = some p):chg (l.take (k+1))=chg (l.take k)+costN p.1.length p.2.length:=by
 unfold chg
 rw[List.take_add_one,h]
 simp
theorem chg_le (l:Bk2) (k:Nat) (h:l.length≤100000):0≤chg (l.take k)∧chg (l.take k)≤1100000:=by
 have:=chg_bd (l.take k)
 have h2:(l.take k).length≤100000:=by rw[List.length_take];omega
 omega
section
variable {w:World} {O:Tg} {C:Nat} {A kA:Option Addr} {n c kn kc:Nat} {l:Bk2} {key:List Nat}
set_option maxRecDepth 100000 in
theorem rcharge26 (h:PrO w C O (.slice A n c) l) (ho:OkB l) (hn:n≤100000):
 Calls Tryz.prog 63 #[.slice A n c] w fun e w'=>e = .returned (.tuple #[.int .i64 (chg l),.int .i64 0])∧Below w.heap.size w w':=by
 have H:=zz h
 have HL:=zz h.len
 have OK:=zz ho
 have n0:(n:Int)≤100000:=by omega
 have NN:=zz hn
 clear h hn ho
 go_enter Tryz.func63,Tryz.ntmps63
 go_wp2_with fail
 go_loopw [4,5] (fun s z wr=>∃i:Nat,i≤n∧z = .int .i64 (i:Int)∧s = .int .i64 (chg (l.take i))∧Below w.heap.size w wr) (fun _ z _=>n-(intOf z).toNat)
 case atStart=>exact⟨0,Nat.zero_le _,rfl,rfl,Below.refl _ _⟩
 case round=>
  obtain⟨i,hi,rfl,rfl,hb⟩:=hrel
  have BW:=zz hb
  by_cases hlt:i<n
  · obtain⟨q,hq⟩:∃q,l[i]? = some q:=⟨_,List.getElem?_eq_getElem (by rw[←HL.out];exact hlt)⟩
    obtain⟨g,aA,an,ac,vA,vn,vc,kl,rfl,a1,a2,a3,a4,a5⟩:=(H.out.ab hb).at hq
    have hlti:(i:Int)<(n:Int):=by omega
    have hi0:(0:Int)≤(i:Int):=by omega
    have KL:=zz hlt
    obtain⟨b1,b2,b3⟩:=OK.out q (List.mem_of_getElem? hq)
    have ek:q.1.length=an:=by rw[←a4,k8_len];exact a3.isB.len
    have ev:q.2.length=vn:=a5.isB.len
    have CS:=chg_take hq
    rw[ek,ev] at CS
    have CE:Hid (costE an vn=0):=zz (by unfold costE;rw[if_pos (by omega)])
    have cb:=costN_bd an vn
    have zb:=chg_le l i (by rw[←HL.out];exact NN.out)
    obtain⟨y,hy⟩:∃y,costN an vn=y:=⟨_,rfl⟩
    obtain⟨z,hz⟩:∃z,chg (l.take i)=z:=⟨_,rfl⟩
    rw[hy] at cb CS
    rw[hz] at zb CS⊢
    have CY:=zz hy
    have CN:=zz CS
    clear a3 a4 a5 hq hi hlt b1 b2 b3 ek ev CS hy hz hb
    go_wp2_with fail
    go_quiet ((go_at_call 93;exact Calls.quiet_of_same ((rCost_any aA vA an ac vn vc _).mono fun e w' h=>⟨h.1,h.2.symm⟩)))
    rw[CE.out,CY.out]
    go_wp2_with fail
    go_roundw
    case rel=>exact⟨i+1,KL.out,by go_num,by rw[CN.out],bel_drewN BW.out _⟩
    case measure=>simp[intOf];have:=KL.out;omega
  · obtain rfl:i=n:=by omega
    have E:Hid (chg (l.take i)=chg l):=zz (by rw[List.take_of_length_le (by rw[←HL.out];exact Nat.le_refl _)])
    clear hi hlt hb
    go_wp2_with fail
    go_ret2
    exact⟨by rw[←E.out];rfl,BW.out⟩
set_option maxRecDepth 100000 in
theorem rwithin_any (f u:SlA) (ik:IsB w kA kn kc key) (hf:f.B w) (hu:u.B w):
 Calls Tryz.prog 117 #[.slice kA kn kc,.slice f.A f.n f.c,.slice u.A u.n u.c] w fun e w'=>e = .returned (.bool (!delP f.l u.l (k8 key)))∧w=w':=by
 have s0:=run_str ik 32 5 9 Tryz.underlying32 Tryz.underlying5 Tryz.underlying9
 have s1:=run_str hf 32 5 9 Tryz.underlying32 Tryz.underlying5 Tryz.underlying9
 have s2:=run_str hu 32 5 9 Tryz.underlying32 Tryz.underlying5 Tryz.underlying9
 have hl:=hu.len
 have D:=zz (show delP f.l u.l (k8 key)=(decide (k8 key<k8 f.l)||(decide (0<u.l.length) && !decide (k8 key<k8 u.l))) from rfl)
 have e1:=less_str key f.l
 have e2:=less_str key u.l
 generalize decide (k8 key<k8 f.l)=b1 at *
 generalize decide (k8 key<k8 u.l)=b2 at *
 by_cases h0:0<u.n
 · have hn:((u.n:Int)==0)=false:=by simp;omega
   have hd:decide (0<u.l.length)=true:=decide_eq_true (by omega)
   rw[hd] at D
   rw[D.out]
   clear hf hu hl D hd ik
   cases b1 <;> cases b2 <;>
   (go_enter Tryz.func117,Tryz.ntmps117
    go_wp2_with fail
    go_ret
    exact⟨rfl,rfl⟩)
 · have hn:((u.n:Int)==0)=true:=by simp;omega
   have hd:decide (0<u.l.length)=false:=decide_eq_false (by omega)
   rw[hd] at D
   rw[D.out]
   clear hf hu hl D hd ik
   cases b1 <;> cases b2 <;>
   (go_enter Tryz.func117,Tryz.ntmps117
    go_wp2_with fail
    go_ret
    exact⟨rfl,rfl⟩)
theorem rng_step (Y:Bk2) (p:Ky×List Nat) (m:Nat):((Y.take m).length<m→(Y++[p]).take m=Y.take m++[p])∧(¬(Y.take m).length<m→(Y++[p]).take m=Y.take m):=by
 rw[List.length_take]
 constructor
 · intro h
   rw[List.take_of_length_le (show Y.length≤m by omega),List.take_of_length_le (by simp;omega)]
 · intro h
   rw[List.take_append_of_le_length (by omega)]
def rngI (c:CallP) (l:Bk2) (i:Nat):Bk2:=(((bif c.back then l.reverse else l).take i).filter fun p=>!delP c.frm.l c.upto.l p.1).take c.n.toNat
theorem rngI_len (c:CallP) (l:Bk2) (i:Nat):(rngI c l i).length≤l.length:=by
 unfold rngI
 refine Nat.le_trans (List.length_take_le' _ _) (Nat.le_trans (List.length_filter_le _ _) ?_)
 rw[List.length_take]
 cases c.back <;> simp <;> omega
theorem rngI_step {c:CallP} {l:Bk2} {i:Nat} {p:Ky×List Nat} (hp:(bif c.back then l.reverse else l)[i]? = some p):
 (delP c.frm.l c.upto.l p.1=true→rngI c l (i+1)=rngI c l i)∧(delP c.frm.l c.upto.l p.1=false→((rngI c l i).length<c.n.toNat→rngI c l (i+1)=rngI c l i++[p])∧(¬(rngI c l i).length<c.n.toNat→rngI c l (i+1)=rngI c l i)):=by
 unfold rngI
 rw[List.take_add_one,hp]
 simp only[Option.toList_some,List.filter_append]
 refine⟨fun h=>?_,fun h=>?_⟩
 · rw[List.filter_cons,List.filter_nil]
   simp[h]
 · rw[List.filter_cons,List.filter_nil]
   simp only[h,Bool.not_false,if_true]
   exact rng_step _ p _
theorem rngI_at {c:CallP} {l:Bk2} {i:Nat} (hi:i<l.length):∃k p,k=(bif c.back then l.length-1-i else i)∧l[k]? = some p∧(bif c.back then l.reverse else l)[i]? = some p:=by
 cases hb:c.back
 · exact⟨i,_,rfl,List.getElem?_eq_getElem hi,List.getElem?_eq_getElem hi⟩
 · refine⟨l.length-1-i,_,rfl,List.getElem?_eq_getElem (by omega),?_⟩
   simp only[cond_true]
   rw[List.getElem?_reverse hi,List.getElem?_eq_getElem (by omega)]
theorem one_cells {W:World} {G:Nat} {z y:Value} (hG:CbB W G 87 #[z,y]):∀x:Addr,(some ⟨G,0,none⟩:Option Addr)=some x→∀(j:Nat) (u:Value),([(z,y)].flatMap fun p=>[p.1,p.2])[j]? = some u→W.cell? (x.add j)=some u:=fun x hx j u hj=>by
 injection hx with hx
 subst hx
 exact row_at (cs:=[z,y]) hG j u hj
theorem PrV.one1 {W:World} {O:Tg} {z y:Value} {k:List Nat} {q:Ky×List Nat} (hz:RyB W O z k) (hk:k8 k=q.1) (hy:RyB W O y q.2):PrV W O [(z,y)] [q]:=⟨rfl,fun i p q' hp hq=>by
 have hi:i=0:=by have:=(List.getElem?_eq_some_iff.1 hp).1;simpa using this
 subst hi
 simp only[List.getElem?_cons_zero,Option.some.injEq] at hp hq
 subst hp
 subst hq
 exact⟨⟨k,hz,hk⟩,hy⟩⟩
set_option maxRecDepth 100000 in
theorem rrange_any (cl:CallP) (h:PrO w C O (.slice A n c) l) (hn:n≤100000) (hf:cl.frm.B w) (hu:cl.upto.B w) (h0:0≤cl.n) (h1:cl.n≤100):
 Calls Tryz.prog 94 #[.slice A n c,.slice cl.frm.A cl.frm.n cl.frm.c,.slice cl.upto.A cl.upto.n cl.upto.c,.int .i64 cl.n,.bool cl.back] w (WithR w w.heap.size O (rngL cl l)):=by
 have H:=zz h
 have HL:=zz h.len
 have HF:=zz hf
 have HU:=zz hu
 have NN:=zz hn
 obtain⟨nn,hnn⟩:∃nn:Nat,cl.n=(nn:Int):=⟨cl.n.toNat,by omega⟩
 have E9:Hid (rngI cl l n=rngL cl l):=zz (by
  unfold rngI rngL
  rw[HL.out,show ((bif cl.back then l.reverse else l).take l.length)=(bif cl.back then l.reverse else l) from List.take_of_length_le (by cases cl.back <;> simp)])
 have HN:Hid (cl.n.toNat=nn):=zz (by rw[hnn];rfl)
 obtain⟨bk,hbk⟩:∃bk,cl.back=bk:=⟨_,rfl⟩
 have HB:=zz hbk
 have LE:=zz fun i=>rngI_len cl l i
 rw[hnn,hbk]
 have n0:(n:Int)≤100000:=by omega
 have n1:(nn:Int)≤100:=by omega
 clear h hn hf hu h0 h1 hnn hbk
 go_enter Tryz.func94,Tryz.ntmps94
 go_wp2_with fail
 go_loopw [11,12] (fun s z wr=>∃i:Nat,i≤n∧z = .int .i64 (i:Int)∧PrO wr w.heap.size O s (rngI cl l i)∧Below w.heap.size w wr) (fun _ z _=>n-(intOf z).toNat)
 case atStart=>exact⟨0,Nat.zero_le _,rfl,by unfold rngI;simpa using PrO.nil _ _ _,Below.refl _ _⟩
 case round=>
  obtain⟨i,hi,rfl,hp,hb⟩:=hrel
  have BW:=zz hb
  have PP:=zz hp
  by_cases hlt:i<n
  · obtain ⟨k, q,hk,hq,hq2⟩:=rngI_at (c:=cl) (l:=l) (i:=i) (by rw[←HL.out];exact hlt)
    rw[HB.out,←HL.out] at hk
    obtain⟨g,aA,an,ac,vA,vn,vc,kl,rfl,a1,a2,a3,a4,a5⟩:=(H.out.ab hb).at hq
    have hlti:(i:Int)<(n:Int):=by omega
    have hi0:(0:Int)≤(i:Int):=by omega
    have KL:=zz hlt
    have klt:k<n:=by rw[HL.out];exact (List.getElem?_eq_some_iff.1 hq).1
    have hklt:(k:Int)<(n:Int):=by omega
    have hk0:(0:Int)≤(k:Int):=by omega
    have HWI:=zz (rwithin_any cl.frm cl.upto a3.isB (HF.out.ab hb) (HU.out.ab hb))
    rw[a4] at HWI
    have hst:=rngI_step hq2
    have hkk:bk=true→(n:Int)-1-(i:Int)=(k:Int):=fun e=>by subst e;simp only[cond_true] at hk;omega
    have hkf:bk=false→k=i:=fun e=>by subst e;exact hk
    obtain⟨len,hlen⟩:∃len,(rngI cl l i).length=len:=⟨_,rfl⟩
    obtain⟨oA,oc,hov⟩:=hp.sl
    rw[hlen] at hov
    rw[hlen,HN.out] at hst
    have lb:(len:Int)≤100000:=by have:=LE.out i;have:=HL.out;have:=NN.out;omega
    have LN:=zz hlen
    subst hov
    have K3:=zz a3
    have K4:=zz a4
    have K5:=zz a5
    obtain⟨dl,hdl⟩:∃dl,delP cl.frm.l cl.upto.l q.1=dl:=⟨_,rfl⟩
    rw[hdl] at HWI hst
    have ST:=zz hst
    cases bk
    · obtain rfl:=hkf rfl
      clear hkk hkf hk
      cases dl
      · obtain ⟨st1,st2⟩:=ST.out.2 rfl
        have S1:=zz st1
        have S2:=zz st2
        by_cases hnl:len<nn
        · have d0:decide (len<nn)=true:=decide_eq_true hnl
          have dI:(len:Int)<(nn:Int):=by omega
          have S3:=zz (st1 hnl)
          clear hst st1 st2 hlen hp hb hq hq2 a3 a4 a5 hdl klt hnl hi hlt
          go_wp2_with fail
          refine HWI.out.mono ?_
          rintro e w1 ⟨rfl,rfl⟩
          have ha:Below wr.heap.size wr (wr.alloc (.cells #[.slice aA an ac,.slice vA vn vc] 87)):=alB
          have PA:=zz (PP.out.ab ha)
          have BA:=zz (below_tr BW.out ha BW.out.size)
          have US:=zz (PrV.one1 (K3.out.ab ha) K4.out (K5.out.ab ha))
          have UC:=zz (one_cells (CbB.new wr 87 #[.slice aA an ac,.slice vA vn vc]))
          clear ha
          go_wp2_with (first
           | (refine wpList_appPr rfl (.tmp 41) (.tmp 46) rfl PA.out rfl (A:=some ⟨wr.heap.size,0,none⟩) (m:=1) (c:=1) rfl US.out rfl (fun e=>by cases e) UC.out (by rw[LN.out];omega) BA.out.size ?_
              intro v8 w8 hp8 hb8
              have P8:=zz hp8
              have B8:=zz (BA.out.trans hb8)
              clear hp8 hb8))
          go_roundw
          case rel=>exact⟨k+1,KL.out,by go_num,by rw[S3.out];exact P8.out,B8.out⟩
          case measure=>simp[intOf];have:=KL.out;omega
        · have d0:decide (len<nn)=false:=decide_eq_false hnl
          have dI:¬(len:Int)<(nn:Int):=by omega
          have S3:=zz (st2 hnl)
          clear hst st1 st2 hlen hp hb hq hq2 a3 a4 a5 hdl klt hnl hi hlt
          go_wp2_with fail
          refine HWI.out.mono ?_
          rintro e w1 ⟨rfl,rfl⟩
          go_wp2_with fail
          go_roundw
          case rel=>exact⟨k+1,KL.out,by go_num,by rw[S3.out];exact PP.out,BW.out⟩
          case measure=>simp[intOf];have:=KL.out;omega
      · have S3:=zz (ST.out.1 rfl)
        clear hst hlen hp hb hq hq2 a3 a4 a5 hdl klt hi hlt
        go_wp2_with fail
        refine HWI.out.mono ?_
        rintro e w1 ⟨rfl,rfl⟩
        go_wp2_with fail
        go_roundw
        case rel=>exact⟨k+1,KL.out,by go_num,by rw[S3.out];exact PP.out,BW.out⟩
        case measure=>simp[intOf];have:=KL.out;omega
    · have hK:=hkk rfl
      clear hkk hkf hk
      cases dl
      · obtain ⟨st1,st2⟩:=ST.out.2 rfl
        have S1:=zz st1
        have S2:=zz st2
        by_cases hnl:len<nn
        · have d0:decide (len<nn)=true:=decide_eq_true hnl
          have dI:(len:Int)<(nn:Int):=by omega
          have S3:=zz (st1 hnl)
          clear hst st1 st2 hlen hp hb hq hq2 a3 a4 a5 hdl klt hnl hi hlt
          go_wp2_with fail
          refine HWI.out.mono ?_
          rintro e w1 ⟨rfl,rfl⟩
          have ha:Below wr.heap.size wr (wr.alloc (.cells #[.slice aA an ac,.slice vA vn vc] 87)):=alB
          have PA:=zz (PP.out.ab ha)
          have BA:=zz (below_tr BW.out ha BW.out.size)
          have US:=zz (PrV.one1 (K3.out.ab ha) K4.out (K5.out.ab ha))
          have UC:=zz (one_cells (CbB.new wr 87 #[.slice aA an ac,.slice vA vn vc]))
          clear ha
          go_wp2_with (first
           | (refine wpList_appPr rfl (.tmp 41) (.tmp 46) rfl PA.out rfl (A:=some ⟨wr.heap.size,0,none⟩) (m:=1) (c:=1) rfl US.out rfl (fun e=>by cases e) UC.out (by rw[LN.out];omega) BA.out.size ?_
              intro v8 w8 hp8 hb8
              have P8:=zz hp8
              have B8:=zz (BA.out.trans hb8)
              clear hp8 hb8))
          go_roundw
          case rel=>exact⟨i+1,KL.out,by go_num,by rw[S3.out];exact P8.out,B8.out⟩
          case measure=>simp[intOf];have:=KL.out;omega
        · have d0:decide (len<nn)=false:=decide_eq_false hnl
          have dI:¬(len:Int)<(nn:Int):=by omega
          have S3:=zz (st2 hnl)
          clear hst st1 st2 hlen hp hb hq hq2 a3 a4 a5 hdl klt hnl hi hlt
          go_wp2_with fail
          refine HWI.out.mono ?_
          rintro e w1 ⟨rfl,rfl⟩
          go_wp2_with fail
          go_roundw
          case rel=>exact⟨i+1,KL.out,by go_num,by rw[S3.out];exact PP.out,BW.out⟩
          case measure=>simp[intOf];have:=KL.out;omega
      · have S3:=zz (ST.out.1 rfl)
        clear hst hlen hp hb hq hq2 a3 a4 a5 hdl klt hi hlt
        go_wp2_with fail
        refine HWI.out.mono ?_
        rintro e w1 ⟨rfl,rfl⟩
        go_wp2_with fail
        go_roundw
        case rel=>exact⟨i+1,KL.out,by go_num,by rw[S3.out];exact PP.out,BW.out⟩
        case measure=>simp[intOf];have:=KL.out;omega
  · obtain rfl:i=n:=by omega
    clear hi hlt hp hb
    go_wp2_with fail
    go_ret
    rw[E9.out] at PP
    exact⟨_,rfl,PP.out,BW.out⟩
end
open Go.RowKit
set_option maxRecDepth 100000 in
theorem rRight_any (o : OpP) (w : World) : Calls Tryz.prog 114 #[opV o] w fun e w'=>e = .returned (.bool (opOk o))∧Below w.heap.size w w':=by
 obtain⟨⟨kA,kn,kc,kl⟩,⟨vA,vn,vc,vl⟩,dr⟩:=o
 unfold opV opOk
 simp only
 have ha:Below w.heap.size w (w.alloc (.cells #[.slice kA kn kc,.slice vA vn vc,.bool dr] 61)):=alB
 have HA:=zz ha
 clear ha
 have e1:decide ((1:Int)≤(kn:Int))=decide (1≤kn):=decide_eq_decide.2 (by omega)
 have e2:decide ((kn:Int)≤32)=decide (kn≤32):=decide_eq_decide.2 (by omega)
 have e3:decide ((vn:Int)≤1024)=decide (vn≤1024):=decide_eq_decide.2 (by omega)
 have e4:((vn:Int)==0) = !decide (0<vn):=by
  rw[Bool.eq_iff_iff]
  simp
 generalize decide (1≤kn)=b1 at *
 generalize decide (kn≤32)=b2 at *
 generalize decide (vn≤1024)=b3 at *
 obtain⟨b4,h4⟩:∃b,decide (0<vn)=b:=⟨_,rfl⟩
 rw[h4] at e4⊢
 cases b1 <;> cases b2 <;> cases b3 <;> cases b4 <;> cases dr <;>
 (first
  | (have m4:vn=0:=by simpa using h4
     exfalso
     have:=of_decide_eq_false e3
     omega)
  | ((first
      | (have m4 : (vn : Int) = 0 := by have:vn=0:=by simpa using h4
                                        omega)
      | (have m4:¬(vn:Int)=0:=by have:=of_decide_eq_true h4;omega))
     go_enter Tryz.func114,Tryz.ntmps114
     go_wp2_with fail
     go_ret
     exact⟨rfl,HA.out⟩))
set_option maxRecDepth 100000 in
theorem rAllRight_any {A:Option Addr} {n c:Nat} {ops:List OpP} (w:World) (h:OpsB w A n c ops) (hn:n≤100):Calls Tryz.prog 91 #[.slice A n c] w fun e w'=>e = .returned (.bool (ops.all opOk))∧Below w.heap.size w w':=by
 have H:=zz h
 have n0:(n:Int)≤100:=by omega
 clear h hn
 go_enter Tryz.func91,Tryz.ntmps91
 go_wp2_with fail
 go_loopw [3] (fun z wr=>∃i:Nat,i≤n∧z = .int .i64 (i:Int)∧(ops.take i).all opOk=true∧Below w.heap.size w wr) (fun z _=>n-(intOf z).toNat)
 case atStart=>exact⟨0,Nat.zero_le _,rfl,by simp,Below.refl _ _⟩
 case round=>
  obtain⟨i,hi,rfl,hall,hb⟩:=hrel
  have BW:=zz hb
  have AL:=zz hall
  by_cases hlt:i<n
  · obtain⟨o,ho⟩:∃o,ops[i]? = some o:=⟨_,List.getElem?_eq_getElem (by rw[H.out.len];exact hlt)⟩
    obtain⟨x,rfl,hxl,o1,o2,o3,o4,o5⟩:=(H.out.ab hb).cel i o ho
    have HR:=zz (rRight_any o wr)
    unfold opV at HR
    have hlti:(i:Int)<(n:Int):=by omega
    have hi0:(0:Int)≤(i:Int):=by omega
    have KL:=zz hlt
    have HO:=zz ho
    clear o4 o5 ho hi hlt hb hall
    go_wp2_with fail
    refine HR.out.mono ?_
    rintro e w2 ⟨rfl,hb⟩
    have B2:=zz (below_tr BW.out hb BW.out.size)
    clear hb HR
    obtain⟨b,hbo⟩:∃b,opOk o=b:=⟨_,rfl⟩
    rw[hbo]
    have HB:=zz hbo
    clear hbo
    cases b
    · go_wp2_with fail
      go_ret
      exact⟨by
       have e1:ops.all opOk=false:=by
        rw[List.all_eq_false]
        exact⟨o,List.mem_of_getElem? HO.out,by rw[HB.out];decide⟩
       rw[e1];rfl,B2.out⟩
    · go_wp2_with fail
      go_roundw
      case rel=>exact⟨i+1,KL.out,by go_num,by rw[List.take_add_one,HO.out];simp[AL.out,HB.out],B2.out⟩
      case measure=>simp[intOf];have:=KL.out;omega
  · obtain rfl:i=n:=by omega
    clear hi hlt hb hall
    go_wp2_with fail
    go_ret
    have e1:ops.all opOk=true:=by
     have:=AL.out
     rwa [List.take_of_length_le (by rw[H.out.len];exact Nat.le_refl _)] at this
    exact⟨by rw[e1];rfl,BW.out⟩
section
variable {w:World} {O:Tg} {C:Nat} {A oA:Option Addr} {n c on oc:Nat} {l:Bk2} {ops:List OpP}
set_option maxRecDepth 100000 in
theorem rapply_any (h:PrO w C O (.slice A n c) l) (ha:AscB l) (hn:n≤90000) (ho:OpsB w oA on oc ops) (hon:on≤100) (hall:ops.all opOk=true) (hO:∀k,w.heap.size≤k→O k=none):
 Calls Tryz.prog 92 #[.slice A n c,.slice oA on oc] w (WithR w w.heap.size O (applyL l ops)):=by
 have H:=zz h
 have HL:=zz h.len
 have HA:=zz ha
 have NN:=zz hn
 have OB:=zz ho
 have OL:=zz ho.len
 have ON:=zz hon
 have ALL:=zz hall
 have HO:=zz hO
 have n0:(n:Int)≤90000:=by omega
 have n1:(on:Int)≤100:=by omega
 have B0:Hid (Below w.heap.size w (w.alloc (.cells #[] 87))):=zz (alB)
 have R0:Hid (PrO (w.alloc (.cells #[] 87)) w.heap.size O (.slice (some ⟨w.heap.size,0,none⟩) 0 0) []):=zz (PrO.empty w w.heap.size O (Nat.le_refl _))
 obtain⟨us,hu1,hu2,hu3,_,hu5⟩:=(H.out.ab B0.out).upto (Nat.le_refl n)
 rw[HL.out,List.take_length] at hu1
 have U1:=zz hu1
 have U2:=zz hu2
 have U3:=zz hu3
 have U5:=zz hu5
 clear h ha hn ho hon hall hO hu1 hu2 hu3 hu5
 go_enter Tryz.func92,Tryz.ntmps92
 go_wp2_with (first
  | (refine wpList_appPr rfl (.tmp 7) (.tmp 8) rfl R0.out rfl (A:=A) (m:=n) (c:=c) rfl U1.out U2.out U3.out U5.out (by have:=NN.out;simp;omega) B0.out.size ?_
     intro v6 w6 hp6 hb6
     have P6:Hid (PrO w6 w.heap.size O v6 l):=zz hp6
     have B6:=zz (B0.out.trans hb6)
     clear hp6 hb6))
 clear U1 U2 U3 U5 R0 B0
 go_loopw [5,6] (fun s z wr=>∃i:Nat,i≤on∧z = .int .i64 (i:Int)∧PrO wr w.heap.size O s (applyL l (ops.take i))∧Below w.heap.size w wr) (fun _ z _=>on-(intOf z).toNat)
 case atStart=>exact⟨0,Nat.zero_le _,rfl,P6.out,B6.out⟩
 case round=>
  obtain⟨i,hi,rfl,hp,hb⟩:=hrel
  have BW:=zz hb
  have PP:=zz hp
  by_cases hlt:i<on
  · obtain⟨o,hoi⟩:∃o,ops[i]? = some o:=⟨_,List.getElem?_eq_getElem (by rw[OL.out];exact hlt)⟩
    obtain⟨x,rfl,hxl,o1,o2,o3,o4,o5⟩:=(OB.out.ab hb).cel i o hoi
    have hok:=List.all_eq_true.1 ALL.out o (List.mem_of_getElem? hoi)
    unfold opOk at hok
    simp only[Bool.and_eq_true,decide_eq_true_eq] at hok
    obtain⟨len,hlen⟩:∃len,(applyL l (ops.take i)).length=len:=⟨_,rfl⟩
    obtain⟨vA,vc,hv⟩:=hp.sl
    rw[hlen] at hv
    subst hv
    have lb:len≤100000:=by
     have h1:=applyL_len l (ops.take i)
     rw[hlen,List.length_take] at h1
     have:=HL.out
     have:=NN.out
     have:=ON.out
     omega
    have HW:=zz (rwith_any o.d hp (applyL_asc (ops.take i) HA.out) lb o4 o5 (by omega) (by omega) (fun k hk=>HO.out k (Nat.le_trans hb.size hk)))
    have hlti:(i:Int)<(on:Int):=by omega
    have hi0:(0:Int)≤(i:Int):=by omega
    have KL:=zz hlt
    have ST:Hid (applyL l (ops.take (i+1))=withL (applyL l (ops.take i)) (k8 o.k.l) o.v.l o.d):=zz (by rw[List.take_add_one,hoi];exact applyL_snoc _ _ _)
    clear hi hlt hp hb hoi hok hlen lb o4 o5
    go_wp2_with fail
    refine HW.out.mono ?_
    rintro e w1 ⟨v,rfl,hp,hb⟩
    have P1:=zz (hp.low BW.out.size)
    have B1:=zz (below_tr BW.out hb BW.out.size)
    clear hp hb HW
    go_wp2_with fail
    go_roundw
    case rel=>exact⟨i+1,KL.out,by go_num,by rw[ST.out];exact P1.out,B1.out⟩
    case measure=>simp[intOf];have:=KL.out;omega
  · obtain rfl:i=on:=by omega
    have E:Hid (applyL l (ops.take i)=applyL l ops):=zz (by rw[List.take_of_length_le (by rw[OL.out];exact Nat.le_refl _)])
    rw[E.out] at PP
    clear hi hlt hp hb
    go_wp2_with fail
    go_ret
    exact⟨_,rfl,PP.out,BW.out⟩
end
theorem SnR.at {w:World} {O:Tg} {v:Value} {sn:List (Bk2×Bool)} (h:SnR w O v sn):∃A c,v = .slice A sn.length c∧∀(i:Nat) (p:Bk2×Bool),sn[i]? = some p→∃g m l,A=some ⟨g,0,none⟩∧w.cell? ⟨g,i*2,none⟩=some m∧w.cell? ⟨g,i*2+1,none⟩=some (.bool p.2)∧MpR w O m p.1 l:=by
 obtain⟨vs,h1,h2,h3⟩:=h
 obtain⟨A,c,rfl⟩:=row_shape h1
 refine⟨A,c,rfl,fun i p hp=>?_⟩
 have hi:=(List.getElem?_eq_some_iff.1 hp).1
 obtain⟨g,rfl,hc⟩:=row_cells h1 (by omega)
 obtain⟨q,hq⟩:∃q,vs[i]? = some q:=⟨_,List.getElem?_eq_getElem (by omega)⟩
 obtain⟨h4,l,h5⟩:=h3 i q p hq hp
 obtain⟨f1,f2⟩:=flat_at vs i q hq
 exact⟨g,q.1,l,rfl,hc _ _ f1,by rw[←h4];exact hc _ _ f2,h5⟩
theorem MpR.sl {w:World} {O:Tg} {v:Value} {S l:Bk2} (h:MpR w O v S l):∃A c,v = .slice A l.length c:=h.prs.own.sl
theorem liveC_cons (p:Bk2×Bool) (r:List (Bk2×Bool)):liveC (p::r)=(bif p.2 then liveC r else chg p.1::liveC r):=by
 unfold liveC
 rw[List.filter_cons]
 cases p.2 <;> rfl
theorem liveC_app (a b:List (Bk2×Bool)):liveC (a++b)=liveC a++liveC b:=by unfold liveC;rw[List.filter_append,List.map_append]
theorem sumS_app (a b:List Int):sumS (a++b)=sumS a+sumS b:=by simp[sumS]
section
variable {w:World} {O:Tg} {r b c:Nat} {t:TnP} {mv cv sv:Value} {l:Bk2}
set_option maxRecDepth 100000 in
theorem rsnapped_any (h:RtM w O r b t mv l c cv sv) (hn:t.sn.length≤100000):
 Calls Tryz.prog 55 #[.pointer (some ⟨b,0,none⟩)] w fun e w'=>e = .returned (.bool (!decide (liveC t.sn=[])))∧w=w':=by
 obtain⟨A,cc,rfl,hc⟩:=h.sns.at
 obtain⟨m,hm⟩:∃m,t.sn.length=m:=⟨_,rfl⟩
 have c5:w.cell? ⟨b,5,none⟩=some (.slice A m cc):=by rw[←hm];exact h.box.cell (k:=5) rfl
 have HC:=zz hc
 have HM:=zz hm
 have m0:(m:Int)≤100000:=by omega
 clear h hc hn hm
 go_enter Tryz.func55,Tryz.ntmps55
 go_wp2_with fail
 go_loopw [3] (fun z wr=>∃i:Nat,i≤m∧z = .int .i64 (i:Int)∧liveC (t.sn.take i)=[]∧wr=w) (fun z _=>m-(intOf z).toNat)
 case atStart=>exact⟨0,Nat.zero_le _,rfl,rfl,rfl⟩
 case round=>
  obtain⟨i,hi,rfl,hall,hwr⟩:=hrel
  subst hwr
  have AL:=zz hall
  by_cases hlt:i<m
  · obtain⟨p,hp⟩:∃p,t.sn[i]? = some p:=⟨_,List.getElem?_eq_getElem (by rw[HM.out];exact hlt)⟩
    obtain⟨g,mv',l',rfl,a1,a2,_⟩:=HC.out i p hp
    have hlti:(i:Int)<(m:Int):=by omega
    have hi0:(0:Int)≤(i:Int):=by omega
    have KL:=zz hlt
    have TS:Hid (liveC (t.sn.take (i+1))=bif p.2 then [] else [chg p.1]):=zz (by
     rw[List.take_add_one,hp,liveC_app,hall]
     simp only[Option.toList_some,List.nil_append]
     rw[liveC_cons]
     rfl)
    have TD:Hid (p.2=false→liveC t.sn≠[]):=zz fun e e2=>by
     have h1:=TS.out
     rw[e] at h1
     have h2:liveC t.sn=liveC (t.sn.take (i+1))++liveC (t.sn.drop (i+1)):=by rw[←liveC_app,List.take_append_drop]
     rw[h1,e2] at h2
     simp at h2
    obtain⟨gone,hg⟩:∃x,p.2=x:=⟨_,rfl⟩
    rw[hg] at a2 TS TD
    clear hi hlt hall hp hg a1
    cases gone
    · have E:Hid ((!decide (liveC t.sn=[]))=true):=zz (by rw[decide_eq_false (TD.out rfl)];rfl)
      go_wp2_with fail
      go_ret
      exact⟨by rw[E.out];rfl,rfl⟩
    · go_wp2_with fail
      go_roundw
      case rel=>exact⟨i+1,KL.out,by go_num,TS.out,trivial⟩
      case measure=>simp[intOf];have:=KL.out;omega
  · obtain rfl:i=m:=by omega
    have E:Hid ((!decide (liveC t.sn=[]))=false):=zz (by
     rw[List.take_of_length_le (by rw[HM.out];exact Nat.le_refl _)] at hall
     rw[decide_eq_true hall];rfl)
    clear hi hlt hall
    go_wp2_with fail
    go_ret
    exact⟨by rw[E.out];rfl,rfl⟩
def RseenR (w:World) (O:Tg) (t:TnP) (sn:Nat) (e:Ending):Prop:=(seenP t sn=none∧e = .returned (.tuple #[.slice none 0 0,.int .i64 262]))∨∃S A c l,seenP t sn=some S∧MpR w O (.slice A l.length c) S l∧e = .returned (.tuple #[.slice A l.length c,.int .i64 0])
set_option maxRecDepth 100000 in
theorem rseen_any (sn:Nat) (h:RtM w O r b t mv l c cv sv) (hn:t.sn.length≤100000) (h64:sn<18446744073709551616):
 Calls Tryz.prog 65 #[.pointer (some ⟨b,0,none⟩),.int .u64 (sn:Int)] w fun e w'=>RseenR w O t sn e∧w=w':=by
 obtain⟨A,cc,rfl,hc⟩:=h.sns.at
 obtain⟨m,hm⟩:∃m,t.sn.length=m:=⟨_,rfl⟩
 have c5:w.cell? ⟨b,5,none⟩=some (.slice A m cc):=by rw[←hm];exact h.box.cell (k:=5) rfl
 have m0:(m:Int)≤100000:=by omega
 by_cases h0:sn=0
 · obtain⟨mA,mc,rfl⟩:=h.now.sl
   have c3:w.cell? ⟨b,3,none⟩=some (.slice mA l.length mc):=h.box.cell (k:=3) rfl
   have t0:((sn:Int)==0)=true:=by rw[h0];rfl
   have RR:Hid (RseenR w O t sn (.returned (.tuple #[.slice mA l.length mc,.int .i64 0]))):=zz (.inr ⟨t.now,mA,mc,l,by unfold seenP;rw[if_pos h0],h.now,rfl⟩)
   clear h hc hn hm h0
   go_enter Tryz.func65,Tryz.ntmps65
   go_wp2_with fail
   go_ret2
   exact⟨RR.out,rfl⟩
 have t0:((sn:Int)==0)=false:=by simp;omega
 have hs1:(sn:Int)-1=((sn-1:Nat):Int):=by omega
 by_cases h1:m<sn
 · have t1:decide (m<sn)=true:=decide_eq_true h1
   have tI:(m:Int)<(sn:Int):=by omega
   have RR:Hid (RseenR w O t sn (.returned (.tuple #[.slice none 0 0,.int .i64 262]))):=zz (.inl ⟨by unfold seenP;rw[if_neg h0,List.getElem?_eq_none (by omega)],rfl⟩)
   clear h hc hn hm h0 h1
   go_enter Tryz.func65,Tryz.ntmps65
   go_wp2_with fail
   go_ret2
   exact⟨RR.out,rfl⟩
 have t1:decide (m<sn)=false:=decide_eq_false h1
 have tI:¬(m:Int)<(sn:Int):=by omega
 obtain⟨p,hp⟩:∃p,t.sn[sn-1]? = some p:=⟨_,List.getElem?_eq_getElem (by omega)⟩
 obtain⟨g,mv',l',rfl,a1,a2,a3⟩:=hc (sn-1) p hp
 obtain⟨sA,sc,rfl⟩:=a3.sl
 obtain⟨S,gone⟩:=p
 simp only at a2 a3
 obtain⟨k,hk⟩:∃k,sn-1=k:=⟨_,rfl⟩
 rw[hk] at a1 a2 hs1
 have hkm:(k:Int)<(m:Int):=by omega
 have hk0:(0:Int)≤(k:Int):=by omega
 have hkw:IntKind.u64.wrap (k:Int)=(k:Int):=wrap_u64' (n:=k) (by omega) _ (by omega) (by omega)
 cases gone
 · have RR:Hid (RseenR w O t sn (.returned (.tuple #[.slice sA l'.length sc,.int .i64 0]))):=zz (.inr ⟨S,sA,sc,l',by unfold seenP;rw[if_neg h0,hp],a3,rfl⟩)
   clear h hc hn hm h0 h1 hp a3 hk
   go_enter Tryz.func65,Tryz.ntmps65
   go_wp2_with fail
   go_ret2
   exact⟨RR.out,rfl⟩
 · have RR:Hid (RseenR w O t sn (.returned (.tuple #[.slice none 0 0,.int .i64 262]))):=zz (.inl ⟨by unfold seenP;rw[if_neg h0,hp],rfl⟩)
   clear h hc hn hm h0 h1 hp a3 hk
   go_enter Tryz.func65,Tryz.ntmps65
   go_wp2_with fail
   go_ret2
   exact⟨RR.out,rfl⟩
end
def PrU (w:World) (v:Value) (l:Bk2):Prop:=l.length≤1000000∧
 ∃ vs:List (Value×Value),w.ownsRow 0 87 2 v l.length (vs.flatMap fun p=>[p.1,p.2])∧vs.length=l.length∧
   ∀(i:Nat) (p:Value×Value) (q:Ky×List Nat),vs[i]? = some p→l[i]? = some q→(∃k,OwB w 0 p.1 k∧k8 k=q.1)∧OwB w 0 p.2 q.2
structure AnsI (w:World) (cs:Array Value) (a:AnsP):Prop where
 sh:∃A1 n1 c1 A2 n2 c2 A3 n3 c3,cs = #[.int .i64 a.err,.int .u64 (a.hd:Int),.int .u64 (a.sn:Int),.slice A1 n1 c1,.slice A2 n2 c2,.int .i64 a.cnt,.slice A3 n3 c3]∧OwB w 0 (.slice A1 n1 c1) a.val∧PrU w (.slice A2 n2 c2) a.prs∧U32.NsB w 0 (.slice A3 n3 c3) a.lst
theorem PrU.nil (w:World):PrU w (.slice none 0 0) []:=⟨Nat.zero_le _,[],World.ownsRow_nil _ _ _ _,rfl,fun i p q hi=>(by simp at hi)⟩
theorem PrU.frT {w w':World} {v:Value} {l:Bk2} {F:Nat→Prop} (h:PrU w v l) (k:Fr w w' F) (hF:∀g,F g→∃T cs,CbB w g T cs∧T≠5∧T≠87):PrU w' v l:=by
 obtain⟨h0,vs,h1,h2,h3⟩:=h
 have fb:∀{z:Value} {u:List Nat},OwB w 0 z u→OwB w' 0 z u:=fun {z u} hz=>hz.fr k fun g hg e=>by
  obtain⟨T,cs,hb,t1,_⟩:=hF g e
  exact row_ne hz.own hb t1 hg
 refine⟨h0,vs,row_fr h1 k (fun g hg e=>?_),h2,fun i p q hp hq=>?_⟩
 · obtain⟨T,cs,hb,_,t2⟩:=hF g e
   exact row_ne h1 hb t2 hg
 · obtain⟨⟨kk,k1,k2⟩,k3⟩:=h3 i p q hp hq
   exact⟨⟨kk,fb k1,k2⟩,fb k3⟩
theorem AnsI.frT {w w':World} {cs:Array Value} {a:AnsP} {F:Nat→Prop} (h:AnsI w cs a) (k:Fr w w' F) (hF:∀g,F g→∃T cs,CbB w g T cs∧T≠5∧T≠87∧T≠31):AnsI w' cs a:=by
 obtain⟨A1,n1,c1,A2,n2,c2,A3,n3,c3,rfl,h1,h2,h3⟩:=h
 refine⟨_,_,_,_,_,_,_,_,_,rfl,h1.fr k fun g hg e=>?_,h2.frT k fun g e=>?_,row_fr h3 k fun g hg e=>?_⟩
 · obtain⟨T,cs,hb,t1,_⟩:=hF g e
   exact row_ne h1.own hb t1 hg
 · obtain⟨T,cs,hb,t1,t2,_⟩:=hF g e
   exact⟨T,cs,hb,t1,t2⟩
 · obtain⟨T,cs,hb,_,_,t3⟩:=hF g e
   exact row_ne h3 hb t3 hg
theorem AnsI.box {w w':World} {cs:Array Value} {a:AnsP} {g:Nat} {cs0:Array Value} (h:AnsI w cs a) (k:Fr w w' (fun q=>q=g)) (hb:CbB w g 44 cs0):AnsI w' cs a:=
 h.frT k fun q e=>⟨_,_,e▸hb,by decide,by decide,by decide⟩
theorem AnsI.flat (w:World) (e:Int) (h sn:Nat) (n:Int):AnsI w #[.int .i64 e,.int .u64 (h:Int),.int .u64 (sn:Int),.slice none 0 0,.slice none 0 0,.int .i64 n,.slice none 0 0] ⟨e,h,sn,[],[],n,[]⟩:=
 ⟨_,_,_,_,_,_,_,_,_,rfl,OwB.nil _ _,PrU.nil w,U32.NsB.nil _ _⟩
theorem AnsI.ab {w w':World} {cs:Array Value} {a:AnsP} (h:AnsI w cs a) (hb:Below w.heap.size w w'):AnsI w' cs a:=by
 have k:Fr w w' (fun _=>False):=Fr.of hb _
 exact h.frT k fun g e=>e.elim
theorem PrO.u {w:World} {C:Nat} {O:Tg} {v:Value} {l:Bk2} (h:PrO w C O v l) (hl:l.length≤1000000):PrU w v l:=by
 obtain⟨vs,h1,h2,h3⟩:=h
 refine⟨hl,vs,row_low h1 (Nat.zero_le _),h2,fun i p q hp hq=>?_⟩
 obtain⟨⟨k,k1,k2⟩,k3⟩:=h3 i p q hp hq
 exact⟨⟨k,k1.own,k2⟩,k3.own⟩
def RdR (r blocks:Nat) (w:World) (O:Tg) (a:AnsP) (T':List TnP) (e:Ending) (w':World):Prop:=
 ∃cs O',e = .returned (.agg cs)∧AnsI w' cs a∧RfB w' O' r blocks T'∧Stp (fun τ=>τ.1=r) w O w' O'
def RtR (r b:Nat) (w:World) (O:Tg) (a:AnsP) (t':TnP) (e:Ending) (w':World):Prop:=
 ∃cs O',e = .returned (.agg cs)∧AnsI w' cs a∧RtB w' O' r b t'∧Stp (fun τ=>τ=(r,t'.n)) w O w' O'
def nonTg (O:Tg) (N:Nat):Tg:=fun k=>if k<N then O k else none
theorem nonTg_lt {O:Tg} {N k:Nat} (h:k<N):nonTg O N k=O k:=by unfold nonTg;rw[if_pos h]
theorem nonTg_ge {O:Tg} {N k:Nat} (h:N≤k):nonTg O N k=none:=by unfold nonTg;rw[if_neg (by omega)]
section
variable {w w1:World} {O O1:Tg} {r blocks n:Nat} {T:List TnP} {av:Value} {bs:List (Nat×TnP)}
theorem RfM.upd (h:RfM w O r blocks T av bs) {x:Nat×TnP} (hf:fnd bs n=some x) (k:Stp (fun τ=>τ=(r,n)) w O w1 O1) {t':TnP} (hn:t'.n=n) (hok:TnOk t') (ht:RtB w1 O1 r x.1 t'):
 RfM w1 O1 r blocks (updT n t' T) av (bs.map fun y=>if y.2.n=n then (y.1,t') else y):=by
 have h1:1≤n:=hn▸hok.n1
 have n0:¬(r,0)=(r,n):=fun e=>by injection e with _ e;omega
 obtain⟨hm,hxn⟩:=fnd_mem hf
 obtain⟨r1,r2⟩:=row_tg h.row h.rtag k (fun t e=>by cases e)
 have em:∀(f:Nat×TnP→Nat),(∀y:Nat×TnP,y.2.n=n→f (y.1,t')=f y)→(bs.map fun y=>if y.2.n=n then (y.1,t') else y).map f=bs.map f:=fun f hf'=>by
  rw[List.map_map]
  refine List.map_congr_left fun y _=>?_
  simp only[Function.comp_apply]
  by_cases e:y.2.n=n
  · rw[if_pos e];exact hf' y e
  · rw[if_neg e]
 refine⟨(k.ot h.box.lt h.tr n0).1.trans h.box,?_,r2,?_,?_,fun y hy=>?_,fun y hy=>?_,(k.ot h.box.lt h.tr n0).2,h.pos⟩
 · have e:(bs.map fun y=>if y.2.n=n then (y.1,t') else y).map (fun x=>ptrV x.1)=bs.map fun x=>ptrV x.1:=by
    rw[List.map_map]
    refine List.map_congr_left fun y _=>?_
    simp only[Function.comp_apply]
    by_cases e:y.2.n=n
    · rw[if_pos e]
    · rw[if_neg e]
   rw[e,List.length_map]
   exact r1
 · rw[em (fun x=>x.2.n) (fun y e=>by simp only[hn,e])]
   exact h.asc
 · have e:(bs.map fun y=>if y.2.n=n then (y.1,t') else y).map (·.2)=updT n t' (bs.map (·.2)):=by
    unfold updT
    rw[List.map_map,List.map_map]
    refine List.map_congr_left fun y _=>?_
    simp only[Function.comp_apply]
    by_cases e:y.2.n=n
    · rw[if_pos e,if_pos e]
    · rw[if_neg e,if_neg e]
   rw[e]
   exact h.prm.map _
 · obtain⟨z,hz,rfl⟩:=List.mem_map.1 hy
   by_cases e:z.2.n=n
   · rw[if_pos e]
     obtain rfl:z=x:=nodup_one h.nodup hz hm (e.trans hxn.symm)
     exact ht
   · rw[if_neg e]
     exact (h.all z hz).stp k (fun e2=>e (by injection e2))
 · obtain⟨z,hz,rfl⟩:=List.mem_map.1 hy
   by_cases e:z.2.n=n
   · rw[if_pos e];exact hok
   · rw[if_neg e];exact h.ok z hz
theorem RfM.nodupT (h:RfM w O r blocks T av bs):(T.map (·.n)).Nodup:=by
 have h1:=(h.prm.map (·.n)).nodup_iff.1 (by rw[List.map_map];exact h.nodup)
 exact h1
theorem RfM.fnd_T (h:RfM w O r blocks T av bs) (n:Nat):fndT T n=(fnd bs n).map (·.2):=by
 cases hf:fnd bs n with
 | some x=>
   obtain⟨h1,h2⟩:=fnd_mem hf
   have:x.2∈T:=h.prm.mem_iff.1 (List.mem_map.2 ⟨x,h1,rfl⟩)
   rw[←h2]
   exact fndT_of h.nodupT this
 | none=>
   cases hg:fndT T n with
   | none=>rfl
   | some t=>
     obtain⟨h1,h2⟩:=fndT_mem hg
     obtain⟨x,hx,hxt⟩:=List.mem_map.1 (h.prm.mem_iff.2 h1)
     have:=fnd_of h.nodup hx
     rw[hxt,h2] at this
     rw[hf] at this
     cases this
end
theorem sumS_live_le (sn:List (Bk2×Bool)) (h:∀p∈sn,p.1.length≤100000):0≤sumS (liveC sn)∧sumS (liveC sn)≤1100001*(sn.length:Int):=by
 induction sn with
 | nil=>exact⟨by decide,by decide⟩
 | cons p r ih=>
   obtain⟨i1,i2⟩:=ih fun q hq=>h q (List.mem_cons_of_mem _ hq)
   have hb:=chg_bd p.1
   have hl:=h p List.mem_cons_self
   rw[liveC_cons]
   simp only[List.length_cons]
   cases p.2
   · have e:sumS (chg p.1::liveC r)=(chg p.1+1)+sumS (liveC r):=by simp[sumS]
     simp only[cond_false]
     rw[e]
     omega
   · simp only[cond_true]
     omega
section
variable {w:World} {O:Tg} {r b c C n cc:Nat} {t:TnP} {mv cv sv:Value} {l L:Bk2} {A:Option Addr}
set_option maxRecDepth 100000 in
theorem rcharged_any (h:RtM w O r b t mv l c cv sv) (hn:t.sn.length≤1000) (hs:∀p∈t.sn,p.1.length≤100000) (hp:PrO w C O (.slice A n cc) L) (ho:OkB L) (hL:n≤100000):
 Calls Tryz.prog 64 #[.pointer (some ⟨b,0,none⟩),.slice A n cc] w fun e w'=>e = .returned (.int .i64 (chg L+sumS (liveC t.sn)))∧Below w.heap.size w w':=by
 have HT:=zz h
 have CB:=zz (show 0≤chg L∧chg L≤1100000 by have:=chg_le L L.length (by rw[←hp.len];exact hL);rwa [List.take_length] at this)
 have HC1:=zz (rcharge26 hp ho hL)
 obtain⟨m,hm⟩:∃m,t.sn.length=m:=⟨_,rfl⟩
 have HM:=zz hm
 have HS:=zz hs
 have M1:Hid (m≤1000):=zz (by omega)
 have m0:(m:Int)≤1000:=by omega
 obtain⟨z0,hz0⟩:∃z0,chg L=z0:=⟨_,rfl⟩
 rw[hz0] at CB HC1⊢
 clear h hn hs hp ho hL hm hz0
 go_enter Tryz.func64,Tryz.ntmps64
 go_wp2_with fail
 refine HC1.out.mono ?_
 rintro e w1 ⟨rfl,hb⟩
 have B1:=zz hb
 clear hb HC1
 go_wp2_with fail
 go_loopw [5,7] (fun s z wr=>∃i:Nat,i≤m∧z = .int .i64 (i:Int)∧s = .int .i64 (z0+sumS (liveC (t.sn.take i)))∧Below w.heap.size w wr) (fun _ z _=>m-(intOf z).toNat)
 case atStart=>exact⟨0,Nat.zero_le _,rfl,by simp[liveC,sumS],B1.out⟩
 case round=>
  obtain⟨i,hi,rfl,rfl,hb⟩:=hrel
  have BW:=zz hb
  have TW:=HT.out.ab hb
  obtain⟨sA,sc,hsv,hc⟩:=TW.sns.at
  rw[HM.out] at hsv
  have c5:wr.cell? ⟨b,5,none⟩=some (.slice sA m sc):=by rw[←hsv];exact TW.box.cell (k:=5) rfl
  by_cases hlt:i<m
  · obtain⟨p,hp⟩:∃p,t.sn[i]? = some p:=⟨_,List.getElem?_eq_getElem (by rw[HM.out];exact hlt)⟩
    obtain⟨g,mv',l',rfl,a1,a2,a3⟩:=hc i p hp
    obtain⟨qA,qc,rfl⟩:=a3.sl
    have hpl:=HS.out p (List.mem_of_getElem? hp)
    have hll:l'.length=p.1.length:=a3.prm.length_eq
    have HCC:=zz (rcharge26 a3.prs.own a3.ok (by omega))
    have EC:chg l'=chg p.1:=by unfold chg;exact sum_perm (a3.prm.map _)
    rw[EC] at HCC
    have hlti:(i:Int)<(m:Int):=by omega
    have hi0:(0:Int)≤(i:Int):=by omega
    have KL:=zz hlt
    have bd:=sumS_live_le (t.sn.take i) (fun q hq=>HS.out q (List.mem_of_mem_take hq))
    rw[List.length_take,Nat.min_eq_left (by rw[HM.out];omega)] at bd
    have pb:=chg_bd p.1
    have ST:Hid (sumS (liveC (t.sn.take (i+1)))=sumS (liveC (t.sn.take i))+(bif p.2 then 0 else chg p.1+1)):=zz (by
     rw[List.take_add_one,hp,liveC_app,sumS_app]
     simp only[Option.toList_some]
     rw[liveC_cons]
     cases p.2 <;> simp[sumS,liveC])
    have CB':=CB.out
    have M1':=M1.out
    obtain⟨y,hy⟩:∃y,sumS (liveC (t.sn.take i))=y:=⟨_,rfl⟩
    obtain⟨z,hz⟩:∃z,chg p.1=z:=⟨_,rfl⟩
    rw[hy] at bd ST⊢
    rw[hz] at HCC pb ST
    have y0:0≤y:=bd.1
    have y1:y≤1200000000:=by omega
    have zz0:0≤z:=pb.1
    have zz1:z≤1200000:=by omega
    have x0:0≤z0:=CB'.1
    have x1:z0≤1100000:=CB'.2
    obtain⟨gone,hg⟩:∃x,p.2=x:=⟨_,rfl⟩
    rw[hg] at a2 ST
    clear hi hlt hp hg a3 hpl hll EC bd pb CB' M1' hy hz TW hc hsv hb
    cases gone
    · go_wp2_with fail
      refine HCC.out.mono ?_
      rintro e w2 ⟨rfl,hb⟩
      have B2:=zz (below_tr BW.out hb BW.out.size)
      clear hb HCC
      go_wp2_with fail
      go_roundw
      case rel=>exact⟨i+1,KL.out,by go_num,by rw[ST.out];simp only[cond_false];congr 1;omega,B2.out⟩
      case measure=>simp[intOf];have:=KL.out;omega
    · go_wp2_with fail
      go_roundw
      case rel=>exact⟨i+1,KL.out,by go_num,by rw[ST.out];simp,BW.out⟩
      case measure=>simp[intOf];have:=KL.out;omega
  · obtain rfl:i=m:=by omega
    have E:Hid (sumS (liveC (t.sn.take i))=sumS (liveC t.sn)):=zz (by rw[List.take_of_length_le (by rw[HM.out];exact Nat.le_refl _)])
    rw[E.out]
    clear hi hlt hc hsv hb TW
    go_wp2_with fail
    go_ret
    exact⟨rfl,BW.out⟩
set_option maxRecDepth 100000 in
theorem rhandle_no (n h e:Nat) (he:0<e) (w:World) (b:Nat):Calls Tryz.prog 56 #[.pointer (some ⟨b,0,none⟩),.int .u64 (h:Int),.int .i64 (e:Int)] w fun r w'=>r = .returned (.agg (ansE e))∧Below w.heap.size w w':=by
 have d0:((e:Int) != 0)=true:=by simp;omega
 have n0:¬e=0:=by omega
 have HF:=zz fun W=>rerr_any (e:Int) W
 have Q0:Hid (CbB (w.alloc (.cells (ansE 0) 44)) w.heap.size 44 (ansE 0)):=zz (CbB.new _ _ _)
 have B0:Hid (Below w.heap.size w (w.alloc (.cells (ansE 0) 44))):=zz (alB)
 clear he
 go_enter Tryz.func56,Tryz.ntmps56
 go_wp2_with fail
 refine (HF.out _).mono ?_
 rintro r w1 ⟨rfl,hb⟩
 have Q1:=zz (Q0.out.ab hb)
 have B1:=zz (below_tr B0.out hb B0.out.size)
 clear hb Q0 B0
 go_wp2_with (first
  | (with_reducible refine wpList_storeC (o:=⟨none,.store _ (.tmp 6) (.tmp 10),_,_,_,_⟩) ?_ 44 (.tmp 6) (.tmp 10) ?_ w.heap.size ?_ (ansE e) ?_ (cs:=ansE 0) (t:=44) Q1.out (szAnsE _) ?_ (ansE_one _) ?_
     · rfl
     · rfl
     · rfl
     · rfl
     · rfl
     intro w2 hw2
     have Q2:Hid (CbB w2 w.heap.size 44 (ansE e)):=zz (by rw[hw2];exact CbB.row Q1.out _)
     have B2:Hid (Below w.heap.size w w2):=zz (by rw[hw2];exact Below.row B1.out (Nat.le_refl _) _)
     clear hw2))
 exact bodyPost_ret (ans_results Tryz.results56 _ _ w.heap.size (ansE e) rfl Q2.out rfl) rfl ⟨rfl,B2.out⟩
set_option maxRecDepth 100000 in
theorem rhandle_yes (hd:Nat) (hh:hd<4294967296) (h:RtM w O r b t mv l c cv sv) (hn:t.n<4294967296):Calls Tryz.prog 56 #[.pointer (some ⟨b,0,none⟩),.int .u64 (hd:Int),.int .i64 0] w fun r w'=>r = .returned (.agg (ansH (t.n*4294967296+hd)))∧Below w.heap.size w w':=by
 have ha:Below w.heap.size w (w.alloc (.cells (ansE 0) 44)):=alB
 have c0:(w.alloc (.cells (ansE 0) 44)).cell? ⟨b,0,none⟩=some (.int .u32 (t.n:Int)):=(h.box.ab ha).cell (k:=0) rfl
 obtain⟨n,hnn⟩:∃n,t.n=n:=⟨_,rfl⟩
 rw[hnn] at c0 hn⊢
 have n0:(0:Int)≤(n:Int):=by omega
 have n1:(n:Int)<4294967296:=by omega
 have h0:(0:Int)≤(hd:Int):=by omega
 have h1:(hd:Int)<4294967296:=by omega
 clear h ha hnn
 unfold ansE at c0
 go_enter Tryz.func56,Tryz.ntmps56
 go_wp2_with fail
 have e:ansH (n*4294967296+hd) = #[.int .i64 0,.int .u64 ((n:Int)*4294967296+(hd:Int)),.int .u64 0,.slice none 0 0,.slice none 0 0,.int .i64 0,.slice none 0 0]:=by
  unfold ansH
  rw[show ((n*4294967296+hd:Nat):Int)=(n:Int)*4294967296+(hd:Int) by omega]
 exact bodyPost_ret (ans_results Tryz.results56 _ _ w.heap.size (ansH (n*4294967296+hd)) rfl (by rw[e];exact CbB.new _ _ _) rfl) rfl ⟨rfl,alB⟩
end
theorem AnsI.err (w:World) (e:Int):AnsI w (ansE e) (errA e):=AnsI.flat w e 0 0 0
section
variable {w:World} {O:Tg} {r b c:Nat} {t:TnP} {mv cv sv:Value} {l:Bk2} {oA:Option Addr} {on oc:Nat} {ops:List OpP}
set_option maxRecDepth 100000 in
theorem rbatch_many (h:RtM w O r b t mv l c cv sv) (hr:0<r) (hn:100<on):
 Calls Tryz.prog 62 #[.pointer (some ⟨b,0,none⟩),.slice oA on oc] w (RtR r b w O (errA 2) t):=by
 have ha:Below w.heap.size w (w.alloc (.cells #[.int .i64 0,.int .u64 0,.int .u64 0,.slice none 0 0,.slice none 0 0,.int .i64 0,.slice none 0 0] 44)):=alB
 have HA:=zz ha
 have Q0:Hid (CbB (w.alloc (.cells #[.int .i64 0,.int .u64 0,.int .u64 0,.slice none 0 0,.slice none 0 0,.int .i64 0,.slice none 0 0] 44)) w.heap.size 44 (ansE 0)):=zz (CbB.new _ _ _)
 have T0:=zz (h.stp (ctS ha) fun h=>h)
 have HF:=zz fun e W=>rerr_any e W
 have NP:Hid (0<r):=zz hr
 have d0:decide ((100:Int)<(on:Int))=true:=by simp;omega
 have dN:100<on:=hn
 clear h hr hn
 clear ha
 go_enter Tryz.func62,Tryz.ntmps62
 go_upto_region 1 with (fail)
 obtain⟨w0,hw0⟩:∃w0,(w.alloc (.cells #[.int .i64 0,.int .u64 0,.int .u64 0,.slice none 0 0,.slice none 0 0,.int .i64 0,.slice none 0 0] 44))=w0:=⟨_,rfl⟩
 rw[hw0] at HA Q0 T0⊢
 clear hw0
 go_wp2_with fail
 refine (HF.out _ _).mono ?_
 rintro e w8 ⟨rfl,hb⟩
 have Q8:=zz (Q0.out.ab hb)
 have S8:Hid (Stp (fun τ=>τ=(r,t.n)) w O w8 (cutTg O w.heap.size)):=zz ((Stp.cut HA.out _).ab hb)
 have T8:=zz (T0.out.ab hb)
 clear hb
 go_wp2_with (first
  | ((with_reducible refine stA 14 ?_ (ansE 2) ?_ Q8 ?_ ?_ (ansE_one _) ?_);rfl;rfl;rfl;rfl;intro wz QZ FZ))
 refine bodyPost_ret (ansR Tryz.results62 QZ rfl rfl) rfl ?_
 exact⟨_,_,rfl,AnsI.err _ 2,⟨_,_,_,_,_,T8.out.stp (Stp.box FZ.out (cutTg_at (Nat.le_refl _))) fun e=>by injection e with e1 e2;have:=NP.out;omega⟩,S8.out.fresh FZ.out (Nat.le_refl _)⟩
set_option maxRecDepth 100000 in
theorem rbatch_bad (h:RtM w O r b t mv l c cv sv) (hr:0<r) (hn:on≤100) (ho:OpsB w oA on oc ops) (hall:ops.all opOk=false):
 Calls Tryz.prog 62 #[.pointer (some ⟨b,0,none⟩),.slice oA on oc] w (RtR r b w O (errA 2) t):=by
 have ha:Below w.heap.size w (w.alloc (.cells #[.int .i64 0,.int .u64 0,.int .u64 0,.slice none 0 0,.slice none 0 0,.int .i64 0,.slice none 0 0] 44)):=alB
 have HA:=zz ha
 have Q0:Hid (CbB (w.alloc (.cells #[.int .i64 0,.int .u64 0,.int .u64 0,.slice none 0 0,.slice none 0 0,.int .i64 0,.slice none 0 0] 44)) w.heap.size 44 (ansE 0)):=zz (CbB.new _ _ _)
 have T0:=zz (h.stp (ctS ha) fun h=>h)
 have HF:=zz fun e W=>rerr_any e W
 have NP:Hid (0<r):=zz hr
 have d0:decide ((100:Int)<(on:Int))=false:=by simp;omega
 have dN:decide (100<on)=false:=decide_eq_false (by omega)
 have HR:=zz fun W (hb:Below w.heap.size w W)=>rAllRight_any W (ho.ab hb) hn
 rw[hall] at HR
 clear h hr hn ho hall
 clear ha
 go_enter Tryz.func62,Tryz.ntmps62
 go_upto_region 1 with (fail)
 obtain⟨w0,hw0⟩:∃w0,(w.alloc (.cells #[.int .i64 0,.int .u64 0,.int .u64 0,.slice none 0 0,.slice none 0 0,.int .i64 0,.slice none 0 0] 44))=w0:=⟨_,rfl⟩
 rw[hw0] at HA Q0 T0⊢
 clear hw0
 go_wp2_with fail
 refine (HR.out _ HA.out).mono ?_
 rintro e w1 ⟨rfl,hb⟩
 have B1:=zz (below_tr HA.out hb HA.out.size)
 have Q1:=zz (Q0.out.ab hb)
 have T1:=zz (T0.out.ab hb)
 clear hb HR
 go_wp2_with fail
 refine (HF.out _ _).mono ?_
 rintro e w8 ⟨rfl,hb⟩
 have Q8:=zz (Q1.out.ab hb)
 have S8:Hid (Stp (fun τ=>τ=(r,t.n)) w O w8 (cutTg O w.heap.size)):=zz ((Stp.cut B1.out _).ab hb)
 have T8:=zz (T1.out.ab hb)
 clear hb
 go_wp2_with (first
  | ((with_reducible refine stA 14 ?_ (ansE 2) ?_ Q8 ?_ ?_ (ansE_one _) ?_);rfl;rfl;rfl;rfl;intro wz QZ FZ))
 refine bodyPost_ret (ansR Tryz.results62 QZ rfl rfl) rfl ?_
 exact⟨_,_,rfl,AnsI.err _ 2,⟨_,_,_,_,_,T8.out.stp (Stp.box FZ.out (cutTg_at (Nat.le_refl _))) fun e=>by injection e with e1 e2;have:=NP.out;omega⟩,S8.out.fresh FZ.out (Nat.le_refl _)⟩
set_option maxRecDepth 100000 in
theorem rbatch_ok (h:RtM w O r b t mv l c cv sv) (hr:0<r) (hn:on≤100) (ho:OpsB w oA on oc ops) (hall:ops.all opOk=true) (hop:∀o∈ops,o.k.l.length=o.k.n∧o.v.l.length=o.v.n) (hlm:LimK 800 t) (ov:Bool) (hov:overB (t.q:Int) (chg (doAll t.now ops)) (liveC t.sn)=ov):
 Calls Tryz.prog 62 #[.pointer (some ⟨b,0,none⟩),.slice oA on oc] w (RtR r b w O (bif ov then errA 261 else errA 0) (bif ov then t else batT t (doAll t.now ops))):=by
 have ha:Below w.heap.size w (w.alloc (.cells #[.int .i64 0,.int .u64 0,.int .u64 0,.slice none 0 0,.slice none 0 0,.int .i64 0,.slice none 0 0] 44)):=alB
 have HA:=zz ha
 have Q0:Hid (CbB (w.alloc (.cells #[.int .i64 0,.int .u64 0,.int .u64 0,.slice none 0 0,.slice none 0 0,.int .i64 0,.slice none 0 0] 44)) w.heap.size 44 (ansE 0)):=zz (CbB.new _ _ _)
 have T0:=zz (h.stp (ctS ha) fun h=>h)
 have HF:=zz fun e W=>rerr_any e W
 have NP:Hid (0<r):=zz hr
 have d0:decide ((100:Int)<(on:Int))=false:=by simp;omega
 have dN:decide (100<on)=false:=decide_eq_false (by omega)
 have HR:=zz fun W (hb:Below w.heap.size w W)=>rAllRight_any W (ho.ab hb) hn
 rw[hall] at HR
 have HO:=zz ho
 have ON:=zz hn
 have ALL:=zz hall
 have HOP:=zz hop
 have LM:=zz hlm
 have HT:=zz h
 clear h hr hn ho hall hop hlm
 clear ha
 go_enter Tryz.func62,Tryz.ntmps62
 go_upto_region 1 with (fail)
 obtain⟨w0,hw0⟩:∃w0,(w.alloc (.cells #[.int .i64 0,.int .u64 0,.int .u64 0,.slice none 0 0,.slice none 0 0,.int .i64 0,.slice none 0 0] 44))=w0:=⟨_,rfl⟩
 rw[hw0] at HA Q0 T0⊢
 clear hw0
 go_wp2_with fail
 refine (HR.out _ HA.out).mono ?_
 rintro e w1 ⟨rfl,hb⟩
 have B1:=zz (below_tr HA.out hb HA.out.size)
 have Q1:=zz (Q0.out.ab hb)
 obtain⟨O1,hO1⟩:∃O1,nonTg (cutTg O w.heap.size) w1.heap.size=O1:=⟨_,rfl⟩
 have N1:Hid (∀k,w1.heap.size≤k→O1 k=none):=zz fun k hk=>by rw[←hO1];exact nonTg_ge hk
 have C1:Hid (∀k,k<w1.heap.size→O1 k=cutTg O w.heap.size k):=zz fun k hk=>by rw[←hO1];exact nonTg_lt hk
 have T1:=zz ((T0.out.ab hb).stp (Stp.of (O':=O1) (Below.refl w1.heap.size w1) (fun _=>False) (fun k hk=>C1.out k hk)) fun h=>h)
 obtain⟨mA,mc,hmv⟩:=T1.out.now.sl
 subst hmv
 have LB:Hid (l.length≤80000):=zz (by have:=T1.out.now.prm.length_eq;have:=LM.out.now;omega)
 have OKO:Hid (∀o∈ops,1≤o.k.l.length∧o.k.l.length≤32∧o.v.l.length≤1024):=zz fun o ho=>by
  have h1:=List.all_eq_true.1 ALL.out o ho
  obtain⟨h2,h3⟩:=HOP.out o ho
  unfold opOk at h1
  simp only[Bool.and_eq_true,decide_eq_true_eq] at h1
  omega
 have HAP:=zz (rapply_any T1.out.now.prs.own T1.out.now.asc (by have:=LB.out;omega) (HO.out.ab B1.out) ON.out ALL.out N1.out)
 have m3:w1.cell? ⟨b,3,none⟩=some (.slice mA l.length mc):=T1.out.box.cell (k:=3) rfl
 clear hb HR hO1
 go_wp2_with fail
 refine HAP.out.mono ?_
 rintro e w2 ⟨v2,rfl,hp2,hb2⟩
 have LL:Hid ((applyL l ops).length≤80100):=zz (by have:=applyL_len l ops;have:=LB.out;have:=HO.out.len;have:=ON.out;omega)
 have AOK:Hid (OkB (applyL l ops)):=zz (applyL_ok ops T1.out.now.ok OKO.out)
 have APR:Hid ((applyL l ops).Perm (doAll t.now ops)):=zz (applyL_do ops T1.out.now.asc T1.out.now.prm)
 have ECH:Hid (chg (applyL l ops)=chg (doAll t.now ops)):=zz (by unfold chg;exact sum_perm (APR.out.map _))
 have P2:=zz hp2
 have B2:=zz hb2
 have T2:=zz (T1.out.ab hb2)
 have Q2:=zz (Q1.out.ab hb2)
 have BW2:=zz (below_tr B1.out hb2 B1.out.size)
 have ST2:Hid (Stp (fun τ=>τ=(r,t.n)) w O w2 O1):=zz (Stp.of BW2.out _ fun k hk=>by
  rw[C1.out k (Nat.lt_of_lt_of_le hk B1.out.size)]
  unfold cutTg
  rw[if_pos hk])
 have OA:Hid (O1 w.heap.size=some (0,0)):=zz (by rw[C1.out _ Q1.out.lt];exact cutTg_at (Nat.le_refl _))
 obtain⟨vA,vc,hv2⟩:=hp2.sl
 subst hv2
 have SNL:Hid (t.sn.length≤1000):=zz (by have:=LM.out.sn;omega)
 have HCH:=zz fun W (hb:Below w2.heap.size w2 W)=>rcharged_any (T2.out.ab hb) SNL.out (fun p hp=>by have:=LM.out.sns p hp;omega) (P2.out.ab hb) AOK.out (by have:=LL.out;omega)
 have CB2:Hid (0≤chg (doAll t.now ops)∧chg (doAll t.now ops)≤1000000):=zz (by rw[←ECH.out];have:=chg_bd (applyL l ops);have:=LL.out;omega)
 have SB2:Hid (0≤sumS (liveC t.sn)∧sumS (liveC t.sn)≤1200000000):=zz (by have:=sumS_live_le t.sn (fun p hp=>by have:=LM.out.sns p hp;omega);have:=SNL.out;omega)
 rw[ECH.out] at HCH
 have Q27:Hid (∀W,Below w2.heap.size w2 W→W.cell? ⟨b,2,none⟩=some (.int .i64 (t.q:Int))):=zz fun W hb=>(T2.out.box.ab hb).cell (k:=2) rfl
 obtain⟨q,hq⟩:∃q,t.q=q:=⟨_,rfl⟩
 obtain⟨z,hz⟩:∃z,chg (doAll t.now ops)=z:=⟨_,rfl⟩
 obtain⟨y,hy⟩:∃y,sumS (liveC t.sn)=y:=⟨_,rfl⟩
 obtain⟨len,hlen⟩:∃len,(applyL l ops).length=len:=⟨_,rfl⟩
 have OV:decide ((q:Int)<z+y)=ov:=by
  have:=hov
  unfold overB at this
  rw[hq,hz,hy] at this
  exact this
 simp only[hz,hy,hlen] at HCH
 simp only[hq] at Q27
 rw[hz] at CB2
 rw[hy] at SB2
 rw[hlen] at P2⊢
 have z0:=CB2.out.1
 have z1:=CB2.out.2
 have y0:=SB2.out.1
 have y1:=SB2.out.2
 clear hp2 hb2 m3 HAP hq hz hy hov hlen
 go_upto_region 4 with (fail)
 refine wp_wide3 [⟨21,IsR (.pointer (some ⟨b,0,none⟩)),[],false⟩,⟨22,IsR (.slice vA len vc),[],false⟩,⟨23,IsR (.int .i64 (z+y)),[0,1],false⟩,⟨24,IsR (.pointer (some ⟨b,0,none⟩)),[],false⟩,⟨25,IsR (.pointer (some ⟨b,0,none⟩)),[3],false⟩,⟨26,IsR (.pointer (some ⟨b,2,none⟩)),[4],false⟩,⟨27,IsR (.int .i64 (q:Int)),[5],false⟩] (by kernel_rfl) (by kernel_rfl) rfl rfl rfl ⟨?_,?_,?_,?_,?_,?_,?_,trivial⟩ ?_
 · refine okA rfl rfl fun a W hA hb hd=>?_
   have h0:a.tmps[0]?.getD undef = .pointer (some ⟨b,0,none⟩):=gt' hA (by simp) rfl
   go_simp
 · refine okA rfl rfl fun a W hA hb hd=>?_
   have h5:a.tmps[5]?.getD undef = .slice vA len vc:=gt' hA (by simp) rfl
   go_simp
 · refine⟨rfl,IsR.mono _,fun a W hA hb hd=>takes_plain rfl ?_⟩
   have h21:a.tmps[21]?.getD undef = .pointer (some ⟨b,0,none⟩):=gh (hd 0 (by simp) _ rfl)
   have h22:a.tmps[22]?.getD undef = .slice vA len vc:=gh (hd 1 (by simp) _ rfl)
   refine yields_call 64 #[.pointer (some ⟨b,0,none⟩),.slice vA len vc] (by go_simp) ((HCH.out W hb).mono ?_)
   rintro e W2 ⟨rfl,hb2⟩
   exact⟨_,rfl,rfl,hb2⟩
 · refine okA rfl rfl fun a W hA hb hd=>?_
   have h0:a.tmps[0]?.getD undef = .pointer (some ⟨b,0,none⟩):=gt' hA (by simp) rfl
   go_simp
 · refine okA rfl rfl fun a W hA hb hd=>?_
   have h24:a.tmps[24]?.getD undef = .pointer (some ⟨b,0,none⟩):=gh (hd 3 (by simp) _ rfl)
   go_simp
 · refine okA rfl rfl fun a W hA hb hd=>?_
   have h25:a.tmps[25]?.getD undef = .pointer (some ⟨b,0,none⟩):=gh (hd 4 (by simp) _ rfl)
   go_simp
 · refine okA rfl rfl fun a W hA hb hd=>?_
   have h26:a.tmps[26]?.getD undef = .pointer (some ⟨b,2,none⟩):=gh (hd 5 (by simp) _ rfl)
   have hc:W.cell? ⟨b,2,none⟩=some (.int .i64 (q:Int)):=Q27.out W hb
   go_simp
 intro vs w3 hR hF hb
 have e21:vs 21 = .pointer (some ⟨b,0,none⟩):=hR 0 _ rfl
 have e22:vs 22 = .slice vA len vc:=hR 1 _ rfl
 have e23:vs 23 = .int .i64 (z+y):=hR 2 _ rfl
 have e24:vs 24 = .pointer (some ⟨b,0,none⟩):=hR 3 _ rfl
 have e25:vs 25 = .pointer (some ⟨b,0,none⟩):=hR 4 _ rfl
 have e26:vs 26 = .pointer (some ⟨b,2,none⟩):=hR 5 _ rfl
 have e27:vs 27 = .int .i64 (q:Int):=hR 6 _ rfl
 simp only[List.map_cons,List.map_nil,List.foldl_cons,List.foldl_nil,List.length_cons,List.length_nil,List.drop_succ_cons,List.drop_zero,Act.put,List.setIfInBounds_toArray,List.set_cons_zero,List.set_cons_succ,e21,e22,e23,e24,e25,e26,e27]
 have T3:=zz (T2.out.ab hb)
 have Q3:=zz (Q2.out.ab hb)
 have P3:=zz (P2.out.ab hb)
 have B3:=zz hb
 have ST3:=zz (ST2.out.ab hb)
 clear hR hF hb e21 e22 e23 e24 e25 e26 e27 HCH Q27
 cases ov
 · go_upto_region 6 with (fail)
   have f3:=T3.out.box.free 3
   have g3:w3.cell? ⟨b,3,none⟩=some (.slice mA l.length mc):=T3.out.box.cell (k:=3) rfl
   go_upto_region 7 with (fail)
   have BS:=T3.out.box.set 3 (.slice vA len vc)
   have FS:=fr_set w3 b 3 (.slice vA len vc)
   obtain⟨w4,hw4⟩:∃w4,w3.setCell ⟨b,3,none⟩ (.slice vA len vc)=w4:=⟨_,rfl⟩
   rw[hw4] at BS FS⊢
   have ST:Stp (fun τ=>τ=(r,t.n)) w3 O1 w4 O1:=⟨FS.imp fun k hk=>⟨_,hk▸T3.out.tb,rfl⟩,fun _ _=>rfl⟩
   have S4:=zz (ST3.out.tr ST)
   have bne:∀g,sv.ownBlock=some g→g≠b:=fun g hg e=>by
    obtain⟨xs,hs⟩:=T3.out.sns.own
    exact row_ne hs T3.out.box (by decide) (by rw[hg,e])
   have bnc:∀g,cv.ownBlock=some g→g≠b:=fun g hg e=>row_ne T3.out.caps.own T3.out.box (by decide) (by rw[hg,e])
   have PT:∀g,(Value.slice vA len vc).ownBlock=some g→O1 g=none:=fun g hg=>by
    obtain⟨vs,r1,_⟩:=P3.out
    exact N1.out g (own_ge9 r1 g hg)
   have P4:PrI w4 O1 (.slice vA len vc) (applyL l ops):=PrI.stp ⟨P3.out.low (Nat.zero_le _),PT⟩ ST
   have T4:=zz (show RtM w4 O1 r b (batT t (doAll t.now ops)) (.slice vA len vc) (applyL l ops) c cv sv from
    ⟨BS,⟨P4,applyL_asc ops T3.out.now.asc,AOK.out,APR.out⟩,T3.out.caps.fr FS (fun e=>absurd e (cb_neX T3.out.caps.box T3.out.box (by decide))) (fun g hg e=>bnc g hg e),T3.out.ra,
     (by
       obtain⟨vs,r1,r2,r3⟩:=T3.out.sns
       refine⟨vs,row_fr r1 FS (fun g hg e=>bne g hg e),r2,fun i q p hq hp=>?_⟩
       obtain⟨h1,l9,h2⟩:=r3 i q p hq hp
       exact⟨h1,l9,h2.stp ST⟩),T3.out.tb,T3.out.tc,T3.out.tv,T3.out.ts⟩)
   have Q4:=zz (Q3.out.fr FS (fun e=>absurd e (cb_neX Q3.out T3.out.box (by decide))))
   clear hw4 BS FS ST bne bnc P4 PT f3 g3
   go_wp2_with fail
   refine (HF.out _ _).mono ?_
   rintro e w8 ⟨rfl,hb⟩
   have Q8:=zz (Q4.out.ab hb)
   have S8:=zz (S4.out.ab hb)
   have T8:=zz (T4.out.ab hb)
   clear hb
   go_wp2_with (first
    | ((with_reducible refine stA 34 ?_ (ansE 0) ?_ Q8 ?_ ?_ (ansE_one _) ?_);rfl;rfl;rfl;rfl;intro wz QZ FZ))
   refine bodyPost_ret (ansR Tryz.results62 QZ rfl rfl) rfl ?_
   exact⟨_,_,rfl,AnsI.err _ 0,⟨_,_,_,_,_,T8.out.stp (Stp.box FZ.out OA.out) fun e=>by injection e with e1 e2;have:=NP.out;omega⟩,S8.out.fresh FZ.out (Nat.le_refl _)⟩
 · go_upto_region 5 with (fail)
   go_wp2_with fail
   refine (HF.out _ _).mono ?_
   rintro e w8 ⟨rfl,hb⟩
   have Q8:=zz (Q3.out.ab hb)
   have S8:=zz (ST3.out.ab hb)
   have T8:=zz (T3.out.ab hb)
   clear hb
   go_wp2_with (first
    | ((with_reducible refine stA 29 ?_ (ansE 261) ?_ Q8 ?_ ?_ (ansE_one _) ?_);rfl;rfl;rfl;rfl;intro wz QZ FZ))
   refine bodyPost_ret (ansR Tryz.results62 QZ rfl rfl) rfl ?_
   exact⟨_,_,rfl,AnsI.err _ 261,⟨_,_,_,_,_,T8.out.stp (Stp.box FZ.out OA.out) fun e=>by injection e with e1 e2;have:=NP.out;omega⟩,S8.out.fresh FZ.out (Nat.le_refl _)⟩
end
theorem RdR.er {r blocks:Nat} {w w1 wz:World} {O O1:Tg} {T:List TnP} {av:Value} {bs:List (Nat×TnP)} (e:Int) (M:Hid (RfM w1 O1 r blocks T av bs)) (S:Hid (Stp (fun τ=>τ.1=r) w O w1 O1)) (F:Hid (Fr w1 wz (fun k=>k=(w.heap.size+1)))) (A:O1 (w.heap.size+1)=some (0,0)) (N:Hid (0<r)):
 RdR r blocks w O (errA e) T (.returned (.agg (ansE e))) wz:=
 ⟨_,_,rfl,AnsI.err _ e,⟨_,_,M.out.stp (Stp.box F.out A) fun i e=>by injection e with e;have:=N.out;omega⟩,S.out.fresh F.out (Nat.le_succ _)⟩
theorem RdR.bx {r blocks:Nat} {w w1 wz:World} {O O1:Tg} {T:List TnP} {av:Value} {bs:List (Nat×TnP)} {cs cs0:Array Value} {a:AnsP} (N4:Hid (AnsI w1 cs a)) (Q:Hid (CbB w1 (w.heap.size+1) 44 cs0)) (M:Hid (RfM w1 O1 r blocks T av bs)) (S:Hid (Stp (fun τ=>τ.1=r) w O w1 O1)) (F:Hid (Fr w1 wz (fun k=>k=(w.heap.size+1)))) (A:Hid (O1 (w.heap.size+1)=some (0,0))) (N:Hid (0<r)):
 RdR r blocks w O a T (.returned (.agg cs)) wz:=
 ⟨_,_,rfl,AnsI.box N4.out F.out Q.out,⟨_,_,M.out.stp (Stp.box F.out A.out) fun i e=>by injection e with e;have:=N.out;omega⟩,S.out.fresh F.out (Nat.le_succ _)⟩
end Go.Proofs.YtgdhinjhbjolgaaGreat
