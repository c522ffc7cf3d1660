/-
  Parts of the proof, joined.
-/
import Derived.Test.YtnboclhgeehdoaaGreatBdp
import Derived.Test.YtnboclhgeehdoaaGreatBdi
namespace Go.Proofs.YtnboclhgeehdoaaGreat
set_option maxHeartbeats 16000000
open Go.RowKit
set_option linter.unusedVariables false
set_option linter.unusedSimpArgs false
theorem wrap_u64S {k:Nat} (h:k+1<18446744073709551616):IntKind.u64.wrap ((k:Int)+1)=((k+1:Nat):Int):=by
 simp only[IntKind.wrap]
 have:IntKind.u64.bits=64:=rfl
 simp[IntKind.signed,IntKind.bits]
 omega
structure RsS where
 lim:Nat
 res:Nat
 com:Nat
def RsS.Ok (S:RsS):Prop:=S.lim<18446744073709551616∧S.res≤S.lim∧S.com≤S.res
def RsM (w:World) (O:Tgm) (r d:Nat) (S:RsS):Prop:=CbB w r 133 #[.pointer (some ⟨d,0,none⟩),.int .u64 (S.lim:Int),.int .u64 (S.res:Int),.int .u64 (S.com:Int),.slice none 0 0]∧O r=(0,4)∧S.Ok
section
variable {P:Nat×Nat→Prop} {w w':World} {O O':Tgm} {r d:Nat} {S:RsS} {D:DvS}
theorem RsM.wr (h:RsM w O r d S) (s:Wr P w O w' O') (hn:¬P (0,4)):RsM w' O' r d S:=⟨h.1.fr s.fr (fun e=>hn (by rw[←h.2.1];exact e)),(s.tg _ h.1.lt).trans h.2.1,h.2.2⟩
set_option maxRecDepth 100000 in
theorem stepM (h:DvM w O d D) (ok:D.Ok) (hst:D.st≤1000000000):Calls Tryz.prog 80 #[.pointer (some ⟨d,0,none⟩)] w fun e w'=>e = .returned (.int .i64 ((stepD D).1:Int))∧DvM w' O d (stepD D).2∧Wr (fun τ=>τ=(0,1)) w O w' O:=by
 obtain⟨g1,g2,wv,h1,t1,t2,t3,t4⟩:=h
 have H:=Lib.hid (step_any h1 ok hst)
 clear h1 ok hst
 go_enter Tryz.func80,Tryz.ntmps80
 go_wp2_with fail
 refine H.out.mono ?_
 rintro e w1 ⟨rfl,h2,h3⟩
 have H2:=Lib.hid h2
 have H3:=Lib.hid h3
 clear h2 h3 H
 go_wp2_with fail
 go_ret
 exact⟨rfl,⟨g1,g2,wv,H2.out,t1,t2,t3,t4⟩,⟨H3.out.imp fun q hq=>by rw[hq];exact t1,fun _ _=>rfl⟩⟩
theorem regsNewM (lim:Nat) (hl:lim<18446744073709551616):Calls Tryz.prog 46 #[.pointer (some ⟨d,0,none⟩),.int .u64 (lim:Int),.slice none 0 0] w fun e w'=>∃r O',e = .returned (.tuple #[.pointer (some ⟨r,0,none⟩),.int .i64 0])∧RsM w' O' r d ⟨lim,0,0⟩∧Wr (fun _=>False) w O w' O'∧w.heap.size≤r:=by
 refine (regsNew_nil d lim w).mono ?_
 rintro e w' ⟨rfl,h1,h2⟩
 exact⟨w.heap.size,markO O w.heap.size (some w.heap.size) (0,4),rfl,⟨h1,markO_new (Nat.le_refl _),hl,Nat.zero_le _,Nat.zero_le _⟩,Wr.of h2 _ (fun k hk=>markO_old hk),Nat.le_refl _⟩
set_option maxRecDepth 100000 in
theorem reservedM (h:RsM w O r d S):Calls Tryz.prog 20 #[.pointer (some ⟨r,0,none⟩)] w fun e w'=>e = .returned (.int .u64 (S.res:Int))∧w=w':=by
 have hc:=h.1.cell (k:=2) rfl
 clear h
 go_enter Tryz.func20,Tryz.ntmps20
 go_wp2_with fail
 go_ret
 exact⟨rfl,rfl⟩
theorem committedM (h:RsM w O r d S):Calls Tryz.prog 51 #[.pointer (some ⟨r,0,none⟩)] w fun e w'=>e = .returned (.int .u64 (S.com:Int))∧w=w':=committed_any r _ _ S.lim S.res S.com w h.1
def reserveP (S:RsS) (D:DvS):Nat×Nat×RsS×DvS:=
 if S.lim≤S.res then (0,90,S,D) else
 match stepD D with
 | (0,D1)=>(S.res+1,0,{ S with res:=S.res+1 },D1)
 | (e+1,D1)=>(0,e+1,S,D1)
def RvR (w:World) (O:Tgm) (r d:Nat) (q:Nat×Nat×RsS×DvS) (e:Ending) (w':World):Prop:=e = .returned (.tuple #[.int .u64 (q.1:Int),.int .i64 (q.2.1:Int)])∧RsM w' O r d q.2.2.1∧DvM w' O d q.2.2.2∧Wr (fun τ=>τ=(0,1)∨τ=(0,4)) w O w' O
set_option maxRecDepth 100000 in
theorem reserveM (h:RsM w O r d S) (hD:DvM w O d D) (ok:D.Ok) (hst:D.st≤1000000000):Calls Tryz.prog 50 #[.pointer (some ⟨r,0,none⟩)] w (RvR w O r d (reserveP S D)):=by
 have H:=Lib.hid h
 have HD:=Lib.hid hD
 have c1:w.cell? ⟨r,1,none⟩=some (.int .u64 (S.lim:Int)):=h.1.cell (k:=1) rfl
 have c2:w.cell? ⟨r,2,none⟩=some (.int .u64 (S.res:Int)):=h.1.cell (k:=2) rfl
 obtain⟨q9,hq9⟩:∃q9,reserveP S D=q9:=⟨_,rfl⟩
 rw[hq9]
 have HQ:=Lib.hid hq9
 by_cases hl:S.lim≤S.res
 · have e1:decide ((S.lim:Int)≤(S.res:Int))=true:=decide_eq_true (by omega)
   have e2:decide (S.lim≤S.res)=true:=decide_eq_true hl
   have HL:=Lib.hid hl
   clear h hD ok hst hq9 hl
   go_enter Tryz.func50,Tryz.ntmps50
   go_wp2_with fail
   go_quiet (fail)
   go_wp2_with fail
   go_ret2
   rw[←HQ.out]
   unfold reserveP
   rw[if_pos HL.out]
   have b:=bel_drewN9 (Below.refl w.heap.size w) nq
   exact⟨rfl,H.out.wr (Wr.of b (fun _=>False) (fun _ _=>rfl)) id,HD.out.wr (Wr.of b (fun _=>False) (fun _ _=>rfl)) id,Wr.of b _ (fun _ _=>rfl)⟩
 · have e1:decide ((S.lim:Int)≤(S.res:Int))=false:=decide_eq_false (by omega)
   have e2:decide (S.lim≤S.res)=false:=decide_eq_false hl
   have HL:=Lib.hid hl
   have SD:Hid (∀W,Wr (fun _=>False) w O W O→Calls Tryz.prog 80 #[.pointer (some ⟨d,0,none⟩)] W fun e w'=>e = .returned (.int .i64 ((stepD D).1:Int))∧DvM w' O d (stepD D).2∧Wr (fun τ=>τ=(0,1)) W O w' O):=Lib.hid fun W hW=>stepM (hD.wr hW id) ok hst
   have c0:Hid (∀k,(w.drewN k).cell? ⟨r,0,none⟩=some (.pointer (some ⟨d,0,none⟩))):=Lib.hid fun k=>h.1.cell (k:=0) rfl
   have SE:=Lib.hid (stepD_err D)
   clear h hD ok hst hq9 hl
   go_enter Tryz.func50,Tryz.ntmps50
   go_wp2_with fail
   go_quiet (fail)
   have c00:=c0.out nq
   go_wp2_with fail
   have s1:Wr (fun _=>False) w O (w.drewN nq) O:=Wr.of (bel_drewN9 (Below.refl w.heap.size w) nq) _ (fun _ _=>rfl)
   refine (SD.out _ s1).mono ?_
   rintro e w2 ⟨rfl,hd2,s2⟩
   have R2:=Lib.hid ((H.out.wr s1 id).wr s2 (fun e=>by cases e))
   have D2:=Lib.hid hd2
   have S2:=Lib.hid ((s1.imp (Q:=fun τ=>τ=(0,1)) fun _=>False.elim).tr s2)
   clear s1 hd2 s2 c0 c00 c1 c2 SD
   have hq:=HQ.out
   unfold reserveP at hq
   rw[if_neg HL.out] at hq
   obtain⟨sd,hsd⟩:∃sd,stepD D=sd:=⟨_,rfl⟩
   have se:=SE.out
   rw[hsd] at hq D2 se⊢
   obtain⟨es,Ds⟩:=sd
   dsimp only at hq D2 se⊢
   clear hsd
   cases es with
   | zero=>
     dsimp only at hq
     have HQ2:=Lib.hid hq
     clear hq se
     have c2:w2.cell? ⟨r,2,none⟩=some (.int .u64 (S.res:Int)):=R2.out.1.cell (k:=2) rfl
     have f2:=R2.out.1.free 2
     have hw:IntKind.u64.wrap ((S.res:Int)+1)=((S.res+1:Nat):Int):=by
      have:=R2.out.2.2.1
      have:=HL.out
      exact wrap_u64S (by omega)
     have X2:=R2.out.1.set 2 (.int .u64 ((S.res+1:Nat):Int))
     have c3:(w2.setCell ⟨r,2,none⟩ (.int .u64 ((S.res+1:Nat):Int))).cell? ⟨r,2,none⟩=some (.int .u64 ((S.res+1:Nat):Int)):=X2.cell (k:=2) rfl
     have XX:=Lib.hid X2
     clear X2
     obtain⟨rn,hrn⟩:∃rn:Nat,S.res+1=rn:=⟨_,rfl⟩
     rw[hrn] at hw c3 XX HQ2
     have HRN:=Lib.hid hrn
     clear hrn
     go_wp2_with fail
     go_ret2
     rw[←HQ2.out]
     have s3:Wr (fun τ=>τ=(0,4)) w2 O (w2.setCell ⟨r,2,none⟩ (.int .u64 (rn:Int))) O:=⟨(fr_setD w2 r 2 _).imp fun q hq=>by rw[hq];exact R2.out.2.1,fun _ _=>rfl⟩
     refine⟨rfl,⟨XX.out,R2.out.2.1,R2.out.2.2.1,?_,?_⟩,D2.out.wr s3 (fun e=>by cases e),(S2.out.imp fun τ h=>.inl h).tr (s3.imp fun τ h=>.inr h)⟩
     · show rn≤S.lim
       have:=HRN.out
       have:=HL.out
       omega
     · show S.com≤rn
       have:=HRN.out
       have:=R2.out.2.2.2.2
       omega
   | succ es=>
     dsimp only at hq
     have HQ2:=Lib.hid hq
     obtain⟨ee,hee⟩:∃ee,es+1=ee:=⟨_,rfl⟩
     rw[hee] at HQ2⊢
     have z1:((ee:Int) != 0)=true:=by simp;omega
     have z2:¬(ee:Int)=0:=by omega
     clear hq se hee
     go_wp2_with fail
     go_ret2
     rw[←HQ2.out]
     exact⟨rfl,R2.out,D2.out,S2.out.imp fun τ h=>.inl h⟩
def advanceP (S:RsS) (D:DvS) (n:Nat):Nat×RsS×DvS:=
 if n≤S.com∨S.res<n then (2,S,D) else
 match stepD D with
 | (0,D1)=>(0,{ S with com:=n },D1)
 | (e+1,D1)=>(e+1,S,D1)
def AvR (w:World) (O:Tgm) (r d:Nat) (q:Nat×RsS×DvS) (e:Ending) (w':World):Prop:=e = .returned (.int .i64 (q.1:Int))∧RsM w' O r d q.2.1∧DvM w' O d q.2.2∧Wr (fun τ=>τ=(0,1)∨τ=(0,4)) w O w' O
set_option maxRecDepth 100000 in
theorem advanceM (n:Nat) (h:RsM w O r d S) (hD:DvM w O d D) (ok:D.Ok) (hst:D.st≤1000000000):Calls Tryz.prog 55 #[.pointer (some ⟨r,0,none⟩),.int .u64 (n:Int)] w (AvR w O r d (advanceP S D n)):=by
 have H:=Lib.hid h
 have HD:=Lib.hid hD
 have c3:w.cell? ⟨r,3,none⟩=some (.int .u64 (S.com:Int)):=h.1.cell (k:=3) rfl
 have c2:w.cell? ⟨r,2,none⟩=some (.int .u64 (S.res:Int)):=h.1.cell (k:=2) rfl
 have c0:w.cell? ⟨r,0,none⟩=some (.pointer (some ⟨d,0,none⟩)):=h.1.cell (k:=0) rfl
 obtain⟨q9,hq9⟩:∃q9,advanceP S D n=q9:=⟨_,rfl⟩
 rw[hq9]
 have HQ:=Lib.hid hq9
 have bad:∀w1,w=w1→n≤S.com∨S.res<n→AvR w O r d q9 (.returned (.int .i64 2)) w1:=fun w1 e hb=>by
  subst e
  rw[←hq9]
  unfold advanceP
  rw[if_pos hb]
  exact⟨rfl,h,hD,Wr.refl _ _ _⟩
 have BAD:=Lib.hid bad
 clear bad
 by_cases h1:n≤S.com
 · have e1:decide ((n:Int)≤(S.com:Int))=true:=decide_eq_true (by omega)
   have e1n:decide (n≤S.com)=true:=decide_eq_true h1
   have H1:=Lib.hid h1
   clear h hD ok hst hq9 h1
   go_enter Tryz.func55,Tryz.ntmps55
   go_wp2_with fail
   go_ret
   exact BAD.out _ rfl (.inl H1.out)
 · have e1:decide ((n:Int)≤(S.com:Int))=false:=decide_eq_false (by omega)
   have e1n:decide (n≤S.com)=false:=decide_eq_false h1
   by_cases h2:S.res<n
   · have e2:decide ((S.res:Int)<(n:Int))=true:=decide_eq_true (by omega)
     have e2n:decide (S.res<n)=true:=decide_eq_true h2
     have H2:=Lib.hid h2
     clear h hD ok hst hq9 h1 h2
     go_enter Tryz.func55,Tryz.ntmps55
     go_wp2_with fail
     go_ret
     exact BAD.out _ rfl (.inr H2.out)
   · have e2:decide ((S.res:Int)<(n:Int))=false:=decide_eq_false (by omega)
     have e2n:decide (S.res<n)=false:=decide_eq_false h2
     have HN:Hid (¬(n≤S.com∨S.res<n)):=Lib.hid (by omega)
     have SD:=Lib.hid (stepM hD ok hst)
     have SE:=Lib.hid (stepD_err D)
     clear h hD ok hst hq9 h1 h2 BAD
     go_enter Tryz.func55,Tryz.ntmps55
     go_wp2_with fail
     refine SD.out.mono ?_
     rintro e w2 ⟨rfl,hd2,s2⟩
     have R2:=Lib.hid (H.out.wr s2 (fun e=>by cases e))
     have D2:=Lib.hid hd2
     have S2:=Lib.hid s2
     clear hd2 s2 c0 c3 c2 SD
     have hq:=HQ.out
     unfold advanceP at hq
     rw[if_neg HN.out] at hq
     obtain⟨sd,hsd⟩:∃sd,stepD D=sd:=⟨_,rfl⟩
     have se:=SE.out
     rw[hsd] at hq D2 se⊢
     obtain⟨es,Ds⟩:=sd
     dsimp only at hq D2 se⊢
     clear hsd
     cases es with
     | zero=>
       dsimp only at hq
       have HQ2:=Lib.hid hq
       clear hq se
       have c3:w2.cell? ⟨r,3,none⟩=some (.int .u64 (S.com:Int)):=R2.out.1.cell (k:=3) rfl
       have f3:=R2.out.1.free 3
       have XX:=Lib.hid (R2.out.1.set 3 (.int .u64 (n:Int)))
       go_wp2_with fail
       go_ret
       rw[←HQ2.out]
       have s3:Wr (fun τ=>τ=(0,4)) w2 O (w2.setCell ⟨r,3,none⟩ (.int .u64 (n:Int))) O:=⟨(fr_setD w2 r 3 _).imp fun q hq=>by rw[hq];exact R2.out.2.1,fun _ _=>rfl⟩
       refine⟨rfl,⟨XX.out,R2.out.2.1,R2.out.2.2.1,R2.out.2.2.2.1,?_⟩,D2.out.wr s3 (fun e=>by cases e),(S2.out.imp fun τ h=>.inl h).tr (s3.imp fun τ h=>.inr h)⟩
       show n≤S.res
       have:=HN.out
       omega
     | succ es=>
       dsimp only at hq
       have HQ2:=Lib.hid hq
       obtain⟨ee,hee⟩:∃ee,es+1=ee:=⟨_,rfl⟩
       rw[hee] at HQ2⊢
       have z1:((ee:Int) != 0)=true:=by simp;omega
       have z2:¬(ee:Int)=0:=by omega
       clear hq se hee
       go_wp2_with fail
       go_ret
       rw[←HQ2.out]
       exact⟨rfl,R2.out,D2.out,S2.out.imp fun τ h=>.inl h⟩
end
section
variable {w:World} {O:Tgm} {p d rg lg r:Nat} {T:PgP} {D:DvS} {S:RsS}
set_option maxRecDepth 100000 in
theorem cmay_nilP (v:Option Addr):Calls Tryz.prog 49 #[.pointer none,.pointer v] w fun e w'=>e = .returned (.int .i64 1)∧w=w':=by
 go_enter Tryz.func49,Tryz.ntmps49
 go_wp2_with fail
 go_ret
 exact⟨rfl,rfl⟩
set_option maxRecDepth 100000 in
theorem cmay_nilR:Calls Tryz.prog 49 #[.pointer (some ⟨p,0,none⟩),.pointer none] w fun e w'=>e = .returned (.int .i64 1)∧w=w':=by
 go_enter Tryz.func49,Tryz.ntmps49
 go_wp2_with fail
 go_ret
 exact⟨rfl,rfl⟩
set_option maxRecDepth 100000 in
theorem cmay_any (h:PgM w O p d rg lg T):Calls Tryz.prog 49 #[.pointer (some ⟨p,0,none⟩),.pointer (some ⟨r,0,none⟩)] w fun e w'=>e = .returned (.int .i64 ((bif T.fa then 190 else 0:Nat):Int))∧w=w':=by
 obtain⟨b,hN,_⟩:=h
 have HF:Hid (Calls Tryz.prog 16 #[.pointer (some ⟨p,0,none⟩)] w fun e w'=>e = .returned (.bool T.fa)∧w=w'):=Lib.hid (failed_any hN.box)
 clear hN
 cases hf:T.fa
 all_goals
  rw[hf] at HF
  clear hf
  go_enter Tryz.func49,Tryz.ntmps49
  go_wp2_with fail
  refine HF.out.mono ?_
  rintro e w1 ⟨rfl,rfl⟩
  go_wp2_with fail
  go_ret
  exact⟨rfl,rfl⟩
set_option maxRecDepth 100000 in
theorem start_nilP (v:Option Addr):Calls Tryz.prog 18 #[.pointer none,.pointer v] w fun e w'=>e = .returned (.tuple #[.int .u64 0,.int .i64 1])∧Below w.heap.size w w':=by
 go_enter Tryz.func18,Tryz.ntmps18
 go_wp2_with fail
 refine (cmay_nilP v).mono ?_
 rintro e w1 ⟨rfl,rfl⟩
 go_wp2_with fail
 go_ret2
 exact⟨rfl,Below.refl _ _⟩
set_option maxRecDepth 100000 in
theorem start_nilR:Calls Tryz.prog 18 #[.pointer (some ⟨p,0,none⟩),.pointer none] w fun e w'=>e = .returned (.tuple #[.int .u64 0,.int .i64 1])∧Below w.heap.size w w':=by
 go_enter Tryz.func18,Tryz.ntmps18
 go_wp2_with fail
 refine cmay_nilR.mono ?_
 rintro e w1 ⟨rfl,rfl⟩
 go_wp2_with fail
 go_ret2
 exact⟨rfl,Below.refl _ _⟩
set_option maxRecDepth 100000 in
theorem start_one {n:Nat} {S1:RsS} {D1:DvS} (h:PgM w O p d rg lg T) (hR:RsM w O r d S) (hD:DvM w O d D) (ok:D.Ok) (hst:D.st≤1000000000) (hf:T.fa=false) (h0:T.cm=0) (hl:T.la≤S.res) (hq:reserveP S D=(n,0,S1,D1)) (hn:T.la<n) (hn6:n<18446744073709551616) (hm:n%2≠S1.com%2):
 Calls Tryz.prog 18 #[.pointer (some ⟨p,0,none⟩),.pointer (some ⟨r,0,none⟩)] w fun e w'=>∃O',e = .returned (.tuple #[.int .u64 (n:Int),.int .i64 0])∧PgM w' O' p d rg lg (beginT T n)∧RsM w' O' r d S1∧DvM w' O' d D1∧Wr (fun τ=>τ=(0,1)∨τ=(0,4)∨τ=(p,1)) w O w' O':=by
 have CM:Hid (Calls Tryz.prog 49 #[.pointer (some ⟨p,0,none⟩),.pointer (some ⟨r,0,none⟩)] w fun e w'=>e = .returned (.int .i64 0)∧w=w'):=Lib.hid (by
  have:=cmay_any (r:=r) h
  rw[hf] at this
  exact this)
 have hpos:0<p:=by obtain⟨b,hN,_⟩:=h;exact hN.pos
 have CC:Hid (Calls Tryz.prog 34 #[.pointer (some ⟨p,0,none⟩)] w fun e w'=>e = .returned (.tuple #[.int .u64 0,.bool false])∧Below w.heap.size w w'):=Lib.hid (by
  obtain⟨b,hN,_⟩:=h
  have h1:=commit_any hN.box
  rw[show (pcS b T).cm=0 from h0] at h1
  exact h1)
 have H:=Lib.hid h
 have HR:=Lib.hid hR
 have HD:=Lib.hid hD
 have OK:=Lib.hid (And.intro ok hst)
 have HF:=Lib.hid hf
 have HZ:=Lib.hid h0
 have HP:=Lib.hid hpos
 have HQ:=Lib.hid hq
 have HN:=Lib.hid (And.intro hn hn6)
 have e1:decide ((S.res:Int)<(T.la:Int))=false:=decide_eq_false (by omega)
 have e1n:decide (S.res<T.la)=false:=decide_eq_false (by omega)
 have e2:(((n:Int)%2)==((S1.com:Int)%2))=false:=by simp;omega
 clear h hR hD ok hst hf h0 hl hq hn hn6 hm hpos
 go_enter Tryz.func18,Tryz.ntmps18
 go_wp2_with fail
 refine CM.out.mono ?_
 rintro e w1 ⟨rfl,rfl⟩
 go_wp2_with fail
 refine CC.out.mono ?_
 rintro e w1 ⟨rfl,hb⟩
 have s1:Wr (fun _=>False) w O w1 (cutO O w.heap.size):=Wr.cut hb _
 have H1:=Lib.hid (H.out.wr s1 (fun _=>id) id)
 have R1:=Lib.hid (HR.out.wr s1 id)
 have V1:=Lib.hid (HD.out.wr s1 id)
 have W1:=Lib.hid s1
 obtain⟨O1,hO1⟩:∃O1,cutO O w.heap.size=O1:=⟨_,rfl⟩
 rw[hO1] at H1 R1 V1 W1
 have LA:Hid (Calls Tryz.prog 35 #[.pointer (some ⟨p,0,none⟩)] w1 fun e w'=>e = .returned (.int .u64 (T.la:Int))∧w1=w'):=Lib.hid (by
  obtain⟨b,hN,_⟩:=H1.out
  exact last_any hN.box)
 clear hb s1 hO1 CM CC H HR HD
 go_wp2_with fail
 refine LA.out.mono ?_
 rintro e w2 ⟨rfl,rfl⟩
 go_wp2_with fail
 refine (reservedM R1.out).mono ?_
 rintro e w2 ⟨rfl,rfl⟩
 clear LA
 go_wp2_with fail
 refine (reserveM R1.out V1.out OK.out.1 OK.out.2).mono ?_
 rw[HQ.out]
 rintro e w2 ⟨rfl,hr2,hd2,s2⟩
 have H2:=Lib.hid (H1.out.wr s2 (fun i e=>by have:=HP.out;rcases e with e | e <;> (injection e with e;omega)) (fun e=>by rcases e with e | e <;> cases e))
 have R2:=Lib.hid hr2
 have V2:=Lib.hid hd2
 have W2:=Lib.hid ((W1.out.imp (Q:=fun τ=>τ=(0,1)∨τ=(0,4)) fun _=>False.elim).tr s2)
 clear hr2 hd2 s2 H1 R1 V1 W1 e1
 dsimp only
 go_wp2_with fail
 refine (committedM R2.out).mono ?_
 rintro e w3 ⟨rfl,rfl⟩
 go_wp2_with fail
 refine (beginM (n:=n) H2.out HN.out.2 HF.out HZ.out HN.out.1).mono ?_
 rintro e w3 ⟨O3,rfl,hp3,s3⟩
 have PQ:=Lib.hid hp3
 have SQ:=Lib.hid s3
 clear hp3 s3
 go_wp2_with fail
 go_ret2
 exact⟨O3,rfl,PQ.out,R2.out.wr SQ.out (fun e=>by have:=HP.out;injection e with e;omega),V2.out.wr SQ.out (fun e=>by have:=HP.out;injection e with e;omega),(W2.out.imp fun τ h=>h.imp id .inl).tr (SQ.out.imp fun τ h=>.inr (.inr h))⟩
end
def FnI (w:World) (O:Tgm) (p d rg lg r b0 b1 b2 fb:Nat) (m:Mp) (R:RgL) (T:PgP) (D:DvS) (al:List Sl) (S:RsS) (wx:World):Prop:=∃Ox,PgM wx Ox p d rg lg T∧DvM wx Ox d D∧LgM wx Ox lg al∧RsM wx Ox r d S∧RgM wx Ox rg R∧(CbB wx b0 31 #[.pointer (some ⟨p,0,none⟩)]∧Ox b0=(0,0))∧(CbB wx b1 55 #[.pointer (some ⟨r,0,none⟩)]∧Ox b1=(0,0))∧(CbB wx b2 49 #[.int .u64 (m.cm:Int),.int .u32 (m.pg:Int),.int .u64 (m.rc:Int),.int .u16 (m.rg:Int),.int .u8 (m.lv:Int),.int .u16 (m.gn:Int),.int .u32 (m.tn:Int)]∧Ox b2=(0,0))∧(CbB wx fb 82 #[.func (Fn.func 27) #[.pointer (some ⟨p,0,none⟩)] #[],.func (Fn.func 53) #[] #[.pointer (some ⟨b0,0,none⟩),.pointer (some ⟨b2,0,none⟩)],.func (Fn.func 54) #[] #[.pointer (some ⟨b1,0,none⟩),.pointer (some ⟨b2,0,none⟩)],.func (Fn.func 28) #[.pointer (some ⟨p,0,none⟩)] #[]]∧Ox fb=(0,0))∧Wr (fun τ=>τ=(0,1)∨τ=(0,2)∨τ=(0,4)∨τ=(p,1)) w O wx Ox
theorem FnI.step {w:World} {O Ox Oy:Tgm} {p d rg lg r b0 b1 b2 fb:Nat} {m:Mp} {R:RgL} {T:PgP} {D:DvS} {al:List Sl} {S:RsS} {wx wy:World} (hp:0<p) (hG:RgM wx Ox rg R) (k0:CbB wx b0 31 #[.pointer (some ⟨p,0,none⟩)]∧Ox b0=(0,0)) (k1:CbB wx b1 55 #[.pointer (some ⟨r,0,none⟩)]∧Ox b1=(0,0)) (k2:CbB wx b2 49 #[.int .u64 (m.cm:Int),.int .u32 (m.pg:Int),.int .u64 (m.rc:Int),.int .u16 (m.rg:Int),.int .u8 (m.lv:Int),.int .u16 (m.gn:Int),.int .u32 (m.tn:Int)]∧Ox b2=(0,0)) (k3:CbB wx fb 82 #[.func (Fn.func 27) #[.pointer (some ⟨p,0,none⟩)] #[],.func (Fn.func 53) #[] #[.pointer (some ⟨b0,0,none⟩),.pointer (some ⟨b2,0,none⟩)],.func (Fn.func 54) #[] #[.pointer (some ⟨b1,0,none⟩),.pointer (some ⟨b2,0,none⟩)],.func (Fn.func 28) #[.pointer (some ⟨p,0,none⟩)] #[]]∧Ox fb=(0,0)) (hw:Wr (fun τ=>τ=(0,1)∨τ=(0,2)∨τ=(0,4)∨τ=(p,1)) w O wx Ox)
 (s:Wr (fun τ=>τ=(0,1)∨τ=(0,2)∨τ=(0,4)∨τ=(p,1)) wx Ox wy Oy) (h1:PgM wy Oy p d rg lg T) (h2:DvM wy Oy d D) (h3:LgM wy Oy lg al) (h4:RsM wy Oy r d S):FnI w O p d rg lg r b0 b1 b2 fb m R T D al S wy:=by
 have n0:¬(((0:Nat),(0:Nat))=(0,1)∨((0:Nat),(0:Nat))=(0,2)∨((0:Nat),(0:Nat))=(0,4)∨((0:Nat),(0:Nat))=(p,1)):=fun e=>by
  rcases e with e | e | e | e
  · cases e
  · cases e
  · cases e
  · injection e with _ e;cases e
 have n3:¬(((0:Nat),(3:Nat))=(0,1)∨((0:Nat),(3:Nat))=(0,2)∨((0:Nat),(3:Nat))=(0,4)∨((0:Nat),(3:Nat))=(p,1)):=fun e=>by
  rcases e with e | e | e | e
  · cases e
  · cases e
  · cases e
  · injection e with _ e;cases e
 exact⟨Oy,h1,h2,h3,h4,hG.wr s n3 n0,k0.1.wr k0.2 s n0,k1.1.wr k1.2 s n0,k2.1.wr k2.2 s n0,k3.1.wr k3.2 s n0,hw.tr s⟩
set_option maxRecDepth 100000 in
theorem fin1 {w:World} {O:Tgm} {p d rg lg b0 b2:Nat} {T:PgP} {D:DvS} {al:List Sl} {R:RgL} {m:Mp} (h:PgM w O p d rg lg T) (hD:DvM w O d D) (hL:LgM w O lg al) (hR:RgM w O rg R) (okD:D.Ok) (hst:D.st≤900000000) (hws:D.ws.length≤90000) (h1000:al.length≤100000) (hm:m.Ok) (k0:CbB w b0 31 #[.pointer (some ⟨p,0,none⟩)]) (k2:CbB w b2 49 #[.int .u64 (m.cm:Int),.int .u32 (m.pg:Int),.int .u64 (m.rc:Int),.int .u16 (m.rg:Int),.int .u8 (m.lv:Int),.int .u16 (m.gn:Int),.int .u32 (m.tn:Int)]):
 Calls Tryz.prog 53 #[.pointer (some ⟨b0,0,none⟩),.pointer (some ⟨b2,0,none⟩)] w (MetR w O p d rg lg (metaP R T D al m)):=by
 have H:=Lib.hid (meta_any h hD hL hR okD hst hws h1000 hm)
 have c0:w.cell? ⟨b0,0,none⟩=some (.pointer (some ⟨p,0,none⟩)):=k0.cell (k:=0) rfl
 have m0:w.cell? ⟨b2,0,none⟩=some (.int .u64 (m.cm:Int)):=k2.cell (k:=0) rfl
 have m1:w.cell? ⟨b2,1,none⟩=some (.int .u32 (m.pg:Int)):=k2.cell (k:=1) rfl
 have m2:w.cell? ⟨b2,2,none⟩=some (.int .u64 (m.rc:Int)):=k2.cell (k:=2) rfl
 have m3:w.cell? ⟨b2,3,none⟩=some (.int .u16 (m.rg:Int)):=k2.cell (k:=3) rfl
 have m4:w.cell? ⟨b2,4,none⟩=some (.int .u8 (m.lv:Int)):=k2.cell (k:=4) rfl
 have m5:w.cell? ⟨b2,5,none⟩=some (.int .u16 (m.gn:Int)):=k2.cell (k:=5) rfl
 have m6:w.cell? ⟨b2,6,none⟩=some (.int .u32 (m.tn:Int)):=k2.cell (k:=6) rfl
 clear h hD hL hR okD hst hws h1000 hm k0 k2
 go_enter Tryz.func53,Tryz.ntmps53
 go_wp2_with fail
 refine H.out.mono ?_
 rintro e w1 hq
 obtain⟨O1,rfl,g1,g2,g3,g4⟩:=hq
 have G:=Lib.hid (And.intro g1 (And.intro g2 (And.intro g3 g4)))
 clear g1 g2 g3 g4
 go_wp2_with fail
 go_ret
 exact⟨O1,rfl,G.out⟩
set_option maxRecDepth 100000 in
theorem fin2 {w:World} {O:Tgm} {d r b1 b2:Nat} {D:DvS} {S:RsS} {m:Mp} (h:RsM w O r d S) (hD:DvM w O d D) (okD:D.Ok) (hst:D.st≤1000000000) (k1:CbB w b1 55 #[.pointer (some ⟨r,0,none⟩)]) (k2:CbB w b2 49 #[.int .u64 (m.cm:Int),.int .u32 (m.pg:Int),.int .u64 (m.rc:Int),.int .u16 (m.rg:Int),.int .u8 (m.lv:Int),.int .u16 (m.gn:Int),.int .u32 (m.tn:Int)]):
 Calls Tryz.prog 54 #[.pointer (some ⟨b1,0,none⟩),.pointer (some ⟨b2,0,none⟩)] w (AvR w O r d (advanceP S D m.cm)):=by
 have H:=Lib.hid (advanceM m.cm h hD okD hst)
 have c0:w.cell? ⟨b1,0,none⟩=some (.pointer (some ⟨r,0,none⟩)):=k1.cell (k:=0) rfl
 have m0:w.cell? ⟨b2,0,none⟩=some (.int .u64 (m.cm:Int)):=k2.cell (k:=0) rfl
 clear h hD okD hst k1 k2
 go_enter Tryz.func54,Tryz.ntmps54
 go_wp2_with fail
 refine H.out.mono ?_
 rintro e w1 ⟨rfl,hq⟩
 have G:=Lib.hid hq
 clear hq
 go_wp2_with fail
 go_ret
 exact⟨rfl,G.out⟩
section
variable {w:World} {O:Tgm} {p d rg lg r:Nat} {T:PgP} {D:DvS} {S:RsS} {m:Mp}
set_option maxRecDepth 100000 in
theorem finish_nilP (v:Option Addr):Calls Tryz.prog 19 #[.pointer none,.pointer v,.agg #[.int .u64 (m.cm:Int),.int .u32 (m.pg:Int),.int .u64 (m.rc:Int),.int .u16 (m.rg:Int),.int .u8 (m.lv:Int),.int .u16 (m.gn:Int),.int .u32 (m.tn:Int)]] w fun e w'=>e = .returned (.int .i64 1)∧Below w.heap.size w w':=by
 have b0:Below w.heap.size w (((w.alloc (.cells #[.pointer none] 31)).alloc (.cells #[.pointer v] 55)).alloc (.cells #[.int .u64 (m.cm:Int),.int .u32 (m.pg:Int),.int .u64 (m.rc:Int),.int .u16 (m.rg:Int),.int .u8 (m.lv:Int),.int .u16 (m.gn:Int),.int .u32 (m.tn:Int)] 49)):=(((Below.refl _ _).alloc (Nat.le_refl _) _).alloc (by simp) _).alloc (by simp;omega) _
 have B0:=Lib.hid b0
 clear b0
 go_enter Tryz.func19,Tryz.ntmps19
 go_wp2_with fail
 refine (cmay_nilP v).mono ?_
 rintro e w1 ⟨rfl,rfl⟩
 go_wp2_with fail
 go_ret
 exact⟨rfl,B0.out⟩
set_option maxRecDepth 100000 in
theorem finish_nilR:Calls Tryz.prog 19 #[.pointer (some ⟨p,0,none⟩),.pointer none,.agg #[.int .u64 (m.cm:Int),.int .u32 (m.pg:Int),.int .u64 (m.rc:Int),.int .u16 (m.rg:Int),.int .u8 (m.lv:Int),.int .u16 (m.gn:Int),.int .u32 (m.tn:Int)]] w fun e w'=>e = .returned (.int .i64 1)∧Below w.heap.size w w':=by
 have b0:Below w.heap.size w (((w.alloc (.cells #[.pointer (some ⟨p,0,none⟩)] 31)).alloc (.cells #[.pointer none] 55)).alloc (.cells #[.int .u64 (m.cm:Int),.int .u32 (m.pg:Int),.int .u64 (m.rc:Int),.int .u16 (m.rg:Int),.int .u8 (m.lv:Int),.int .u16 (m.gn:Int),.int .u32 (m.tn:Int)] 49)):=(((Below.refl _ _).alloc (Nat.le_refl _) _).alloc (by simp) _).alloc (by simp;omega) _
 have B0:=Lib.hid b0
 clear b0
 go_enter Tryz.func19,Tryz.ntmps19
 go_wp2_with fail
 refine cmay_nilR.mono ?_
 rintro e w1 ⟨rfl,rfl⟩
 go_wp2_with fail
 go_ret
 exact⟨rfl,B0.out⟩
set_option maxRecDepth 100000 in
theorem finish_one {all al1 al2:List Sl} {R:RgL} {T1 T2:PgP} {D1 D2 D3:DvS} {S3:RsS} (h:PgM w O p d rg lg T) (hR:RsM w O r d S) (hD:DvM w O d D) (hL:LgM w O lg all) (hG:RgM w O rg R) (hf:T.fa=false) (hc:m.cm≠0) (h0:T.cm=m.cm) (hfl:T.fl=false) (hs:S.res=m.cm) (hr:rightB m=true) (hm:m.Ok)
 (okD:D.Ok) (hst:D.st≤900000000) (hws:D.ws.length≤90000) (hall:all.length≤90000) (hpu:PuOk D.n T) (hnu:T.pu.length≤5000) (pq1:flushP R T D all=(0,T1,D1,al1))
 (okD1:D1.Ok) (hst1:D1.st≤900000000) (hws1:D1.ws.length≤90000) (hal1:al1.length≤100000) (pq2:metaP R T1 D1 al1 m=(0,T2,D2,al2)) (okD2:D2.Ok) (hst2:D2.st≤1000000000) (pq3:advanceP S D2 m.cm=(0,S3,D3)) (f2:T2.fa=false) (o2:T2.cm=0∨T2.fl=true) (w2':T2.wa=[]):
 Calls Tryz.prog 19 #[.pointer (some ⟨p,0,none⟩),.pointer (some ⟨r,0,none⟩),.agg #[.int .u64 (m.cm:Int),.int .u32 (m.pg:Int),.int .u64 (m.rc:Int),.int .u16 (m.rg:Int),.int .u8 (m.lv:Int),.int .u16 (m.gn:Int),.int .u32 (m.tn:Int)]] w fun e w'=>∃O',e = .returned (.int .i64 0)∧PgM w' O' p d rg lg { T2 with cm:=0 }∧RsM w' O' r d S3∧DvM w' O' d D3∧LgM w' O' lg al2∧Wr (fun τ=>τ=(0,1)∨τ=(0,2)∨τ=(0,4)∨τ=(p,1)) w O w' O':=by
 have hpos:0<p:=by obtain⟨b,hN,_⟩:=h;exact hN.pos
 have e1:(w.alloc (.cells #[.pointer (some ⟨p,0,none⟩)] 31)).heap.size=w.heap.size+1:=by simp
 have e2:((w.alloc (.cells #[.pointer (some ⟨p,0,none⟩)] 31)).alloc (.cells #[.pointer (some ⟨r,0,none⟩)] 55)).heap.size=w.heap.size+1+1:=by simp
 have k0:=CbB.new w 31 #[.pointer (some ⟨p,0,none⟩)]
 have k1:=CbB.new (w.alloc (.cells #[.pointer (some ⟨p,0,none⟩)] 31)) 55 #[.pointer (some ⟨r,0,none⟩)]
 have k2:=CbB.new ((w.alloc (.cells #[.pointer (some ⟨p,0,none⟩)] 31)).alloc (.cells #[.pointer (some ⟨r,0,none⟩)] 55)) 49 #[.int .u64 (m.cm:Int),.int .u32 (m.pg:Int),.int .u64 (m.rc:Int),.int .u16 (m.rg:Int),.int .u8 (m.lv:Int),.int .u16 (m.gn:Int),.int .u32 (m.tn:Int)]
 rw[e1] at k1
 rw[e2] at k2
 have a1:Below w.heap.size w (w.alloc (.cells #[.pointer (some ⟨p,0,none⟩)] 31)):=(Below.refl _ _).alloc (Nat.le_refl _) _
 have a2:Below (w.alloc (.cells #[.pointer (some ⟨p,0,none⟩)] 31)).heap.size (w.alloc (.cells #[.pointer (some ⟨p,0,none⟩)] 31)) ((w.alloc (.cells #[.pointer (some ⟨p,0,none⟩)] 31)).alloc (.cells #[.pointer (some ⟨r,0,none⟩)] 55)):=(Below.refl _ _).alloc (Nat.le_refl _) _
 have a3:Below ((w.alloc (.cells #[.pointer (some ⟨p,0,none⟩)] 31)).alloc (.cells #[.pointer (some ⟨r,0,none⟩)] 55)).heap.size ((w.alloc (.cells #[.pointer (some ⟨p,0,none⟩)] 31)).alloc (.cells #[.pointer (some ⟨r,0,none⟩)] 55)) (((w.alloc (.cells #[.pointer (some ⟨p,0,none⟩)] 31)).alloc (.cells #[.pointer (some ⟨r,0,none⟩)] 55)).alloc (.cells #[.int .u64 (m.cm:Int),.int .u32 (m.pg:Int),.int .u64 (m.rc:Int),.int .u16 (m.rg:Int),.int .u8 (m.lv:Int),.int .u16 (m.gn:Int),.int .u32 (m.tn:Int)] 49)):=(Below.refl _ _).alloc (Nat.le_refl _) _
 have b0:=below_tr (below_tr a1 a2 a1.size) a3 (below_tr a1 a2 a1.size).size
 have k0:=(k0.ab a2).ab a3
 have k1:=k1.ab a3
 obtain⟨w0,hw0⟩:∃w0,(((w.alloc (.cells #[.pointer (some ⟨p,0,none⟩)] 31)).alloc (.cells #[.pointer (some ⟨r,0,none⟩)] 55)).alloc (.cells #[.int .u64 (m.cm:Int),.int .u32 (m.pg:Int),.int .u64 (m.rc:Int),.int .u16 (m.rg:Int),.int .u8 (m.lv:Int),.int .u16 (m.gn:Int),.int .u32 (m.tn:Int)] 49))=w0:=⟨_,rfl⟩
 rw[hw0] at b0 k0 k1 k2
 have s0:Wr (fun _=>False) w O w0 (cutO O w.heap.size):=Wr.cut b0 _
 have t0:∀k,w.heap.size≤k→cutO O w.heap.size k=(0,0):=fun k hk=>cutO_at hk
 obtain⟨O0,hO0⟩:∃O0,cutO O w.heap.size=O0:=⟨_,rfl⟩
 rw[hO0] at s0 t0
 have H0:=Lib.hid (h.wr s0 (fun _=>id) id)
 have R0:=Lib.hid (hR.wr s0 id)
 have V0:=Lib.hid (hD.wr s0 id)
 have L0:=Lib.hid (hL.wr s0 id)
 have G0:=Lib.hid (hG.wr s0 id id)
 have K0:=Lib.hid (And.intro k0 (And.intro k1 k2))
 have T0:=Lib.hid t0
 have S0:=Lib.hid s0
 have HW0:=Lib.hid hw0
 have HP:=Lib.hid hpos
 have CM:Hid (Calls Tryz.prog 49 #[.pointer (some ⟨p,0,none⟩),.pointer (some ⟨r,0,none⟩)] w0 fun e w'=>e = .returned (.int .i64 0)∧w0=w'):=Lib.hid (by
  have:=cmay_any (r:=r) H0.out
  rw[hf] at this
  exact this)
 have CC:Hid (Calls Tryz.prog 34 #[.pointer (some ⟨p,0,none⟩)] w0 fun e w'=>e = .returned (.tuple #[.int .u64 (m.cm:Int),.bool false])∧Below w0.heap.size w0 w'):=Lib.hid (by
  obtain⟨b,hN,_⟩:=H0.out
  have h1:=commit_any hN.box
  rw[show (pcS b T).cm=m.cm from h0,show (pcS b T).fl=false from hfl,Bool.and_false] at h1
  exact h1)
 have z1:((m.cm:Int)==0)=false:=by simp;omega
 have z2:¬(m.cm:Int)=0:=by omega
 have HS:=Lib.hid hs
 have RE:Hid (rightE m=0):=Lib.hid (by unfold rightE;rw[hr];rfl)
 have HM:=Lib.hid hm
 have q0:w0.cell? ⟨w.heap.size,0,none⟩=some (.pointer (some ⟨p,0,none⟩)):=k0.cell (k:=0) rfl
 have q1:w0.cell? ⟨w.heap.size+1,0,none⟩=some (.pointer (some ⟨r,0,none⟩)):=k1.cell (k:=0) rfl
 have A1:=Lib.hid (And.intro okD (And.intro hst (And.intro hws (And.intro hall (And.intro hpu hnu)))))
 have A2:=Lib.hid (And.intro okD1 (And.intro hst1 (And.intro hws1 hal1)))
 have A3:=Lib.hid (And.intro okD2 hst2)
 have A4:=Lib.hid (And.intro f2 (And.intro o2 w2'))
 have Q1:=Lib.hid pq1
 have Q2:=Lib.hid pq2
 have Q3:=Lib.hid pq3
 have AF:=Lib.hid (And.intro hf (And.intro (show T.cm≠0 by omega) hfl))
 clear e1 e2 k0 k1 k2 a1 a2 a3 b0 s0 t0 hO0 h hR hD hL hG hf hc h0 hfl hs hr hm hw0 hpos okD hst hws hall hpu hnu pq1 okD1 hst1 hws1 hal1 pq2 okD2 hst2 pq3 f2 o2 w2'
 go_enter Tryz.func19,Tryz.ntmps19
 go_upto_region 1 with (fail)
 rw[HW0.out]
 clear HW0
 go_wp2_with fail
 refine CM.out.mono ?_
 rintro e w1 ⟨rfl,rfl⟩
 go_wp2_with fail
 refine CC.out.mono ?_
 rintro e w1 ⟨rfl,hb⟩
 have s1:Wr (fun _=>False) w0 O0 w1 (cutO O0 w0.heap.size):=Wr.cut hb _
 have t1:∀k,w.heap.size≤k→cutO O0 w0.heap.size k=(0,0):=fun k hk=>by
  rcases Nat.lt_or_ge k w0.heap.size with h | h
  · rw[cutO_old h];exact T0.out k hk
  · exact cutO_at h
 obtain⟨O1,hO1⟩:∃O1,cutO O0 w0.heap.size=O1:=⟨_,rfl⟩
 rw[hO1] at s1 t1
 have H1:=Lib.hid (H0.out.wr s1 (fun _=>id) id)
 have R1:=Lib.hid (R0.out.wr s1 id)
 have V1:=Lib.hid (V0.out.wr s1 id)
 have L1:=Lib.hid (L0.out.wr s1 id)
 have G1:=Lib.hid (G0.out.wr s1 id id)
 have K1:=Lib.hid (And.intro (K0.out.1.ab hb) (And.intro (K0.out.2.1.ab hb) (K0.out.2.2.ab hb)))
 have T1':=Lib.hid t1
 have S1:=Lib.hid (S0.out.tr s1)
 have q0:w1.cell? ⟨w.heap.size,0,none⟩=some (.pointer (some ⟨p,0,none⟩)):=K1.out.1.cell (k:=0) rfl
 have q1:w1.cell? ⟨w.heap.size+1,0,none⟩=some (.pointer (some ⟨r,0,none⟩)):=K1.out.2.1.cell (k:=0) rfl
 have m0:w1.cell? ⟨w.heap.size+1+1,0,none⟩=some (.int .u64 (m.cm:Int)):=K1.out.2.2.cell (k:=0) rfl
 clear hb s1 t1 hO1 CM CC H0 R0 V0 L0 G0 K0 T0 S0
 go_wp2_with fail
 refine (reservedM R1.out).mono ?_
 rw[HS.out]
 rintro e w2 ⟨rfl,rfl⟩
 have m1:w1.cell? ⟨w.heap.size+1+1,1,none⟩=some (.int .u32 (m.pg:Int)):=K1.out.2.2.cell (k:=1) rfl
 have m2:w1.cell? ⟨w.heap.size+1+1,2,none⟩=some (.int .u64 (m.rc:Int)):=K1.out.2.2.cell (k:=2) rfl
 have m3:w1.cell? ⟨w.heap.size+1+1,3,none⟩=some (.int .u16 (m.rg:Int)):=K1.out.2.2.cell (k:=3) rfl
 have m4:w1.cell? ⟨w.heap.size+1+1,4,none⟩=some (.int .u8 (m.lv:Int)):=K1.out.2.2.cell (k:=4) rfl
 have m5:w1.cell? ⟨w.heap.size+1+1,5,none⟩=some (.int .u16 (m.gn:Int)):=K1.out.2.2.cell (k:=5) rfl
 have m6:w1.cell? ⟨w.heap.size+1+1,6,none⟩=some (.int .u32 (m.tn:Int)):=K1.out.2.2.cell (k:=6) rfl
 go_wp2_with fail
 refine (right_any m w1).mono ?_
 rw[RE.out]
 rintro e w2 ⟨rfl,hb⟩
 have s2:Wr (fun _=>False) w1 O1 w2 (cutO O1 w1.heap.size):=Wr.cut hb _
 have t2:∀k,w.heap.size≤k→cutO O1 w1.heap.size k=(0,0):=fun k hk=>by
  rcases Nat.lt_or_ge k w1.heap.size with h | h
  · rw[cutO_old h];exact T1'.out k hk
  · exact cutO_at h
 obtain⟨O2,hO2⟩:∃O2,cutO O1 w1.heap.size=O2:=⟨_,rfl⟩
 rw[hO2] at s2 t2
 have H2:=Lib.hid (H1.out.wr s2 (fun _=>id) id)
 have R2:=Lib.hid (R1.out.wr s2 id)
 have V2:=Lib.hid (V1.out.wr s2 id)
 have L2:=Lib.hid (L1.out.wr s2 id)
 have G2:=Lib.hid (G1.out.wr s2 id id)
 have K2:=Lib.hid (And.intro (K1.out.1.ab hb) (And.intro (K1.out.2.1.ab hb) (K1.out.2.2.ab hb)))
 have T2':=Lib.hid t2
 have S2:=Lib.hid (S1.out.tr s2)
 have q0:w2.cell? ⟨w.heap.size,0,none⟩=some (.pointer (some ⟨p,0,none⟩)):=K2.out.1.cell (k:=0) rfl
 clear hb s2 t2 hO2 H1 R1 V1 L1 G1 K1 T1' S1 m0 m1 m2 m3 m4 m5 m6 z1 z2
 go_upto_region 8 with (fail)
 have fb0:=CbB.new w2 82 #[.func (Fn.func 27) #[.pointer (some ⟨p,0,none⟩)] #[],.func (Fn.func 53) #[] #[.pointer (some ⟨w.heap.size,0,none⟩),.pointer (some ⟨w.heap.size+1+1,0,none⟩)],.func (Fn.func 54) #[] #[.pointer (some ⟨w.heap.size+1,0,none⟩),.pointer (some ⟨w.heap.size+1+1,0,none⟩)],.func (Fn.func 28) #[.pointer (some ⟨p,0,none⟩)] #[]]
 have ba:Below w2.heap.size w2 (w2.alloc (.cells #[.func (Fn.func 27) #[.pointer (some ⟨p,0,none⟩)] #[],.func (Fn.func 53) #[] #[.pointer (some ⟨w.heap.size,0,none⟩),.pointer (some ⟨w.heap.size+1+1,0,none⟩)],.func (Fn.func 54) #[] #[.pointer (some ⟨w.heap.size+1,0,none⟩),.pointer (some ⟨w.heap.size+1+1,0,none⟩)],.func (Fn.func 28) #[.pointer (some ⟨p,0,none⟩)] #[]] 82)):=(Below.refl _ _).alloc (Nat.le_refl _) _
 obtain⟨w3,hw3⟩:∃w3,w2.alloc (.cells #[.func (Fn.func 27) #[.pointer (some ⟨p,0,none⟩)] #[],.func (Fn.func 53) #[] #[.pointer (some ⟨w.heap.size,0,none⟩),.pointer (some ⟨w.heap.size+1+1,0,none⟩)],.func (Fn.func 54) #[] #[.pointer (some ⟨w.heap.size+1,0,none⟩),.pointer (some ⟨w.heap.size+1+1,0,none⟩)],.func (Fn.func 28) #[.pointer (some ⟨p,0,none⟩)] #[]] 82)=w3:=⟨_,rfl⟩
 obtain⟨fb,hfb⟩:∃fb,w2.heap.size=fb:=⟨_,rfl⟩
 rw[hw3] at fb0 ba⊢
 have s3:Wr (fun _=>False) w2 O2 w3 O2:=Wr.of ba _ (fun _ _=>rfl)
 have J0:Hid (FnI w O p d rg lg r w.heap.size (w.heap.size+1) (w.heap.size+1+1) fb m R T D all S w3):=Lib.hid ⟨O2,H2.out.wr s3 (fun _=>id) id,V2.out.wr s3 id,L2.out.wr s3 id,R2.out.wr s3 id,G2.out.wr s3 id id,⟨K2.out.1.ab ba,T2'.out _ (Nat.le_refl _)⟩,⟨K2.out.2.1.ab ba,T2'.out _ (by omega)⟩,⟨K2.out.2.2.ab ba,T2'.out _ (by omega)⟩,⟨by rw[←hfb];exact fb0,T2'.out _ (by rw[←hfb];exact S2.out.size)⟩,(S2.out.tr s3).imp fun _=>False.elim⟩
 rw[hfb]
 clear fb0 ba hw3 hfb s3 H2 R2 V2 L2 G2 K2 T2' S2 q0
 go_wp2_with fail
 go_loopw [56] (fun z wx=>(z = .int .i64 0∧FnI w O p d rg lg r w.heap.size (w.heap.size+1) (w.heap.size+1+1) fb m R T D all S wx)∨(z = .int .i64 1∧FnI w O p d rg lg r w.heap.size (w.heap.size+1) (w.heap.size+1+1) fb m R T1 D1 al1 S wx)∨(z = .int .i64 2∧FnI w O p d rg lg r w.heap.size (w.heap.size+1) (w.heap.size+1+1) fb m R T2 D2 al2 S wx)∨(z = .int .i64 3∧FnI w O p d rg lg r w.heap.size (w.heap.size+1) (w.heap.size+1+1) fb m R T2 D3 al2 S3 wx)∨(z = .int .i64 4∧FnI w O p d rg lg r w.heap.size (w.heap.size+1) (w.heap.size+1+1) fb m R { T2 with cm:=0 } D3 al2 S3 wx)) (fun z _=>4-(intOf z).toNat)
 case atStart=>exact .inl ⟨rfl,J0.out⟩
 case round=>
  rcases hrel with ⟨rfl,hst⟩ | ⟨rfl,hst⟩ | ⟨rfl,hst⟩ | ⟨rfl,hst⟩ | ⟨rfl,hst⟩
  · obtain⟨Ox,g1,g2,g3,g4,g5,k0,k1,k2,k3,gw⟩:=hst
    have cf:wr.cell? ⟨fb,0,none⟩=some (.func (Fn.func 27) #[.pointer (some ⟨p,0,none⟩)] #[]):=k3.1.cell (k:=0) rfl
    have CT:=Lib.hid (flush_any g1 g2 g3 g5 A1.out.1 A1.out.2.1 A1.out.2.2.1 A1.out.2.2.2.1 AF.out.1 AF.out.2 A1.out.2.2.2.2.1 A1.out.2.2.2.2.2)
    rw[Q1.out] at CT
    have HG5:=Lib.hid g5
    have KK:=Lib.hid (And.intro k0 (And.intro k1 (And.intro k2 (And.intro k3 gw))))
    have G1:=Lib.hid g1
    have G2:=Lib.hid g2
    have G3:=Lib.hid g3
    have G4:=Lib.hid g4
    clear g1 g2 g3 g4 g5 k0 k1 k2 k3 gw
    go_wp2_with fail
    refine CT.out.mono ?_
    rintro e w8 ⟨O8,rfl,u1,u2,u3,us⟩
    have g1:=G1.out
    have g2:=G2.out
    have g3:=G3.out
    have g4:=G4.out
    have J:FnI w O p d rg lg r w.heap.size (w.heap.size+1) (w.heap.size+1+1) fb m R T1 D1 al1 S w8:=FnI.step HP.out HG5.out KK.out.1 KK.out.2.1 KK.out.2.2.1 KK.out.2.2.2.1 KK.out.2.2.2.2 (us.imp fun τ h=>h.imp id (.imp id .inr)) u1 u2 u3 (g4.wr us (fun e=>by rcases e with e | e | e <;> first | (cases e;done) | (injection e with e _;have:=HP.out;omega)))
    have JJ:=Lib.hid J
    clear J g1 g2 g3 g4 G1 G2 G3 G4 HG5 KK CT cf us u1 u2 u3
    go_wp2_with fail
    go_roundw
    case rel=>exact .inr (.inl ⟨rfl,JJ.out⟩)
    case measure=>simp[intOf]
  · obtain⟨Ox,g1,g2,g3,g4,g5,k0,k1,k2,k3,gw⟩:=hst
    have cf:wr.cell? ⟨fb,1,none⟩=some (.func (Fn.func 53) #[] #[.pointer (some ⟨w.heap.size,0,none⟩),.pointer (some ⟨w.heap.size+1+1,0,none⟩)]):=k3.1.cell (k:=1) rfl
    have CT:=Lib.hid (fin1 g1 g2 g3 g5 A2.out.1 A2.out.2.1 A2.out.2.2.1 A2.out.2.2.2 HM.out k0.1 k2.1)
    rw[Q2.out] at CT
    have HG5:=Lib.hid g5
    have KK:=Lib.hid (And.intro k0 (And.intro k1 (And.intro k2 (And.intro k3 gw))))
    have G1:=Lib.hid g1
    have G2:=Lib.hid g2
    have G3:=Lib.hid g3
    have G4:=Lib.hid g4
    clear g1 g2 g3 g4 g5 k0 k1 k2 k3 gw
    go_wp2_with fail
    refine CT.out.mono ?_
    rintro e w8 ⟨O8,rfl,u1,u2,u3,us⟩
    have g1:=G1.out
    have g2:=G2.out
    have g3:=G3.out
    have g4:=G4.out
    have J:FnI w O p d rg lg r w.heap.size (w.heap.size+1) (w.heap.size+1+1) fb m R T2 D2 al2 S w8:=FnI.step HP.out HG5.out KK.out.1 KK.out.2.1 KK.out.2.2.1 KK.out.2.2.2.1 KK.out.2.2.2.2 (us.imp fun τ h=>h.imp id (.imp id .inr)) u1 u2 u3 (g4.wr us (fun e=>by rcases e with e | e | e <;> first | (cases e;done) | (injection e with e _;have:=HP.out;omega)))
    have JJ:=Lib.hid J
    clear J g1 g2 g3 g4 G1 G2 G3 G4 HG5 KK CT cf us u1 u2 u3
    go_wp2_with fail
    go_roundw
    case rel=>exact .inr (.inr (.inl ⟨rfl,JJ.out⟩))
    case measure=>simp[intOf]
  · obtain⟨Ox,g1,g2,g3,g4,g5,k0,k1,k2,k3,gw⟩:=hst
    have cf:wr.cell? ⟨fb,2,none⟩=some (.func (Fn.func 54) #[] #[.pointer (some ⟨w.heap.size+1,0,none⟩),.pointer (some ⟨w.heap.size+1+1,0,none⟩)]):=k3.1.cell (k:=2) rfl
    have CT:=Lib.hid (fin2 g4 g2 A3.out.1 A3.out.2 k1.1 k2.1)
    rw[Q3.out] at CT
    have HG5:=Lib.hid g5
    have KK:=Lib.hid (And.intro k0 (And.intro k1 (And.intro k2 (And.intro k3 gw))))
    have G1:=Lib.hid g1
    have G2:=Lib.hid g2
    have G3:=Lib.hid g3
    have G4:=Lib.hid g4
    clear g1 g2 g3 g4 g5 k0 k1 k2 k3 gw
    go_wp2_with fail
    refine CT.out.mono ?_
    rintro e w8 ⟨rfl,u4,u2,us⟩
    have g1:=G1.out
    have g2:=G2.out
    have g3:=G3.out
    have g4:=G4.out
    have J:FnI w O p d rg lg r w.heap.size (w.heap.size+1) (w.heap.size+1+1) fb m R T2 D3 al2 S3 w8:=FnI.step HP.out HG5.out KK.out.1 KK.out.2.1 KK.out.2.2.1 KK.out.2.2.2.1 KK.out.2.2.2.2 (us.imp fun τ h=>h.imp id fun h=>.inr (.inl h)) (g1.wr us (fun i e=>by rcases e with e | e <;> (injection e with e _;have:=HP.out;omega)) (fun e=>by rcases e with e | e <;> cases e)) u2 (g3.wr us (fun e=>by rcases e with e | e <;> cases e)) u4
    have JJ:=Lib.hid J
    clear J g1 g2 g3 g4 G1 G2 G3 G4 HG5 KK CT cf us u4 u2
    go_wp2_with fail
    go_roundw
    case rel=>exact .inr (.inr (.inr (.inl ⟨rfl,JJ.out⟩)))
    case measure=>simp[intOf]
  · obtain⟨Ox,g1,g2,g3,g4,g5,k0,k1,k2,k3,gw⟩:=hst
    have cf:wr.cell? ⟨fb,3,none⟩=some (.func (Fn.func 28) #[.pointer (some ⟨p,0,none⟩)] #[]):=k3.1.cell (k:=3) rfl
    have CT:=Lib.hid (scrub_none g1 A4.out.1 A4.out.2.1 A4.out.2.2)
    have HG5:=Lib.hid g5
    have KK:=Lib.hid (And.intro k0 (And.intro k1 (And.intro k2 (And.intro k3 gw))))
    have G1:=Lib.hid g1
    have G2:=Lib.hid g2
    have G3:=Lib.hid g3
    have G4:=Lib.hid g4
    clear g1 g2 g3 g4 g5 k0 k1 k2 k3 gw
    go_wp2_with fail
    refine CT.out.mono ?_
    rintro e w8 ⟨O8,rfl,u1,us⟩
    have g1:=G1.out
    have g2:=G2.out
    have g3:=G3.out
    have g4:=G4.out
    have J:FnI w O p d rg lg r w.heap.size (w.heap.size+1) (w.heap.size+1+1) fb m R { T2 with cm:=0 } D3 al2 S3 w8:=FnI.step HP.out HG5.out KK.out.1 KK.out.2.1 KK.out.2.2.1 KK.out.2.2.2.1 KK.out.2.2.2.2 (us.imp fun τ h=>.inr (.inr (.inr h))) u1 (g2.wr us (fun e=>by injection e with e _;have:=HP.out;omega)) (g3.wr us (fun e=>by injection e with e _;have:=HP.out;omega)) (g4.wr us (fun e=>by injection e with e _;have:=HP.out;omega))
    have JJ:=Lib.hid J
    clear J g1 g2 g3 g4 G1 G2 G3 G4 HG5 KK CT cf us u1
    go_wp2_with fail
    go_roundw
    case rel=>exact .inr (.inr (.inr (.inr ⟨rfl,JJ.out⟩)))
    case measure=>simp[intOf]
  · have JX:=Lib.hid hst
    clear hst
    go_wp2_with fail
    go_ret
    obtain⟨Ox,g1,g2,g3,g4,g5,k0,k1,k2,k3,gw⟩:=JX.out
    exact⟨Ox,rfl,g1,g4,g2,g3,gw⟩
end
open Go.RowKit Go.ChangeShapes Go.WideShapes
theorem own_ltX {w:World} {B n s:Nat} {e:TypeId} {v:Value} {xs:List Value} (h:w.ownsRow B e s v n xs):∀k,v.ownBlock=some k→k<w.heap.size:=fun k hk=>by
 rcases h.2 with ⟨rfl,_⟩ | ⟨g',cap,cur,rfl,_,hh,_⟩
 · cases hk
 · have:g'=k:=by injection hk
   subst this
   exact (Array.getElem?_eq_some_iff.1 hh).1
theorem cb_ne {w:World} {g b:Nat} {T T':TypeId} {cs cs':Array Value} (h:CbB w g T cs) (h':CbB w b T' cs') (hT:T≠T'):g≠b:=fun e=>by
 unfold CbB at h h'
 rw[e,h'] at h
 injection h with h
 injection h with _ h
 exact hT h.symm
section
variable {w w2:World} {B g:Nat} {v1 v2:Value} {b1 b2:List Nat} {st cut:Int} {down:Bool} {L:List Nat}
theorem RdB.lt1 (h:RdB w B g v1 v2 b1 b2 st cut down L) {b:Nat} (hb:b∈b1):b<w.heap.size:=by
 obtain⟨i,hi⟩:=List.getElem?_of_mem hb
 exact (h.at1 i b hi).2.lt
theorem RdB.lt2 (h:RdB w B g v1 v2 b1 b2 st cut down L) {b:Nat} (hb:b∈b2):b<w.heap.size:=by
 obtain⟨i,hi⟩:=List.getElem?_of_mem hb
 obtain⟨_,l,hl,_⟩:=h.at2 i b hi
 exact hl.lt
theorem RdB.push1 (h:RdB w B g v1 v2 b1 b2 st cut down L) (hB:B≤w.heap.size) (hf:Fr w w2 (fun k=>v1.ownBlock=some k)) {b:Nat} (hb:Bk w2 b 5 (blkL L b1.length)) (hlb:w.heap.size≤b) {v':Value}
 (ho:w2.ownsRow B 64 1 v' (b1.length+1) ((b1.map fun b=>.slice (some ⟨b,0,none⟩) 256 256)++[.slice (some ⟨b,0,none⟩) 256 256])) (hv:v'.ownBlock=v1.ownBlock∨∃k,v'.ownBlock=some k∧w.heap.size≤k):
 RdB (w2.setCell ⟨g,0,none⟩ v') B g v' v2 (b1++[b]) b2 st cut down L:=by
 have f2:=fr_cell w2 g 0 v'
 have n1:v1.ownBlock≠some g:=row_ne h.own1 h.box (by decide)
 have hbox:=h.box.fr hf n1
 have ng:∀{q:Nat} {l:List Nat},Bk w q 5 l→q≠g:=fun {q l} hq=>Ne.symm (cb_ne h.box (show CbB w q _ _ from hq) (by decide))
 have nv:∀{q:Nat} {l:List Nat},Bk w q 5 l→v1.ownBlock≠some q:=fun {q l} hq=>row_ne h.own1 (show CbB w q _ _ from hq) (by decide)
 have kp:∀{q:Nat} {l:List Nat},Bk w q 5 l→Bk (w2.setCell ⟨g,0,none⟩ v') q 5 l:=fun {q l} hq=>(hq.fr hf (nv hq)).fr f2 (ng hq)
 refine⟨hbox.set 0 _,?_,?_,?_,?_,?_,?_,h.low⟩
 · rw[List.map_append,List.length_append]
   exact row_fr ho f2 (fun k hk e=>row_ne ho hbox (by decide) (by rw[hk,e]))
 · have o2:=row_fr h.own2 hf (fun k hk e=>h.ne12 k e hk)
   exact row_fr o2 f2 (fun k hk e=>row_ne o2 hbox (by decide) (by rw[hk,e]))
 · intro k hk h2
   rcases hv with e | ⟨q,e,hq⟩
   · exact h.ne12 k (by rw[←e,hk]) h2
   · rw[hk] at e
     injection e with e
     subst e
     have:=own_ltX h.own2 k h2
     omega
 · intro i q hi
   rcases Nat.lt_or_ge i b1.length with hl | hl
   · rw[List.getElem?_append_left hl] at hi
     obtain⟨k1,k2⟩:=h.at1 i q hi
     exact⟨k1,kp k2⟩
   · rw[List.getElem?_append_right hl] at hi
     obtain⟨hj,hq⟩:=List.getElem?_eq_some_iff.1 hi
     simp at hj hq
     subst hq
     obtain rfl:i=b1.length:=by omega
     exact⟨by omega,hb.fr f2 (by have:=h.box.lt;omega)⟩
 · intro i q hi
   obtain⟨k1,l,k2,k3⟩:=h.at2 i q hi
   exact⟨k1,l,kp k2,k3⟩
 · have hn:=h.nd
   rw[List.nodup_append] at hn⊢
   obtain⟨p1,p2,p3⟩:=hn
   refine⟨?_,p2,?_⟩
   · rw[List.nodup_append]
     refine⟨p1,by simp,fun x hx y hy=>?_⟩
     simp at hy
     have:=h.lt1 hx
     omega
   · intro x hx y hy
     rcases List.mem_append.1 hx with hx | hx
     · exact p3 x hx y hy
     · simp at hx
       have:=h.lt2 hy
       omega
theorem RdB.push2 (h:RdB w B g v1 v2 b1 b2 st cut down L) (hB:B≤w.heap.size) (hf:Fr w w2 (fun k=>v2.ownBlock=some k)) {b:Nat} {lb:List Nat} (hb:Bk w2 b 5 lb) (hbl:lb.length=256) (hlb:w.heap.size≤b) {v':Value}
 (ho:w2.ownsRow B 64 1 v' (b2.length+1) ((b2.map fun b=>.slice (some ⟨b,0,none⟩) 256 256)++[.slice (some ⟨b,0,none⟩) 256 256])) (hv:v'.ownBlock=v2.ownBlock∨∃k,v'.ownBlock=some k∧w.heap.size≤k):
 RdB (w2.setCell ⟨g,1,none⟩ v') B g v1 v' b1 (b2++[b]) st cut down L:=by
 have f2:=fr_cell w2 g 1 v'
 have n1:v2.ownBlock≠some g:=row_ne h.own2 h.box (by decide)
 have hbox:=h.box.fr hf n1
 have ng:∀{q:Nat} {l:List Nat},Bk w q 5 l→q≠g:=fun {q l} hq=>Ne.symm (cb_ne h.box (show CbB w q _ _ from hq) (by decide))
 have nv:∀{q:Nat} {l:List Nat},Bk w q 5 l→v2.ownBlock≠some q:=fun {q l} hq=>row_ne h.own2 (show CbB w q _ _ from hq) (by decide)
 have kp:∀{q:Nat} {l:List Nat},Bk w q 5 l→Bk (w2.setCell ⟨g,1,none⟩ v') q 5 l:=fun {q l} hq=>(hq.fr hf (nv hq)).fr f2 (ng hq)
 refine⟨hbox.set 1 _,?_,?_,?_,?_,?_,?_,h.low⟩
 · have o1:=row_fr h.own1 hf (fun k hk e=>h.ne12 k hk e)
   exact row_fr o1 f2 (fun k hk e=>row_ne o1 hbox (by decide) (by rw[hk,e]))
 · rw[List.map_append,List.length_append]
   exact row_fr ho f2 (fun k hk e=>row_ne ho hbox (by decide) (by rw[hk,e]))
 · intro k hk h2
   rcases hv with e | ⟨q,e,hq⟩
   · exact h.ne12 k hk (by rw[←e,h2])
   · rw[h2] at e
     injection e with e
     subst e
     have:=own_ltX h.own1 k hk
     omega
 · intro i q hi
   obtain⟨k1,k2⟩:=h.at1 i q hi
   exact⟨k1,kp k2⟩
 · intro i q hi
   rcases Nat.lt_or_ge i b2.length with hl | hl
   · rw[List.getElem?_append_left hl] at hi
     obtain⟨k1,l,k2,k3⟩:=h.at2 i q hi
     exact⟨k1,l,kp k2,k3⟩
   · rw[List.getElem?_append_right hl] at hi
     obtain⟨hj,hq⟩:=List.getElem?_eq_some_iff.1 hi
     simp at hj hq
     subst hq
     exact⟨by omega,lb,hb.fr f2 (by have:=h.box.lt;omega),hbl⟩
 · have hn:=h.nd
   rw[List.nodup_append] at hn⊢
   obtain⟨p1,p2,p3⟩:=hn
   refine⟨p1,?_,?_⟩
   · rw[List.nodup_append]
     refine⟨p2,by simp,fun x hx y hy=>?_⟩
     simp at hy
     have:=h.lt2 hx
     omega
   · intro x hx y hy
     rcases List.mem_append.1 hy with hy | hy
     · exact p3 x hx y hy
     · simp at hy
       have:=h.lt1 hx
       omega
end
def BnewR (S:Nat) (v:Value) (W:World):Prop:=∃b,v = .slice (some ⟨b,0,none⟩) 256 256∧S≤b∧Bk W b 5 (zeros 256)
theorem BnewR.fr {S:Nat} {v:Value} {W W1:World} {F:Nat→Prop} (h:BnewR S v W) (hf:Fr W W1 F) (hF:∀k,F k→k<S):BnewR S v W1:=by
 obtain⟨b,h1,h2,h3⟩:=h
 exact⟨b,h1,h2,h3.fr hf (fun e=>by have:=hF b e;omega)⟩
def OneSl (S:Nat) (v:Value) (W:World):Prop:=∃G u,v = .slice (some ⟨G,0,none⟩) 1 1∧CbB W G 64 #[u]∧S≤G∧BnewR S u W
theorem infoSlB:(Tryz.prog.info? 64).map (fun i=>(i.zero,i.size,i.bytes))=some (some (.slice none 0 0),1,24):=by kernel_rfl
def AppR (B S:Nat) (v1:Value) (bs:List Nat) (v:Value) (W:World):Prop:=
 ∃b,S≤b∧Bk W b 5 (zeros 256)∧W.ownsRow B 64 1 v (bs.length+1) ((bs.map fun b=>.slice (some ⟨b,0,none⟩) 256 256)++[.slice (some ⟨b,0,none⟩) 256 256])∧(v.ownBlock=v1.ownBlock∨∃k,v.ownBlock=some k∧S≤k)
end Go.Proofs.YtnboclhgeehdoaaGreat
