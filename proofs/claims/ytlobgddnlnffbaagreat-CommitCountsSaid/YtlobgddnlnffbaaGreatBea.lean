/-
  Parts of the proof, joined.
-/
import Derived.Test.YtlobgddnlnffbaaGreatBdy
import Derived.Test.YtlobgddnlnffbaaGreatBdz
import Derived.Test.YtlobgddnlnffbaaGreatBdl
import Derived.Test.YtlobgddnlnffbaaGreatBdt
import Derived.Test.YtlobgddnlnffbaaGreatBdn
import Derived.Test.YtlobgddnlnffbaaGreatBdw
import Derived.Deep.QuietTactic
import Derived.BigQuiet
namespace Go.Proofs.YtlobgddnlnffbaaGreat
set_option maxHeartbeats 8000000
open Go.RowKit
set_option linter.unusedVariables false
set_option linter.unusedSimpArgs false
def startE (T:PgP):Nat×Nat×RsS×DvS→Nat×Nat×PgP×DvS×RsS
 | (n,0,S,D)=>(n,0,beginT T n,D,S)
 | (_,e+1,S,D)=>(0,e+1,if e+1=90 then T else { T with fa:=true },D,S)
theorem startE_no {T:PgP} {n e:Nat} {S:RsS} {D:DvS} (he:e≠0):startE T (n,e,S,D)=(0,e,if e=90 then T else { T with fa:=true },D,S):=by
 obtain⟨e,rfl⟩:∃k,e=k+1:=⟨e-1,by omega⟩
 rfl
def startP (T:PgP) (D:DvS) (S:RsS):Nat×Nat×PgP×DvS×RsS:=
 if T.fa=true then (0,190,T,D,S) else
 if T.cm≠0∨S.res<T.la then (0,2,T,D,S) else
 if (reserveP S D).2.1=0∧(reserveP S D).1%2=(reserveP S D).2.2.1.com%2 then startE T (reserveP (reserveP S D).2.2.1 (reserveP S D).2.2.2) else startE T (reserveP S D)
theorem reserve_facts {S S1:RsS} {D D1:DvS} {n e:Nat} (hS:S.Ok) (h:reserveP S D=(n,e,S1,D1)):(e=0→n=S.res+1∧n<18446744073709551616∧S1={ S with res:=S.res+1 }∧stepD D=(0,D1))∧(e≠0→n=0∧S1=S):=by
 obtain⟨h1,h2,h3⟩:=hS
 unfold reserveP at h
 by_cases hl:S.lim≤S.res
 · rw[if_pos hl] at h
   simp only[Prod.mk.injEq] at h
   obtain⟨rfl,rfl,rfl,rfl⟩:=h
   exact⟨fun e=>(by cases e),fun _=>⟨rfl,rfl⟩⟩
 · rw[if_neg hl] at h
   cases hst:stepD D with
   | mk k D2=>
     rw[hst] at h
     cases k with
     | zero=>
       simp only[Prod.mk.injEq] at h
       obtain⟨rfl,rfl,rfl,rfl⟩:=h
       exact⟨fun _=>⟨rfl,by omega,rfl,rfl⟩,fun e=>absurd rfl e⟩
     | succ k=>
       simp only[Prod.mk.injEq] at h
       obtain⟨rfl,rfl,rfl,rfl⟩:=h
       exact⟨fun e=>(by cases e),fun _=>⟨rfl,rfl⟩⟩
section
variable {T:PgP} {D D1 D2:DvS} {S S1 S2:RsS} {n n2 e e2:Nat}
theorem startP1 (hf:T.fa=true):startP T D S=(0,190,T,D,S):=if_pos hf
theorem startP2 (hf:T.fa=false) (h:T.cm≠0∨S.res<T.la):startP T D S=(0,2,T,D,S):=by
 unfold startP
 rw[if_neg (by rw[hf];exact Bool.false_ne_true),if_pos h]
theorem startP3 (hf:T.fa=false) (h0:T.cm=0) (hl:¬S.res<T.la) (hq:reserveP S D=(n,e,S1,D1)) (he:e≠0):startP T D S=(0,e,if e=90 then T else { T with fa:=true },D1,S1):=by
 unfold startP
 rw[if_neg (by rw[hf];exact Bool.false_ne_true),if_neg (fun e=>e.elim (fun e=>e h0) hl),hq,if_neg (fun h=>he h.1)]
 exact startE_no he
theorem startP4 (hf:T.fa=false) (h0:T.cm=0) (hl:¬S.res<T.la) (hq:reserveP S D=(n,0,S1,D1)) (hp:¬n%2=S1.com%2):startP T D S=(n,0,beginT T n,D1,S1):=by
 unfold startP
 rw[if_neg (by rw[hf];exact Bool.false_ne_true),if_neg (fun e=>e.elim (fun e=>e h0) hl),hq,if_neg (fun h=>hp h.2)]
 rfl
theorem startP5 (hf:T.fa=false) (h0:T.cm=0) (hl:¬S.res<T.la) (hq:reserveP S D=(n,0,S1,D1)) (hp:n%2=S1.com%2) (hq2:reserveP S1 D1=(n2,e2,S2,D2)):startP T D S=startE T (n2,e2,S2,D2):=by
 unfold startP
 rw[if_neg (by rw[hf];exact Bool.false_ne_true),if_neg (fun e=>e.elim (fun e=>e h0) hl),hq,if_pos ⟨rfl,hp⟩]
 simp only
 rw[hq2]
end
section
variable {w:World} {O:Tgm} {p d rg lg r:Nat} {T:PgP} {D:DvS} {S:RsS}
def StR (w:World) (O:Tgm) (p d rg lg r:Nat) (q:Nat×Nat×PgP×DvS×RsS) (e:Ending) (w':World):Prop:=∃O',e = .returned (.tuple #[.int .u64 (q.1:Int),.int .i64 (q.2.1:Int)])∧PgM w' O' p d rg lg q.2.2.1∧DvM w' O' d q.2.2.2.1∧RsM w' O' r d q.2.2.2.2∧Wr (fun τ=>τ=(0,1)∨τ=(0,4)∨τ=(p,1)) w O w' O'
set_option maxRecDepth 100000 in
theorem start_any (h:PgM w O p d rg lg T) (hR:RsM w O r d S) (hD:DvM w O d D) (ok:D.Ok) (hst:D.st≤900000000) (hla:T.la<18446744073709551616) (ok1:∀D1,stepD D=(0,D1)→D1.Ok∧D1.st≤1000000000):
 Calls Tryz.prog 21 #[.pointer (some ⟨p,0,none⟩),.pointer (some ⟨r,0,none⟩)] w (StR w O p d rg lg r (startP T D S)):=by
 have CM:=Lib.hid (cmay_any (r:=r) h)
 have hpos:0<p:=by obtain⟨b,hN,_⟩:=h;exact hN.pos
 have HP:=Lib.hid hpos
 obtain⟨q0,hq0⟩:∃q,startP T D S=q:=⟨_,rfl⟩
 rw[hq0]
 have Q0:=Lib.hid hq0
 clear hq0
 by_cases hf:T.fa=true
 · have QX:=Lib.hid (Q0.out.symm.trans (startP1 hf))
   rw[hf] at CM
   have J:=Lib.hid (And.intro h (And.intro hD hR))
   clear h hR hD ok hst hf hpos
   go_enter Tryz.func21,Tryz.ntmps21
   go_wp2_with fail
   refine CM.out.mono ?_
   rintro e w1 ⟨rfl,rfl⟩
   go_wp2_with fail
   go_ret2
   rw[QX.out]
   exact⟨O,rfl,J.out.1,J.out.2.1,J.out.2.2,Wr.of (Below.refl _ _) _ (fun _ _=>rfl)⟩
 have hf9:T.fa=false:=by simpa using hf
 rw[hf9] at CM
 have CC:Hid (Calls Tryz.prog 62 #[.pointer (some ⟨p,0,none⟩)] w fun e w'=>e = .returned (.tuple #[.int .u64 (T.cm:Int),.bool (!decide (T.cm=0)&&T.fl)])∧Below w.heap.size w w'):=Lib.hid (by
  obtain⟨b,hN,_⟩:=h
  exact commit_any hN.box)
 have H:=Lib.hid h
 have HR:=Lib.hid hR
 have HD:=Lib.hid hD
 have OK:=Lib.hid (And.intro ok (And.intro hst (And.intro hla ok1)))
 have HF:=Lib.hid hf9
 clear h hR hD ok hst hf hf9 hpos hla ok1
 go_enter Tryz.func21,Tryz.ntmps21
 go_wp2_with fail
 refine CM.out.mono ?_
 rintro e w1 ⟨rfl,rfl⟩
 go_wp2_with fail
 refine CC.out.mono ?_
 rintro e w1 ⟨rfl,hb⟩
 have s1:Wr (fun _=>False) w O w1 (cutO O w.heap.size):=Wr.cut hb _
 have H1:=Lib.hid (H.out.wr s1 (fun _=>id) id)
 have R1:=Lib.hid (HR.out.wr s1 id)
 have V1:=Lib.hid (HD.out.wr s1 id)
 have W1:=Lib.hid s1
 obtain⟨O1,hO1⟩:∃O1,cutO O w.heap.size=O1:=⟨_,rfl⟩
 rw[hO1] at H1 R1 V1 W1
 have LA:Hid (Calls Tryz.prog 23 #[.pointer (some ⟨p,0,none⟩)] w1 fun e w'=>e = .returned (.int .u64 (T.la:Int))∧w1=w'):=Lib.hid (by
  obtain⟨b,hN,_⟩:=H1.out
  exact last_any hN.box)
 clear hb s1 hO1 CM CC H HR HD
 by_cases h0:T.cm≠0
 · have QX:=Lib.hid (Q0.out.symm.trans (startP2 HF.out (.inl h0)))
   have z1:((T.cm:Int) != 0)=true:=by simp;omega
   have z2:¬(T.cm:Int)=0:=by omega
   have z3:((T.cm:Int)==0)=false:=by simp;omega
   clear h0 LA
   go_wp2_with fail
   go_ret2
   rw[QX.out]
   exact⟨O1,rfl,H1.out,V1.out,R1.out,W1.out.imp fun _=>False.elim⟩
 have h0':T.cm=0:=by omega
 by_cases hl:S.res<T.la
 · have QX:=Lib.hid (Q0.out.symm.trans (startP2 HF.out (.inr hl)))
   have e1:decide ((S.res:Int)<(T.la:Int))=true:=decide_eq_true (by omega)
   have e1n:decide (S.res<T.la)=true:=decide_eq_true (by omega)
   rw[h0']
   clear h0 h0' hl
   go_wp2_with fail
   refine LA.out.mono ?_
   rintro e w2 ⟨rfl,rfl⟩
   go_wp2_with fail
   refine (reservedM R1.out).mono ?_
   rintro e w2 ⟨rfl,rfl⟩
   clear LA
   go_wp2_with fail
   go_ret2
   rw[QX.out]
   exact⟨O1,rfl,H1.out,V1.out,R1.out,W1.out.imp fun _=>False.elim⟩
 have e1:decide ((S.res:Int)<(T.la:Int))=false:=decide_eq_false (by omega)
 have e1n:decide (S.res<T.la)=false:=decide_eq_false (by omega)
 have HZ:=Lib.hid h0'
 have HL:=Lib.hid hl
 rw[h0']
 clear h0 h0' hl
 go_wp2_with fail
 refine LA.out.mono ?_
 rintro e w2 ⟨rfl,rfl⟩
 go_wp2_with fail
 refine (reservedM R1.out).mono ?_
 rintro e w2 ⟨rfl,rfl⟩
 clear LA
 have RV:=Lib.hid (reserveM R1.out V1.out OK.out.1 (Nat.le_trans OK.out.2.1 (by decide)))
 obtain⟨q,hq⟩:∃q,reserveP S D=q:=⟨_,rfl⟩
 rw[hq] at RV
 obtain⟨n,er,S1,D1⟩:=q
 have QQ:=Lib.hid hq
 have RF:=Lib.hid (reserve_facts R1.out.2.2 hq)
 clear hq
 go_wp2_with fail
 refine RV.out.mono ?_
 rintro e w2 ⟨rfl,hr2,hd2,s2⟩
 have H2:=Lib.hid (H1.out.wr s2 (fun i e=>by have:=HP.out;rcases e with e | e <;> (injection e with e;omega)) (fun e=>by rcases e with e | e <;> cases e))
 have R2:=Lib.hid hr2
 have V2:=Lib.hid hd2
 have W2:=Lib.hid ((W1.out.imp (Q:=fun τ=>τ=(0,1)∨τ=(0,4)) fun _=>False.elim).tr s2)
 clear hr2 hd2 s2 H1 R1 V1 W1 e1 e1n RV
 dsimp only
 by_cases her:er=0
 · subst her
   obtain⟨f1,f2,f3,f4⟩:=RF.out.1 rfl
   have HN:Hid (T.la<n∧n<18446744073709551616):=Lib.hid ⟨by have:=HL.out;omega,f2⟩
   have S1R:Hid (S1.res=S.res+1):=Lib.hid (by rw[f3])
   have OK1:=Lib.hid (OK.out.2.2.2 D1 f4)
   clear RF f1 f2 f3 f4
   by_cases hpar:n%2=S1.com%2
   · have HPA:=Lib.hid hpar
     have e2:(((n:Int)%2)==((S1.com:Int)%2))=true:=by simp;omega
     have RV:=Lib.hid (reserveM R2.out V2.out OK1.out.1 OK1.out.2)
     obtain⟨q,hq⟩:∃q,reserveP S1 D1=q:=⟨_,rfl⟩
     rw[hq] at RV
     obtain⟨n2,er2,S2,D2⟩:=q
     have Q5:=Lib.hid (Q0.out.symm.trans (startP5 HF.out HZ.out HL.out QQ.out HPA.out hq))
     have RF:=Lib.hid (reserve_facts R2.out.2.2 hq)
     clear hq hpar
     go_wp2_with fail
     refine (committedM R2.out).mono ?_
     rintro e w3 ⟨rfl,rfl⟩
     go_wp2_with fail
     refine RV.out.mono ?_
     rintro e w3 ⟨rfl,hr3,hd3,s3⟩
     have H3:=Lib.hid (H2.out.wr s3 (fun i e=>by have:=HP.out;rcases e with e | e <;> (injection e with e;omega)) (fun e=>by rcases e with e | e <;> cases e))
     have R3:=Lib.hid hr3
     have V3:=Lib.hid hd3
     have W3:=Lib.hid (W2.out.tr s3)
     clear hr3 hd3 s3 H2 R2 V2 W2 e2 RV
     dsimp only
     by_cases her:er2=0
     · subst her
       obtain⟨f1,f2,f3,f4⟩:=RF.out.1 rfl
       have HN2:Hid (T.la<n2∧n2<18446744073709551616):=Lib.hid ⟨by have:=HL.out;have:=S1R.out;omega,f2⟩
       clear RF f1 f2 f3 f4
       have QX:Hid (q0=(n2,0,beginT T n2,D2,S2)):=Lib.hid Q5.out
       go_wp2_with fail
       refine (beginM (n:=n2) H3.out HN2.out.2 HF.out HZ.out HN2.out.1).mono ?_
       rintro e w9 ⟨O9,rfl,hp9,s9⟩
       have PQ:=Lib.hid hp9
       have SQ:=Lib.hid s9
       clear hp9 s9
       go_wp2_with fail
       go_ret2
       rw[QX.out]
       exact⟨O9,rfl,PQ.out,V3.out.wr SQ.out (fun e=>by have:=HP.out;injection e with e;omega),R3.out.wr SQ.out (fun e=>by have:=HP.out;injection e with e;omega),(W3.out.imp fun τ h=>h.imp id .inl).tr (SQ.out.imp fun τ h=>.inr (.inr h))⟩
     · have HE:=Lib.hid her
       have z1:((er2:Int) != 0)=true:=by simp;omega
       have z2:¬(er2:Int)=0:=by omega
       have z3:((er2:Int)==0)=false:=by simp;omega
       clear her RF
       by_cases h90:er2=90
       · subst h90
         have QX:=Lib.hid (Q5.out.trans (startE_no HE.out))
         rw[if_pos rfl] at QX
         go_wp2_with fail
         go_ret2
         rw[QX.out]
         exact⟨O1,rfl,H3.out,V3.out,R3.out,W3.out.imp fun τ h=>h.imp id .inl⟩
       have QX:=Lib.hid (Q5.out.trans (startE_no HE.out))
       rw[if_neg h90] at QX
       have y1:((er2:Int) != 90)=true:=by simp;omega
       have y2:¬(er2:Int)=90:=by omega
       have FA:=Lib.hid (pfailM H3.out)
       clear h90
       go_wp2_with fail
       refine FA.out.mono ?_
       rintro e w9 ⟨⟨v9,rfl⟩,y1,ys⟩
       have Y:=Lib.hid (And.intro y1 ys)
       clear y1 ys FA
       go_wp2_with fail
       go_ret2
       rw[QX.out]
       have np:∀i,¬(((0,i):Nat×Nat)=(p,1)):=fun i e=>by injection e with e _;have:=HP.out;omega
       exact⟨_,rfl,Y.out.1,V3.out.wr Y.out.2 (np 1),R3.out.wr Y.out.2 (np 4),(W3.out.imp fun τ h=>h.imp id .inl).tr (Y.out.2.imp fun τ h=>.inr (.inr h))⟩
   · have QX:=Lib.hid (Q0.out.symm.trans (startP4 HF.out HZ.out HL.out QQ.out hpar))
     have e2:(((n:Int)%2)==((S1.com:Int)%2))=false:=by simp;omega
     clear hpar
     go_wp2_with fail
     refine (committedM R2.out).mono ?_
     rintro e w3 ⟨rfl,rfl⟩
     go_wp2_with fail
     refine (beginM (n:=n) H2.out HN.out.2 HF.out HZ.out HN.out.1).mono ?_
     rintro e w9 ⟨O9,rfl,hp9,s9⟩
     have PQ:=Lib.hid hp9
     have SQ:=Lib.hid s9
     clear hp9 s9
     go_wp2_with fail
     go_ret2
     rw[QX.out]
     exact⟨O9,rfl,PQ.out,V2.out.wr SQ.out (fun e=>by have:=HP.out;injection e with e;omega),R2.out.wr SQ.out (fun e=>by have:=HP.out;injection e with e;omega),(W2.out.imp fun τ h=>h.imp id .inl).tr (SQ.out.imp fun τ h=>.inr (.inr h))⟩
 · have HE:=Lib.hid her
   have z1:((er:Int) != 0)=true:=by simp;omega
   have z2:¬(er:Int)=0:=by omega
   have z3:((er:Int)==0)=false:=by simp;omega
   clear her RF
   by_cases h90:er=90
   · subst h90
     have QX:=Lib.hid (Q0.out.symm.trans (startP3 HF.out HZ.out HL.out QQ.out HE.out))
     rw[if_pos rfl] at QX
     go_wp2_with fail
     go_ret2
     rw[QX.out]
     exact⟨O1,rfl,H2.out,V2.out,R2.out,W2.out.imp fun τ h=>h.imp id .inl⟩
   have QX:=Lib.hid (Q0.out.symm.trans (startP3 HF.out HZ.out HL.out QQ.out HE.out))
   rw[if_neg h90] at QX
   have y1:((er:Int) != 90)=true:=by simp;omega
   have y2:¬(er:Int)=90:=by omega
   have FA:=Lib.hid (pfailM H2.out)
   clear h90
   go_wp2_with fail
   refine FA.out.mono ?_
   rintro e w9 ⟨⟨v9,rfl⟩,y1,ys⟩
   have Y:=Lib.hid (And.intro y1 ys)
   clear y1 ys FA
   go_wp2_with fail
   go_ret2
   rw[QX.out]
   have np:∀i,¬(((0,i):Nat×Nat)=(p,1)):=fun i e=>by injection e with e _;have:=HP.out;omega
   exact⟨_,rfl,Y.out.1,V2.out.wr Y.out.2 (np 1),R2.out.wr Y.out.2 (np 4),(W2.out.imp fun τ h=>h.imp id .inl).tr (Y.out.2.imp fun τ h=>.inr (.inr h))⟩
end
theorem Sk.cutD {D:DvS} {n s st wn:Nat} {B:List Nat} (h:Sk D n s B st wn) {z:Int} (hz:z≤9223372036854775807):Sk { D with cut:=max z (-1) } n s B st wn:=
 ⟨⟨h.ok.n8,h.ok.n4,h.ok.now,h.ok.firm,h.ok.bnow,h.ok.bfirm,h.ok.ws,⟨Int.le_max_right _ _,by show max z (-1)≤9223372036854775807;omega⟩,h.ok.fail⟩,h.n,h.fm,h.nw,h.ws,h.st,h.wn⟩
theorem start_facts {T T1:PgP} {D D2:DvS} {S1:RsS} {i nn er:Nat} {U:List Nat} (h:BdC T i U) (hi:i≤1000) (hq:startP T D ⟨1099511627776,i,i⟩=(nn,er,T1,D2,S1)):
 D2=(stepD D).2∧((er=0∧nn=i+1∧T1=beginT T (i+1)∧S1=⟨1099511627776,i+1,i⟩)∨(er≠0∧S1=⟨1099511627776,i,i⟩))∧(Qt D→er=0∧Qt D2):=by
 have hS:(⟨1099511627776,i,i⟩:RsS).Ok:=⟨by show 1099511627776<18446744073709551616;decide,by show i≤1099511627776;omega,Nat.le_refl _⟩
 have hl:¬(⟨1099511627776,i,i⟩:RsS).res<T.la:=by show ¬i<T.la;rw[h.la];omega
 cases hr:reserveP ⟨1099511627776,i,i⟩ D with
 | mk n q=>
   obtain⟨e,S2,D1⟩:=q
   obtain⟨f1,f2⟩:=reserve_facts hS hr
   have hD:D1=(stepD D).2∧(Qt D→e=0):=by
    unfold reserveP at hr
    rw[if_neg (by show ¬1099511627776≤i;omega)] at hr
    cases hs:stepD D with
    | mk k D3=>
      rw[hs] at hr
      have hk:Qt D→k=0:=fun hq=>by rw[stepD_qt hq] at hs;injection hs with hs;exact hs.symm
      cases k with
      | zero=>
        simp only[Prod.mk.injEq] at hr
        obtain⟨_,rfl,_,rfl⟩:=hr
        exact⟨rfl,fun _=>rfl⟩
      | succ k=>
        simp only[Prod.mk.injEq] at hr
        obtain⟨_,rfl,_,rfl⟩:=hr
        exact⟨rfl,fun hq=>absurd (hk hq) (by omega)⟩
   have hQ:Qt D→Qt (stepD D).2:=fun hq=>by rw[stepD_qt hq];exact hq
   by_cases he:e=0
   · subst he
     obtain⟨g1,g2,g3,g4⟩:=f1 rfl
     have hpar:¬n%2=S2.com%2:=by
      rw[g3,g1]
      show ¬(i+1)%2=i%2
      omega
     rw[startP4 h.fa h.cm hl hr hpar] at hq
     simp only[Prod.mk.injEq] at hq
     obtain⟨rfl,rfl,rfl,rfl,rfl⟩:=hq
     exact⟨hD.1,.inl ⟨rfl,g1,by rw[g1],g3⟩,fun q=>⟨rfl,by rw[hD.1];exact hQ q⟩⟩
   · rw[startP3 h.fa h.cm hl hr he] at hq
     simp only[Prod.mk.injEq] at hq
     obtain⟨rfl,rfl,rfl,rfl,rfl⟩:=hq
     exact⟨hD.1,.inr ⟨he,(f2 he).2⟩,fun q=>absurd (hD.2 q) he⟩
section
variable {T:PgP} {R:RgL} {D:DvS} {al:List Sl} {S:RsS} {m:Mp} {i st wn:Nat} {old new:List Nat} {B:List Nat}
theorem lgM_len (R:RgL) (m:Mp):(lgM R m).length≤1:=by unfold lgM;split <;> simp
theorem meta_al {T1:PgP}:(metaP R T1 D al m).2.2.2.length≤al.length+1:=by
 have h:=lgM_len R m
 unfold metaP
 split
 · show al.length≤_;omega
 split
 · show al.length≤_;omega
 split
 · show al.length≤_;omega
 · split
   · show (al++lgM R m).length≤_
     rw[List.length_append];omega
   · show (al++lgM R m).length≤_
     rw[List.length_append];omega
theorem fin_al (h:OpC T R i old new) (hR:∀q∈R,KeyOk q.2∧Byt q.2) (hD:Sk D 40 (i%2) B st wn):(finishP R T D al S m).2.2.2.1.length≤al.length+6:=by
 have hpl:(U32.srt (T.pu.map (·.1))).length≤5:=by rw[U32.srt_len,h.pu];exact h.ln
 have f1:=(Sk.flushP (al:=al) hD (h.seal hR (Nat.mod_lt _ (by decide)))).2
 cases e1:flushP R T D al with
 | mk x1 y1=>
   obtain⟨T1,D1,al1⟩:=y1
   rw[e1] at f1
   have g1:al1.length≤al.length+(U32.srt (T.pu.map (·.1))).length:=f1
   by_cases z1:x1≠0
   · rw[finishP1 e1 z1]
     show al1.length≤_
     omega
   have z1':x1=0:=by omega
   subst z1'
   have f2:=meta_al (R:=R) (D:=D1) (al:=al1) (m:=m) (T1:=T1)
   cases e2:metaP R T1 D1 al1 m with
   | mk x2 y2=>
     obtain⟨T2,D2,al2⟩:=y2
     rw[e2] at f2
     have g2:al2.length≤al1.length+1:=f2
     by_cases z2:x2≠0
     · rw[finishP2 e1 e2 z2]
       show al2.length≤_
       omega
     have z2':x2=0:=by omega
     subst z2'
     cases e3:advanceP S D2 m.cm with
     | mk x3 y3=>
       obtain⟨S3,D3⟩:=y3
       by_cases z3:x3≠0
       · rw[finishP3 e1 e2 e3 z3]
         show al2.length≤_
         omega
       have z3':x3=0:=by omega
       subst z3'
       cases e4:scrubP T2 D3 with
       | mk x4 y4=>
         obtain⟨T4,D4⟩:=y4
         by_cases z4:x4≠0
         · rw[finishP4 e1 e2 e3 e4 z4]
           show al2.length≤_
           omega
         · have z4':x4=0:=by omega
           subst z4'
           rw[finishP5 e1 e2 e3 e4]
           show al2.length≤_
           omega
end
def cB (key:List Nat) (ms:List Mp) (n:Nat):List Nat:=if n=0 then zeros 256 else (mSealP (cR key) (ms.getD (n-1) mp0)).1
structure MsOk (ms:List Mp):Prop where
 ea:∀(j:Nat) (m:Mp),ms[j]? = some m→m.cm=j+1∧m.Ok∧rightB m=true∧m.gn=0
 le:ms.length≤12
theorem MsOk.nil:MsOk []:=⟨fun j m h=>(by cases h),Nat.zero_le _⟩
theorem cR_ok {key:List Nat} (h:KeyOk key) (hb:Byt key):∀q∈cR key,KeyOk q.2∧Byt q.2:=fun q hq=>by
 unfold cR at hq
 rcases List.mem_cons.1 hq with rfl | hq
 · exact⟨h,hb⟩
 · rw[List.mem_singleton.1 hq];exact⟨h,hb⟩
theorem cm_seal {key:List Nat} {m:Mp} (h:KeyOk key) (hb:Byt key) (hm:m.Ok) (hr:rightB m=true) (hg:m.gn=0):(mSealP (cR key) m).2=0∧(mSealP (cR key) m).1.length=256∧Byt (mSealP (cR key) m).1:=by
 have hk:getR (0,m.gn) (cR key)=some key:=by rw[hg];rfl
 unfold mSealP
 rw[hr,hk]
 simp only[cond_true]
 refine⟨by rw[sealM h],(seal_ok9 h (by show 1≤4;decide) (by show 4≤4;decide) (mbytes_len _)).2,sealP_byt hb ?_ (labM_ok hm)⟩
 unfold mbytes
 exact byt_app (flatN_byt _) (byt_zeros _)
theorem cm_open {key:List Nat} {ms:List Mp} {c:Nat} {m:Mp} (h:KeyOk key) (hM:MsOk ms) (h0:0<c) (hm:ms[c-1]? = some m) {s:Nat} (hs:c%2=s):mOpenP (cR key) (s:Int) (cB key ms c)=⟨m,0⟩:=by
 obtain⟨m1,m2,m3,m4⟩:=hM.ea _ _ hm
 have hk:getR (0,m.gn) (cR key)=some key:=by rw[m4];rfl
 have hc:cB key ms c=(mSealP (cR key) m).1:=by
  unfold cB
  rw[if_neg (by omega),List.getD_eq_getElem?_getD,hm]
  rfl
 rw[hc,mOpen_seal m2 m3 hk h,if_pos (by omega),if_pos (by omega)]
structure FnC (key:List Nat) (D:DvS) (S:RsS) (ms:List Mp) (last:Nat):Prop where
 lo:last≤S.com
 hi:S.com≤last+1
 le:S.com≤ms.length
 mo:MsOk ms
 sk:Sk D 40 (S.com%2) (cB key ms S.com) 1000 1000
structure RdC (key:List Nat) (T:PgP) (D:DvS) (al:List Sl) (U:List Nat) (ms:List Mp) (i:Nat):Prop where
 bd:BdC T i U
 qt:Qt D
 sk:Sk D 40 (i%2) (cB key ms i) (30*i) (30*i)
 al:al.length≤10*i
 mo:MsOk ms
 ln:ms.length=i
theorem RdC.fin {key:List Nat} {T:PgP} {D:DvS} {al:List Sl} {U:List Nat} {ms:List Mp} {i lim:Nat} (h:RdC key T D al U ms i):FnC key D ⟨lim,i,i⟩ ms i:=
 ⟨Nat.le_refl _,Nat.le_succ _,by rw[h.ln];exact Nat.le_refl _,h.mo,h.sk.more (by have:=h.mo.le;have:=h.ln;omega) (by have:=h.mo.le;have:=h.ln;omega)⟩
theorem RdC.new (key:List Nat):RdC key (newT [(2,40)]) (newD 40) [] [] [] 0 where
 bd:=⟨rfl,rfl,rfl,rfl,rfl,Cv.new,Nat.zero_le _⟩
 qt:=newD_qt 40
 sk:=⟨newD_ok (by decide) (by decide),rfl,zero_blkN (n:=40) (by decide),zero_blkN (n:=40) (by decide),fun x hx=>(by cases hx),Nat.zero_le _,Nat.zero_le _⟩
 al:=Nat.zero_le _
 mo:=MsOk.nil
 ln:=rfl
theorem MsOk.add {ms:List Mp} {m:Mp} (h:MsOk ms) (hl:ms.length<12) (h1:m.cm=ms.length+1) (h2:m.Ok) (h3:rightB m=true) (h4:m.gn=0):MsOk (ms++[m]):=
 ⟨fun j x hx=>by
  by_cases hj:j<ms.length
  · rw[List.getElem?_append_left hj] at hx
    exact h.ea j x hx
  · rw[List.getElem?_append_right (by omega)] at hx
    obtain⟨hj2,e⟩:=List.getElem?_eq_some_iff.1 hx
    simp at hj2 e
    subst e
    exact⟨by omega,h2,h3,h4⟩,by rw[List.length_append];simp;omega⟩
theorem cB_old {key:List Nat} {ms:List Mp} {m:Mp} {c:Nat} (h:c≤ms.length):cB key (ms++[m]) c=cB key ms c:=by
 unfold cB
 by_cases h0:c=0
 · rw[if_pos h0,if_pos h0]
 · rw[if_neg h0,if_neg h0,List.getD_eq_getElem?_getD,List.getD_eq_getElem?_getD,List.getElem?_append_left (by omega)]
theorem cB_new {key:List Nat} {ms:List Mp} {m:Mp} {c:Nat} (h:c=ms.length+1):cB key (ms++[m]) c=(mSealP (cR key) m).1:=by
 subst h
 unfold cB
 rw[if_neg (by omega),Nat.add_sub_cancel,List.getD_eq_getElem?_getD,List.getElem?_append_right (Nat.le_refl _),Nat.sub_self]
 rfl
section
variable {key:List Nat} {T:PgP} {D:DvS} {al:List Sl} {U new:List Nat} {ms:List Mp} {m:Mp} {i:Nat}
theorem cround_any (hk:KeyOk key) (hb:Byt key) (ho:OpC T (cR key) i U new) (hM:MsOk ms) (hl:ms.length=i) (hi:i<12) (h1:m.cm=i+1) (h2:m.Ok) (h3:rightB m=true) (h4:m.gn=0) (hD:Sk D 40 (i%2) (cB key ms i) (30*i+2) (30*i+2)):
 FnC key (finishP (cR key) T D al ⟨1099511627776,i+1,i⟩ m).2.2.1 (finishP (cR key) T D al ⟨1099511627776,i+1,i⟩ m).2.2.2.2 (ms++[m]) (if (finishP (cR key) T D al ⟨1099511627776,i+1,i⟩ m).1=0 then i+1 else i):=by
 have hs:=cm_seal hk hb h2 h3 h4
 have hM':=hM.add (by omega) (by omega) h2 h3 h4
 have hl':(ms++[m]).length=i+1:=by rw[List.length_append];simp;omega
 rcases fin_law (al:=al) (S:=⟨1099511627776,i+1,i⟩) ho (cR_ok hk hb) h1 (fun _=>hs.2) ⟨rfl,rfl⟩ hD with ⟨e1,e2,e3⟩ | ⟨e1,e3⟩
 · rw[if_neg e2,e1]
   exact⟨Nat.le_refl _,Nat.le_succ _,by show i≤_;omega,hM',by rw[cB_old (by show i≤_;omega)];exact e3.more (by omega) (by omega)⟩
 · rw[e1]
   have hz:∀z:Nat,(if z=0 then i+1 else i)≤i+1∧i+1≤(if z=0 then i+1 else i)+1:=fun z=>by
    by_cases h:z=0
    · rw[if_pos h];omega
    · rw[if_neg h];omega
   refine⟨(hz _).1,(hz _).2,by show i+1≤_;omega,hM',?_⟩
   rw[cB_new (show i+1=ms.length+1 by omega)]
   exact e3.more (by omega) (by omega)
theorem cround_quiet (hk:KeyOk key) (hb:Byt key) (ho:OpC T (cR key) i U new) (ha:al.length≤10*i) (hM:MsOk ms) (hl:ms.length=i) (hi:i<12) (h1:m.cm=i+1) (h2:m.Ok) (h3:rightB m=true) (h4:m.gn=0) (hD:Sk D 40 (i%2) (cB key ms i) (30*i+2) (30*i+2)) (hq:Qt D):
 ∃T' D' al',finishP (cR key) T D al ⟨1099511627776,i+1,i⟩ m=(0,T',D',al',⟨1099511627776,i+1,i+1⟩)∧RdC key T' D' al' new (ms++[m]) (i+1):=by
 have hs:=cm_seal hk hb h2 h3 h4
 obtain⟨T',D',al',e,q1,q2,q3,q4,q5,q6,q7⟩:=fin_quiet (al:=al) (S:=⟨1099511627776,i+1,i⟩) ho h1 hs.1 ⟨rfl,rfl⟩ hq
 refine⟨T',D',al',e,⟨q2,q3,q4,q5,q6,q7,ho.ln⟩,q1,?_,?_,hM.add (by omega) (by omega) h2 h3 h4,by rw[List.length_append];simp;omega⟩
 · rcases fin_law (al:=al) (S:=⟨1099511627776,i+1,i⟩) ho (cR_ok hk hb) h1 (fun _=>hs.2) ⟨rfl,rfl⟩ hD with ⟨_,e2,_⟩ | ⟨_,e3⟩
   · rw[e] at e2
     exact absurd rfl e2
   · rw[e] at e3
     rw[cB_new (by omega)]
     exact e3.more (by omega) (by omega)
 · have h:=fin_al (al:=al) (S:=⟨1099511627776,i+1,i⟩) (m:=m) ho (cR_ok hk hb) hD
   rw[e] at h
   have h':al'.length≤al.length+6:=h
   omega
end
set_option maxRecDepth 100000 in
theorem fill20_any (x:Nat) (hx:x<256) (w:World):Calls Tryz.prog 28 #[.int .u8 (x:Int)] w fun e w'=>∃g,e = .returned (.slice (some ⟨g,0,none⟩) 224 224)∧w.heap.size≤g∧Bk w' g 5 (List.replicate 224 x)∧Below w.heap.size w w':=by
 have hx0:(0:Int)≤(x:Int):=by omega
 have hx1:(x:Int)<256:=by omega
 go_enter Tryz.func28,Tryz.ntmps28
 go_wp2_with (refine wpList_makeB19 rfl 224 (by decide) rfl ?_;intro w3 hk3 hb3;have P3:=Lib.hid hk3;have D3:=Lib.hid hb3;clear hk3 hb3)
 obtain⟨gp,hgp⟩:∃gp,w.heap.size=gp:=⟨_,rfl⟩
 rw[hgp] at P3 D3⊢
 have HG:=Lib.hid hgp
 clear hgp
 go_loopw [8] (fun z wx=>∃j:Nat,j≤224∧z = .int .i64 (j:Int)∧Bk wx gp 5 (List.replicate j x++List.replicate (224-j) 0)∧Below gp w wx) (fun z _=>224-(intOf z).toNat)
 case atStart=>exact⟨0,Nat.zero_le _,rfl,P3.out,D3.out⟩
 case round=>
  obtain⟨j,hj,rfl,hbk,hbx⟩:=hrel
  by_cases hjl:j<224
  · have hjlt:(j:Int)<224:=by omega
    have hj0:(0:Int)≤(j:Int):=by omega
    have hc0:=hbk.cell (k:=j) (by simp;omega)
    have hf0:=hbk.free j
    have HK:=Lib.hid (hbk.set j x)
    have HX:=Lib.hid hbx
    have HJ:=Lib.hid hjl
    clear hbk hbx hjl hj
    go_wp2_with fail
    go_roundw
    case rel=>exact⟨j+1,HJ.out,by go_num,by rw[←set_fill19 x j 224 HJ.out];exact HK.out,HX.out.setCell (show gp≤(⟨gp,j,none⟩:Addr).block from Nat.le_refl _) _⟩
    case measure=>simp[intOf];have:=HJ.out;omega
  · obtain rfl:j=224:=by omega
    rw[Nat.sub_self,List.replicate_zero,List.append_nil] at hbk
    have P4:=Lib.hid hbk
    have D4:=Lib.hid hbx
    clear hbk hbx hjl hj
    go_wp2_with fail
    go_ret
    exact⟨gp,rfl,by rw[HG.out];exact Nat.le_refl _,P4.out,by rw[HG.out];exact D4.out⟩
def StopQ (p:Prop):Prop:=p
theorem stop_dstQ (d:Nat) {op:Op} {ty:TypeId} {pos:String} {aft:Array Edge} {gd:Option (Nat×Bool)} {rest:List Oper} {ops:Array Oper} {a:Act} {w:World} {Q:Exit→Act→World→Prop} (h:StopQ (wpList Tryz.prog ops Q ({ dst:=some d,op:=op,type:=ty,pos:=pos,after:=aft,guard:=gd }::rest) a w)):wpList Tryz.prog ops Q ({ dst:=some d,op:=op,type:=ty,pos:=pos,after:=aft,guard:=gd }::rest) a w:=h
theorem yields5_appS {o:Oper} {a:Act} {W:World} {F:Nat→Prop} {R:Value→World→Prop} (s x:Operand) {T e:TypeId}
 (ho:o.op = .call { callee:=.builtin .append,args:=#[s,x],argTypes:=#[T,T] })
 (ht:Tryz.prog.underlying T=some (.slice e)) {z:Value} {sz by_:Nat} (hinf:(Tryz.prog.info? e).map (fun i=>(i.zero,i.size,i.bytes))=some (some z,sz,by_)) (hzs:z.cells.size=sz) (hsz:0<sz)
 {B n:Nat} {v:Value} {xs ys:List Value} (hown:W.ownsRow B e sz v n xs) (hs:a.eval s=v) {y:Addr} {c:Nat} (hx:a.eval x = .slice (some y) 1 c)
 (hl:ys.length=sz) (hc:∀j u,ys[j]? = some u→W.cell? (y.add j)=some u) (h1:∀u∈ys,u.oneCell'=true) (hb:n≤100000) (hby:by_≤100) (hB:B≤W.heap.size)
 (h:∀v' w',w'.ownsRow B e sz v' (n+1) (xs++ys)→Fr W w' (fun q=>v.ownBlock=some q)→(v'.ownBlock=v.ownBlock∨v'.ownBlock=some W.heap.size)→R v' w'∧Fr W w' F):Yields5 Tryz.prog o a W F R:=by
 obtain⟨i0,hi0,hz0,hz1,hz2⟩:=info_parts hinf
 have hm:(n+1)*by_≤100001*100:=Nat.mul_le_mul (by omega) hby
 obtain⟨v',w',hrun,r1,r2,_,r3⟩:=run_append_own_at (P:=Tryz.prog) W B T o.type e i0 _ sz by_ ht hi0 hz0 hz1 hz2 hzs hsz v n xs hown y 1 c ys (by rw[hl,Nat.one_mul]) hc h1 (by simp only[maxLen];omega) (by omega) hB
 obtain⟨q1,q2⟩:=h v' w' r1 (Fr.grown r2) r3
 refine .inl ⟨v',w',?_,q1,q2⟩
 unfold execOp
 simp only[ho,resolve,invoke,builtin,Sem.run_bind,Sem.run_pure,Result.andThen_ok,List.map_toArray,List.map_cons,List.map_nil,hs,hx,hrun]
def FilC (N b:Nat) (v:Value) (W:World):Prop:=∃g,v = .slice (some ⟨g,0,none⟩) 224 224∧IsB W (some ⟨g,0,none⟩) 224 224 (payB b)∧N≤g
def RefN (N:Nat) (v:Value) (W:World):Prop:=∃G,v = .pointer (some ⟨G,0,none⟩)∧CbB W G 34 #[.int .u32 0,.int .u64 0,.int .u16 0]∧N≤G
def RefS (N:Nat) (cs:Array Value) (v:Value) (W:World):Prop:=∃G,v = .slice (some ⟨G,0,none⟩) 1 1∧CbB W G 34 cs∧N≤G
def ApR (B N:Nat) (vP:Value) (ps:List (Nat×Nat×Nat)) (v:Value) (W:World):Prop:=W.ownsRow B 34 3 v ps.length (refC ps)∧(v.ownBlock=vP.ownBlock∨∃k,v.ownBlock=some k∧N≤k)
theorem ApR.ab {B N:Nat} {vP:Value} {ps:List (Nat×Nat×Nat)} {v:Value} {W W':World} (h:ApR B N vP ps v W) (hb:Below W.heap.size W W'):ApR B N vP ps v W':=⟨row_fr h.1 (Fr.of hb (fun _=>False)) (fun _ _ h=>h),h.2⟩
theorem ApR.snoc {B N n:Nat} {vP v:Value} {ps:List (Nat×Nat×Nat)} {q:Nat×Nat×Nat} {W:World} (hn:n=ps.length) (h:W.ownsRow B 34 3 v (n+1) (refC ps++[.int .u32 (q.1:Int),.int .u64 (q.2.1:Int),.int .u16 (q.2.2:Int)])) (hv:v.ownBlock=vP.ownBlock∨∃k,v.ownBlock=some k∧N≤k):ApR B N vP (ps++[q]) v W:=by
 subst hn
 refine⟨?_,hv⟩
 rw[refC_app,List.length_append]
 exact h
def FinW (N:Nat) (O:Tgm) (p d rg lg r:Nat) (R:RgL) (q:Nat×PgP×DvS×List Sl×RsS) (u v:Value) (W:World):Prop:=v=u∧∃O',PgM W O' p d rg lg q.2.1∧DvM W O' d q.2.2.1∧LgM W O' lg q.2.2.2.1∧RsM W O' r d q.2.2.2.2∧RgM W O' rg R∧∀k,k<N→O' k=O k
theorem FinW.ab {N p d rg lg r:Nat} {O:Tgm} {R:RgL} {q:Nat×PgP×DvS×List Sl×RsS} {u v:Value} {W W':World} (h:FinW N O p d rg lg r R q u v W) (hb:Below W.heap.size W W'):FinW N O p d rg lg r R q u v W':=by
 obtain⟨h1,O',h2,h3,h4,h5,h6,h7⟩:=h
 have s:=Wr.of (O:=O') (O':=O') hb (fun _=>False) (fun _ _=>rfl)
 exact⟨h1,O',h2.wr s (fun _=>id) id,h3.wr s id,h4.wr s id,h5.wr s id,h6.wr s id id,h7⟩
theorem new_two (key:List Nat):newP 1 (cR key)=(5,0):=by
 have h:U16.srt (gensK 1 ((cR key).map (·.1)))=[5]:=(show U16.srt [5]=[5] from List.mergeSort_singleton _)
 unfold newP
 rw[h]
 rfl
theorem szRefJ (n i:Nat):(Tryz.prog.info? 34).map (·.size)=some (#[.int .u32 (n:Int),.int .u64 (i:Int),.int .u16 5]:Array Value).size:=by kernel_rfl
theorem OpC.puOk {T:PgP} {R:RgL} {i:Nat} {old new:List Nat} (h:OpC T R i old new):PuOk 40 T∧T.pu.length≤12:=by
 refine⟨fun x hx=>?_,?_⟩
 · have hn:x.1∈new:=by rw[←h.pu];exact List.mem_map.2 ⟨x,hx,rfl⟩
   obtain⟨k,key,h1,h2,h3,h4,h5,h6⟩:=h.put _ hn
   exact⟨(h.cv.bu _ (List.mem_append_right _ hn)).2,k,h1,h3,h6⟩
 · have e:T.pu.length=new.length:=by rw[←h.pu,List.length_map]
   have:=h.ln
   omega
theorem not_f9 {p i:Nat} (h0:0<p) (h1:i≠1) (h2:i≠2) (h4:i≠4):¬(((0,i):Nat×Nat)=(0,1)∨((0,i):Nat×Nat)=(0,2)∨((0,i):Nat×Nat)=(0,4)∨((0,i):Nat×Nat).1=p):=fun e=>by
 rcases e with e | e | e | e
 · injection e with e1 e2;omega
 · injection e with e1 e2;omega
 · injection e with e1 e2;omega
 · have e':(0:Nat)=p:=e
   omega
section
variable {w w8 w9:World} {O:Tgm} {x p d rg lg r gw gv:Nat} {R:RgL} {T:PgP} {D:DvS} {S:RsS} {al:List Sl} {vP vT v:Value} {ps ps':List (Nat×Nat×Nat)} {ms:List Mp} {m:Mp}
theorem CmB.puts (h:CmB w w8 O x p d rg lg r gw gv R T D S al vP ps vT ms) (hf:Fr w8 w9 (fun q=>vP.ownBlock=some q)) (hr:ApR w.heap.size w8.heap.size vP ps' v w9):
 CmB w (w9.setCell ⟨x,7,none⟩ v) (markO O w8.heap.size v.ownBlock (0,6)) x p d rg lg r gw gv R T D S al v ps' vT ms∧Wr (fun τ=>τ=(0,8)∨τ=(0,6)) w8 O (w9.setCell ⟨x,7,none⟩ v) (markO O w8.heap.size v.ownBlock (0,6)):=by
 have h0:=h.pos
 have hx:CbB w9 x 55 _:=CbB.fr h.box hf (fun e=>by have:=h.pt x e;rw[h.tx] at this;cases this)
 have f9:Fr w8 (w9.setCell ⟨x,7,none⟩ v) (fun q=>vP.ownBlock=some q∨q=x):=(hf.imp fun q hq=>.inl hq).tr ((fr_setD w9 x 7 v).imp fun q hq=>.inr hq)
 have s:Wr (fun τ=>τ=(0,8)∨τ=(0,6)) w8 O (w9.setCell ⟨x,7,none⟩ v) (markO O w8.heap.size v.ownBlock (0,6)):=⟨f9.imp fun q hq=>by
  rcases hq with hq | hq
  · exact .inr (h.pt q hq)
  · rw[hq];exact .inl h.tx,fun k hk=>markO_old hk⟩
 have n0:∀i,i≠8→i≠6→¬(((0,i):Nat×Nat)=(0,8)∨((0,i):Nat×Nat)=(0,6)):=fun i h8 h6 e=>by
  rcases e with e | e <;> (injection e with e1 e2;omega)
 have np:∀i,¬(((p,i):Nat×Nat)=(0,8)∨((p,i):Nat×Nat)=(0,6)):=fun i e=>by
  rcases e with e | e <;> (injection e with e1 e2;omega)
 have hvx:∀k,v.ownBlock=some k→k≠x∧markO O w8.heap.size v.ownBlock (0,6) k=(0,6):=fun k hk=>by
  have hxl:=h.box.lt
  by_cases hlt:k<w8.heap.size
  · rcases hr.2 with e | ⟨k',e1,e2⟩
    · rw[e] at hk
      have ht:=h.pt k hk
      exact⟨fun e=>(by rw[e,h.tx] at ht;cases ht),(markO_old hlt).trans ht⟩
    · rw[e1] at hk
      injection hk with hk
      omega
  · exact⟨by omega,by rw[hk];exact markO_new (by omega)⟩
 refine⟨⟨hx.set 7 v,(markO_old h.box.lt).trans h.tx,h.pg.wr s np (n0 0 (by decide) (by decide)),h.dv.wr s (n0 1 (by decide) (by decide)),h.ri.wr s (n0 3 (by decide) (by decide)) (n0 0 (by decide) (by decide)),h.lo.wr s (n0 2 (by decide) (by decide)),h.rs.wr s (n0 4 (by decide) (by decide)),row_fr hr.1 (fr_setD w9 x 7 v) (fun k hk=>(hvx k hk).1),fun k hk=>(hvx k hk).2,row_fr h.tr s.fr (fun k hk e=>n0 7 (by decide) (by decide) (by rw[←h.tt k hk];exact e)),fun k hk=>(markO_old (row_ltD h.tr k hk)).trans (h.tt k hk),s.below h.bl h.bl.size (fun k hk e=>n0 9 (by decide) (by decide) (by rw[←h.ol k hk];exact e)),fun k hk=>(markO_old (Nat.lt_of_lt_of_le hk h.bl.size)).trans (h.ol k hk)⟩,s⟩
theorem CmB.told (h:CmB w w8 O x p d rg lg r gw gv R T D S al vP ps vT ms) (hf:Fr w8 w9 (fun q=>vT.ownBlock=some q)) (hr:w9.ownsRow w.heap.size 40 7 v (ms.length+1) (mpL ms++(mpv m).toList)) (hv:v.ownBlock=vT.ownBlock∨∃k,v.ownBlock=some k∧w8.heap.size≤k):
 CmB w w9 (markO O w8.heap.size v.ownBlock (0,7)) x p d rg lg r gw gv R T D S al vP ps v (ms++[m])∧Wr (fun τ=>τ=(0,7)) w8 O w9 (markO O w8.heap.size v.ownBlock (0,7)):=by
 have h0:=h.pos
 have s:Wr (fun τ=>τ=(0,7)) w8 O w9 (markO O w8.heap.size v.ownBlock (0,7)):=⟨hf.imp fun q hq=>h.tt q hq,fun k hk=>markO_old hk⟩
 have n0:∀i,i≠7→¬(((0,i):Nat×Nat)=(0,7)):=fun i h7 e=>by injection e with e1 e2;omega
 have np:∀i,¬(((p,i):Nat×Nat)=(0,7)):=fun i e=>by injection e with e1 e2;omega
 refine⟨⟨CbB.fr h.box s.fr (fun e=>n0 8 (by decide) (by rw[←h.tx];exact e)),(markO_old h.box.lt).trans h.tx,h.pg.wr s np (n0 0 (by decide)),h.dv.wr s (n0 1 (by decide)),h.ri.wr s (n0 3 (by decide)) (n0 0 (by decide)),h.lo.wr s (n0 2 (by decide)),h.rs.wr s (n0 4 (by decide)),row_fr h.pr s.fr (fun k hk e=>n0 6 (by decide) (by rw[←h.pt k hk];exact e)),fun k hk=>(markO_old (row_ltD h.pr k hk)).trans (h.pt k hk),?_,fun k hk=>?_,s.below h.bl h.bl.size (fun k hk e=>n0 9 (by decide) (by rw[←h.ol k hk];exact e)),fun k hk=>(markO_old (Nat.lt_of_lt_of_le hk h.bl.size)).trans (h.ol k hk)⟩,s⟩
 · rw[List.length_append,mpL_app]
   exact hr
 · by_cases hlt:k<w8.heap.size
   · rcases hv with e | ⟨k',e1,e2⟩
     · rw[e] at hk
       exact (markO_old hlt).trans (h.tt k hk)
     · rw[e1] at hk
       injection hk with hk
       omega
   · rw[hk]
     exact markO_new (by omega)
end
def tagO (O:Tgm) (G:Nat) (τ:Nat×Nat):Tgm:=fun k=>if k=G then τ else O k
theorem tagO_ne {O:Tgm} {G k:Nat} {τ:Nat×Nat} (h:k≠G):tagO O G τ k=O k:=if_neg h
theorem tagO_at {O:Tgm} {G:Nat} {τ:Nat×Nat}:tagO O G τ G=τ:=if_pos rfl
section
variable {w:World} {O:Tgm} {p G a b c:Nat} {τ:Nat×Nat}
theorem cb_other {k:Nat} {T T':TypeId} {cs cs':Array Value} (hG:CbB w G T cs) (h:CbB w k T' cs') (hT:T'≠T):k≠G:=fun e=>by
 subst e
 unfold CbB at h hG
 rw[h] at hG
 injection hG with hG
 injection hG with _ hG
 exact hT hG
theorem map_other {k:Nat} {T:TypeId} {cs:Array Value} {l:List (Nat×Value)} (hG:CbB w G T cs) (h:MapB u32Vp u32Okp w k l):k≠G:=fun e=>by
 subst e
 obtain⟨es,c,h1,_⟩:=h
 unfold CbB at hG
 rw[h1] at hG
 cases hG
theorem isB_other {A:Option Addr} {n m:Nat} {l:List Nat} {x:Addr} (hG:CbB w G 34 #[.int .u32 (a:Int),.int .u64 (b:Int),.int .u16 (c:Int)]) (h:IsB w A n m l) (hn:0<n) (hx:A=some x):x.block≠G:=fun e=>by
 obtain⟨y,hy,_,hc⟩:=h.cell hn
 rw[hx] at hy
 injection hy with hy
 subst hy
 have h0:=hc 0 hn
 rw[addr_zero] at h0
 unfold CbB at hG
 unfold World.cell? at h0
 rw[e,hG] at h0
 simp only at h0
 split at h0
 · cases h0
 · match hx:x.off,h0 with
   | 0,h0=>simp at h0
   | 1,h0=>simp at h0
   | 2,h0=>simp at h0
   | k+3,h0=>simp at h0
theorem StB.retag {v:Value} {l:List Nat} (hG:CbB w G 34 #[.int .u32 (a:Int),.int .u64 (b:Int),.int .u16 (c:Int)]) (h:StB w O v l):StB w (tagO O G τ) v l:=by
 obtain⟨A,n,m,h1,h2,h3⟩:=h
 refine⟨A,n,m,h1,h2,fun hn x hx=>?_⟩
 obtain⟨k1,k2⟩:=h3 hn x hx
 exact⟨k1,(tagO_ne (isB_other hG h2 hn hx)).trans k2⟩
theorem MpT.retag {v:Value} {t:Nat×Nat} {l:List (Nat×Value)} {T:TypeId} {cs:Array Value} (hG:CbB w G T cs) (h:MpT w O v t l):MpT w (tagO O G τ) v t l:=by
 rcases h with h | ⟨a,h1,h2,h3⟩
 · exact .inl h
 · exact .inr ⟨a,h1,h2,(tagO_ne (map_other hG h2)).trans h3⟩
theorem PgM.retag {d rg lg:Nat} {T:PgP} (hG:CbB w G 34 #[.int .u32 (a:Int),.int .u64 (b:Int),.int .u16 (c:Int)]) (h:PgM w O p d rg lg T):PgM w (tagO O G τ) p d rg lg T:=by
 obtain⟨bk,h,e1,e2,e3⟩:=h
 obtain⟨vs,k1,k2⟩:=h.kn
 refine⟨bk,?_,e1,e2,e3⟩
 exact {
  box:=h.box
  pos:=h.pos
  tb:=(tagO_ne (cb_other hG h.box (by decide))).trans h.tb
  free:=h.free
  tf:=fun k hk=>(tagO_ne (fun e=>row_ne h.free hG (by decide) (by rw[hk,e]))).trans (h.tf k hk)
  kn:=⟨vs,k1,k2.imp fun v l t ⟨x,h1,h2,h3⟩=>⟨x,h1,h2.retag hG,h3⟩⟩
  tk:=(tagO_ne (map_other hG k1)).trans h.tk
  wa:=h.wa
  tw:=(tagO_ne (map_other hG h.wa)).trans h.tw
  pu:=h.pu.retag hG
  dr:=h.dr.retag hG
  pi:=h.pi
  ti:=(tagO_ne (map_other hG h.pi)).trans h.ti
  rgt:=h.rgt
  okr:=h.okr
  num:=h.num
  cmo:=h.cmo
  opn:=h.opn }
end
def StW (N:Nat) (O:Tgm) (p d rg lg r:Nat) (q:Nat×Nat×PgP×DvS×RsS) (u v:Value) (W:World):Prop:=v=u∧∃O',PgM W O' p d rg lg q.2.2.1∧DvM W O' d q.2.2.2.1∧RsM W O' r d q.2.2.2.2∧∀k,k<N→O' k=O k
theorem StW.ab {N p d rg lg r:Nat} {O:Tgm} {q:Nat×Nat×PgP×DvS×RsS} {u v:Value} {W W':World} (h:StW N O p d rg lg r q u v W) (hb:Below W.heap.size W W'):StW N O p d rg lg r q u v W':=by
 obtain⟨h1,O',h2,h3,h4,h5⟩:=h
 have s:=Wr.of (O:=O') (O':=O') hb (fun _=>False) (fun _ _=>rfl)
 exact⟨h1,O',h2.wr s (fun _=>id) id,h3.wr s id,h4.wr s id,h5⟩
theorem not_s9 {p i:Nat} (h0:0<p) (h1:i≠1) (h4:i≠4):¬(((0,i):Nat×Nat)=(0,1)∨((0,i):Nat×Nat)=(0,4)∨((0,i):Nat×Nat)=(p,1)):=fun e=>by
 rcases e with e | e | e <;> (injection e with e1 e2;omega)
def DpW (N:Nat) (O:Tgm) (p d rg lg:Nat) (T:PgP) (u v:Value) (W:World):Prop:=v=u∧∃O',PgM W O' p d rg lg T∧∀k,k<N→O' k=O k
theorem DpW.ab {N p d rg lg:Nat} {O:Tgm} {T:PgP} {u v:Value} {W W':World} (h:DpW N O p d rg lg T u v W) (hb:Below W.heap.size W W'):DpW N O p d rg lg T u v W':=by
 obtain⟨h1,O',h2,h3⟩:=h
 exact⟨h1,O',h2.wr (Wr.of hb (fun _=>False) (fun _ _=>rfl)) (fun _=>id) id,h3⟩
theorem not_p9 {p i:Nat} (h0:0<p):¬(((0,i):Nat×Nat).1=p):=fun e=>by
 have e':(0:Nat)=p:=e
 omega
theorem CmB.alloc {w wr w':World} {O O':Tgm} {x p d rg lg r gw gv:Nat} {R:RgL} {T:PgP} {D:DvS} {S:RsS} {al:List Sl} {vP vT:Value} {ps:List (Nat×Nat×Nat)} {ms:List Mp} (h:CmB w wr O x p d rg lg r gw gv R T D S al vP ps vT ms) (hb:Below wr.heap.size wr w') (hO:∀k,k<wr.heap.size→O' k=O k):CmB w w' O' x p d rg lg r gw gv R T D S al vP ps vT ms:=
 have s:=Wr.of (O:=O) (O':=O') hb (fun _=>False) hO
 h.step s (fun _ _=>id) (h.pg.wr s (fun _=>id) id) (h.dv.wr s id) (h.ri.wr s id id) (h.lo.wr s id) (h.rs.wr s id)
end Go.Proofs.YtlobgddnlnffbaaGreat
