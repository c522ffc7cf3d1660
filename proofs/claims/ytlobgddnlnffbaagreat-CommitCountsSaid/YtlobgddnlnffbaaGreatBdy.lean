/-
  Parts of the proof, joined.
-/
import Derived.Test.YtlobgddnlnffbaaGreatBdp
import Derived.Test.YtlobgddnlnffbaaGreatBdx
import Derived.Test.YtlobgddnlnffbaaGreatBds
import Derived.Test.YtlobgddnlnffbaaGreatBdl
namespace Go.Proofs.YtlobgddnlnffbaaGreat
set_option maxHeartbeats 16000000
open Go.RowKit
set_option linter.unusedVariables false
set_option linter.unusedSimpArgs false
def blankF:List Nat→DvS→Nat×DvS
 | [],D=>(0,D)
 | n::l,D=>if (writeD D n (zeros 256)).1=0 then blankF l (writeD D n (zeros 256)).2 else writeD D n (zeros 256)
theorem blankF_cons {n:Nat} {l:List Nat} {D:DvS} (h:(writeD D n (zeros 256)).1=0):blankF (n::l) D=blankF l (writeD D n (zeros 256)).2:=by
 conv=>lhs;unfold blankF
 rw[if_pos h]
def blankP (l:List Nat) (D:DvS):Nat×DvS:=if (blankF l D).1=0 then (if l.length=0 then (0,(blankF l D).2) else syncD (blankF l D).2) else blankF l D
def WrW (N:Nat) (O:Tgm) (d:Nat) (q:Nat×DvS) (v:Value) (W:World):Prop:=v = .int .i64 (q.1:Int)∧∃O',DvM W O' d q.2∧∀k,k<N→O' k=O k
theorem WrW.ab {N d:Nat} {O:Tgm} {q:Nat×DvS} {v:Value} {W W':World} (h:WrW N O d q v W) (hb:Below W.heap.size W W'):WrW N O d q v W':=by
 obtain⟨h1,O',h2,h3⟩:=h
 exact⟨h1,O',h2.wr (Wr.of hb (fun _=>False) (fun _ _=>rfl)) id,h3⟩
theorem Fr.none {w w':World} {F:Nat→Prop} (h:Fr w w' F) (hn:∀k,¬F k):Below w.heap.size w w':=⟨h.os,h.tape,h.output,h.size,fun k hk=>h.block k hk (hn k)⟩
structure BlI (w:World) (O:Tgm) (p d rg lg:Nat) (T:PgP) (D:DvS) (v:Value) (B:Nat) (L:List Nat) (i:Nat) (wx:World) (O1:Tgm) (D1:DvS):Prop where
 pg:PgM wx O1 p d rg lg T
 dv:DvM wx O1 d D1
 wr:Wr (fun τ=>τ=(0,1)) w O wx O1
 ns:U32.NsB wx B v L
 nt:∀k,v.ownBlock=some k→O1 k=(0,0)
 ok:D1.Ok
 n:D1.n=D.n
 st:D1.st≤D.st+i
 ws:D1.ws.length≤D.ws.length+i
 eq:blankF L D=blankF (L.drop i) D1
theorem yields_make9 {o:Oper} {a:Act} {W w0:World} (n:Nat) (hn:n≤281474976710656) (ho:o.op = .makeSlice 41 (.const (.int .i64 (n:Int))) (.const (.int .i64 (n:Int)))) (hb:w0.heap.size≤W.heap.size):Yields Tryz.prog o a W false (MadeR w0 n):=by
 refine .inl ⟨.slice (some ⟨W.heap.size,0,none⟩) n n,W.alloc (.cells (bts (zeros n)) 5),?_,⟨W.heap.size,rfl,isB_whole (Bk.newAt _ (zeros n) rfl) (byt_zeros n) (zeros_len n) (by omega),hb⟩,(Below.refl _ _).alloc (Nat.le_refl _) _,fresh_no _ _ _⟩
 have:=make_u8 n n (Nat.le_refl _) hn W
 unfold execOp
 simp only[ho,Act.eval,this,Sem.run_bind,Result.andThen_ok,Sem.run_pure]
section
variable {w wx wy:World} {O O1 O2:Tgm} {p d rg lg i B:Nat} {T:PgP} {D D1:DvS} {v:Value} {L:List Nat}
theorem byt_zero:Byt (zeros 256):=byt_zeros 256
theorem BlI.step (h:BlI w O p d rg lg T D v B L i wx O1 D1) {n:Nat} (hn:L[i]? = some n) (hi:n<D.n) (s:Wr (fun τ=>τ=(0,1)) wx O1 wy O2) (dv:DvM wy O2 d (writeD D1 n (zeros 256)).2):
 ((writeD D1 n (zeros 256)).1=0→BlI w O p d rg lg T D v B L (i+1) wy O2 (writeD D1 n (zeros 256)).2)∧((writeD D1 n (zeros 256)).1≠0→blankF L D=writeD D1 n (zeros 256)):=by
 obtain⟨b,hN,_⟩:=h.pg
 have hp:=hN.pos
 obtain⟨t1,t2,t3⟩:=writeD_st D1 n (zeros 256)
 refine⟨fun h0=>?_,fun h0=>?_⟩
 · exact { pg:=h.pg.wr s (fun i e=>by injection e with e;omega) (fun e=>by cases e),dv:=dv,wr:=h.wr.tr s,ns:=row_fr h.ns s.fr (fun k hk e=>by rw[h.nt k hk] at e;cases e),nt:=fun k hk=>(s.tg k (h.ns.lt hk)).trans (h.nt k hk),ok:=writeD_ok h.ok (by rw[h.n];exact hi) (zeros_len 256) byt_zero,n:=t2.trans h.n,st:=by have:=h.st;omega,ws:=by have:=h.ws;omega,eq:=by rw[h.eq,drop_cons9 hn,blankF_cons h0] }
 · rw[h.eq,drop_cons9 hn]
   unfold blankF
   rw[if_neg h0]
end
set_option maxRecDepth 100000 in
theorem blank_any {w:World} {O:Tgm} {p d rg lg B:Nat} {T:PgP} {D:DvS} {v:Value} {L:List Nat} (h:PgM w O p d rg lg T) (hD:DvM w O d D) (okD:D.Ok) (hst:D.st≤900000000) (hws:D.ws.length≤90000) (hv:U32.NsB w B v L) (hvt:∀k,v.ownBlock=some k→O k=(0,0)) (hL:L.length≤12) (hin:∀n∈L,n<D.n):
 Calls Tryz.prog 134 #[.pointer (some ⟨p,0,none⟩),v] w fun e w'=>e = .returned (.int .i64 ((blankP L D).1:Int))∧∃O',DvM w' O' d (blankP L D).2∧Wr (fun τ=>τ=(0,1)) w O w' O':=by
 have I0:Hid (BlI w O p d rg lg T D v B L 0 w O D):=Lib.hid ⟨h,hD,Wr.refl _ _ _,hv,hvt,okD,rfl,Nat.le_refl _,Nat.le_refl _,rfl⟩
 have BD:=Lib.hid (And.intro hst hws)
 have LI:=Lib.hid hin
 have NB:=Lib.hid hL
 obtain⟨A,c,rfl,_⟩:=hv.form
 obtain⟨nl,hnl⟩:∃nl,L.length=nl:=⟨_,rfl⟩
 rw[hnl] at I0 NB⊢
 have NL:=Lib.hid hnl
 clear h hD okD hst hws hv hvt hL hin hnl
 have nlb:(nl:Int)≤12:=by have:=NB.out;omega
 obtain⟨q9,hq9⟩:∃q9,blankP L D=q9:=⟨_,rfl⟩
 rw[hq9]
 have HQ:=Lib.hid hq9
 clear hq9
 go_enter Tryz.func134,Tryz.ntmps134
 go_wp2_with fail
 go_loopw [10] (fun z wx=>∃(i:Nat) (O1:Tgm) (D1:DvS),i≤nl∧z = .int .i64 (i:Int)∧BlI w O p d rg lg T D (.slice A nl c) B L i wx O1 D1) (fun z _=>nl-(intOf z).toNat)
 case atStart=>exact⟨0,_,_,Nat.zero_le _,rfl,I0.out⟩
 case round=>
  obtain⟨i,O1,D1,hi,rfl,hI⟩:=hrel
  have I1:=Lib.hid hI
  clear hI I0
  have hi0:(0:Int)≤(i:Int):=by omega
  by_cases hlt:i<nl
  · have hlti:(i:Int)<(nl:Int):=by omega
    obtain⟨n,hn⟩:∃n,L[i]? = some n:=⟨_,List.getElem?_eq_getElem (by rw[NL.out];exact hlt)⟩
    have hnd:=LI.out n (List.mem_of_getElem? hn)
    obtain⟨A',c',he,hcc⟩:=I1.out.ns.form
    injection he with he1 he2 he3
    subst he1 he3
    clear he2
    obtain⟨ga,rfl,hcell⟩:=hcc i (by rw[NL.out];exact hlt)
    rw[show L[i]'(by rw[NL.out];exact hlt)=n from by have:=(List.getElem?_eq_some_iff.1 hn).2;exact this] at hcell
    have hnw:IntKind.i64.wrap (n:Int)=(n:Int):=wrap_i64P (by omega) (by have:=I1.out.ok.n4;have:=I1.out.n;omega)
    have HN:=Lib.hid hn
    have ND:=Lib.hid hnd
    have HLT:=Lib.hid hlt
    clear hn hnd hcc hi hlt
    go_upto_region 4 with (fail)
    clear hcell
    have CP:Hid (∀W (F:Nat→Prop),Fr wr W F→(∀q,F q→q<wr.heap.size∧O1 q=(0,1))→W.cell? ⟨p,0,none⟩=some (.pointer (some ⟨d,0,none⟩))):=Lib.hid fun W F hW hF=>by
     obtain⟨b2,h2,rfl,_,_⟩:=I1.out.pg
     have hp:=h2.pos
     exact (CbB.fr h2.box hW (fun e=>by have:=(hF _ e).2;rw[h2.tb] at this;injection this with this;omega)).cell (k:=0) rfl
    have WM:Hid (∀W (g:Nat),Below wr.heap.size wr W→IsB W (some ⟨g,0,none⟩) 256 256 (zeros 256)→wr.heap.size≤g→Calls Tryz.prog 112 #[.pointer (some ⟨d,0,none⟩),.int .i64 (n:Int),.slice (some ⟨g,0,none⟩) 256 256] W fun e W1=>e = .returned (.int .i64 ((writeD D1 n (zeros 256)).1:Int))∧WrW wr.heap.size O1 d (writeD D1 n (zeros 256)) (.int .i64 ((writeD D1 n (zeros 256)).1:Int)) W1∧Fr W W1 (fun q=>q<wr.heap.size∧O1 q=(0,1))):=Lib.hid fun W g hW hib hg=>by
     refine (writeM (O:=cutO O1 wr.heap.size) (I1.out.dv.wr (Wr.cut hW (fun _=>False)) id) I1.out.ok (by have:=I1.out.st;have:=BD.out;have:=HLT.out;have:=NB.out;omega) (by have:=I1.out.ws;have:=BD.out;have:=HLT.out;have:=NB.out;omega) (by rw[I1.out.n];exact ND.out) hib (fun x hx e=>by injection hx with hx;subst hx;rw[cutO_at hg] at e;cases e)).mono ?_
     rintro e W1 ⟨O',rfl,h1,h2⟩
     refine⟨rfl,⟨rfl,O',h1,fun k hk=>(h2.tg k (Nat.lt_of_lt_of_le hk hW.size)).trans (cutO_old hk)⟩,h2.fr.imp fun q hq=>?_⟩
     by_cases hlt:q<wr.heap.size
     · rw[cutO_old hlt] at hq;exact⟨hlt,hq⟩
     · rw[cutO_at (by omega)] at hq;cases hq
    refine wp_wide5 (fun i q=>i=7∧q<wr.heap.size∧O1 q=(0,1)) [⟨14,IsR (.pointer (some ⟨p,0,none⟩)),[],false⟩,⟨15,IsR (.pointer (some ⟨p,0,none⟩)),[0],false⟩,⟨16,IsR (.pointer (some ⟨p,0,none⟩)),[1],false⟩,⟨17,IsR (.pointer (some ⟨d,0,none⟩)),[2],false⟩,⟨18,IsR (.int .u32 (n:Int)),[],false⟩,⟨19,IsR (.int .i64 (n:Int)),[4],false⟩,⟨20,MadeR wr 256,[],false⟩,⟨21,WrW wr.heap.size O1 d (writeD D1 n (zeros 256)),[3,5,6],false⟩] (by kernel_rfl) (by kernel_rfl) rfl rfl rfl ⟨?_,?_,?_,?_,?_,?_,?_,?_,trivial⟩ ?_
    · refine⟨rfl,IsR.monoF _ _,fun a W hA hb hd=>Takes.to5 (takes_plain rfl (yields_value _ ?_ rfl)) _⟩
      have h0:a.tmps[0]?.getD undef = .pointer (some ⟨p,0,none⟩):=(eval_get a 0).trans ((hA.eval (by simp)).trans rfl)
      go_simp
    · refine⟨rfl,IsR.monoF _ _,fun a W hA hb hd=>Takes.to5 (takes_plain rfl (yields_value _ ?_ rfl)) _⟩
      have h14:a.tmps[14]?.getD undef = .pointer (some ⟨p,0,none⟩):=(eval_get a 14).trans (hd 0 (by simp) _ rfl)
      go_simp
    · refine⟨rfl,IsR.monoF _ _,fun a W hA hb hd=>Takes.to5 (takes_plain rfl (yields_value _ ?_ rfl)) _⟩
      have h15:a.tmps[15]?.getD undef = .pointer (some ⟨p,0,none⟩):=(eval_get a 15).trans (hd 1 (by simp) _ rfl)
      go_simp
    · refine⟨rfl,IsR.monoF _ _,fun a W hA hb hd=>Takes.to5 (takes_plain rfl (yields_value _ ?_ rfl)) _⟩
      have h16:a.tmps[16]?.getD undef = .pointer (some ⟨p,0,none⟩):=(eval_get a 16).trans (hd 2 (by simp) _ rfl)
      have hc:=CP.out W _ hb (fun q ⟨j,_,hj⟩=>hj.2)
      go_simp
    · refine⟨rfl,IsR.monoF _ _,fun a W hA hb hd=>Takes.to5 (takes_plain rfl (yields_value _ ?_ rfl)) _⟩
      have h6:a.tmps[6]?.getD undef = .int .u32 (n:Int):=(eval_get a 6).trans ((hA.eval (by simp)).trans rfl)
      go_simp
    · refine⟨rfl,IsR.monoF _ _,fun a W hA hb hd=>Takes.to5 (takes_plain rfl (yields_value _ ?_ rfl)) _⟩
      have h18:a.tmps[18]?.getD undef = .int .u32 (n:Int):=(eval_get a 18).trans (hd 4 (by simp) _ rfl)
      have hw:=hnw
      go_simp
    · refine⟨rfl,fun v W W1 ⟨g,h1,h2,h3⟩ hf=>⟨g,h1,h2.fr hf (fun x hx ⟨j,_,_,hj,_⟩=>by injection hx with hx;subst hx;simp only at *;omega),h3⟩,fun a W hA hb hd=>takes5_plain rfl ?_⟩
      exact Yields.to5 (yields_make9 256 (by decide) rfl hb.size) _
    · refine⟨rfl,fun v W W1 h hf=>WrW.ab h (hf.none fun q ⟨j,hj,hj2,_⟩=>hj hj2),fun a W hA hb hd=>takes5_plain rfl ?_⟩
      have h17:a.tmps[17]?.getD undef = .pointer (some ⟨d,0,none⟩):=(eval_get a 17).trans (hd 3 (by simp) _ rfl)
      have h19:a.tmps[19]?.getD undef = .int .i64 (n:Int):=(eval_get a 19).trans (hd 5 (by simp) _ rfl)
      obtain⟨g,hg,hib,hge⟩:=hd 6 (by simp) _ rfl
      have h20:a.tmps[20]?.getD undef = .slice (some ⟨g,0,none⟩) 256 256:=(eval_get a 20).trans hg
      refine .inr ⟨112,#[.pointer (some ⟨d,0,none⟩),.int .i64 (n:Int),.slice (some ⟨g,0,none⟩) 256 256],by go_simp,(WM.out W g (hb.none fun q ⟨j,hj,hj2,_⟩=>hj hj2) hib hge).mono ?_⟩
      rintro e W1 ⟨rfl,h1,h2⟩
      exact⟨_,rfl,h1,h2.imp fun q hq=>⟨rfl,hq⟩⟩
    intro vs w2 hR hb
    have e14:vs 14 = .pointer (some ⟨p,0,none⟩):=hR 0 _ rfl
    have e15:vs 15 = .pointer (some ⟨p,0,none⟩):=hR 1 _ rfl
    have e16:vs 16 = .pointer (some ⟨p,0,none⟩):=hR 2 _ rfl
    have e17:vs 17 = .pointer (some ⟨d,0,none⟩):=hR 3 _ rfl
    have e18:vs 18 = .int .u32 (n:Int):=hR 4 _ rfl
    have e19:vs 19 = .int .i64 (n:Int):=hR 5 _ rfl
    simp only[List.map_cons,List.map_nil,List.foldl_cons,List.foldl_nil,List.length_cons,List.length_nil,List.drop_succ_cons,List.drop_zero,Act.put,List.setIfInBounds_toArray,List.set_cons_zero,List.set_cons_succ,e14,e15,e16,e17,e18,e19]
    generalize vs 20=q20 at *
    obtain⟨e21,O2,hdv,htg⟩:WrW wr.heap.size O1 d (writeD D1 n (zeros 256)) (vs 21) w2:=hR 7 _ rfl
    rw[e21]
    have W2:Hid (Wr (fun τ=>τ=(0,1)) wr O1 w2 O2):=Lib.hid (Wr.mk' hb (fun q ⟨j,_,hj⟩=>hj.2) htg)
    have ST:=Lib.hid (I1.out.step HN.out ND.out W2.out hdv)
    have DV:=Lib.hid hdv
    clear hR hb hdv htg e21 e14 e15 e16 e17 e18 e19
    generalize vs 21=q21 at *
    cases he:(writeD D1 n (zeros 256)).1 with
    | zero=>
      have J:=Lib.hid (ST.out.1 he)
      clear ST he
      go_wp2_with fail
      go_roundw
      case rel=>exact⟨i+1,O2,_,HLT.out,by go_num,J.out⟩
      case measure=>simp[intOf];have:=HLT.out;omega
    | succ e=>
      have hne:¬((e+1:Nat):Int)=0:=by omega
      have hne2:(((e+1:Nat):Int)==0)=false:=by simp;omega
      have J:=Lib.hid (ST.out.2 (by omega))
      have HE:=Lib.hid he
      clear ST he
      go_wp2_with fail
      go_ret
      have hq:q9=writeD D1 n (zeros 256):=by
       rw[←HQ.out]
       unfold blankP
       rw[J.out,if_neg (by rw[HE.out];omega)]
      rw[hq,HE.out]
      exact⟨rfl,O2,DV.out,I1.out.wr.tr W2.out⟩
  · obtain rfl:i=nl:=by omega
    clear hlt hi
    have hF:blankF L D=(0,D1):=by
     rw[I1.out.eq,List.drop_of_length_le (by rw[NL.out];exact Nat.le_refl _)]
     rfl
    have HF:=Lib.hid hF
    clear hF
    by_cases hz:i=0
    · have hzi:(i:Int)=0:=by omega
      have hq:q9=(0,D1):=by
       rw[←HQ.out]
       unfold blankP
       rw[HF.out,if_pos rfl,if_pos (by rw[NL.out];exact hz)]
      have HQ2:=Lib.hid hq
      clear hq
      go_wp2_with fail
      go_ret
      rw[HQ2.out]
      exact⟨rfl,O1,I1.out.dv,I1.out.wr⟩
    · have hzi:¬(i:Int)=0:=by omega
      have hzi2:((i:Int)==0)=false:=by simp;omega
      have hq:q9=syncD D1:=by
       rw[←HQ.out]
       unfold blankP
       rw[HF.out,if_pos rfl,if_neg (by rw[NL.out];exact hz)]
      have HQ2:=Lib.hid hq
      have HS:=Lib.hid (syncM I1.out.dv I1.out.ok (by have:=I1.out.st;have:=BD.out;have:=NB.out;omega))
      have c0:wr.cell? ⟨p,0,none⟩=some (.pointer (some ⟨d,0,none⟩)):=by
       obtain⟨b2,h2,rfl,_,_⟩:=I1.out.pg
       exact CbB.cell h2.box (k:=0) rfl
      clear hq hz
      go_wp2_with fail
      refine HS.out.mono ?_
      rintro e w3 ⟨O3,rfl,h3,h4⟩
      have H3:=Lib.hid (And.intro h3 h4)
      clear h3 h4
      go_wp2_with fail
      go_ret
      rw[HQ2.out]
      exact⟨rfl,O3,H3.out.1,I1.out.wr.tr H3.out.2⟩
def PinOk (l:List (Nat×Value)):Prop:=∀x∈l,∃k:Int,x.2 = .int .i64 k
def pinI (l:List (Nat×Value)) (n:Nat):Int:=match lookL n l with
 | some (.int .i64 k)=>k
 | _=>0
theorem zero_i9 (w:World):(zeroValue 3).run Tryz.prog w = .ok (.int .i64 0) w:=by kernel_rfl
theorem pin_look {w:World} {m n:Nat} {l:List (Nat×Value)} (h:MapB u32Vp u32Okp w m l) (hp:PinOk l) (hn:u32Okp n):(Instr.lookup 135 (.map (some m)) (.int .u32 (n:Int)) false).run Tryz.prog w = .ok (.int .i64 (pinI l n)) w:=by
 cases hl:lookL n l with
 | none=>
   have h1:=h.look_none u32p_K Tryz.underlying135 hn hl (zero_i9 w) false
   have h2:pinI l n=0:=by unfold pinI;rw[hl]
   rw[h2]
   exact h1
 | some v=>
   obtain⟨k,hk⟩:=hp _ (lookL_mem hl)
   simp only at hk
   subst hk
   have h1:=h.look_some u32p_K Tryz.underlying135 hn hl false
   have h2:pinI l n=k:=by unfold pinI;rw[hl]
   rw[h2]
   exact h1
def goneP (T:PgP):List Nat:=(U32.srt (T.wa.map (·.1))).filter fun n=>decide (pinI T.pi n=0)
def scrubF:List Nat→PgP→PgP
 | [],T=>T
 | n::l,T=>scrubF l (relT { T with wa:=dropL n T.wa } n)
def scrubP (T:PgP) (D:DvS):Nat×PgP×DvS:=if (blankP (goneP T) D).1=0 then (0,{ scrubF (goneP T) T with cm:=0 },(blankP (goneP T) D).2) else ((blankP (goneP T) D).1,{ T with fa:=true },(blankP (goneP T) D).2)
theorem blankF_err:∀(l:List Nat) (D:DvS),(blankF l D).1≤1000
 | [],D=>Nat.zero_le _
 | n::l,D=>by
   unfold blankF
   split
   · exact blankF_err l _
   · exact writeD_err D n _
theorem blankP_err (l:List Nat) (D:DvS):(blankP l D).1≤1000:=by
 unfold blankP
 split
 · split
   · exact Nat.zero_le _
   · exact syncD_err _
 · exact blankF_err l D
theorem take_filter {L:List Nat} {i n:Nat} (f:Nat→Bool) (h:L[i]? = some n):(L.take (i+1)).filter f=(L.take i).filter f++(if f n then [n] else []):=by
 rw[List.take_add_one,h,List.filter_append]
 simp only[Option.toList_some]
 cases hf:f n <;> simp[hf]
set_option maxRecDepth 100000 in
theorem scrub_any {w:World} {O:Tgm} {p d rg lg:Nat} {T:PgP} {D:DvS} (h:PgM w O p d rg lg T) (hD:DvM w O d D) (okD:D.Ok) (hst:D.st≤900000000) (hws:D.ws.length≤90000) (hf:T.fa=false) (ho:T.cm=0∨T.fl=true) (hwa:∀x∈T.wa,1<x.1∧x.1<D.n) (hwn:T.wa.length≤12) (hpi:PinOk T.pi):
 Calls Tryz.prog 78 #[.pointer (some ⟨p,0,none⟩)] w fun e w'=>e = .returned (.int .i64 ((scrubP T D).1:Int))∧∃O',PgM w' O' p d rg lg (scrubP T D).2.1∧DvM w' O' d (scrubP T D).2.2∧Wr (fun τ=>τ=(0,1)∨τ.1=p) w O w' O':=by
 have HF:=Lib.hid hf
 have H0:=Lib.hid h
 have HD0:=Lib.hid hD
 obtain⟨b,hN,rfl,rfl,rfl⟩:=h
 have HM:=Lib.hid (may_any hN.box)
 rw[show mayP (pcS b T)=0 from by unfold mayP pcS;rw[hf];rfl] at HM
 have HO:=Lib.hid (open_any hN.box)
 rw[show openB (pcS b T)=false from by unfold openB pcS;rcases ho with e | e <;> simp[e]] at HO
 have c5:w.cell? ⟨p,5,none⟩=some (.map (some b.mw)):=CbB.cell hN.box (k:=5) rfl
 have RI:=Lib.hid (rising_any b.mw T.wa w hN.wa (by omega))
 have HN:=Lib.hid hN
 obtain⟨L,hL⟩:∃L,U32.srt (T.wa.map (·.1))=L:=⟨_,rfl⟩
 have HL:Hid (L.length≤12∧∀n∈L,1<n∧n<D.n∧n<4096):=Lib.hid ⟨by rw[←hL,U32.srt_len,List.length_map];exact hwn,fun n hn=>by
  rw[←hL,U32.srt_mem,List.mem_map] at hn
  obtain⟨x,h1,rfl⟩:=hn
  have:=hwa x h1
  have:=okD.n4
  omega⟩
 obtain⟨G,hG⟩:∃G,L.filter (fun n=>decide (pinI T.pi n=0))=G:=⟨_,rfl⟩
 have hGT:goneP T=G:=by unfold goneP;rw[hL];exact hG
 have SQ:Hid (scrubP T D=(if (blankP G D).1=0 then (0,{ scrubF G T with cm:=0 },(blankP G D).2) else ((blankP G D).1,{ T with fa:=true },(blankP G D).2))):=Lib.hid (by unfold scrubP;rw[hGT])
 have GL:Hid (G.length≤12∧∀n∈G,1<n∧n<D.n∧n<4096):=Lib.hid ⟨by rw[←hG];exact Nat.le_trans (List.length_filter_le _ _) HL.out.1,fun n hn=>HL.out.2 n (by rw[←hG] at hn;exact (List.mem_filter.1 hn).1)⟩
 have HG:=Lib.hid hG
 have PK:=Lib.hid hpi
 have OKD:=Lib.hid (And.intro okD (And.intro hst hws))
 rw[hL] at RI
 obtain⟨q9,hq9⟩:∃q9,scrubP T D=q9:=⟨_,rfl⟩
 rw[hq9] at SQ⊢
 obtain⟨nl,hnl⟩:∃nl,L.length=nl:=⟨_,rfl⟩
 have NL:=Lib.hid hnl
 have NB:Hid (nl≤12):=Lib.hid (by rw[←hnl];exact HL.out.1)
 clear hf ho hN hL hG hGT hpi okD hst hws hq9 hwa hwn hD
 go_enter Tryz.func78,Tryz.ntmps78
 go_wp2_with fail
 refine HM.out.mono ?_
 rintro e w1 ⟨rfl,rfl⟩
 go_wp2_with fail
 refine HO.out.mono ?_
 rintro e w1 ⟨rfl,rfl⟩
 go_wp2_with fail
 refine RI.out.mono ?_
 rintro e w2 ⟨v,rfl,hv,hb⟩
 obtain⟨A2,c2,rfl,_⟩:=hv.form
 rw[hnl] at hv⊢
 have n2:=HN.out.wr (Wr.cut (O:=O) hb (fun _=>False)) (fun _=>id) id
 have d2:=HD0.out.wr (Wr.cut (O:=O) hb (fun _=>False)) id
 have t2:Wr (fun τ=>τ=(0,1)∨τ.1=p) w O w2 (cutO O w.heap.size):=Wr.cut hb _
 obtain⟨O2,hO2⟩:∃O2,cutO O w.heap.size=O2:=⟨_,rfl⟩
 rw[hO2] at n2 d2 t2
 have N2:=Lib.hid n2
 have D2:=Lib.hid d2
 have T2:=Lib.hid t2
 have V2:=Lib.hid hv
 have VC:Hid (∀W,Below w2.heap.size w2 W→∀(i n:Nat),L[i]? = some n→∃g,A2=some ⟨g,0,none⟩∧W.cell? ⟨g,i,none⟩=some (.int .u32 (n:Int))):=Lib.hid fun W hW i n hi=>by
  obtain⟨A',c',he,hcc⟩:=(U32.NsB.ab hv hW).form
  injection he with he1 he2 he3
  subst he1
  have hil:=(List.getElem?_eq_some_iff.1 hi).1
  obtain⟨g,hg,hc⟩:=hcc i hil
  rw[show L[i]=n from (List.getElem?_eq_some_iff.1 hi).2] at hc
  exact⟨g,hg,hc⟩
 clear hv hb n2 d2 t2 hO2 HM HO RI c5 hnl
 have nlb:(nl:Int)≤12:=by have:=NB.out;omega
 go_wp2_with fail
 go_loopw [4,23] (fun z1 z2 wx=>∃(i:Nat),i≤nl∧z2 = .int .i64 (i:Int)∧U32.NsB wx w2.heap.size z1 ((L.take i).filter fun n=>decide (pinI T.pi n=0))∧Below w2.heap.size w2 wx) (fun _ z _=>nl-(intOf z).toNat)
 case atStart=>exact⟨0,Nat.zero_le _,rfl,U32.NsB.nil _ _,Below.refl _ _⟩
 case round =>
  obtain⟨i,hi,rfl,hg,hb⟩:=hrel
  have GB:=Lib.hid hg
  have BB:=Lib.hid hb
  have nr:=N2.out.wr (Wr.cut (O:=O2) hb (fun _=>False)) (fun _=>id) id
  obtain⟨v4,hv4⟩:∃v4,u4=v4:=⟨_,rfl⟩
  rw[hv4] at GB⊢
  clear hg hv4
  have hi0:(0:Int)≤(i:Int):=by omega
  by_cases hlt:i<nl
  · have hlti:(i:Int)<(nl:Int):=by omega
    obtain⟨n,hn⟩:∃n,L[i]? = some n:=⟨_,List.getElem?_eq_getElem (by rw[NL.out];exact hlt)⟩
    obtain⟨ga,rfl,hcell⟩:=VC.out wr hb i n hn
    have OK:Hid (u32Okp n):=Lib.hid (by have:=(HL.out.2 n (List.mem_of_getElem? hn)).2.2;unfold u32Okp;omega)
    have c8:wr.cell? ⟨p,8,none⟩=some (.map (some b.mi)):=CbB.cell nr.box (k:=8) rfl
    have hlk:=pin_look nr.pi PK.out OK.out
    have TF:=Lib.hid (take_filter (fun n=>decide (pinI T.pi n=0)) hn)
    have HLT:=Lib.hid hlt
    have GLN:Hid (((L.take i).filter fun n=>decide (pinI T.pi n=0)).length≤100000):=Lib.hid (by
     have h1:=List.length_filter_le (fun n=>decide (pinI T.pi n=0)) (L.take i)
     have h2:(L.take i).length≤L.length:=by rw[List.length_take];omega
     have h3:=HL.out.1
     omega)
    by_cases hz:pinI T.pi n=0
    · rw[hz] at hlk
      rw[if_pos (decide_eq_true hz)] at TF
      have AB:Hid (Below wr.heap.size wr (wr.alloc (.cells #[.int .u32 (n:Int)] 31))):=Lib.hid ((Below.refl _ _).alloc (Nat.le_refl _) _)
      have GC:Hid (CbB (wr.alloc (.cells #[.int .u32 (n:Int)] 31)) wr.heap.size 31 #[.int .u32 (n:Int)]):=Lib.hid (CbB.new _ _ _)
      clear hn hb nr hi hlt hz
      go_wp2_with (first
       | (refine U32.wpList_appN rfl (.tmp 34) (.tmp 36) rfl (B:=w2.heap.size) (GB.out.ab AB.out) rfl n rfl GC.out GLN.out (by have:=BB.out.size;simp;omega) ?_
          intro v5 w5 h5 g5
          have N5:=Lib.hid h5
          have B5:=Lib.hid (U32.below_grownO (below_tr BB.out AB.out BB.out.size) g5 (own_ge9 GB.out) (Nat.le_trans BB.out.size AB.out.size))
          clear h5 g5))
      go_roundw
      case rel=>exact⟨i+1,HLT.out,by go_num,by rw[TF.out];exact N5.out,B5.out⟩
      case measure=>simp[intOf];have:=HLT.out;omega
    · have hz2:(pinI T.pi n==0)=false:=by simp;exact hz
      rw[if_neg (by simpa using hz),List.append_nil] at TF
      clear hn hb nr hi hlt
      generalize pinI T.pi n=pn at hlk hz hz2
      go_wp2_with fail
      go_roundw
      case rel=>exact⟨i+1,HLT.out,by go_num,by rw[TF.out];exact GB.out,BB.out⟩
      case measure=>simp[intOf];have:=HLT.out;omega
  · obtain rfl : i=nl:=by omega
    have GE:Hid ((L.take i).filter (fun n=>decide (pinI T.pi n=0))=G):=Lib.hid (by rw[List.take_of_length_le (by rw[NL.out];exact Nat.le_refl _)];exact HG.out)
    rw[GE.out] at GB
    have dr:=D2.out.wr (Wr.cut (O:=O2) hb (fun _=>False)) id
    have tr:=T2.out.tr (Wr.cut (O:=O2) hb (fun τ=>τ=(0,1)∨τ.1=p))
    have tv:∀k,v4.ownBlock=some k→cutO O2 w2.heap.size k=(0,0):=fun k hk=>cutO_at (own_ge9 GB.out k hk)
    obtain⟨O3,hO3⟩:∃O3,cutO O2 w2.heap.size=O3:=⟨_,rfl⟩
    rw[hO3] at nr dr tr tv
    have pr:PgM wr O3 p b.d b.rg b.lg T:=⟨b,nr,rfl,rfl,rfl⟩
    have HB:=Lib.hid (blank_any (lg:=b.lg) (rg:=b.rg) pr dr OKD.out.1 OKD.out.2.1 OKD.out.2.2 GB.out tv GL.out.1 (fun n hn=>(GL.out.2 n hn).2.1))
    have P3:=Lib.hid pr
    have T3:=Lib.hid tr
    have TV:=Lib.hid tv
    obtain⟨A4,c4,hv4,_⟩:=GB.out.form
    obtain⟨ng,hng⟩:∃ng,G.length=ng:=⟨_,rfl⟩
    rw[hng] at hv4
    subst hv4
    have NG:=Lib.hid hng
    have GBn:Hid (ng≤12):=Lib.hid (by rw[←hng];exact GL.out.1)
    clear nr dr tr tv hb hO3 pr hlt hi VC V2 N2 D2 T2 HN H0 HD0 hng
    have ngb:(ng:Int)≤12:=by have:=GBn.out;omega
    go_wp2_with fail
    refine HB.out.mono ?_
    rintro e w4 ⟨rfl,O4,hd4,hw4⟩
    have hp0:0<p:=by obtain⟨b3,h3,_⟩:=P3.out;exact h3.pos
    have p4:=P3.out.wr hw4 (fun i e=>by injection e with e;omega) (fun e=>by cases e)
    have v4:U32.NsB w4 w2.heap.size (.slice A4 ng c4) G:=row_fr GB.out hw4.fr (fun k hk e=>by rw[TV.out k hk] at e;cases e)
    have tv4:∀k,(Value.slice A4 ng c4).ownBlock=some k→O4 k=(0,0):=fun k hk=>(hw4.tg k (GB.out.lt hk)).trans (TV.out k hk)
    have P4:=Lib.hid p4
    have D4:=Lib.hid hd4
    have V4:=Lib.hid v4
    have TV4:=Lib.hid tv4
    have T4:=Lib.hid (T3.out.tr (hw4.imp fun τ hτ=>(Or.inl hτ:τ=(0,1)∨τ.1=p)))
    have HP:=Lib.hid hp0
    clear p4 hd4 v4 tv4 hw4 hp0 HB P3 T3 TV GB
    go_wp2_with fail
    refine (failM P4.out HF.out (blankP G D).1 (blankP_err G D)).mono ?_
    rintro e w5 ⟨rfl,hp5,hw5⟩
    have d5:=D4.out.wr hw5 (fun e=>by have:=HP.out;injection e with e;omega)
    have v5:U32.NsB w5 w2.heap.size (.slice A4 ng c4) G:=row_fr V4.out hw5.fr (fun k hk e=>by rw[TV4.out k hk] at e;have:=HP.out;injection e with e;omega)
    have tv5:∀k,(Value.slice A4 ng c4).ownBlock=some k→O4 k=(0,0):=TV4.out
    have P5:=Lib.hid hp5
    have D5:=Lib.hid d5
    have V5:=Lib.hid v5
    have TV5:=Lib.hid tv5
    have T5:=Lib.hid (T4.out.tr (hw5.imp fun τ hτ=>(Or.inr (by rw[hτ]):τ=(0,1)∨τ.1=p)))
    clear hp5 d5 v5 tv5 hw5 P4 D4 V4 TV4 T4
    by_cases he:(blankP G D).1=0
    · have hq:q9=(0,{ scrubF G T with cm:=0 },(blankP G D).2):=by rw[SQ.out,if_pos he]
      rw[he] at P5⊢
      rw[show ({ T with fa:=!decide ((0:Nat)=0) }:PgP)=T from by rw[←show T.fa = !decide ((0:Nat)=0) from HF.out]] at P5
      have HQ:=Lib.hid hq
      clear hq he SQ
      go_wp2_with fail
      go_loopw [49] (fun z wx=>∃(i:Nat) (O6:Tgm) (T6:PgP),i≤ng∧z = .int .i64 (i:Int)∧PgM wx O6 p b.d b.rg b.lg T6∧scrubF (G.drop i) T6=scrubF G T∧DvM wx O6 b.d (blankP G D).2∧Wr (fun τ=>τ=(0,1)∨τ.1=p) w O wx O6∧U32.NsB wx w2.heap.size (.slice A4 ng c4) G∧∀k,(Value.slice A4 ng c4).ownBlock=some k→O6 k=(0,0)) (fun z _=>ng-(intOf z).toNat)
      case atStart=>exact⟨0,O4,T,Nat.zero_le _,rfl,P5.out,rfl,D5.out,T5.out,V5.out,TV5.out⟩
      case round=>
       clear P5 D5 V5 TV5 T5
       obtain⟨i,O6,T6,hi,rfl,hp6,heq,hd6,ht6,hv6,htv6⟩:=hrel
       have hi0:(0:Int)≤(i:Int):=by omega
       by_cases hlt:i<ng
       · have hlti:(i:Int)<(ng:Int):=by omega
         obtain⟨n,hn⟩:∃n,G[i]? = some n:=⟨_,List.getElem?_eq_getElem (by rw[NG.out];exact hlt)⟩
         have hn3:=GL.out.2 n (List.mem_of_getElem? hn)
         obtain⟨A',c',he',hcc⟩:=hv6.form
         injection he' with he1 he2 he3
         subst he1 he3
         clear he2
         obtain⟨ga,rfl,hcell⟩:=hcc i (by rw[NG.out];exact hlt)
         rw[show G[i]'(by rw[NG.out];exact hlt)=n from by have:=(List.getElem?_eq_some_iff.1 hn).2;exact this] at hcell
         obtain⟨b6,h6,e1,e2,e3⟩:=hp6
         have c5:wr.cell? ⟨p,5,none⟩=some (.map (some b6.mw)):=CbB.cell h6.box (k:=5) rfl
         have OK:Hid (u32Okp n):=Lib.hid (by unfold u32Okp;omega)
         have H6:=Lib.hid h6
         have E6:=Lib.hid (And.intro e1 (And.intro e2 e3))
         have D6:=Lib.hid hd6
         have T6':=Lib.hid ht6
         have V6:=Lib.hid hv6
         have TV6:=Lib.hid htv6
         have N3:=Lib.hid hn3
         have HE:Hid (scrubF (G.drop (i+1)) (relT { T6 with wa:=dropL n T6.wa } n)=scrubF G T):=Lib.hid (by rw[drop_cons9 hn] at heq;exact heq)
         have HLT:=Lib.hid hlt
         clear h6 e1 e2 e3 hd6 ht6 hv6 htv6 hn3 heq hn hcc hi hlt
         go_wp2_with (first
          | (refine wpList_mapDel rfl (.tmp 56) (.tmp 57) rfl u32p_K Tryz.underlying134 rfl H6.out.wa n OK.out rfl ?_
             intro w7 h7 g7 s7 _
             have s7':Wr (fun t=>t=(p,3)) wr O6 w7 O6:=Wr.grown g7 H6.out.tw
             have P7:=Lib.hid (show PgM w7 O6 p b.d b.rg b.lg { T6 with wa:=dropL n T6.wa } from⟨_,H6.out.setWa s7' h7,E6.out.1,E6.out.2.1,E6.out.2.2⟩)
             have S7:Hid (Wr (fun τ=>τ.1=p) wr O6 w7 O6):=Lib.hid (s7'.imp fun τ hτ=>by rw[hτ])
             clear h7 g7 s7 s7'))
         refine (release_any n P7.out ⟨N3.out.1,N3.out.2.2⟩).mono ?_
         rintro e w8 ⟨⟨ve,rfl⟩,O8,hp8,hw8⟩
         have P8:=Lib.hid hp8
         have S8:Hid (Wr (fun τ=>τ.1=p) wr O6 w8 O8):=Lib.hid (S7.out.tr (hw8.imp fun τ hτ=>by rcases hτ with hτ | hτ <;> rw[hτ]))
         clear hp8 hw8
         go_wp2_with fail
         go_roundw
         case rel=>exact⟨i+1,O8,_,HLT.out,by go_num,P8.out,HE.out,D6.out.wr S8.out (fun e=>by have h9:=HP.out;have e':(0:Nat)=p:=e;omega),T6'.out.tr (S8.out.imp fun τ hτ=>Or.inr hτ),row_fr V6.out S8.out.fr (fun k hk e=>by rw[TV6.out k hk] at e;have h9:=HP.out;have e':(0:Nat)=p:=e;omega),fun k hk=>(S8.out.tg k (V6.out.lt hk)).trans (TV6.out k hk)⟩
         case measure=>simp[intOf];have:=HLT.out;omega
       · obtain rfl:i=ng:=by omega
         have heq2:T6=scrubF G T:=by
          rw[←heq,List.drop_of_length_le (by rw[NG.out];exact Nat.le_refl _)]
          rfl
         subst heq2
         obtain⟨b4,hN4,e1,e2,e3⟩:=hp6
         have c9:wr.cell? ⟨p,9,none⟩=some (.int .u64 ((scrubF G T).cm:Int)):=CbB.cell hN4.box (k:=9) rfl
         have f9:wr.frozen? ⟨p,9,none⟩=false:=CbB.free hN4.box 9
         have N4:=Lib.hid hN4
         have E4:=Lib.hid (And.intro e1 (And.intro e2 e3))
         have S4:=Lib.hid ht6
         have D6:=Lib.hid hd6
         clear hN4 e1 e2 e3 ht6 hd6 hv6 htv6 heq hi hlt
         go_wp2_with fail
         go_ret
         have s5:Wr (fun τ=>τ=(p,1)) wr O6 (wr.setCell ⟨p,9,none⟩ (.int .u64 0)) O6:=⟨(fr_setD wr p 9 _).imp fun q hq=>by rw[hq];exact N4.out.tb,fun _ _=>rfl⟩
         rw[HQ.out]
         refine⟨rfl,O6,⟨_,N4.out.upd (T':={ scrubF G T with cm:=0 }) (v:=b4.fv) s5 (CbB.set N4.out.box 9 (.int .u64 0)) (row_fr N4.out.free (fr_setD wr p 9 _) (fun q hq e=>?_)) N4.out.tf rfl rfl rfl rfl rfl N4.out.rgt N4.out.okr N4.out.num ⟨show 0<18446744073709551616 by decide,N4.out.cmo.2⟩ (fun e=>absurd rfl e),E4.out.1,E4.out.2.1,E4.out.2.2⟩,D6.out.wr s5 (fun e=>by have h9:=HP.out;injection e with e;omega),S4.out.tr (s5.imp fun τ hτ=>Or.inr (by rw[hτ]))⟩
         have h1:=N4.out.tf q hq
         rw[e,N4.out.tb] at h1
         have:=N4.out.pos
         injection h1 with h1
         omega
    · have hq:q9=((blankP G D).1,{ T with fa:=true },(blankP G D).2):=by rw[SQ.out,if_neg he]
      rw[show (!decide ((blankP G D).1=0))=true from by rw[decide_eq_false he];rfl] at P5
      have HQ:=Lib.hid hq
      have he1:¬((blankP G D).1:Int)=0:=by omega
      have he2:(((blankP G D).1:Int)==0)=false:=by simp;omega
      clear hq he SQ
      go_wp2_with fail
      go_ret
      rw[HQ.out]
      exact⟨rfl,O4,P5.out,D5.out,T5.out⟩
def FnJ (w:World) (O:Tgm) (p d rg lg r b0 b1 b2 fb:Nat) (m:Mp) (R:RgL) (T:PgP) (D:DvS) (al:List Sl) (S:RsS) (wx:World):Prop:=∃Ox,PgM wx Ox p d rg lg T∧DvM wx Ox d D∧LgM wx Ox lg al∧RsM wx Ox r d S∧RgM wx Ox rg R∧(CbB wx b0 49 #[.pointer (some ⟨p,0,none⟩)]∧Ox b0=(0,0))∧(CbB wx b1 50 #[.pointer (some ⟨r,0,none⟩)]∧Ox b1=(0,0))∧(CbB wx b2 40 #[.int .u64 (m.cm:Int),.int .u32 (m.pg:Int),.int .u64 (m.rc:Int),.int .u16 (m.rg:Int),.int .u8 (m.lv:Int),.int .u16 (m.gn:Int),.int .u32 (m.tn:Int)]∧Ox b2=(0,0))∧(CbB wx fb 127 #[.func (Fn.func 56) #[.pointer (some ⟨p,0,none⟩)] #[],.func (Fn.func 74) #[] #[.pointer (some ⟨b0,0,none⟩),.pointer (some ⟨b2,0,none⟩)],.func (Fn.func 76) #[] #[.pointer (some ⟨b1,0,none⟩),.pointer (some ⟨b2,0,none⟩)],.func (Fn.func 78) #[.pointer (some ⟨p,0,none⟩)] #[]]∧Ox fb=(0,0))∧Wr (fun τ=>τ=(0,1)∨τ=(0,2)∨τ=(0,4)∨τ.1=p) w O wx Ox
theorem FnJ.step {w:World} {O Ox Oy:Tgm} {p d rg lg r b0 b1 b2 fb:Nat} {m:Mp} {R:RgL} {T:PgP} {D:DvS} {al:List Sl} {S:RsS} {wx wy:World} (hp:0<p) (hG:RgM wx Ox rg R) (k0:CbB wx b0 49 #[.pointer (some ⟨p,0,none⟩)]∧Ox b0=(0,0)) (k1:CbB wx b1 50 #[.pointer (some ⟨r,0,none⟩)]∧Ox b1=(0,0)) (k2:CbB wx b2 40 #[.int .u64 (m.cm:Int),.int .u32 (m.pg:Int),.int .u64 (m.rc:Int),.int .u16 (m.rg:Int),.int .u8 (m.lv:Int),.int .u16 (m.gn:Int),.int .u32 (m.tn:Int)]∧Ox b2=(0,0)) (k3:CbB wx fb 127 #[.func (Fn.func 56) #[.pointer (some ⟨p,0,none⟩)] #[],.func (Fn.func 74) #[] #[.pointer (some ⟨b0,0,none⟩),.pointer (some ⟨b2,0,none⟩)],.func (Fn.func 76) #[] #[.pointer (some ⟨b1,0,none⟩),.pointer (some ⟨b2,0,none⟩)],.func (Fn.func 78) #[.pointer (some ⟨p,0,none⟩)] #[]]∧Ox fb=(0,0)) (hw:Wr (fun τ=>τ=(0,1)∨τ=(0,2)∨τ=(0,4)∨τ.1=p) w O wx Ox)
 (s:Wr (fun τ=>τ=(0,1)∨τ=(0,2)∨τ=(0,4)∨τ.1=p) wx Ox wy Oy) (h1:PgM wy Oy p d rg lg T) (h2:DvM wy Oy d D) (h3:LgM wy Oy lg al) (h4:RsM wy Oy r d S):FnJ w O p d rg lg r b0 b1 b2 fb m R T D al S wy:=by
 have n0:¬(((0:Nat),(0:Nat))=(0,1)∨((0:Nat),(0:Nat))=(0,2)∨((0:Nat),(0:Nat))=(0,4)∨((0:Nat),(0:Nat)).1=p):=fun e=>by
  rcases e with e | e | e | e
  · cases e
  · cases e
  · cases e
  · have e':(0:Nat)=p:=e
    omega
 have n3:¬(((0:Nat),(3:Nat))=(0,1)∨((0:Nat),(3:Nat))=(0,2)∨((0:Nat),(3:Nat))=(0,4)∨((0:Nat),(3:Nat)).1=p):=fun e=>by
  rcases e with e | e | e | e
  · cases e
  · cases e
  · cases e
  · have e':(0:Nat)=p:=e
    omega
 exact⟨Oy,h1,h2,h3,h4,hG.wr s n3 n0,k0.1.wr k0.2 s n0,k1.1.wr k1.2 s n0,k2.1.wr k2.2 s n0,k3.1.wr k3.2 s n0,hw.tr s⟩
def finishP (R:RgL) (T:PgP) (D:DvS) (al:List Sl) (S:RsS) (m:Mp):Nat×PgP×DvS×List Sl×RsS:=match flushP R T D al with
 | (0, T1,D1,al1)=>match metaP R T1 D1 al1 m with
   | (0,T2,D2,al2)=>match advanceP S D2 m.cm with
     | (0,S3,D3)=>match scrubP T2 D3 with
       | (0,T4,D4)=>(0,T4,D4,al2,S3)
       | (e+1,T4,D4)=>(e+1,{ T4 with fa:=true },D4,al2,S3)
     | (e+1,S3,D3)=>(e+1,{ T2 with fa:=true },D3,al2,S3)
   | (e+1,T2,D2,al2)=>(e+1,{ T2 with fa:=true },D2,al2,S)
 | (e+1,T1,D1,al1)=>(e+1,{ T1 with fa:=true },D1,al1,S)
section
variable {R:RgL} {T T1 T2 T4:PgP} {D D1 D2 D3 D4:DvS} {al al1 al2:List Sl} {S S3:RsS} {m:Mp} {e:Nat}
theorem finishP1 (h1:flushP R T D al=(e,T1,D1,al1)) (he:e≠0):finishP R T D al S m=(e,{ T1 with fa:=true },D1,al1,S):=by
 obtain⟨e,rfl⟩:∃k,e=k+1:=⟨e-1,by omega⟩
 unfold finishP
 rw[h1]
theorem finishP2 (h1:flushP R T D al=(0,T1,D1,al1)) (h2:metaP R T1 D1 al1 m=(e,T2,D2,al2)) (he:e≠0):finishP R T D al S m=(e,{ T2 with fa:=true },D2,al2,S):=by
 obtain⟨e,rfl⟩:∃k,e=k+1:=⟨e-1,by omega⟩
 unfold finishP
 rw[h1]
 simp only
 rw[h2]
theorem finishP3 (h1:flushP R T D al=(0,T1,D1,al1)) (h2:metaP R T1 D1 al1 m=(0,T2,D2,al2)) (h3:advanceP S D2 m.cm=(e,S3,D3)) (he:e≠0):finishP R T D al S m=(e,{ T2 with fa:=true },D3,al2,S3):=by
 obtain⟨e,rfl⟩:∃k,e=k+1:=⟨e-1,by omega⟩
 unfold finishP
 rw[h1]
 simp only
 rw[h2]
 simp only
 rw[h3]
theorem finishP4 (h1:flushP R T D al=(0,T1,D1,al1)) (h2:metaP R T1 D1 al1 m=(0,T2,D2,al2)) (h3:advanceP S D2 m.cm=(0,S3,D3)) (h4:scrubP T2 D3=(e,T4,D4)) (he:e≠0):finishP R T D al S m=(e,{ T4 with fa:=true },D4,al2,S3):=by
 obtain⟨e,rfl⟩:∃k,e=k+1:=⟨e-1,by omega⟩
 unfold finishP
 rw[h1]
 simp only
 rw[h2]
 simp only
 rw[h3]
 simp only
 rw[h4]
theorem finishP5 (h1:flushP R T D al=(0,T1,D1,al1)) (h2:metaP R T1 D1 al1 m=(0,T2,D2,al2)) (h3:advanceP S D2 m.cm=(0,S3,D3)) (h4:scrubP T2 D3=(0,T4,D4)):finishP R T D al S m=(0,T4,D4,al2,S3):=by
 unfold finishP
 rw[h1]
 simp only
 rw[h2]
 simp only
 rw[h3]
 simp only
 rw[h4]
end
theorem pfailM {w:World} {O:Tgm} {p d rg lg:Nat} {T:PgP} (h:PgM w O p d rg lg T):
 Calls Tryz.prog 64 #[.pointer (some ⟨p,0,none⟩)] w fun r w'=>(∃v,r = .returned v)∧PgM w' O p d rg lg { T with fa:=true }∧Wr (fun τ=>τ=(p,1)) w O w' O:=by
 obtain⟨b,hN,rfl,rfl,rfl⟩:=h
 refine (fail_any hN.box).mono ?_
 rintro r w' ⟨hr,k1,k2⟩
 have s:Wr (fun τ=>τ=(p,1)) w O w' O:=⟨k2.imp fun q hq=>by rw[hq];exact hN.tb,fun _ _=>rfl⟩
 have hp:=hN.pos
 refine⟨hr,⟨_,hN.upd (T':={ T with fa:=true }) (v:=b.fv) s k1 (row_fr hN.free k2 (fun q hq e=>?_)) hN.tf rfl rfl rfl rfl rfl hN.rgt hN.okr hN.num hN.cmo id,rfl,rfl,rfl⟩,s⟩
 have h1:=hN.tf q hq
 rw[e,hN.tb] at h1
 injection h1 with h1
 omega
section
variable {w:World} {O:Tgm} {p d rg lg r:Nat} {T:PgP} {D:DvS} {S:RsS} {m:Mp}
def FinR (w:World) (O:Tgm) (p d rg lg r:Nat) (R:RgL) (q:Nat×PgP×DvS×List Sl×RsS) (e:Ending) (w':World):Prop:=∃O',e = .returned (.int .i64 (q.1:Int))∧PgM w' O' p d rg lg q.2.1∧DvM w' O' d q.2.2.1∧LgM w' O' lg q.2.2.2.1∧RsM w' O' r d q.2.2.2.2∧RgM w' O' rg R∧Wr (fun τ=>τ=(0,1)∨τ=(0,2)∨τ=(0,4)∨τ.1=p) w O w' O'
set_option maxRecDepth 100000 in
theorem finish_any {all:List Sl} {R:RgL} (h:PgM w O p d rg lg T) (hR:RsM w O r d S) (hD:DvM w O d D) (hL:LgM w O lg all) (hG:RgM w O rg R) (hf:T.fa=false) (hc:m.cm≠0) (h0:T.cm=m.cm) (hfl:T.fl=false) (hs:S.res=m.cm) (hr:rightB m=true) (hm:m.Ok)
 (okD:D.Ok) (hst:D.st≤900000000) (hws:D.ws.length≤90000) (hall:all.length≤90000) (hpu:PuOk D.n T) (hnu:T.pu.length≤12)
 (c1:∀T1 D1 al1,flushP R T D all=(0,T1,D1,al1)→D1.Ok∧D1.st≤900000000∧D1.ws.length≤90000∧al1.length≤100000)
 (c2:∀T1 D1 al1 T2 D2 al2,flushP R T D all=(0,T1,D1,al1)→metaP R T1 D1 al1 m=(0,T2,D2,al2)→D2.Ok∧D2.st≤900000000)
 (c3:∀T1 D1 al1 T2 D2 al2 S3 D3,flushP R T D all=(0,T1,D1,al1)→metaP R T1 D1 al1 m=(0,T2,D2,al2)→advanceP S D2 m.cm=(0,S3,D3)→D3.Ok∧D3.st≤900000000∧D3.ws.length≤90000∧T2.fa=false∧(T2.cm=0∨T2.fl=true)∧(∀x∈T2.wa,1<x.1∧x.1<D3.n)∧T2.wa.length≤12∧PinOk T2.pi):
 Calls Tryz.prog 29 #[.pointer (some ⟨p,0,none⟩),.pointer (some ⟨r,0,none⟩),.agg #[.int .u64 (m.cm:Int),.int .u32 (m.pg:Int),.int .u64 (m.rc:Int),.int .u16 (m.rg:Int),.int .u8 (m.lv:Int),.int .u16 (m.gn:Int),.int .u32 (m.tn:Int)]] w (FinR w O p d rg lg r R (finishP R T D all S m)):=by
 have hpos:0<p:=by obtain⟨b,hN,_⟩:=h;exact hN.pos
 have e1:(w.alloc (.cells #[.pointer (some ⟨p,0,none⟩)] 49)).heap.size=w.heap.size+1:=by simp
 have e2:((w.alloc (.cells #[.pointer (some ⟨p,0,none⟩)] 49)).alloc (.cells #[.pointer (some ⟨r,0,none⟩)] 50)).heap.size=w.heap.size+1+1:=by simp
 have k0:=CbB.new w 49 #[.pointer (some ⟨p,0,none⟩)]
 have k1:=CbB.new (w.alloc (.cells #[.pointer (some ⟨p,0,none⟩)] 49)) 50 #[.pointer (some ⟨r,0,none⟩)]
 have k2:=CbB.new ((w.alloc (.cells #[.pointer (some ⟨p,0,none⟩)] 49)).alloc (.cells #[.pointer (some ⟨r,0,none⟩)] 50)) 40 #[.int .u64 (m.cm:Int),.int .u32 (m.pg:Int),.int .u64 (m.rc:Int),.int .u16 (m.rg:Int),.int .u8 (m.lv:Int),.int .u16 (m.gn:Int),.int .u32 (m.tn:Int)]
 rw[e1] at k1
 rw[e2] at k2
 have a1:Below w.heap.size w (w.alloc (.cells #[.pointer (some ⟨p,0,none⟩)] 49)):=(Below.refl _ _).alloc (Nat.le_refl _) _
 have a2:Below (w.alloc (.cells #[.pointer (some ⟨p,0,none⟩)] 49)).heap.size (w.alloc (.cells #[.pointer (some ⟨p,0,none⟩)] 49)) ((w.alloc (.cells #[.pointer (some ⟨p,0,none⟩)] 49)).alloc (.cells #[.pointer (some ⟨r,0,none⟩)] 50)):=(Below.refl _ _).alloc (Nat.le_refl _) _
 have a3:Below ((w.alloc (.cells #[.pointer (some ⟨p,0,none⟩)] 49)).alloc (.cells #[.pointer (some ⟨r,0,none⟩)] 50)).heap.size ((w.alloc (.cells #[.pointer (some ⟨p,0,none⟩)] 49)).alloc (.cells #[.pointer (some ⟨r,0,none⟩)] 50)) (((w.alloc (.cells #[.pointer (some ⟨p,0,none⟩)] 49)).alloc (.cells #[.pointer (some ⟨r,0,none⟩)] 50)).alloc (.cells #[.int .u64 (m.cm:Int),.int .u32 (m.pg:Int),.int .u64 (m.rc:Int),.int .u16 (m.rg:Int),.int .u8 (m.lv:Int),.int .u16 (m.gn:Int),.int .u32 (m.tn:Int)] 40)):=(Below.refl _ _).alloc (Nat.le_refl _) _
 have b0:=below_tr (below_tr a1 a2 a1.size) a3 (below_tr a1 a2 a1.size).size
 have k0:=(k0.ab a2).ab a3
 have k1:=k1.ab a3
 obtain⟨w0,hw0⟩:∃w0,(((w.alloc (.cells #[.pointer (some ⟨p,0,none⟩)] 49)).alloc (.cells #[.pointer (some ⟨r,0,none⟩)] 50)).alloc (.cells #[.int .u64 (m.cm:Int),.int .u32 (m.pg:Int),.int .u64 (m.rc:Int),.int .u16 (m.rg:Int),.int .u8 (m.lv:Int),.int .u16 (m.gn:Int),.int .u32 (m.tn:Int)] 40))=w0:=⟨_,rfl⟩
 rw[hw0] at b0 k0 k1 k2
 have s0:Wr (fun _=>False) w O w0 (cutO O w.heap.size):=Wr.cut b0 _
 have t0:∀k,w.heap.size≤k→cutO O w.heap.size k=(0,0):=fun k hk=>cutO_at hk
 obtain⟨O0,hO0⟩:∃O0,cutO O w.heap.size=O0:=⟨_,rfl⟩
 rw[hO0] at s0 t0
 have H0:=Lib.hid (h.wr s0 (fun _=>id) id)
 have R0:=Lib.hid (hR.wr s0 id)
 have V0:=Lib.hid (hD.wr s0 id)
 have L0:=Lib.hid (hL.wr s0 id)
 have G0:=Lib.hid (hG.wr s0 id id)
 have K0:=Lib.hid (And.intro k0 (And.intro k1 k2))
 have T0:=Lib.hid t0
 have S0:=Lib.hid s0
 have HW0:=Lib.hid hw0
 have HP:=Lib.hid hpos
 have CM:Hid (Calls Tryz.prog 61 #[.pointer (some ⟨p,0,none⟩),.pointer (some ⟨r,0,none⟩)] w0 fun e w'=>e = .returned (.int .i64 0)∧w0=w'):=Lib.hid (by
  have:=cmay_any (r:=r) H0.out
  rw[hf] at this
  exact this)
 have CC:Hid (Calls Tryz.prog 62 #[.pointer (some ⟨p,0,none⟩)] w0 fun e w'=>e = .returned (.tuple #[.int .u64 (m.cm:Int),.bool false])∧Below w0.heap.size w0 w'):=Lib.hid (by
  obtain⟨b,hN,_⟩:=H0.out
  have h1:=commit_any hN.box
  rw[show (pcS b T).cm=m.cm from h0,show (pcS b T).fl=false from hfl,Bool.and_false] at h1
  exact h1)
 have z1:((m.cm:Int)==0)=false:=by simp;omega
 have z2:¬(m.cm:Int)=0:=by omega
 have HS:=Lib.hid hs
 have RE:Hid (rightE m=0):=Lib.hid (by unfold rightE;rw[hr];rfl)
 have HM:=Lib.hid hm
 have q0:w0.cell? ⟨w.heap.size,0,none⟩=some (.pointer (some ⟨p,0,none⟩)):=k0.cell (k:=0) rfl
 have q1:w0.cell? ⟨w.heap.size+1,0,none⟩=some (.pointer (some ⟨r,0,none⟩)):=k1.cell (k:=0) rfl
 have A1:=Lib.hid (And.intro okD (And.intro hst (And.intro hws (And.intro hall (And.intro hpu hnu)))))
 have C1:=Lib.hid c1
 have C2:=Lib.hid c2
 have C3:=Lib.hid c3
 have AF:=Lib.hid (And.intro hf (And.intro (show T.cm≠0 by omega) hfl))
 clear e1 e2 k0 k1 k2 a1 a2 a3 b0 s0 t0 hO0 h hR hD hL hG hf hc h0 hfl hs hr hm hw0 hpos okD hst hws hall hpu hnu c1 c2 c3
 go_enter Tryz.func29,Tryz.ntmps29
 go_upto_region 1 with (fail)
 rw[HW0.out]
 clear HW0
 go_wp2_with fail
 refine CM.out.mono ?_
 rintro e w1 ⟨rfl,rfl⟩
 go_wp2_with fail
 refine CC.out.mono ?_
 rintro e w1 ⟨rfl,hb⟩
 have s1:Wr (fun _=>False) w0 O0 w1 (cutO O0 w0.heap.size):=Wr.cut hb _
 have t1:∀k,w.heap.size≤k→cutO O0 w0.heap.size k=(0,0):=fun k hk=>by
  rcases Nat.lt_or_ge k w0.heap.size with h | h
  · rw[cutO_old h];exact T0.out k hk
  · exact cutO_at h
 obtain⟨O1,hO1⟩:∃O1,cutO O0 w0.heap.size=O1:=⟨_,rfl⟩
 rw[hO1] at s1 t1
 have H1:=Lib.hid (H0.out.wr s1 (fun _=>id) id)
 have R1:=Lib.hid (R0.out.wr s1 id)
 have V1:=Lib.hid (V0.out.wr s1 id)
 have L1:=Lib.hid (L0.out.wr s1 id)
 have G1:=Lib.hid (G0.out.wr s1 id id)
 have K1:=Lib.hid (And.intro (K0.out.1.ab hb) (And.intro (K0.out.2.1.ab hb) (K0.out.2.2.ab hb)))
 have T1':=Lib.hid t1
 have S1:=Lib.hid (S0.out.tr s1)
 have q0:w1.cell? ⟨w.heap.size,0,none⟩=some (.pointer (some ⟨p,0,none⟩)):=K1.out.1.cell (k:=0) rfl
 have q1:w1.cell? ⟨w.heap.size+1,0,none⟩=some (.pointer (some ⟨r,0,none⟩)):=K1.out.2.1.cell (k:=0) rfl
 have m0:w1.cell? ⟨w.heap.size+1+1,0,none⟩=some (.int .u64 (m.cm:Int)):=K1.out.2.2.cell (k:=0) rfl
 clear hb s1 t1 hO1 CM CC H0 R0 V0 L0 G0 K0 T0 S0
 go_wp2_with fail
 refine (reservedM R1.out).mono ?_
 rw[HS.out]
 rintro e w2 ⟨rfl,rfl⟩
 have m1:w1.cell? ⟨w.heap.size+1+1,1,none⟩=some (.int .u32 (m.pg:Int)):=K1.out.2.2.cell (k:=1) rfl
 have m2:w1.cell? ⟨w.heap.size+1+1,2,none⟩=some (.int .u64 (m.rc:Int)):=K1.out.2.2.cell (k:=2) rfl
 have m3:w1.cell? ⟨w.heap.size+1+1,3,none⟩=some (.int .u16 (m.rg:Int)):=K1.out.2.2.cell (k:=3) rfl
 have m4:w1.cell? ⟨w.heap.size+1+1,4,none⟩=some (.int .u8 (m.lv:Int)):=K1.out.2.2.cell (k:=4) rfl
 have m5:w1.cell? ⟨w.heap.size+1+1,5,none⟩=some (.int .u16 (m.gn:Int)):=K1.out.2.2.cell (k:=5) rfl
 have m6:w1.cell? ⟨w.heap.size+1+1,6,none⟩=some (.int .u32 (m.tn:Int)):=K1.out.2.2.cell (k:=6) rfl
 go_wp2_with fail
 refine (right_any m w1).mono ?_
 rw[RE.out]
 rintro e w2 ⟨rfl,hb⟩
 have s2:Wr (fun _=>False) w1 O1 w2 (cutO O1 w1.heap.size):=Wr.cut hb _
 have t2:∀k,w.heap.size≤k→cutO O1 w1.heap.size k=(0,0):=fun k hk=>by
  rcases Nat.lt_or_ge k w1.heap.size with h | h
  · rw[cutO_old h];exact T1'.out k hk
  · exact cutO_at h
 obtain⟨O2,hO2⟩:∃O2,cutO O1 w1.heap.size=O2:=⟨_,rfl⟩
 rw[hO2] at s2 t2
 have H2:=Lib.hid (H1.out.wr s2 (fun _=>id) id)
 have R2:=Lib.hid (R1.out.wr s2 id)
 have V2:=Lib.hid (V1.out.wr s2 id)
 have L2:=Lib.hid (L1.out.wr s2 id)
 have G2:=Lib.hid (G1.out.wr s2 id id)
 have K2:=Lib.hid (And.intro (K1.out.1.ab hb) (And.intro (K1.out.2.1.ab hb) (K1.out.2.2.ab hb)))
 have T2':=Lib.hid t2
 have S2:=Lib.hid (S1.out.tr s2)
 have q0:w2.cell? ⟨w.heap.size,0,none⟩=some (.pointer (some ⟨p,0,none⟩)):=K2.out.1.cell (k:=0) rfl
 clear hb s2 t2 hO2 H1 R1 V1 L1 G1 K1 T1' S1 m0 m1 m2 m3 m4 m5 m6 z1 z2
 go_upto_region 8 with (fail)
 have fb0:=CbB.new w2 127 #[.func (Fn.func 56) #[.pointer (some ⟨p,0,none⟩)] #[],.func (Fn.func 74) #[] #[.pointer (some ⟨w.heap.size,0,none⟩),.pointer (some ⟨w.heap.size+1+1,0,none⟩)],.func (Fn.func 76) #[] #[.pointer (some ⟨w.heap.size+1,0,none⟩),.pointer (some ⟨w.heap.size+1+1,0,none⟩)],.func (Fn.func 78) #[.pointer (some ⟨p,0,none⟩)] #[]]
 have ba:Below w2.heap.size w2 (w2.alloc (.cells #[.func (Fn.func 56) #[.pointer (some ⟨p,0,none⟩)] #[],.func (Fn.func 74) #[] #[.pointer (some ⟨w.heap.size,0,none⟩),.pointer (some ⟨w.heap.size+1+1,0,none⟩)],.func (Fn.func 76) #[] #[.pointer (some ⟨w.heap.size+1,0,none⟩),.pointer (some ⟨w.heap.size+1+1,0,none⟩)],.func (Fn.func 78) #[.pointer (some ⟨p,0,none⟩)] #[]] 127)):=(Below.refl _ _).alloc (Nat.le_refl _) _
 obtain⟨w3,hw3⟩:∃w3,w2.alloc (.cells #[.func (Fn.func 56) #[.pointer (some ⟨p,0,none⟩)] #[],.func (Fn.func 74) #[] #[.pointer (some ⟨w.heap.size,0,none⟩),.pointer (some ⟨w.heap.size+1+1,0,none⟩)],.func (Fn.func 76) #[] #[.pointer (some ⟨w.heap.size+1,0,none⟩),.pointer (some ⟨w.heap.size+1+1,0,none⟩)],.func (Fn.func 78) #[.pointer (some ⟨p,0,none⟩)] #[]] 127)=w3:=⟨_,rfl⟩
 obtain⟨fb,hfb⟩:∃fb,w2.heap.size=fb:=⟨_,rfl⟩
 rw[hw3] at fb0 ba⊢
 have s3:Wr (fun _=>False) w2 O2 w3 O2:=Wr.of ba _ (fun _ _=>rfl)
 have J0:Hid (FnJ w O p d rg lg r w.heap.size (w.heap.size+1) (w.heap.size+1+1) fb m R T D all S w3):=Lib.hid ⟨O2,H2.out.wr s3 (fun _=>id) id,V2.out.wr s3 id,L2.out.wr s3 id,R2.out.wr s3 id,G2.out.wr s3 id id,⟨K2.out.1.ab ba,T2'.out _ (Nat.le_refl _)⟩,⟨K2.out.2.1.ab ba,T2'.out _ (by omega)⟩,⟨K2.out.2.2.ab ba,T2'.out _ (by omega)⟩,⟨by rw[←hfb];exact fb0,T2'.out _ (by rw[←hfb];exact S2.out.size)⟩,(S2.out.tr s3).imp fun _=>False.elim⟩
 rw[hfb]
 clear fb0 ba hw3 hfb s3 H2 R2 V2 L2 G2 K2 T2' S2 q0
 go_wp2_with fail
 go_loopw [56] (fun z wx=>(z = .int .i64 0∧FnJ w O p d rg lg r w.heap.size (w.heap.size+1) (w.heap.size+1+1) fb m R T D all S wx)∨(z = .int .i64 1∧∃T1 D1 al1,flushP R T D all=(0,T1,D1,al1)∧FnJ w O p d rg lg r w.heap.size (w.heap.size+1) (w.heap.size+1+1) fb m R T1 D1 al1 S wx)∨(z = .int .i64 2∧∃T1 D1 al1 T2 D2 al2,flushP R T D all=(0,T1,D1,al1)∧metaP R T1 D1 al1 m=(0,T2,D2,al2)∧FnJ w O p d rg lg r w.heap.size (w.heap.size+1) (w.heap.size+1+1) fb m R T2 D2 al2 S wx)∨(z = .int .i64 3∧∃T1 D1 al1 T2 D2 al2 S3 D3,flushP R T D all=(0,T1,D1,al1)∧metaP R T1 D1 al1 m=(0,T2,D2,al2)∧advanceP S D2 m.cm=(0,S3,D3)∧FnJ w O p d rg lg r w.heap.size (w.heap.size+1) (w.heap.size+1+1) fb m R T2 D3 al2 S3 wx)∨(z = .int .i64 4∧∃T4 D4 al2 S3,finishP R T D all S m=(0,T4,D4,al2,S3)∧FnJ w O p d rg lg r w.heap.size (w.heap.size+1) (w.heap.size+1+1) fb m R T4 D4 al2 S3 wx)) (fun z _=>4-(intOf z).toNat)
 case atStart=>exact .inl ⟨rfl,J0.out⟩
 case round=>
  rcases hrel with ⟨rfl,hst⟩ | ⟨rfl,T1,D1,al1,q1,hst⟩ | ⟨rfl,T1,D1,al1,T2,D2,al2,q1,q2,hst⟩ | ⟨rfl,T1,D1,al1,T2,D2,al2,S3,D3,q1,q2,q3,hst⟩ | ⟨rfl,T4,D4,al2,S3,q4,hst⟩
  · obtain⟨Ox,g1,g2,g3,g4,g5,k0,k1,k2,k3,gw⟩:=hst
    have cf:wr.cell? ⟨fb,0,none⟩=some (.func (Fn.func 56) #[.pointer (some ⟨p,0,none⟩)] #[]):=k3.1.cell (k:=0) rfl
    have CT:=Lib.hid (flush_any g1 g2 g3 g5 A1.out.1 A1.out.2.1 A1.out.2.2.1 A1.out.2.2.2.1 AF.out.1 AF.out.2 A1.out.2.2.2.2.1 A1.out.2.2.2.2.2)
    obtain⟨qq,hqq⟩:∃q,flushP R T D all=q:=⟨_,rfl⟩
    rw[hqq] at CT
    obtain⟨er,T1,D1,al1⟩:=qq
    have HQ:=Lib.hid hqq
    have HG5:=Lib.hid g5
    have KK:=Lib.hid (And.intro k0 (And.intro k1 (And.intro k2 (And.intro k3 gw))))
    have G1:=Lib.hid g1
    have G2:=Lib.hid g2
    have G3:=Lib.hid g3
    have G4:=Lib.hid g4
    clear g1 g2 g3 g4 g5 k0 k1 k2 k3 gw hqq
    go_wp2_with fail
    refine CT.out.mono ?_
    rintro e w8 ⟨O8,rfl,u1,u2,u3,us⟩
    have g1:=G1.out
    have g2:=G2.out
    have g3:=G3.out
    have g4:=G4.out
    have J:FnJ w O p d rg lg r w.heap.size (w.heap.size+1) (w.heap.size+1+1) fb m R T1 D1 al1 S w8:=FnJ.step HP.out HG5.out KK.out.1 KK.out.2.1 KK.out.2.2.1 KK.out.2.2.2.1 KK.out.2.2.2.2 (us.imp fun τ h=>h.imp id (.imp id fun e=>.inr (by rw[e]))) u1 u2 u3 (g4.wr us (fun e=>by rcases e with e | e | e <;> first | (cases e;done) | (injection e with e _;have:=HP.out;omega)))
    have JJ:=Lib.hid J
    obtain⟨Oz,j1,j2,j3,j4,j5,z0,z1,z2,z3,jw⟩:=J
    have cb:w8.cell? ⟨w.heap.size,0,none⟩=some (.pointer (some ⟨p,0,none⟩)):=z0.1.cell (k:=0) rfl
    have FA:=Lib.hid (pfailM j1)
    have JW:=Lib.hid (And.intro j2 (And.intro j3 (And.intro j4 (And.intro j5 jw))))
    clear g1 g2 g3 g4 G1 G2 G3 G4 HG5 KK CT cf us u1 u2 u3 j1 j2 j3 j4 j5 z0 z1 z2 z3 jw
    by_cases her:er=0
    · subst her
      clear cb FA JW
      go_wp2_with fail
      go_roundw
      case rel=>exact .inr (.inl ⟨rfl,_,_,_,HQ.out,JJ.out⟩)
      case measure=>simp[intOf]
    · have z1:((er:Int) != 0)=true:=by simp;omega
      have z2:¬(er:Int)=0:=by omega
      have z3:((er:Int)==0)=false:=by simp;omega
      have HE:=Lib.hid her
      clear her JJ
      go_wp2_with fail
      refine FA.out.mono ?_
      rintro e w9 ⟨⟨v9,rfl⟩,y1,ys⟩
      have Y:=Lib.hid (And.intro y1 ys)
      clear y1 ys FA cb
      go_wp2_with fail
      go_ret
      rw[finishP1 HQ.out HE.out]
      have np:∀i,¬(((0,i):Nat×Nat)=(p,1)):=fun i e=>by injection e with e _;have:=HP.out;omega
      exact⟨_,rfl,Y.out.1,JW.out.1.wr Y.out.2 (np 1),JW.out.2.1.wr Y.out.2 (np 2),JW.out.2.2.1.wr Y.out.2 (np 4),JW.out.2.2.2.1.wr Y.out.2 (np 3) (np 0),JW.out.2.2.2.2.tr (Y.out.2.imp fun τ h=>.inr (.inr (.inr (by rw[h]))))⟩
  · obtain⟨Ox,g1,g2,g3,g4,g5,k0,k1,k2,k3,gw⟩:=hst
    have cf:wr.cell? ⟨fb,1,none⟩=some (.func (Fn.func 74) #[] #[.pointer (some ⟨w.heap.size,0,none⟩),.pointer (some ⟨w.heap.size+1+1,0,none⟩)]):=k3.1.cell (k:=1) rfl
    have cc:=C1.out _ _ _ q1
    have CT:=Lib.hid (fin1 g1 g2 g3 g5 cc.1 cc.2.1 cc.2.2.1 cc.2.2.2 HM.out k0.1 k2.1)
    obtain⟨qq,hqq⟩:∃q,metaP R T1 D1 al1 m=q:=⟨_,rfl⟩
    rw[hqq] at CT
    obtain⟨er,T2,D2,al2⟩:=qq
    have HQ:=Lib.hid hqq
    have Q1:=Lib.hid q1
    have HG5:=Lib.hid g5
    have KK:=Lib.hid (And.intro k0 (And.intro k1 (And.intro k2 (And.intro k3 gw))))
    have G1:=Lib.hid g1
    have G2:=Lib.hid g2
    have G3:=Lib.hid g3
    have G4:=Lib.hid g4
    clear g1 g2 g3 g4 g5 k0 k1 k2 k3 gw hqq cc q1
    go_wp2_with fail
    refine CT.out.mono ?_
    rintro e w8 ⟨O8,rfl,u1,u2,u3,us⟩
    have g1:=G1.out
    have g2:=G2.out
    have g3:=G3.out
    have g4:=G4.out
    have J:FnJ w O p d rg lg r w.heap.size (w.heap.size+1) (w.heap.size+1+1) fb m R T2 D2 al2 S w8:=FnJ.step HP.out HG5.out KK.out.1 KK.out.2.1 KK.out.2.2.1 KK.out.2.2.2.1 KK.out.2.2.2.2 (us.imp fun τ h=>h.imp id (.imp id fun e=>.inr (by rw[e]))) u1 u2 u3 (g4.wr us (fun e=>by rcases e with e | e | e <;> first | (cases e;done) | (injection e with e _;have:=HP.out;omega)))
    have JJ:=Lib.hid J
    obtain⟨Oz,j1,j2,j3,j4,j5,z0,z1,z2,z3,jw⟩:=J
    have cb:w8.cell? ⟨w.heap.size,0,none⟩=some (.pointer (some ⟨p,0,none⟩)):=z0.1.cell (k:=0) rfl
    have FA:=Lib.hid (pfailM j1)
    have JW:=Lib.hid (And.intro j2 (And.intro j3 (And.intro j4 (And.intro j5 jw))))
    clear g1 g2 g3 g4 G1 G2 G3 G4 HG5 KK CT cf us u1 u2 u3 j1 j2 j3 j4 j5 z0 z1 z2 z3 jw
    by_cases her:er=0
    · subst her
      clear cb FA JW
      go_wp2_with fail
      go_roundw
      case rel=>exact .inr (.inr (.inl ⟨rfl,_,_,_,_,_,_,Q1.out,HQ.out,JJ.out⟩))
      case measure=>simp[intOf]
    · have z1:((er:Int) != 0)=true:=by simp;omega
      have z2:¬(er:Int)=0:=by omega
      have z3:((er:Int)==0)=false:=by simp;omega
      have HE:=Lib.hid her
      clear her JJ
      go_wp2_with fail
      refine FA.out.mono ?_
      rintro e w9 ⟨⟨v9,rfl⟩,y1,ys⟩
      have Y:=Lib.hid (And.intro y1 ys)
      clear y1 ys FA cb
      go_wp2_with fail
      go_ret
      rw[finishP2 Q1.out HQ.out HE.out]
      have np:∀i,¬(((0,i):Nat×Nat)=(p,1)):=fun i e=>by injection e with e _;have:=HP.out;omega
      exact⟨_,rfl,Y.out.1,JW.out.1.wr Y.out.2 (np 1),JW.out.2.1.wr Y.out.2 (np 2),JW.out.2.2.1.wr Y.out.2 (np 4),JW.out.2.2.2.1.wr Y.out.2 (np 3) (np 0),JW.out.2.2.2.2.tr (Y.out.2.imp fun τ h=>.inr (.inr (.inr (by rw[h]))))⟩
  · obtain⟨Ox,g1,g2,g3,g4,g5,k0,k1,k2,k3,gw⟩:=hst
    have cf:wr.cell? ⟨fb,2,none⟩=some (.func (Fn.func 76) #[] #[.pointer (some ⟨w.heap.size+1,0,none⟩),.pointer (some ⟨w.heap.size+1+1,0,none⟩)]):=k3.1.cell (k:=2) rfl
    have cc:=C2.out _ _ _ _ _ _ q1 q2
    have CT:=Lib.hid (fin2 g4 g2 cc.1 (Nat.le_trans cc.2 (by decide)) k1.1 k2.1)
    obtain⟨qq,hqq⟩:∃q,advanceP S D2 m.cm=q:=⟨_,rfl⟩
    rw[hqq] at CT
    obtain⟨er,S3,D3⟩:=qq
    have HQ:=Lib.hid hqq
    have Q1:=Lib.hid q1
    have Q2:=Lib.hid q2
    have HG5:=Lib.hid g5
    have KK:=Lib.hid (And.intro k0 (And.intro k1 (And.intro k2 (And.intro k3 gw))))
    have G1:=Lib.hid g1
    have G2:=Lib.hid g2
    have G3:=Lib.hid g3
    have G4:=Lib.hid g4
    clear g1 g2 g3 g4 g5 k0 k1 k2 k3 gw hqq cc q1 q2
    go_wp2_with fail
    refine CT.out.mono ?_
    rintro e w8 ⟨rfl,u4,u2,us⟩
    have g1:=G1.out
    have g2:=G2.out
    have g3:=G3.out
    have g4:=G4.out
    have J:FnJ w O p d rg lg r w.heap.size (w.heap.size+1) (w.heap.size+1+1) fb m R T2 D3 al2 S3 w8:=FnJ.step HP.out HG5.out KK.out.1 KK.out.2.1 KK.out.2.2.1 KK.out.2.2.2.1 KK.out.2.2.2.2 (us.imp fun τ h=>h.imp id fun h=>.inr (.inl h)) (g1.wr us (fun i e=>by rcases e with e | e <;> (injection e with e _;have:=HP.out;omega)) (fun e=>by rcases e with e | e <;> cases e)) u2 (g3.wr us (fun e=>by rcases e with e | e <;> cases e)) u4
    have JJ:=Lib.hid J
    obtain⟨Oz,j1,j2,j3,j4,j5,z0,z1,z2,z3,jw⟩:=J
    have cb:w8.cell? ⟨w.heap.size,0,none⟩=some (.pointer (some ⟨p,0,none⟩)):=z0.1.cell (k:=0) rfl
    have FA:=Lib.hid (pfailM j1)
    have JW:=Lib.hid (And.intro j2 (And.intro j3 (And.intro j4 (And.intro j5 jw))))
    clear g1 g2 g3 g4 G1 G2 G3 G4 HG5 KK CT cf us u4 u2 j1 j2 j3 j4 j5 z0 z1 z2 z3 jw
    by_cases her:er=0
    · subst her
      clear cb FA JW
      go_wp2_with fail
      go_roundw
      case rel=>exact .inr (.inr (.inr (.inl ⟨rfl,_,_,_,_,_,_,_,_,Q1.out,Q2.out,HQ.out,JJ.out⟩)))
      case measure=>simp[intOf]
    · have z1:((er:Int) != 0)=true:=by simp;omega
      have z2:¬(er:Int)=0:=by omega
      have z3:((er:Int)==0)=false:=by simp;omega
      have HE:=Lib.hid her
      clear her JJ
      go_wp2_with fail
      refine FA.out.mono ?_
      rintro e w9 ⟨⟨v9,rfl⟩,y1,ys⟩
      have Y:=Lib.hid (And.intro y1 ys)
      clear y1 ys FA cb
      go_wp2_with fail
      go_ret
      rw[finishP3 Q1.out Q2.out HQ.out HE.out]
      have np:∀i,¬(((0,i):Nat×Nat)=(p,1)):=fun i e=>by injection e with e _;have:=HP.out;omega
      exact⟨_,rfl,Y.out.1,JW.out.1.wr Y.out.2 (np 1),JW.out.2.1.wr Y.out.2 (np 2),JW.out.2.2.1.wr Y.out.2 (np 4),JW.out.2.2.2.1.wr Y.out.2 (np 3) (np 0),JW.out.2.2.2.2.tr (Y.out.2.imp fun τ h=>.inr (.inr (.inr (by rw[h]))))⟩
  · obtain⟨Ox,g1,g2,g3,g4,g5,k0,k1,k2,k3,gw⟩:=hst
    have cf:wr.cell? ⟨fb,3,none⟩=some (.func (Fn.func 78) #[.pointer (some ⟨p,0,none⟩)] #[]):=k3.1.cell (k:=3) rfl
    have cc:=C3.out _ _ _ _ _ _ _ _ q1 q2 q3
    have CT:=Lib.hid (scrub_any g1 g2 cc.1 cc.2.1 cc.2.2.1 cc.2.2.2.1 cc.2.2.2.2.1 cc.2.2.2.2.2.1 cc.2.2.2.2.2.2.1 cc.2.2.2.2.2.2.2)
    obtain⟨qq,hqq⟩:∃q,scrubP T2 D3=q:=⟨_,rfl⟩
    rw[hqq] at CT
    obtain⟨er,T4,D4⟩:=qq
    have HQ:=Lib.hid hqq
    have Q1:=Lib.hid q1
    have Q2:=Lib.hid q2
    have Q3:=Lib.hid q3
    have HG5:=Lib.hid g5
    have KK:=Lib.hid (And.intro k0 (And.intro k1 (And.intro k2 (And.intro k3 gw))))
    have G1:=Lib.hid g1
    have G2:=Lib.hid g2
    have G3:=Lib.hid g3
    have G4:=Lib.hid g4
    clear g1 g2 g3 g4 g5 k0 k1 k2 k3 gw hqq cc q1 q2 q3
    go_wp2_with fail
    refine CT.out.mono ?_
    rintro e w8 ⟨rfl,O8,u1,u2,us⟩
    have g1:=G1.out
    have g2:=G2.out
    have g3:=G3.out
    have g4:=G4.out
    have n2:∀i,i≠1→¬(((0,i):Nat×Nat)=(0,1)∨((0,i):Nat×Nat).1=p):=fun i hi e=>by
     rcases e with e | e
     · injection e with e1 e2;omega
     · have e':(0:Nat)=p:=e
       have:=HP.out
       omega
    have J:FnJ w O p d rg lg r w.heap.size (w.heap.size+1) (w.heap.size+1+1) fb m R T4 D4 al2 S3 w8:=FnJ.step HP.out HG5.out KK.out.1 KK.out.2.1 KK.out.2.2.1 KK.out.2.2.2.1 KK.out.2.2.2.2 (us.imp fun τ h=>h.imp id fun h=>.inr (.inr h)) u1 u2 (g3.wr us (n2 2 (by decide))) (g4.wr us (n2 4 (by decide)))
    have JJ:=Lib.hid J
    obtain⟨Oz,j1,j2,j3,j4,j5,z0,z1,z2,z3,jw⟩:=J
    have cb:w8.cell? ⟨w.heap.size,0,none⟩=some (.pointer (some ⟨p,0,none⟩)):=z0.1.cell (k:=0) rfl
    have FA:=Lib.hid (pfailM j1)
    have JW:=Lib.hid (And.intro j2 (And.intro j3 (And.intro j4 (And.intro j5 jw))))
    clear g1 g2 g3 g4 G1 G2 G3 G4 HG5 KK CT cf us u1 u2 n2 j1 j2 j3 j4 j5 z0 z1 z2 z3 jw
    by_cases her:er=0
    · subst her
      clear cb FA JW
      go_wp2_with fail
      go_roundw
      case rel=>exact .inr (.inr (.inr (.inr ⟨rfl,_,_,_,_,finishP5 Q1.out Q2.out Q3.out HQ.out,JJ.out⟩)))
      case measure=>simp[intOf]
    · have z1:((er:Int) != 0)=true:=by simp;omega
      have z2:¬(er:Int)=0:=by omega
      have z3:((er:Int)==0)=false:=by simp;omega
      have HE:=Lib.hid her
      clear her JJ
      go_wp2_with fail
      refine FA.out.mono ?_
      rintro e w9 ⟨⟨v9,rfl⟩,y1,ys⟩
      have Y:=Lib.hid (And.intro y1 ys)
      clear y1 ys FA cb
      go_wp2_with fail
      go_ret
      rw[finishP4 Q1.out Q2.out Q3.out HQ.out HE.out]
      have np:∀i,¬(((0,i):Nat×Nat)=(p,1)):=fun i e=>by injection e with e _;have:=HP.out;omega
      exact⟨_,rfl,Y.out.1,JW.out.1.wr Y.out.2 (np 1),JW.out.2.1.wr Y.out.2 (np 2),JW.out.2.2.1.wr Y.out.2 (np 4),JW.out.2.2.2.1.wr Y.out.2 (np 3) (np 0),JW.out.2.2.2.2.tr (Y.out.2.imp fun τ h=>.inr (.inr (.inr (by rw[h]))))⟩
  · have JX:=Lib.hid hst
    have Q4:=Lib.hid q4
    clear hst q4
    go_wp2_with fail
    go_ret
    obtain⟨Ox,g1,g2,g3,g4,g5,k0,k1,k2,k3,gw⟩:=JX.out
    rw[Q4.out]
    exact⟨Ox,rfl,g1,g2,g3,g4,g5,gw⟩
end
theorem blkL_at (L:List Nat) (j k:Nat):(blkL L j)[k]? = if k<256 then L[j*256+k]? else none:=by
 unfold blkL
 rw[List.getElem?_take]
 split
 · rw[List.getElem?_drop]
 · rfl
set_option maxRecDepth 20000 in
theorem putD_at {L b:List Nat} {n i:Nat} (hL:L.length=n*256) (hi:i<n) (hb:b.length=256) (m:Nat):(putD L b i)[m]? = if m<i*256 then L[m]? else if m<i*256+256 then b[m-i*256]? else L[m]?:=by
 unfold putD
 have h1:(L.take (i*256)).length=i*256:=by rw[List.length_take];omega
 by_cases h:m<i*256
 · rw[if_pos h,List.getElem?_append_left (by omega),List.getElem?_take,if_pos h]
 · rw[if_neg h,List.getElem?_append_right (by omega),h1]
   by_cases h2:m<i*256+256
   · rw[if_pos h2,List.getElem?_append_left (by omega)]
   · rw[if_neg h2,List.getElem?_append_right (by omega),List.getElem?_drop,hb,show i*256+256+(m-i*256-256)=m from by omega]
set_option maxRecDepth 20000 in
theorem blkL_putN {L b:List Nat} {n i:Nat} (hL:L.length=n*256) (hi:i<n) (hb:b.length=256) (j:Nat):blkL (putD L b i) j=if j=i then b else blkL L j:=by
 apply List.ext_getElem?
 intro k
 rw[blkL_at,putD_at hL hi hb]
 by_cases hj:j=i
 · subst hj
   rw[if_pos rfl]
   by_cases hk:k<256
   · have h8:¬j*256+k<j*256:=by omega
     have h9:j*256+k<j*256+256:=by omega
     rw[if_pos hk,if_neg h8,if_pos h9,show j*256+k-j*256=k from by omega]
   · have h9:b.length≤k:=by omega
     rw[if_neg hk]
     exact (List.getElem?_eq_none h9).symm
 · rw[if_neg hj,blkL_at]
   by_cases hk:k<256
   · rw[if_pos hk,if_pos hk]
     by_cases h1:j*256+k<i*256
     · rw[if_pos h1]
     · have h9:¬j*256+k<i*256+256:=by omega
       rw[if_neg h1,if_neg h9]
   · rw[if_neg hk,if_neg hk]
end Go.Proofs.YtlobgddnlnffbaaGreat
