/-
  Parts of the proof, joined.
-/
import Derived.Test.YtlbjdbaeffacgaaGreatBdt
import Derived.Test.YtlbjdbaeffacgaaGreatBdk
import Derived.Deep.QuietTactic
import Derived.Test.YtlbjdbaeffacgaaGreatBda
import Derived.JoinedOf
namespace Go.Proofs.YtlbjdbaeffacgaaGreat
set_option maxHeartbeats 4000000
open Go.RowKit
set_option linter.unusedVariables false
set_option linter.unusedSimpArgs false
theorem infoSl9:(Tryz.prog.info? 22).map (fun i=>(i.zero,i.size,i.bytes))=some (some (.slice none 0 0),1,24):=by kernel_rfl
theorem infoSs9:(Tryz.prog.info? 46).map (fun i=>(i.zero,i.size,i.bytes))=some (some (.slice none 0 0),1,24):=by kernel_rfl
theorem row_cellsV {W:World} {B n s:Nat} {e:TypeId} {A:Option Addr} {m c:Nat} {xs:List Value} (h:W.ownsRow B e s (.slice A m c) n xs) (hn:0<n):∃g,A=some ⟨g,0,none⟩∧∀(j:Nat) (u:Value),xs[j]? = some u→W.cell? ⟨g,j,none⟩=some u:=by
 rcases h.2 with ⟨_,h0⟩ | ⟨g,cap,cur,e1,hb,hg,h3,h4,h5,h6⟩
 · omega
 · simp only[Value.slice.injEq] at e1
   refine⟨g,e1.1,fun j u hj=>?_⟩
   have hjl:j<n*s:=by have:=(List.getElem?_eq_some_iff.1 hj).1;rw[h.1] at this;exact this
   have h7:(cur.toList.take (n*s))[j]? = some u:=by rw[h6];exact hj
   rw[List.getElem?_take_of_lt hjl] at h7
   rw[cell_of_row W g j _ _ (0,0) hg]
   simpa using h7
def ImL (w wr:World) (v:Value) (vs:List Value) (D:DvS) (i:Nat):Prop:=∀j,j<i→∃q,vs[j]? = some (.slice (some ⟨q,0,none⟩) 256 256)∧w.heap.size≤q∧q<wr.heap.size∧v.ownBlock≠some q∧IsB wr (some ⟨q,0,none⟩) 256 256 (blkL D.firm j)
theorem ImL.step {w wr w2 w3 wa:World} {v va:Value} {vs:List Value} {D:DvS} {i g:Nat} (h:ImL w wr v vs D i) (hv:wr.ownsRow w.heap.size 22 1 v i vs) (hw:w.heap.size≤wr.heap.size) (hb:Below wr.heap.size wr w2) (hg:wr.heap.size≤g) (hib:IsB w2 (some ⟨g,0,none⟩) 256 256 (blkL D.firm i)) (h3:Below w2.heap.size w2 w3) (hgr:w3.grownBy wa v.ownBlock) (ho:va.ownBlock=v.ownBlock∨va.ownBlock=some w3.heap.size):
 ImL w wa va (vs++[.slice (some ⟨g,0,none⟩) 256 256]) D (i+1):=fun j hj=>by
 have hl:vs.length=i:=by have:=hv.1;omega
 have f:=Fr.grown hgr
 have hs:=f.size
 have hs3:=h3.size
 have hs2:=hb.size
 by_cases hji:j<i
 · obtain⟨q,a,b,c,d,e⟩:=h j hji
   refine⟨q,by rw[List.getElem?_append_left (by omega)];exact a,b,by omega,fun e1=>?_,((e.ab hb).ab h3).fr f (fun x hx e1=>?_)⟩
   · rcases ho with ho | ho
     · rw[ho] at e1;exact d e1
     · rw[ho] at e1;injection e1 with e1;omega
   · injection hx with hx;subst hx;exact d e1
 · obtain rfl:j=i:=by omega
   have hlt:g<w2.heap.size:=by obtain⟨x,hx,hx2,_⟩:=hib.cell (by decide);injection hx with hx;subst hx;exact hx2
   have hn:v.ownBlock≠some g:=fun e1=>by have:=row_ltD hv g e1;omega
   refine⟨g,by rw[List.getElem?_append_right (by omega),hl,Nat.sub_self];rfl,by omega,by omega,fun e1=>?_,(hib.ab h3).fr f (fun x hx e1=>?_)⟩
   · rcases ho with ho | ho
     · rw[ho] at e1;exact hn e1
     · rw[ho] at e1;injection e1 with e1;omega
   · injection hx with hx;subst hx;exact hn e1
theorem ImL.img {w wr:World} {O:Tgm} {v:Value} {vs:List Value} {D:DvS} (h:ImL w wr v vs D 8) (hv:wr.ownsRow w.heap.size 22 1 v 8 vs):ImT wr (cutO O w.heap.size) v D.firm:=by
 obtain⟨A,c,rfl⟩:=row_shape hv
 obtain⟨g,rfl,hc⟩:=row_cellsV hv (by decide)
 have hgB:w.heap.size≤g:=own_ge9 hv g rfl
 refine⟨g,c,rfl,row_ltD hv g rfl,cutO_at hgB,fun i hi=>?_⟩
 obtain⟨q,a,b,c,d,e⟩:=h i hi
 exact⟨q,hc _ _ a,c,cutO_at b,e⟩
set_option maxRecDepth 100000 in
theorem image_any {w:World} {O:Tgm} {d:Nat} {D:DvS} (h:DvM w O d D) (ok:D.Ok) (h8:D.n=8):
 Calls Tryz.prog 12 #[.pointer (some ⟨d,0,none⟩)] w fun e w'=>∃v,e = .returned v∧ImT w' (cutO O w.heap.size) v D.firm∧Below w.heap.size w w':=by
 obtain⟨g1,g2,wv,hds,_⟩:=h
 have BK:=Lib.hid (blocks_any hds)
 have HD:=Lib.hid hds
 have OK:=Lib.hid ok
 have H8:=Lib.hid h8
 clear hds ok h8
 go_enter Tryz.func12,Tryz.ntmps12
 go_wp2_with fail
 refine BK.out.mono ?_
 rintro e w1 ⟨rfl,rfl⟩
 rw[H8.out]
 clear BK
 go_wp2_with fail
 go_loopw [3,9] (fun v z wr=>∃(i:Nat) (vs:List Value),i≤8∧z = .int .i64 (i:Int)∧wr.ownsRow w.heap.size 22 1 v i vs∧ImL w wr v vs D i∧Below w.heap.size w wr) (fun _ z _=>8-(intOf z).toNat)
 case atStart=>exact⟨0,[],Nat.zero_le _,rfl,World.ownsRow_nil _ _ _ _,fun j hj=>absurd hj (Nat.not_lt_zero _),Below.refl _ _⟩
 case round=>
  obtain⟨i,vs,hi,rfl,hv,hl,hb⟩:=hrel
  obtain⟨v9,hv9⟩:∃v9,u3=v9:=⟨_,rfl⟩
  rw[hv9] at hv hl⊢
  have HV:=Lib.hid hv
  have HL:=Lib.hid hl
  have HB:=Lib.hid hb
  clear hv hl hv9
  by_cases hlt:i<8
  · have hlti:(i:Int)<8:=by omega
    have HLT:=Lib.hid hlt
    have FI:=Lib.hid (firm_any i (by rw[H8.out];exact hlt) OK.out (HD.out.ab hb))
    clear hlt hi hb
    go_wp2_with fail
    refine FI.out.mono ?_
    rintro e w2 ⟨g,rfl,hg,hib,hb2⟩
    have HG:=Lib.hid (And.intro hg (And.intro hib hb2))
    have AB:Hid (Below w2.heap.size w2 (w2.alloc (.cells #[.slice (some ⟨g,0,none⟩) 256 256] 22))):=Lib.hid ((Below.refl _ _).alloc (Nat.le_refl _) _)
    have NB:Hid (CbB (w2.alloc (.cells #[.slice (some ⟨g,0,none⟩) 256 256] 22)) w2.heap.size 22 #[.slice (some ⟨g,0,none⟩) 256 256]):=Lib.hid (CbB.new _ _ _)
    clear hg hib hb2 FI
    go_wp2_with (first
     | (refine wpList_appRow9 rfl (.tmp 18) (.tmp 20) rfl Tryz.underlying46 infoSl9 rfl (B:=w.heap.size) (row_fr HV.out (Fr.of (below_tr HG.out.2.2 AB.out HG.out.2.2.size) (fun _=>False)) (fun _ _ h=>h)) rfl (y:=⟨w2.heap.size,0,none⟩) rfl (NB.out.cell (k:=0) rfl) rfl (by have:=HLT.out;omega) (by decide) (Nat.le_trans HB.out.size (Nat.le_trans HG.out.2.2.size AB.out.size)) ?_
        intro va wa hva hga hoa
        have VA:=Lib.hid hva
        have LA:=Lib.hid (HL.out.step HV.out HB.out.size HG.out.2.2 HG.out.1 HG.out.2.1 AB.out hga hoa)
        have BA:Hid (Below w.heap.size w wa):=Lib.hid (Fr.below (Fr.grown hga) (fun k hk=>own_ge9 HV.out k hk) (below_tr HB.out (below_tr HG.out.2.2 AB.out HG.out.2.2.size) HB.out.size) (Nat.le_trans HB.out.size (Nat.le_trans HG.out.2.2.size AB.out.size)))
        clear hva hga hoa))
    go_roundw
    case rel=>exact⟨i+1,_,HLT.out,by go_num,VA.out,LA.out,BA.out⟩
    case measure=>simp[intOf];have:=HLT.out;omega
  · obtain rfl:i=8:=by omega
    clear hlt hi hb
    go_wp2_with fail
    go_ret
    exact⟨_,rfl,HL.out.img HV.out,HB.out⟩
theorem addP_one {key:List Nat} (h:KeyOk key):addP (0,9) key []=(0,rR key):=by
 unfold KeyOk at h
 unfold addP
 rw[if_pos h]
 rfl
theorem ims_one {w:World} {O:Tgm} {B:Nat} {u:Value} {L:List Nat} (I:Nat→List Nat) (hI:I 0=L) (hB:B≤w.heap.size) (h:ImT w O u L):ImsT (w.alloc (.cells #[u] 46)) (markO O w.heap.size (some w.heap.size) (0,6)) B (.slice (some ⟨w.heap.size,0,none⟩) 1 1) 1 I:=by
 refine⟨[u],⟨rfl,.inr ⟨w.heap.size,1,#[u],rfl,hB,heap_alloc_new w _,Nat.le_refl _,by decide,rfl,rfl⟩⟩,fun k hk=>?_,fun i hi=>?_⟩
 · injection hk with hk
   subst hk
   exact markO_new (Nat.le_refl _)
 · obtain rfl:i=0:=by omega
   exact⟨u,rfl,by rw[hI];exact h.wr (Wr.of ((Below.refl _ _).alloc (Nat.le_refl _) _) (fun _=>False) (fun k hk=>markO_old hk)) id⟩
theorem ims_app {w3 wa:World} {O:Tgm} {B n:Nat} {v va u:Value} {vs:List Value} {I:Nat→List Nat} (h1:w3.ownsRow B 46 1 v n vs) (h2:∀k,v.ownBlock=some k→O k=(0,6)) (h3:∀i,i<n→∃u,vs[i]? = some u∧ImT w3 O u (I i)) (hu:ImT w3 O u (I n))
 (hva:wa.ownsRow B 46 1 va (n+1) (vs++[u])) (hg:w3.grownBy wa v.ownBlock) (ho:va.ownBlock=v.ownBlock∨va.ownBlock=some w3.heap.size):
 Wr (fun τ=>τ=(0,6)) w3 O wa (markO O w3.heap.size va.ownBlock (0,6))∧ImsT wa (markO O w3.heap.size va.ownBlock (0,6)) B va (n+1) I:=by
 have s:Wr (fun τ=>τ=(0,6)) w3 O wa (markO O w3.heap.size va.ownBlock (0,6)):=⟨(Fr.grown hg).imp fun k hk=>h2 k hk,fun k hk=>markO_old hk⟩
 refine⟨s,vs++[u],hva,fun k hk=>?_,fun i hi=>?_⟩
 · by_cases hlt:k<w3.heap.size
   · rcases ho with ho | ho
     · rw[ho] at hk;exact (markO_old hlt).trans (h2 k hk)
     · rw[ho] at hk;injection hk with hk;omega
   · rw[hk];exact markO_new (by omega)
 · have hl:vs.length=n:=by have:=h1.1;omega
   by_cases hin:i<n
   · obtain⟨q,a,b⟩:=h3 i hin
     exact⟨q,by rw[List.getElem?_append_left (by omega)];exact a,b.wr s (fun e=>by cases e)⟩
   · obtain rfl:i=n:=by omega
     exact⟨u,by rw[List.getElem?_append_right (by omega),hl,Nat.sub_self];rfl,hu.wr s (fun e=>by cases e)⟩
theorem ImT.one {w:World} {O:Tgm} {v:Value} {L:List Nat} (h:ImT w O v L):v.oneCell'=true:=by
 obtain⟨g,c,rfl,_⟩:=h
 rfl
theorem not_st {p i:Nat} (h0:0<p) (h1:i≠1) (h4:i≠4):¬(((0,i):Nat×Nat)=(0,1)∨((0,i):Nat×Nat)=(0,4)∨((0,i):Nat×Nat)=(p,1)):=fun e=>by
 rcases e with e | e | e <;> (injection e with e1 e2;omega)
theorem not_fn {p i:Nat} (h0:0<p) (h1:i≠1) (h2:i≠2) (h4:i≠4):¬(((0,i):Nat×Nat)=(0,1)∨((0,i):Nat×Nat)=(0,2)∨((0,i):Nat×Nat)=(0,4)∨((0,i):Nat×Nat)=(p,1)):=fun e=>by
 rcases e with e | e | e | e <;> (injection e with e1 e2;omega)
structure RwB (w wr:World) (O:Tgm) (p d rg lg r:Nat) (R:RgL) (T:PgP) (D:DvS) (S:RsS) (al:List Sl) (v:Value) (n:Nat) (I:Nat→List Nat):Prop where
 rv:RvB wr O p d rg lg r R T D S al
 im:ImsT wr O w.heap.size v n I
 bl:Below w.heap.size w wr
 ol:∀k,k<w.heap.size→O k=(0,9)
section
variable {w wr w':World} {O O':Tgm} {p d rg lg r n:Nat} {R R':RgL} {T T':PgP} {D D':DvS} {S S':RsS} {al al':List Sl} {v:Value} {I:Nat→List Nat} {P:Nat×Nat→Prop}
theorem RwB.ab (h:RwB w wr O p d rg lg r R T D S al v n I) (hb:Below wr.heap.size wr w'):RwB w w' (cutO O wr.heap.size) p d rg lg r R T D S al v n I:=
 ⟨h.rv.ab hb,h.im.wr (Wr.cut hb (fun _=>False)) id id,below_tr h.bl hb h.bl.size,fun k hk=>(cutO_old (Nat.lt_of_lt_of_le hk h.bl.size)).trans (h.ol k hk)⟩
theorem RwB.step (h:RwB w wr O p d rg lg r R T D S al v n I) (s:Wr P wr O w' O') (h0:∀i,i=0∨i=6∨i=9→¬P (0,i)) (hr:RvB w' O' p d rg lg r R' T' D' S' al'):RwB w w' O' p d rg lg r R' T' D' S' al' v n I:=
 ⟨hr,h.im.wr s (h0 0 (by simp)) (h0 6 (by simp)),s.below h.bl h.bl.size (fun k hk e=>h0 9 (by simp) (by rw[←h.ol k hk];exact e)),fun k hk=>(s.tg k (Nat.lt_of_lt_of_le hk h.bl.size)).trans (h.ol k hk)⟩
end
set_option maxRecDepth 100000 in
theorem rback_walk (kA:Option Addr) (kn kc:Nat) (zk:List Int) (tA:Option Addr) (tn tc:Nat) (zt:List Int) (old:Int) (w:World) (hk0:IsRow .u8 w kA kn kc zk) (_:kc*1≤140737488351232) (ht0:IsRow .u32 w tA tn tc zt) (_:tc*4≤140737488351232) (hold:(Lit.int .i64 old).wf=true):
 Calls Tryz.prog 3 #[.slice kA kn kc,.slice tA tn tc,.int .i64 old] w fun e w'=>e = .returned (.bool true)∧Below w.heap.size w w':=by
 obtain⟨key,rfl,hkb⟩:=byt_of_row hk0
 obtain⟨ts,rfl,htb⟩:=wrd_of_row ht0
 have IK:Hid (IsB w kA kn kc key):=Lib.hid ⟨hk0,hkb⟩
 have IT:Hid (IsW w tA tn tc ts):=Lib.hid ⟨ht0,htb⟩
 clear hk0 ht0 hkb htb
 have LN:Hid (key.length=kn):=Lib.hid IK.out.len
 have TL:Hid (ts.length=tn):=Lib.hid IT.out.len
 by_cases h12:12<tn
 · have h12i:(12:Int)<(tn:Int):=by omega
   clear h12
   go_enter Tryz.func3,Tryz.ntmps3
   go_wp2_with fail
   refine (known21_any w).mono ?_
   rintro e w1 ⟨rfl,hb⟩
   have B1:=Lib.hid hb
   clear hb
   go_wp2_with fail
   go_ret
   exact⟨rfl,B1.out⟩
 have h12i:¬(12:Int)<(tn:Int):=by omega
 have H12:=Lib.hid h12
 clear h12
 by_cases hko:kn=16∨kn=32
 · have KO : Hid (KeyOk key):=Lib.hid (by unfold KeyOk;have:=LN.out;omega)
   have BY:Hid (Byt key):=Lib.hid IK.out.2
   have TB:Hid (∀t∈ts,t<4294967296):=Lib.hid IT.out.2
   have OKD:Hid (∀i st,i≤1000→(k2D (rI key ts i) (rI key ts i) st).Ok):=Lib.hid fun i st h=>rD_ok KO.out BY.out TB.out h st
   go_enter Tryz.func3,Tryz.ntmps3
   rcases hko with rfl | rfl
   all_goals
    go_wp2_with fail
    refine (diskNew_any 8 w (by decide) (by decide)).mono ?_
    rintro e w1 ⟨d,g1,g2,rfl,hd,hb1⟩
    have D1:=Lib.hid hd.ds
    have B1:=Lib.hid hb1
    clear hd hb1
    go_wp2_with fail
    refine (regsNew_nil d 1099511627776 w1).mono ?_
    rintro e w2 ⟨rfl,hx,hb2⟩
    obtain⟨r,hr0⟩:∃r,w1.heap.size=r:=⟨_,rfl⟩
    rw[hr0] at hx⊢
    have X2:=Lib.hid hx
    have D2:=Lib.hid (D1.out.ab hb2)
    have B2:=Lib.hid (below_tr B1.out hb2 B1.out.size)
    have RL:Hid (w.heap.size≤r):=Lib.hid (by rw[←hr0];exact B1.out.size)
    clear hx hb2 hr0 D1 B1
    go_wp2_with fail
    refine (newRing_any w2).mono ?_
    rintro e w3 ⟨rg,m,rfl,hge,hr,hb3⟩
    have D3:=Lib.hid (D2.out.ab hb3)
    have X3:=Lib.hid (X2.out.ab hb3)
    have R3:=Lib.hid (hr.lowr B2.out.size)
    have GE3:=Lib.hid (Nat.le_trans B2.out.size hge)
    have B3:=Lib.hid (below_tr B2.out hb3 B2.out.size)
    clear hr hb3 hge D2 B2 X2
    go_wp2_with fail
    refine (newLog_any w3).mono ?_
    rintro e w4 ⟨lg,rfl,hge,hl,hb4⟩
    have D4:=Lib.hid (D3.out.ab hb4)
    have X4:=Lib.hid (X3.out.ab hb4)
    have R4:=Lib.hid (R3.out.ab hb4)
    have GE4:=Lib.hid (Nat.le_trans B3.out.size hge)
    have B4:=Lib.hid (below_tr B3.out hb4 B3.out.size)
    have L4:=Lib.hid (LgB.empty (B:=w.heap.size) hl B4.out.size)
    clear hl hb4 hge D3 B3 R3 X3
    obtain⟨dv,ri,lo⟩:=stageX (τ:=(0,4)) D4.out R4.out GE3.out L4.out GE4.out X4.out (by decide)
    obtain⟨O4,hO4⟩:∃O4,stX w4 w.heap.size m r (0,4)=O4:=⟨_,rfl⟩
    have OL:Hid (∀k,k<w.heap.size→O4 k=(0,9)):=Lib.hid fun k hk=>by rw[←hO4];exact stX_low RL.out hk
    have TX:Hid (O4 r=(0,4)):=Lib.hid (by rw[←hO4];exact stX_x)
    rw[hO4] at dv ri lo
    have DV:=Lib.hid dv
    have RI:=Lib.hid ri
    have LO:=Lib.hid lo
    have RS:Hid (RsM w4 O4 r d ⟨1099511627776,0,0⟩):=Lib.hid ⟨X4.out,TX.out,show 1099511627776<18446744073709551616 by decide,show 0≤1099511627776 by decide,show 0≤0 by decide⟩
    clear dv ri lo hO4 D4 R4 L4 X4 GE3 GE4 TX RL
    go_wp2_with fail
    have b5:Below w4.heap.size w4 (w4.alloc (.cells #[.int .u32 2,.int .u32 8] 42)):=(Below.refl _ _).alloc (Nat.le_refl _) _
    have s5:Wr (fun _=>False) w4 O4 (w4.alloc (.cells #[.int .u32 2,.int .u32 8] 42)) O4:=Wr.of b5 _ (fun _ _=>rfl)
    have r5:RnB (w4.alloc (.cells #[.int .u32 2,.int .u32 8] 42)) (some ⟨w4.heap.size,0,none⟩) 1 1 [(2,8)]:=by
     obtain⟨A,c,h1,h2,_⟩:=(RuB.one w4 2 8).rn
     injection h1 with e1 e2 e3
     subst e1 e3
     exact h2
    refine (new_ok (DV.out.wr s5 id) r5 (by decide) (by decide) (by decide) (rg:=rg) (lg:=lg)).mono ?_
    rintro e w6 ⟨p,O6,rfl,hp6,s6,hge6⟩
    have P6:=Lib.hid hp6
    have S6:=Lib.hid (s5.tr s6)
    have PP:Hid (0<p):=Lib.hid (by obtain⟨b,h,_⟩:=hp6;exact h.pos)
    have DV6:=Lib.hid (DV.out.wr S6.out id)
    have RI6:=Lib.hid (RI.out.wr S6.out id id)
    have LO6:=Lib.hid (LO.out.wr S6.out id)
    have RS6:=Lib.hid (RS.out.wr S6.out id)
    have hI:=IK.out.ab (S6.out.below B4.out B4.out.size (fun _ _ h=>h))
    have RA:=Lib.hid (ringAddM (t:=0) (gn:=9) RI6.out (by decide) (by decide) hI)
    rw[addP_one KO.out] at RA
    clear b5 s5 r5 hp6 s6 hge6 hI DV RI LO RS
    go_wp2_with fail
    refine RA.out.mono ?_
    rintro e w7 ⟨O7,rfl,hr7,s7⟩
    have T7:=Lib.hid ((S6.out.imp (Q:=fun τ=>τ=(0,3)) fun _=>False.elim).tr s7)
    have RV7:Hid (RvB w7 O7 p d rg lg r (rR key) (rT 0) (rD key ts 0) (rS 0) (rL key ts 0)):=Lib.hid ⟨P6.out.wr s7 (fun i e=>by have:=PP.out;injection e with e;omega) (fun e=>by cases e),DV6.out.wr s7 (fun e=>by cases e),hr7,LO6.out.wr s7 (fun e=>by cases e),RS6.out.wr s7 (fun e=>by cases e)⟩
    have B7:Hid (Below w.heap.size w w7):=Lib.hid (T7.out.below B4.out B4.out.size (fun k hk h=>by rw[OL.out k hk] at h;cases h))
    have OL7:Hid (∀k,k<w.heap.size→O7 k=(0,9)):=Lib.hid fun k hk=>(T7.out.tg k (Nat.lt_of_lt_of_le hk B4.out.size)).trans (OL.out k hk)
    have IM:=Lib.hid (image_any RV7.out.dv (OKD.out 0 _ (by decide)) rfl)
    clear hr7 s7 S6 P6 DV6 RI6 LO6 RS6 T7 OL B4 RA
    go_wp2_with fail
    refine IM.out.mono ?_
    rintro e w8 ⟨v8,rfl,him,hb8⟩
    obtain⟨q8,c8,hv8⟩:∃q8 c8,v8 = .slice (some ⟨q8,0,none⟩) 8 c8:=by obtain⟨g,c,e,_⟩:=him;exact⟨g,c,e⟩
    subst hv8
    have hs8:w.heap.size≤w8.heap.size:=Nat.le_trans B7.out.size hb8.size
    have a9:Below w8.heap.size w8 (w8.alloc (.cells #[.slice (some ⟨q8,0,none⟩) 8 c8] 46)):=(Below.refl _ _).alloc (Nat.le_refl _) _
    have RW:Hid (RwB w (w8.alloc (.cells #[.slice (some ⟨q8,0,none⟩) 8 c8] 46)) (markO (cutO O7 w7.heap.size) w8.heap.size (some w8.heap.size) (0,6)) p d rg lg r (rR key) (rT 0) (rD key ts 0) (rS 0) (rL key ts 0) (.slice (some ⟨w8.heap.size,0,none⟩) 1 1) 1 (rI key ts)):=
     Lib.hid ⟨(RV7.out.ab hb8).no (Wr.of a9 (fun _=>False) (fun k hk=>markO_old hk)) (fun _=>id) (fun _ _=>id),ims_one (rI key ts) rfl hs8 him,below_tr (below_tr B7.out hb8 B7.out.size) a9 hs8,fun k hk=>(markO_old (Nat.lt_of_lt_of_le hk hs8)).trans ((cutO_old (Nat.lt_of_lt_of_le hk B7.out.size)).trans (OL7.out k hk))⟩
    clear him hb8 a9 hs8 IM RV7 B7 OL7
    go_wp2_with fail
    go_loopw [14,79] (fun v z wr=>∃(i:Nat) (O1:Tgm),i≤tn∧z = .int .i64 (i:Int)∧RwB w wr O1 p d rg lg r (rR key) (rT i) (rD key ts i) (rS i) (rL key ts i) v (i+1) (rI key ts)) (fun _ z _=>tn-(intOf z).toNat)
    case atStart=>exact⟨0,_,Nat.zero_le _,rfl,RW.out⟩
    case round=>
     clear RW
     obtain⟨i,O1,hi,rfl,hrw⟩:=hrel
     obtain⟨v9,hv9⟩:∃v9,u14=v9:=⟨_,rfl⟩
     rw[hv9] at hrw⊢
     have RV:=Lib.hid hrw
     clear hrw hv9
     by_cases hlt:i<tn
     · have hlti:(i:Int)<(tn:Int):=by omega
       have HLT:=Lib.hid hlt
       have I9:Hid (i<900):=Lib.hid (by have:=H12.out;omega)
       have ST:=Lib.hid (start_rv KO.out BY.out TB.out I9.out RV.out.rv)
       have HP:=Lib.hid RV.out.rv.pos
       obtain⟨n,hn⟩:∃n,i+1=n:=⟨_,rfl⟩
       obtain⟨t,htt⟩:∃t,ts.getD i 0=t:=⟨_,rfl⟩
       have HN:=Lib.hid hn
       have HT:=Lib.hid htt
       clear hlt hi hn htt
       go_wp2_with fail
       refine ST.out.mono ?_
       rintro e w1 ⟨O2,rfl,hr2,hs2⟩
       rw[HN.out]
       have R2:=Lib.hid (RV.out.step hs2 (fun i h=>not_st HP.out (by omega) (by omega)) hr2)
       obtain⟨yt,rfl,_,hct⟩:=(IT.out.ab R2.out.bl).cell (by have:=HLT.out;omega)
       have hcell:=hct i HLT.out
       rw[HT.out] at hcell
       have AB:Hid (Below w1.heap.size w1 (w1.alloc (.cells #[.int .u64 (n:Int),.int .u32 0,.int .u64 0,.int .u16 0,.int .u8 0,.int .u16 9,.int .u32 (t:Int)] 56))):=Lib.hid ((Below.refl _ _).alloc (Nat.le_refl _) _)
       have NB:Hid (CbB (w1.alloc (.cells #[.int .u64 (n:Int),.int .u32 0,.int .u64 0,.int .u16 0,.int .u8 0,.int .u16 9,.int .u32 (t:Int)] 56)) w1.heap.size 56 #[.int .u64 (n:Int),.int .u32 0,.int .u64 0,.int .u16 0,.int .u8 0,.int .u16 9,.int .u32 (t:Int)]):=Lib.hid (CbB.new _ _ _)
       have R3:=Lib.hid (R2.out.ab AB.out)
       have FN:Hid (Calls Tryz.prog 14 #[.pointer (some ⟨p,0,none⟩),.pointer (some ⟨r,0,none⟩),.agg #[.int .u64 (n:Int),.int .u32 0,.int .u64 0,.int .u16 0,.int .u8 0,.int .u16 9,.int .u32 (t:Int)]] (w1.alloc (.cells #[.int .u64 (n:Int),.int .u32 0,.int .u64 0,.int .u16 0,.int .u8 0,.int .u16 9,.int .u32 (t:Int)] 56)) fun e w'=>∃O',e = .returned (.int .i64 0)∧RvB w' O' p d rg lg r (rR key) (rT n) (rD key ts n) (rS n) (rL key ts n)∧Wr (fun τ=>τ=(0,1)∨τ=(0,2)∨τ=(0,4)∨τ=(p,1)) (w1.alloc (.cells #[.int .u64 (n:Int),.int .u32 0,.int .u64 0,.int .u16 0,.int .u8 0,.int .u16 9,.int .u32 (t:Int)] 56)) (cutO O2 w1.heap.size) w' O'):=Lib.hid (by
        have h:=finish_rv KO.out BY.out TB.out I9.out R3.out.rv
        rw[HN.out,HT.out] at h
        exact h)
       clear hr2 hs2 hct ST RV R2
       go_wp2_with fail
       refine FN.out.mono ?_
       rintro e w2 ⟨O3,rfl,hr3,hs3⟩
       have R4:=Lib.hid (R3.out.step hs3 (fun i h=>not_fn HP.out (by omega) (by omega) (by omega)) hr3)
       have G4:Hid (CbB w2 w1.heap.size 56 #[.int .u64 (n:Int),.int .u32 0,.int .u64 0,.int .u16 0,.int .u8 0,.int .u16 9,.int .u32 (t:Int)]):=Lib.hid (CbB.fr NB.out hs3.fr (fun e=>by rw[cutO_at (Nat.le_refl _)] at e;exact not_fn (i:=0) HP.out (by decide) (by decide) (by decide) e))
       have VO:Hid (Calls Tryz.prog 15 #[.pointer (some ⟨d,0,none⟩),.pointer (some ⟨r,0,none⟩),.pointer (some ⟨rg,0,none⟩)] w2 fun e w'=>e = .returned (.tuple #[.agg #[.int .u64 (n:Int),.int .u32 0,.int .u64 0,.int .u16 0,.int .u8 0,.int .u16 9,.int .u32 (t:Int)],.int .i64 0])∧Below w2.heap.size w2 w'):=Lib.hid (by
        have h9:=I9.out
        have h0:=HN.out
        have h:=vopenM R4.out.rv.dv (OKD.out n _ (by omega)) rfl R4.out.rv.rs R4.out.rv.ri (by show 0<n;omega)
        have e1:=open_now (i:=i) KO.out TB.out (by omega)
        have e2:rM ts (i+1)=⟨i+1,0,0,0,0,9,t⟩:=by unfold rM;rw[Nat.add_sub_cancel,HT.out]
        rw[e2,HN.out] at e1
        exact h.mono fun e w' ⟨h1,h2⟩=>⟨h1.trans (congrArg (fun q=>Ending.returned (opnV q)) e1),h2⟩)
       clear hr3 hs3 hcell FN AB NB R3
       go_wp2_with fail
       refine VO.out.mono ?_
       rintro e w3 ⟨rfl,hb3⟩
       have A4:Hid (Below w3.heap.size w3 (w3.alloc (.cells #[.int .u64 (n:Int),.int .u32 0,.int .u64 0,.int .u16 0,.int .u8 0,.int .u16 9,.int .u32 (t:Int)] 56))):=Lib.hid ((Below.refl _ _).alloc (Nat.le_refl _) _)
       have R5:=Lib.hid ((R4.out.ab hb3).ab A4.out)
       have G5:=Lib.hid ((G4.out.ab hb3).ab A4.out)
       have d0:(w3.alloc (.cells #[.int .u64 (n:Int),.int .u32 0,.int .u64 0,.int .u16 0,.int .u8 0,.int .u16 9,.int .u32 (t:Int)] 56)).cell? ⟨w1.heap.size,0,none⟩=some (.int .u64 (n:Int)):=G5.out.cell (k:=0) rfl
       have d1:(w3.alloc (.cells #[.int .u64 (n:Int),.int .u32 0,.int .u64 0,.int .u16 0,.int .u8 0,.int .u16 9,.int .u32 (t:Int)] 56)).cell? ⟨w1.heap.size,1,none⟩=some (.int .u32 0):=G5.out.cell (k:=1) rfl
       have d2:(w3.alloc (.cells #[.int .u64 (n:Int),.int .u32 0,.int .u64 0,.int .u16 0,.int .u8 0,.int .u16 9,.int .u32 (t:Int)] 56)).cell? ⟨w1.heap.size,2,none⟩=some (.int .u64 0):=G5.out.cell (k:=2) rfl
       have d3:(w3.alloc (.cells #[.int .u64 (n:Int),.int .u32 0,.int .u64 0,.int .u16 0,.int .u8 0,.int .u16 9,.int .u32 (t:Int)] 56)).cell? ⟨w1.heap.size,3,none⟩=some (.int .u16 0):=G5.out.cell (k:=3) rfl
       have d4:(w3.alloc (.cells #[.int .u64 (n:Int),.int .u32 0,.int .u64 0,.int .u16 0,.int .u8 0,.int .u16 9,.int .u32 (t:Int)] 56)).cell? ⟨w1.heap.size,4,none⟩=some (.int .u8 0):=G5.out.cell (k:=4) rfl
       have d5:(w3.alloc (.cells #[.int .u64 (n:Int),.int .u32 0,.int .u64 0,.int .u16 0,.int .u8 0,.int .u16 9,.int .u32 (t:Int)] 56)).cell? ⟨w1.heap.size,5,none⟩=some (.int .u16 9):=G5.out.cell (k:=5) rfl
       have d6:(w3.alloc (.cells #[.int .u64 (n:Int),.int .u32 0,.int .u64 0,.int .u16 0,.int .u8 0,.int .u16 9,.int .u32 (t:Int)] 56)).cell? ⟨w1.heap.size,6,none⟩=some (.int .u32 (t:Int)):=G5.out.cell (k:=6) rfl
       have IG:=Lib.hid (image_any R5.out.rv.dv (OKD.out n _ (by have:=I9.out;have:=HN.out;omega)) rfl)
       clear hb3 R4 G4 VO
       go_wp2_with fail
       refine IG.out.mono ?_
       rintro e w4 ⟨v4,rfl,him4,hb4⟩
       obtain⟨q4,c4,hv4⟩:∃q4 c4,v4 = .slice (some ⟨q4,0,none⟩) 8 c4:=by obtain⟨g,c,e,_⟩:=him4;exact⟨g,c,e⟩
       subst hv4
       have A5:Hid (Below w4.heap.size w4 (w4.alloc (.cells #[.slice (some ⟨q4,0,none⟩) 8 c4] 46))):=Lib.hid ((Below.refl _ _).alloc (Nat.le_refl _) _)
       have N5:Hid (CbB (w4.alloc (.cells #[.slice (some ⟨q4,0,none⟩) 8 c4] 46)) w4.heap.size 46 #[.slice (some ⟨q4,0,none⟩) 8 c4]):=Lib.hid (CbB.new _ _ _)
       have R6:=Lib.hid ((R5.out.ab hb4).ab A5.out)
       have I6:=Lib.hid (him4.wr (Wr.cut A5.out (fun _=>False)) id)
       have O6:=Lib.hid I6.out.one
       obtain⟨vs,k1,k2,k3⟩:=R6.out.im
       rw[HN.out] at k1 k3
       have K6:=Lib.hid (And.intro k1 (And.intro k2 k3))
       clear him4 hb4 k1 k2 k3 IG A4 R5 G5 d0 d1 d2 d3 d4 d5 d6
       go_wp2_with (first
        | (refine wpList_appRow9 rfl (.tmp 117) (.tmp 120) rfl Tryz.underlying48 infoSs9 rfl (B:=w.heap.size) K6.out.1 rfl (y:=⟨w4.heap.size,0,none⟩) rfl (N5.out.cell (k:=0) rfl) O6.out (by have:=I9.out;have:=HN.out;omega) (by decide) R6.out.bl.size ?_
           intro va wa hva hga hoa
           have hap:=ims_app (I:=rI key ts) K6.out.1 K6.out.2.1 K6.out.2.2 I6.out hva hga hoa
           have RA:Hid (RwB w wa (markO _ _ va.ownBlock (0,6)) p d rg lg r (rR key) (rT n) (rD key ts n) (rS n) (rL key ts n) va (n+1) (rI key ts)):=Lib.hid ⟨R6.out.rv.no hap.1 (fun j e=>by have:=HP.out;injection e with e;omega) (fun j hj e=>by injection e with e1 e2;omega),hap.2,hap.1.below R6.out.bl R6.out.bl.size (fun k hk e=>by rw[R6.out.ol k hk] at e;cases e),fun k hk=>(hap.1.tg k (Nat.lt_of_lt_of_le hk R6.out.bl.size)).trans (R6.out.ol k hk)⟩
           clear hva hga hoa hap))
       go_roundw
       case rel=>exact⟨n,_,(by have:=HLT.out;have:=HN.out;omega),(by have h:=HN.out;subst h;go_num),RA.out⟩
       case measure=>simp[intOf];have:=HLT.out;omega
     · obtain rfl:tn=i:=by omega
       clear hlt hi
       by_cases ht0:tn=0
       · have ht0i:(tn:Int)=0:=by omega
         have BW:=Lib.hid RV.out.bl
         clear ht0 RV
         go_wp2_with fail
         refine (known21_any wr).mono ?_
         rintro e w1 ⟨rfl,hb⟩
         have B1:=Lib.hid (below_tr BW.out hb BW.out.size)
         clear hb
         go_wp2_with fail
         go_ret
         exact⟨rfl,B1.out⟩
       have ht0i:¬(tn:Int)=0:=by omega
       by_cases hol:old<0
       · have BW:=Lib.hid RV.out.bl
         clear ht0 RV
         go_wp2_with fail
         refine (known21_any wr).mono ?_
         rintro e w1 ⟨rfl,hb⟩
         have B1:=Lib.hid (below_tr BW.out hb BW.out.size)
         clear hb
         go_wp2_with fail
         go_ret
         exact⟨rfl,B1.out⟩
       obtain⟨o,rfl⟩:=Int.eq_ofNat_of_zero_le (show 0≤old by omega)
       have t0:0<tn:=by omega
       obtain⟨j,hj⟩:∃j,o%tn=j:=⟨_,rfl⟩
       have hjt:j<tn:=by rw[←hj];exact Nat.mod_lt _ t0
       have r1:(o:Int).tmod (tn:Int)=(j:Int):=by rw[←hj];rfl
       have r2:(o:Int)%(tn:Int)=(j:Int):=by rw[←hj];exact (Int.natCast_emod o tn).symm
       have r3:wrap64 ((o:Int).tmod (tn:Int))=(j:Int):=by rw[r1,IntWalk.wrap64_in _ (by have:=H12.out;omega)]
       obtain⟨m,hmm⟩:∃m,tn+1=m:=⟨_,rfl⟩
       have RM:=RV.out
       rw[hmm] at RM
       have ol0:¬(o:Int)<0:=hol
       have j0:(0:Int)≤(j:Int):=by omega
       have j1:(j:Int)<(m:Int):=by omega
       obtain⟨vs,k1,k2,k3⟩:=RM.im
       obtain⟨A,c,rfl⟩:=row_shape k1
       obtain⟨g,rfl,hc⟩:=row_cellsV k1 (by omega)
       obtain⟨u,ku,kI⟩:=k3 j (by omega)
       obtain⟨gi,ci,rfl,gl,gt,kq⟩:=kI
       have cu:wr.cell? ⟨g,j,none⟩=some (.slice (some ⟨gi,0,none⟩) 8 ci):=hc j _ ku
       have cu2:wr.cell? ((⟨g,0,none⟩:Addr).add j)=some (.slice (some ⟨gi,0,none⟩) 8 ci):=by rw[show (⟨g,0,none⟩:Addr).add j=⟨g,j,none⟩ from by unfold Addr.add;split <;> simp_all];exact cu
       have IU:Hid (ImT wr O1 (.slice (some ⟨gi,0,none⟩) 8 ci) (rI key ts j)):=Lib.hid ⟨gi,ci,rfl,gl,gt,kq⟩
       have RU:=Lib.hid RM.rv
       have BU:=Lib.hid RM.bl
       have OU:=Lib.hid RM.ol
       have HJ:=Lib.hid hjt
       have N9:Hid (tn<900):=Lib.hid (by have:=H12.out;omega)
       have LD:Hid (∀k,k≤8→(layD (rD key ts tn) (rI key ts j) k).Ok∧(layD (rD key ts tn) (rI key ts j) k).n=8∧(layD (rD key ts tn) (rI key ts j) k).down=(rD key ts tn).down∧∀j',j'<k→blkL (layD (rD key ts tn) (rI key ts j) k).now j'=blkL (rI key ts j) j'):=Lib.hid (layD_facts (D:=rD key ts tn) (OKD.out tn (5*tn) (by have:=N9.out;omega)) (show (k2D (rI key ts tn) (rI key ts tn) (5*tn)).n=8 from rfl) (rI_len KO.out j) (rI_byt KO.out BY.out TB.out j (by have:=N9.out;omega)))
       clear RM RV k1 k2 k3 hc ku gl gt kq hj hjt t0 ht0 hol hmm
       go_wp2_with fail
       go_loopw [140] (fun z wx=>∃(k:Nat) (O2:Tgm),k≤8∧z = .int .i64 (k:Int)∧RvB wx O2 p d rg lg r (rR key) (rT tn) (layD (rD key ts tn) (rI key ts j) k) (rS tn) (rL key ts tn)∧ImT wx O2 (.slice (some ⟨gi,0,none⟩) 8 ci) (rI key ts j)∧Below w.heap.size w wx∧∀k,k<w.heap.size→O2 k=(0,9)) (fun z _=>8-(intOf z).toNat)
       case atStart=>exact⟨0,O1,Nat.zero_le _,rfl,RU.out,IU.out,BU.out,OU.out⟩
       case round=>
        clear cu cu2 IU RU BU OU
        obtain⟨k,O2,hk,rfl,hrv,him,hb,hol⟩:=hrel
        have RU:=Lib.hid hrv
        have IU:=Lib.hid him
        have BU:=Lib.hid hb
        have OU:=Lib.hid hol
        clear hrv hb hol
        by_cases hlt:k<8
        · have hlti:(k:Int)<8:=by omega
          have k0:(0:Int)≤(k:Int):=by omega
          have HLT:=Lib.hid hlt
          obtain⟨g',c',e',gl,gt,kq⟩:=him
          simp only[Value.slice.injEq,Option.some.injEq,Addr.mk.injEq,and_true,true_and] at e'
          obtain⟨rfl,rfl⟩:=e'
          obtain⟨q,cq,ql,qt,qb⟩:=kq k hlt
          have cq2:wr.cell? ((⟨gi,0,none⟩:Addr).add k)=some (.slice (some ⟨q,0,none⟩) 256 256):=by rw[show (⟨gi,0,none⟩:Addr).add k=⟨gi,k,none⟩ from by unfold Addr.add;split <;> simp_all];exact cq
          have FO:=Lib.hid (foreignM k (by rw[(LD.out k (by omega)).2.1];exact hlt) (some ⟨q,0,none⟩) 256 (blkL (rI key ts j) k) (LD.out k (by omega)).1 RU.out.dv qb (fun x hx e=>by injection hx with hx;subst hx;rw[qt] at e;cases e))
          clear hlt hk gl gt kq ql qt qb
          go_wp2_with fail
          refine FO.out.mono ?_
          rintro e w1 ⟨rfl,hd1,hs1⟩
          have hp:=RU.out.pos
          have R1:Hid (RvB w1 _ p d rg lg r (rR key) (rT tn) (layD (rD key ts tn) (rI key ts j) (k+1)) (rS tn) (rL key ts tn)):=Lib.hid ⟨RU.out.pg.wr hs1 (fun i e=>by injection e with e;omega) (fun e=>by cases e),hd1,RU.out.ri.wr hs1 (fun e=>by cases e) (fun e=>by cases e),RU.out.lo.wr hs1 (fun e=>by cases e),RU.out.rs.wr hs1 (fun e=>by cases e)⟩
          have I1:=Lib.hid (IU.out.wr hs1 (fun e=>by cases e))
          have B1:Hid (Below w.heap.size w w1):=Lib.hid (hs1.below BU.out BU.out.size (fun k hk e=>by rw[OU.out k hk] at e;cases e))
          have O1':=Lib.hid (fun k (hk:k<w.heap.size)=>(hs1.tg k (Nat.lt_of_lt_of_le hk BU.out.size)).trans (OU.out k hk))
          clear hd1 hs1 FO RU IU BU OU hp cq cq2
          go_wp2_with fail
          go_roundw
          case rel=>exact⟨k+1,_,HLT.out,by go_num,R1.out,I1.out,B1.out,O1'.out⟩
          case measure=>simp[intOf];have:=HLT.out;omega
        · obtain rfl:k=8:=by omega
          have VO:Hid (Calls Tryz.prog 15 #[.pointer (some ⟨d,0,none⟩),.pointer (some ⟨r,0,none⟩),.pointer (some ⟨rg,0,none⟩)] wr fun e w'=>e = .returned (.tuple #[.agg #[.int .u64 0,.int .u32 0,.int .u64 0,.int .u16 0,.int .u8 0,.int .u16 0,.int .u32 0],.int .i64 210])∧Below wr.heap.size wr w'):=Lib.hid (by
           have h8:=LD.out 8 (Nat.le_refl _)
           have h:=vopenM RU.out.dv h8.1 (by rw[h8.2.2.1];rfl) RU.out.rs RU.out.ri (by show 0<tn;have:=HJ.out;omega)
           have e1:=open_back (n:=tn) KO.out TB.out HJ.out (by have:=N9.out;omega) (h8.2.2.2 (tn%2) (by omega))
           exact h.mono fun e w' ⟨h1,h2⟩=>⟨h1.trans (congrArg (fun q=>Ending.returned (opnV q)) e1),h2⟩)
          clear hlt hk him RU IU
          go_wp2_with fail
          refine VO.out.mono ?_
          rintro e w1 ⟨rfl,hb1⟩
          have B1:=Lib.hid (below_tr BU.out hb1 BU.out.size)
          have B2:Hid (Below w.heap.size w (w1.alloc (.cells #[.int .u64 0,.int .u32 0,.int .u64 0,.int .u16 0,.int .u8 0,.int .u16 0,.int .u32 0] 56))):=Lib.hid (B1.out.alloc B1.out.size _)
          clear hb1 VO BU OU
          go_wp2_with fail
          refine (known21_any _).mono ?_
          rintro e w2 ⟨rfl,hb2⟩
          have B3:=Lib.hid (below_tr B2.out hb2 B2.out.size)
          clear hb2
          go_wp2_with fail
          go_ret
          exact⟨rfl,B3.out⟩
 · have n16:¬(kn:Int)=16:=by omega
   have n32:¬(kn:Int)=32:=by omega
   have m16:((kn:Int)==16)=false:=beq_eq_false_iff_ne.2 n16
   have m32:((kn:Int)==32)=false:=beq_eq_false_iff_ne.2 n32
   have b16:((kn:Int) != 16)=true:=by rw[bne,m16];rfl
   have b32:((kn:Int) != 32)=true:=by rw[bne,m32];rfl
   go_enter Tryz.func3,Tryz.ntmps3
   clear hko
   go_wp2_with fail
   refine (known21_any w).mono ?_
   rintro e w1 ⟨rfl,hb⟩
   have B1:=Lib.hid hb
   clear hb
   go_wp2_with fail
   go_ret
   exact⟨rfl,B1.out⟩
open Go.ChangeShapes Go.WideShapes Go.ChangeAt Go.RowKit
theorem make_of {P:Program} {l:List Char} (h:P.initOrder=String.ofList l) (hw:(match behindMainWord (wordsSigns l) with | c::_=>!(c == "gc".toList||c == "spec".toList)&&c == "cut".toList | []=>false)=true):P.make=some .cut:=by
 unfold Program.make
 rw[h,String.toList_ofList]
 revert hw
 generalize behindMainWord (wordsSigns l)=W
 cases W with
 | nil=>intro hw;cases hw
 | cons c r=>
   intro hw
   simp only[Bool.and_eq_true,Bool.not_eq_true'] at hw
   simp only[hw.1,hw.2,Bool.true_or,if_true]
   rfl
theorem lifts_of {P:Program} {l:List Char} (h:P.initOrder=String.ofList l) (hw:(!((behindMainWord (wordsSigns l)).head? == some "carried".toList)&&(stripLifts liftWords (behindMainWord (wordsSigns l))).1.isEmpty)=true):P.liftsFinal=false:=by
 unfold Program.liftsFinal Program.headLifts
 rw[h,String.toList_ofList]
 revert hw
 generalize behindMainWord (wordsSigns l)=W
 intro hw
 simp only[Bool.and_eq_true,Bool.not_eq_true',List.isEmpty_iff] at hw
 simp only[hw.1,hw.2,Bool.false_and,Bool.false_or]
 split <;> rfl
theorem enter_of {P:Program} {l:List Char} (h:P.initOrder=String.ofList l) (hw:(match behindMainWord (wordsSigns l) with | c::rest=>((stripLifts liftWords (c::rest)).2.head? == some "cut".toList&&(stripLifts liftWords (c::rest)).1.isEmpty) | []=>false)=true)
 (hl:P.laysLater=false) (hr:P.bearsReflect=false) (hd:P.doorRows=[]):P.mayEnter=true:=by
 unfold Program.mayEnter Program.doorFits
 rw[h,String.toList_ofList]
 revert hw
 generalize behindMainWord (wordsSigns l)=W
 cases W with
 | nil=>intro hw;cases hw
 | cons c r=>
   intro hw
   simp only[Bool.and_eq_true,List.isEmpty_iff] at hw
   simp only[hw.1,hw.2,hl,hr,hd]
   simp
set_option maxRecDepth 1000000 in
theorem J.make:Tryz.checked.prog.make=some .cut:=make_of rfl (by kernel_rfl)
set_option maxRecDepth 1000000 in
theorem J.lifts:Tryz.checked.prog.liftsFinal=false:=lifts_of rfl (by kernel_rfl)
set_option maxRecDepth 1000000 in
theorem J.enter:Tryz.checked.prog.mayEnter=true:=enter_of rfl (by kernel_rfl) (by kernel_rfl) (by kernel_rfl) (by kernel_rfl)
theorem joined_of {P:Program} {f:FuncId} {fn:Func} {s:ChangeSpec} {c:OpenClaim} (h1:P.mayEnter=true) (h2:P.liftsFinal=false) (h3:P.make=some .cut) (h4:c.lifted=false) (h5:c.make = .cut)
 (h:(c.wf (OpenSpec.ofChange s)&&laidOutB P&&mapsRowed P &&
   fn.params.all (P.readableRec ·)&&namedTie P c.named s.vars &&
   (c.stops==[])&&(P.stops==[])&&(c.knobs==[])&&(P.stopKnobs==[]) &&
   (c.inPlace==P.inPlace f)&&(c.unfollowed==P.unfollowed f)&&(c.recurses==P.recurses f)&&(c.named==P.varsNamed f) &&
   (c.maps==(fn.params.toList++s.plain.varTypes P).any (P.mapsRec ·))&&(c.ifaces==(fn.params.toList++s.plain.varTypes P).any (P.ifacesRec ·))&&(c.mapsOut==P.mapsAmong fn.resultTypes.toList) &&
   (c.loops==(fn.params.toList++s.plain.varTypes P).any (P.loopsFrom ·))&&(c.wideKeys==(fn.params.toList++s.plain.varTypes P++fn.resultTypes.toList).any (P.wideKeysFrom ·)) &&
   s.vars.all (P.varReadable ·)&&fn.resultTypes.all (fun t=>P.readableRec t&&decide (t<P.types.size))&&(c.ifacesOut==fn.resultTypes.toList.any (P.ifacesRec ·))&&(c.loopsOut==fn.resultTypes.toList.any (P.loopsFrom ·))&&(c.plainKeys==P.plainKeys)&&c.shortTexts.isNone&&P.stopsHeard)=true)
 (k:((c.kinds==(if c.domain.isEmpty then [] else fn.params.toList.map fun t=>match P.underlying t with | some (.int k)=>some k | _=>none))&&(c.pinned==c.pinnedBy) &&
   (c.veiled==(fn.params.toList++s.plain.varTypes P++fn.resultTypes.toList).any (P.veiledRec ·))&&c.veiledFits P fn.params.toList (fn.params.toList++s.plain.varTypes P++fn.resultTypes.toList))=true):joinedFacts P f fn s c=true:=by
 unfold joinedFacts
 rw[h,h1,h2,h3,h4,h5]
 simp only[Bool.true_and]
 simp only[Bool.and_eq_true] at k
 simp only[Bool.and_eq_true,k,and_true]
 exact⟨⟨rfl,by decide⟩,k.1.1.1⟩
end Go.Proofs.YtlbjdbaeffacgaaGreat
