/-
  Parts of the proof, joined.
-/
import Derived.Test.YtlobgddnlnffbaaGreatBea
import Derived.Deep.QuietTactic
import Derived.BigQuiet
namespace Go.Proofs.YtlobgddnlnffbaaGreat
set_option maxHeartbeats 4000000
open Go.RowKit
set_option linter.unusedVariables false
set_option linter.unusedSimpArgs false
set_option maxRecDepth 100000 in
theorem counts_key (kA : Option Addr) (kn kc:Nat) (key:List Nat) (fA:Option Addr) (N fc:Nat) (fl:List FArg) (cut:Int) (mA:Option Addr) (mn mc:Nat) (mk:List Nat) (w:World) (IK:Hid (IsB w kA kn kc key)) (IM:Hid (IsB w mA mn mc mk)) (IF:Hid (FsB w fA N fc fl)) (hcu0:(Lit.int .i64 cut).wf=true) (H12:Hid (¬12<N)) (hko:kn=16∨kn=32):
 Calls Tryz.prog 5 #[.slice kA kn kc,.slice fA N fc,.int .i64 cut,.slice mA mn mc] w fun e w'=>e = .returned (.bool true)∧Below w.heap.size w w':=by
 have LN:Hid (key.length=kn):=Lib.hid IK.out.len
 have h12i:¬(12:Int)<(N:Int):=by have:=H12.out;omega
 have KO:Hid (KeyOk key):=Lib.hid (by unfold KeyOk;have:=LN.out;omega)
 have BY:Hid (Byt key):=Lib.hid IK.out.2
 have AB:Hid (Below w.heap.size w (w.alloc (.cells #[.int .u32 0,.int .u16 0,.slice kA kn kc,.int .u32 1,.int .u16 5,.slice kA kn kc] 83))):=Lib.hid ((Below.refl _ _).alloc (Nat.le_refl _) _)
 have BG:Hid (Calls Tryz.prog 10 #[.int .i64 40,.int .u64 1099511627776,.slice (some ⟨w.heap.size,0,none⟩) 2 2] (w.alloc (.cells #[.int .u32 0,.int .u16 0,.slice kA kn kc,.int .u32 1,.int .u16 5,.slice kA kn kc] 83)) fun e w'=>Bg20 (w.alloc (.cells #[.int .u32 0,.int .u16 0,.slice kA kn kc,.int .u32 1,.int .u16 5,.slice kA kn kc] 83)) 40 1099511627776 (cR key) e w'):=Lib.hid (by
  refine (began20k (nb:=40) (lim:=1099511627776) (two_keys IK.out) (by decide) (by decide) (by decide) (by decide)).mono ?_
  rintro e w' (⟨_,⟨q,hq,h64⟩,_⟩ | ⟨_,h⟩)
  · exfalso
    have hq2:q.n=kn:=by
     rcases List.mem_cons.1 hq with rfl | hq
     · rfl
     · rw[List.mem_singleton.1 hq]
    omega
  · rw[foldK_two KO.out] at h
    exact h)
 go_enter Tryz.func5,Tryz.ntmps5
 go_upto_region 1 with (fail)
 go_cut [38] from 26 to 38 (fun v wx=>v = .bool false∧w=wx)
 case first=>
  clear KO BY BG AB LN IK
  rcases hko with rfl | rfl
  all_goals
   go_wp2_with fail
   go_meet
   exact⟨rfl,rfl⟩
 case rest =>
  obtain⟨rfl,rfl⟩:=hcut
  clear hko
  go_wp2_with fail
  refine BG.out.mono ?_
  rintro e w1 ⟨x,p,r,d,rg,lg,gw,gv,O1,rfl,hx,hp,hd,hr,hl,hs,hxt,hol,hb1⟩
  have R0:=Lib.hid (RdC.new key)
  have C0:Hid (CmB w w1 O1 x p d rg lg r gw gv (cR key) (newT [(2,40)]) (newD 40) ⟨1099511627776,0,0⟩ [] (.slice none 0 0) [] (.slice none 0 0) []):=Lib.hid ⟨hx,hxt,hp,hd,hr,hl,hs,World.ownsRow_nil _ _ _ _,(fun k hk=>by cases hk),World.ownsRow_nil _ _ _ _,(fun k hk=>by cases hk),below_tr AB.out hb1 AB.out.size,fun k hk=>hol k (Nat.lt_of_lt_of_le hk AB.out.size)⟩
  clear hx hp hd hr hl hs hxt hol hb1 BG AB
  go_wp2_with fail
  go_loopw [11,12,53] (fun v l z wr=>(∃(i:Nat) (O1:Tgm) (T:PgP) (D:DvS) (al:List Sl) (vP:Value) (U:List Nat) (ms:List Mp),i≤N∧z = .int .i64 (i:Int)∧l = .int .u64 (i:Int)∧CmB w wr O1 x p d rg lg r gw gv (cR key) T D ⟨1099511627776,i,i⟩ al vP (U.map fun q=>(q,i,5)) v ms∧RdC key T D al U ms i)∨(∃(O1:Tgm) (T:PgP) (D:DvS) (S:RsS) (al:List Sl) (vP:Value) (ps:List (Nat×Nat×Nat)) (ms:List Mp) (last:Nat),z = .int .i64 (N:Int)∧l = .int .u64 (last:Int)∧CmB w wr O1 x p d rg lg r gw gv (cR key) T D S al vP ps v ms∧FnC key D S ms last)) (fun _ _ z _=>N-(intOf z).toNat)
  case atStart=>exact .inl ⟨0,O1,_,_,_,_,[],[],Nat.zero_le _,rfl,rfl,C0.out,R0.out⟩
  case round=>
   clear C0 R0
   obtain⟨vT,hvT⟩:∃v,u11=v:=⟨_,rfl⟩
   rw[hvT] at hrel⊢
   clear hvT
   by_cases hrd:∃(i:Nat) (O1:Tgm) (T:PgP) (D:DvS) (al:List Sl) (vP:Value) (U:List Nat) (ms:List Mp),i<N∧u53 = .int .i64 (i:Int)∧u12 = .int .u64 (i:Int)∧CmB w wr O1 x p d rg lg r gw gv (cR key) T D ⟨1099511627776,i,i⟩ al vP (U.map fun q=>(q,i,5)) vT ms∧RdC key T D al U ms i
   · obtain ⟨i, O1, T, D,al,vP,U,ms,hlt,rfl,rfl,hcm,hrc⟩:=hrd
     clear hrel
     have CM:=Lib.hid hcm
     have RC:=Lib.hid hrc
     have HLT:=Lib.hid hlt
     have hlti:(i:Int)<(N:Int):=by omega
     obtain⟨q,hq⟩:∃q,fl[i]? = some q:=⟨_,List.getElem?_eq_getElem (by rw[IF.out.len];exact hlt)⟩
     obtain⟨yf,hyf,_,hcf,_⟩:=(IF.out.ab CM.out.bl).cel i q hq
     subst hyf
     have FC:Hid (∀W,Below w.heap.size w W→W.cell? (yf.add i)=some (.slice q.a q.n q.c)∧IsB W q.a q.n q.c q.b):=Lib.hid fun W hW=>by
      obtain⟨y',e,_,h1,h2⟩:=(IF.out.ab hW).cel i q hq
      injection e with e
      subst e
      exact⟨h1,h2⟩
     have I9:Hid (i<12):=Lib.hid (by have:=H12.out;omega)
     obtain⟨L,hL⟩:∃L:Int,(N:Int)-1=L:=⟨_,rfl⟩
     have wN:wrap64 ((N:Int)-1)=L:=by rw[IntWalk.wrap64_in _ (by have:=H12.out;omega),hL]
     clear hlt hcm hrc hq
     by_cases h5:5<q.n
     · have h5i:(5:Int)<(q.n:Int):=by omega
       have BW:=Lib.hid CM.out.bl
       clear h5 CM RC
       go_wp2_with fail
       refine (known20_any wr).mono ?_
       rintro e w1 ⟨rfl,hb⟩
       have B1:=Lib.hid (below_tr BW.out hb BW.out.size)
       clear hb
       go_wp2_with fail
       go_ret
       exact⟨rfl,B1.out⟩
     have h5i:¬(5:Int)<(q.n:Int):=by omega
     have H5:=Lib.hid h5
     have c0:wr.cell? ⟨x,0,none⟩=some (.pointer (some ⟨d,0,none⟩)):=CM.out.box.cell (k:=0) rfl
     have HPP:=Lib.hid CM.out.pos
     have BD:=Lib.hid RC.out.bd
     have RA:=Lib.hid (And.intro RC.out.al (And.intro RC.out.mo RC.out.ln))
     clear h5
     by_cases hlast:i+1=N
     case' pos=>
      obtain rfl:L=(i:Int):=by omega
      clear hL
      have CU:=Lib.hid (cutM cut CM.out.dv)
      go_wp2_with fail
      refine CU.out.mono ?_
      rintro e w2 ⟨⟨ve,rfl⟩,hd2,s2⟩
      have CM2:=Lib.hid (CM.out.step s2 (fun i hi e=>by injection e with e1 e2;omega) (CM.out.pg.wr s2 (fun i e=>by have:=HPP.out;injection e with e;omega) (fun e=>by cases e)) hd2 (CM.out.ri.wr s2 (fun e=>by cases e) (fun e=>by cases e)) (CM.out.lo.wr s2 (fun e=>by cases e)) (CM.out.rs.wr s2 (fun e=>by cases e)))
      have SK2:=Lib.hid (RC.out.sk.cutD (z:=cut) (by simp only[Lit.wf,Bool.and_eq_true,decide_eq_true_eq] at hcu0;have h9:IntKind.i64.max=9223372036854775807:=rfl;omega))
      have QF:Hid (i+1=N∨Qt { D with cut:=max cut (-1) }):=Lib.hid (.inl hlast)
      obtain⟨D1,hD1⟩:∃D1,({ D with cut:=max cut (-1) }:DvS)=D1:=⟨_,rfl⟩
      rw[hD1] at CM2 SK2 QF
      obtain⟨O2,hO2⟩:∃O2,cutO O1 wr.heap.size=O2:=⟨_,rfl⟩
      rw[hO2] at CM2
      clear hd2 s2 CU c0 CM hD1 hO2 RC
     case' neg=>
      have hli:¬(i:Int)=L:=by omega
      have hlb:((i:Int)==L)=false:=by simp;omega
      have hld:decide ((i:Int)=L)=false:=decide_eq_false hli
      clear hL
      obtain⟨w2,hw2⟩:∃w2,w2=wr:=⟨_,rfl⟩
      obtain⟨D1,hD1⟩:∃D1,D1=D:=⟨_,rfl⟩
      obtain⟨O2,hO2⟩:∃O2,O2=O1:=⟨_,rfl⟩
      subst hw2 hD1 hO2
      have CM2:=CM
      have SK2:=Lib.hid RC.out.sk
      have QF:Hid (i+1=N∨Qt D1):=Lib.hid (.inr RC.out.qt)
      clear c0 CM RC
     all_goals
      obtain⟨q0,hq0⟩:∃q0,startP T D1 ⟨1099511627776,i,i⟩=q0:=⟨_,rfl⟩
      obtain⟨nn,er,T1,D2,S1⟩:=q0
      have SF:=Lib.hid (start_facts BD.out (by have:=I9.out;omega) hq0)
      have HQ0:=Lib.hid hq0
      have CX:Hid (∀W (F:Nat→Prop),Fr w2 W F→(∀q,F q→q<w2.heap.size∧(O2 q=(0,1)∨O2 q=(0,4)∨O2 q=(p,1)))→W.cell? ⟨x,3,none⟩=some (.pointer (some ⟨p,0,none⟩))∧W.cell? ⟨x,4,none⟩=some (.pointer (some ⟨r,0,none⟩))):=Lib.hid fun W F hW hF=>by
       have hx:=CbB.fr CM2.out.box hW (fun e=>by have h9:=(hF _ e).2;rw[CM2.out.tx] at h9;exact not_s9 HPP.out (by decide) (by decide) h9)
       exact⟨hx.cell (k:=3) rfl,hx.cell (k:=4) rfl⟩
      have ST:Hid (∀W,Below w2.heap.size w2 W→Calls Tryz.prog 21 #[.pointer (some ⟨p,0,none⟩),.pointer (some ⟨r,0,none⟩)] W fun e W1=>e = .returned (.tuple #[.int .u64 (nn:Int),.int .i64 (er:Int)])∧StW w2.heap.size O2 p d rg lg r (nn,er,T1,D2,S1) (.tuple #[.int .u64 (nn:Int),.int .i64 (er:Int)]) (.tuple #[.int .u64 (nn:Int),.int .i64 (er:Int)]) W1∧Fr W W1 (fun q=>q<w2.heap.size∧(O2 q=(0,1)∨O2 q=(0,4)∨O2 q=(p,1)))):=Lib.hid fun W hW=>by
       have CW:=CM2.out.ab hW
       have hst:=SK2.out.st
       refine (start_any CW.pg CW.rs CW.dv SK2.out.ok (by have:=I9.out;omega) (by rw[BD.out.la];have:=I9.out;omega) (fun D9 h9=>?_)).mono ?_
       · have h8:=SK2.out.step
         rw[h9] at h8
         have h7:D9.st≤_:=h8.st
         exact⟨h8.ok,by have:=I9.out;omega⟩
       · rw[HQ0.out]
         rintro e W1 ⟨O',rfl,h1,h2,h3,h4⟩
         refine⟨rfl,⟨rfl,O',h1,h2,h3,fun k hk=>(h4.tg k (Nat.lt_of_lt_of_le hk hW.size)).trans (cutO_old hk)⟩,h4.fr.imp fun q hq=>?_⟩
         by_cases hlt:q<w2.heap.size
         · rw[cutO_old hlt] at hq;exact⟨hlt,hq⟩
         · rw[cutO_at (by omega)] at hq
           exact absurd hq (not_s9 HPP.out (by decide) (by decide))
      clear hq0
      go_upto_region 15 with (fail)
      refine wp_wide5 (fun i q=>i=8∧q<w2.heap.size∧(O2 q=(0,1)∨O2 q=(0,4)∨O2 q=(p,1))) [⟨75,IsR (.pointer (some ⟨x,0,none⟩)),[],false⟩,⟨76,IsR (.pointer (some ⟨x,0,none⟩)),[0],false⟩,⟨77,IsR (.pointer (some ⟨x,3,none⟩)),[1],false⟩,⟨78,IsR (.pointer (some ⟨p,0,none⟩)),[2],false⟩,⟨79,IsR (.pointer (some ⟨x,0,none⟩)),[],false⟩,⟨80,IsR (.pointer (some ⟨x,0,none⟩)),[4],false⟩,⟨81,IsR (.pointer (some ⟨x,4,none⟩)),[5],false⟩,⟨82,IsR (.pointer (some ⟨r,0,none⟩)),[6],false⟩,⟨83,StW w2.heap.size O2 p d rg lg r (nn,er,T1,D2,S1) (.tuple #[.int .u64 (nn:Int),.int .i64 (er:Int)]),[3,7],false⟩,⟨74,IsR (.tuple #[.int .u64 (nn:Int),.int .i64 (er:Int)]),[8],false⟩,⟨84,IsR (.int .u64 (nn:Int)),[9],false⟩,⟨85,IsR (.int .i64 (er:Int)),[9],false⟩,⟨14,IsR (.int .u64 (nn:Int)),[10],false⟩] (by kernel_rfl) (by kernel_rfl) rfl rfl rfl ⟨?_,?_,?_,?_,?_,?_,?_,?_,?_,?_,?_,?_,?_,trivial⟩ ?_
      · refine⟨rfl,IsR.monoF _ _,fun a W hA hb hd=>Takes.to5 (takes_plain rfl (yields_value _ ?_ rfl)) _⟩
        have h9:a.tmps[9]?.getD undef = .pointer (some ⟨x,0,none⟩):=(eval_get a 9).trans ((hA.eval (by simp)).trans rfl)
        go_simp
      · refine⟨rfl,IsR.monoF _ _,fun a W hA hb hd=>Takes.to5 (takes_plain rfl (yields_value _ ?_ rfl)) _⟩
        have h75:a.tmps[75]?.getD undef = .pointer (some ⟨x,0,none⟩):=(eval_get a 75).trans (hd 0 (by simp) _ rfl)
        go_simp
      · refine⟨rfl,IsR.monoF _ _,fun a W hA hb hd=>Takes.to5 (takes_plain rfl (yields_value _ ?_ rfl)) _⟩
        have h76:a.tmps[76]?.getD undef = .pointer (some ⟨x,0,none⟩):=(eval_get a 76).trans (hd 1 (by simp) _ rfl)
        go_simp
      · refine⟨rfl,IsR.monoF _ _,fun a W hA hb hd=>Takes.to5 (takes_plain rfl (yields_value _ ?_ rfl)) _⟩
        have h77:a.tmps[77]?.getD undef = .pointer (some ⟨x,3,none⟩):=(eval_get a 77).trans (hd 2 (by simp) _ rfl)
        have hc:=(CX.out W _ hb (fun q ⟨j,_,hj⟩=>hj.2)).1
        go_simp
      · refine⟨rfl,IsR.monoF _ _,fun a W hA hb hd=>Takes.to5 (takes_plain rfl (yields_value _ ?_ rfl)) _⟩
        have h9:a.tmps[9]?.getD undef = .pointer (some ⟨x,0,none⟩):=(eval_get a 9).trans ((hA.eval (by simp)).trans rfl)
        go_simp
      · refine⟨rfl,IsR.monoF _ _,fun a W hA hb hd=>Takes.to5 (takes_plain rfl (yields_value _ ?_ rfl)) _⟩
        have h79:a.tmps[79]?.getD undef = .pointer (some ⟨x,0,none⟩):=(eval_get a 79).trans (hd 4 (by simp) _ rfl)
        go_simp
      · refine⟨rfl,IsR.monoF _ _,fun a W hA hb hd=>Takes.to5 (takes_plain rfl (yields_value _ ?_ rfl)) _⟩
        have h80:a.tmps[80]?.getD undef = .pointer (some ⟨x,0,none⟩):=(eval_get a 80).trans (hd 5 (by simp) _ rfl)
        go_simp
      · refine⟨rfl,IsR.monoF _ _,fun a W hA hb hd=>Takes.to5 (takes_plain rfl (yields_value _ ?_ rfl)) _⟩
        have h81:a.tmps[81]?.getD undef = .pointer (some ⟨x,4,none⟩):=(eval_get a 81).trans (hd 6 (by simp) _ rfl)
        have hc:=(CX.out W _ hb (fun q ⟨j,_,hj⟩=>hj.2)).2
        go_simp
      · refine⟨rfl,fun v W W1 h hf=>StW.ab h (hf.none fun q ⟨j,hj,hj2,_⟩=>hj hj2),fun a W hA hb hd=>takes5_plain rfl ?_⟩
        have h78:a.tmps[78]?.getD undef = .pointer (some ⟨p,0,none⟩):=(eval_get a 78).trans (hd 3 (by simp) _ rfl)
        have h82:a.tmps[82]?.getD undef = .pointer (some ⟨r,0,none⟩):=(eval_get a 82).trans (hd 7 (by simp) _ rfl)
        refine .inr ⟨21,#[.pointer (some ⟨p,0,none⟩),.pointer (some ⟨r,0,none⟩)],by go_simp,(ST.out W (hb.none fun q ⟨j,hj,hj2,_⟩=>hj hj2)).mono ?_⟩
        rintro e W1 ⟨rfl,h1,h2⟩
        exact⟨_,rfl,h1,h2.imp fun q hq=>⟨rfl,hq⟩⟩
      · refine⟨rfl,IsR.monoF _ _,fun a W hA hb hd=>takes5_plain rfl ?_⟩
        have h83:a.tmps[83]?.getD undef = .tuple #[.int .u64 (nn:Int),.int .i64 (er:Int)]:=(eval_get a 83).trans (hd 8 (by simp) _ rfl).1
        refine Yields.to5 (yields_value (.tuple #[.int .u64 (nn:Int),.int .i64 (er:Int)]) ?_ rfl) _
        go_simp
      · refine⟨rfl,IsR.monoF _ _,fun a W hA hb hd=>Takes.to5 (takes_plain rfl (yields_value _ ?_ rfl)) _⟩
        have h74:a.tmps[74]?.getD undef = .tuple #[.int .u64 (nn:Int),.int .i64 (er:Int)]:=(eval_get a 74).trans (hd 9 (by simp) _ rfl)
        go_simp
      · refine⟨rfl,IsR.monoF _ _,fun a W hA hb hd=>Takes.to5 (takes_plain rfl (yields_value _ ?_ rfl)) _⟩
        have h74:a.tmps[74]?.getD undef = .tuple #[.int .u64 (nn:Int),.int .i64 (er:Int)]:=(eval_get a 74).trans (hd 9 (by simp) _ rfl)
        go_simp
      · refine⟨rfl,IsR.monoF _ _,fun a W hA hb hd=>Takes.to5 (takes_plain rfl (yields_value _ ?_ rfl)) _⟩
        have h84:a.tmps[84]?.getD undef = .int .u64 (nn:Int):=(eval_get a 84).trans (hd 10 (by simp) _ rfl)
        go_simp
      intro vt w3 hR hb
      obtain⟨_,O3,hp3,hd3,hs3,ht3⟩:StW w2.heap.size O2 p d rg lg r (nn,er,T1,D2,S1) (.tuple #[.int .u64 (nn:Int),.int .i64 (er:Int)]) (vt 83) w3:=hR 8 _ rfl
      have e75:vt 75 = .pointer (some ⟨x,0,none⟩):=hR 0 _ rfl
      have e76:vt 76 = .pointer (some ⟨x,0,none⟩):=hR 1 _ rfl
      have e77:vt 77 = .pointer (some ⟨x,3,none⟩):=hR 2 _ rfl
      have e78:vt 78 = .pointer (some ⟨p,0,none⟩):=hR 3 _ rfl
      have e79:vt 79 = .pointer (some ⟨x,0,none⟩):=hR 4 _ rfl
      have e80:vt 80 = .pointer (some ⟨x,0,none⟩):=hR 5 _ rfl
      have e81:vt 81 = .pointer (some ⟨x,4,none⟩):=hR 6 _ rfl
      have e82:vt 82 = .pointer (some ⟨r,0,none⟩):=hR 7 _ rfl
      have e74:vt 74 = .tuple #[.int .u64 (nn:Int),.int .i64 (er:Int)]:=hR 9 _ rfl
      have e84:vt 84 = .int .u64 (nn:Int):=hR 10 _ rfl
      have e85:vt 85 = .int .i64 (er:Int):=hR 11 _ rfl
      have e14:vt 14 = .int .u64 (nn:Int):=hR 12 _ rfl
      simp only[List.map_cons,List.map_nil,List.foldl_cons,List.foldl_nil,List.length_cons,List.length_nil,List.drop_succ_cons,List.drop_zero,Act.put,List.setIfInBounds_toArray,List.set_cons_zero,List.set_cons_succ,e75,e76,e77,e78,e79,e80,e81,e82,e74,e84,e85,e14]
      have s3:Wr (fun τ=>τ=(0,1)∨τ=(0,4)∨τ=(p,1)) w2 O2 w3 O3:=Wr.mk' hb (fun q ⟨j,_,hj⟩=>hj.2) ht3
      have CM3:=Lib.hid (CM2.out.step s3 (fun i hi=>not_s9 HPP.out (by omega) (by omega)) hp3 hd3 (CM2.out.ri.wr s3 (not_s9 HPP.out (by decide) (by decide)) (not_s9 HPP.out (by decide) (by decide))) (CM2.out.lo.wr s3 (not_s9 HPP.out (by decide) (by decide))) hs3)
      have SK3:Hid (Sk D2 40 (i%2) (cB key ms i) (30*i+1) (30*i)):=Lib.hid (by rw[SF.out.1];exact SK2.out.step)
      clear hR hb hp3 hd3 hs3 ht3 s3 e75 e76 e77 e78 e79 e80 e81 e82 e74 e84 e85 e14 CX ST CM2 SK2
      generalize vt 83=q83 at *
      by_cases her:er=0
      case' neg=>
       have z1:((er:Int) != 0)=true:=by simp;omega
       have z2:¬(er:Int)=0:=by omega
       have z3:((er:Int)==0)=false:=by simp;omega
       have hS1:S1=⟨1099511627776,i,i⟩:=by
        rcases SF.out.2.1 with h | h
        · exact absurd h.1 her
        · exact h.2
       have CM:=CM3
       have FN:Hid (FnC key D2 S1 ms i):=Lib.hid (by
        rw[hS1]
        exact⟨Nat.le_refl _,Nat.le_succ _,by show i≤ms.length;rw[RA.out.2.2];exact Nat.le_refl _,RA.out.2.1,SK3.out.more (by have:=I9.out;omega) (by have:=I9.out;omega)⟩)
       clear her hS1 SF HQ0 CM3 SK3 QF RA BD FC
       have c0:w3.cell? ⟨x,0,none⟩=some (.pointer (some ⟨d,0,none⟩)):=CM.out.box.cell (k:=0) rfl
       have CR:=Lib.hid (crashM mA mn mc mk FN.out.sk.ok (by have:=FN.out.sk.wn;omega) CM.out.dv (IM.out.ab CM.out.bl) (fun h0 y hy e=>by rw[CM.out.ol _ (isB_lt IM.out h0 hy)] at e;cases e))
       go_wp2_with fail
       refine CR.out.mono ?_
       rintro e w5 ⟨rfl,hd5,s5⟩
       have SKC:=Lib.hid (FN.out.sk.crash mk)
       have D5:=Lib.hid hd5
       have X5:=Lib.hid (CbB.fr CM.out.box s5.fr (fun e=>by rw[CM.out.tx] at e;cases e))
       have G5:=Lib.hid (CM.out.ri.wr s5 (fun e=>by cases e) (fun e=>by cases e))
       have S5:=Lib.hid (CM.out.rs.wr s5 (fun e=>by cases e))
       have T5:=Lib.hid (row_fr CM.out.tr s5.fr (fun k hk e=>by rw[CM.out.tt k hk] at e;cases e))
       have B5:Hid (Below w.heap.size w w5):=Lib.hid (s5.below CM.out.bl CM.out.bl.size (fun k hk e=>by rw[CM.out.ol k hk] at e;cases e))
       clear hd5 s5 CR c0 CM
       have c4:w5.cell? ⟨x,4,none⟩=some (.pointer (some ⟨r,0,none⟩)):=X5.out.cell (k:=4) rfl
       go_wp2_with fail
       refine (committedM S5.out).mono ?_
       rintro e w6 ⟨rfl,rfl⟩
       obtain⟨c,hc⟩:∃c,S1.com=c:=⟨_,rfl⟩
       have HC:=Lib.hid hc
       rw[hc]
       clear hc c4
       by_cases hc0:c=0
       · have hc0i:(c:Int)=0:=by omega
         have hl0:i=0:=by have:=FN.out.lo;have:=HC.out;omega
         subst hl0
         clear hc0
         go_wp2_with fail
         refine (known20_any _).mono ?_
         rintro e w7 ⟨rfl,hb7⟩
         have B7:=Lib.hid (below_tr B5.out hb7 B5.out.size)
         clear hb7
         go_wp2_with fail
         go_ret
         exact⟨rfl,B7.out⟩
       have FNC:=Lib.hid (And.intro (show i≤c by rw[←HC.out];exact FN.out.lo) (And.intro (show c≤i+1 by rw[←HC.out];exact FN.out.hi) (And.intro (show c≤ms.length by rw[←HC.out];exact FN.out.le) FN.out.mo.le)))
       obtain⟨A,cT,hvT⟩:=row_shape T5.out
       subst hvT
       obtain⟨gT,hgT,hct⟩:=row_cellsW T5.out (by have:=FNC.out.2.2.1;omega)
       subst hgT
       obtain⟨k,hk⟩:∃k,c-1=k:=⟨_,rfl⟩
       obtain⟨m,hm⟩:∃m,ms[k]? = some m:=⟨_,List.getElem?_eq_getElem (by have:=FNC.out.2.2.1;omega)⟩
       obtain⟨s,hs⟩:∃s,c%2=s:=⟨_,rfl⟩
       have KC:=Lib.hid hk
       have KL:Hid ((k:Int)<(ms.length:Int)):=Lib.hid (by have:=FNC.out.2.2.1;omega)
       have WC:Hid (IntKind.u64.wrap ((c:Int)-1)=(k:Int)):=Lib.hid (by rw[IntKind.wrap_u64];have:=FNC.out.2.2;omega)
       have OP:Hid (mOpenP (cR key) (s:Int) (blkL (crashD D2 mk).now s)=⟨m,0⟩):=Lib.hid (by
        have h1:=SKC.out.2.2.2
        rw[HC.out,hs] at h1
        rw[h1]
        exact cm_open KO.out FN.out.mo (by omega) (by rw[KC.out];exact hm) hs)
       obtain⟨e0,e1,e2,e3,e4,e5,e6⟩:=m
       have TC:Hid (∀W,Below w5.heap.size w5 W→W.cell? ⟨gT,k*7,none⟩=some (.int .u64 (e0:Int))∧W.cell? ⟨gT,k*7+1,none⟩=some (.int .u32 (e1:Int))∧W.cell? ⟨gT,k*7+2,none⟩=some (.int .u64 (e2:Int))∧W.cell? ⟨gT,k*7+3,none⟩=some (.int .u16 (e3:Int))∧W.cell? ⟨gT,k*7+4,none⟩=some (.int .u8 (e4:Int))∧W.cell? ⟨gT,k*7+5,none⟩=some (.int .u16 (e5:Int))∧W.cell? ⟨gT,k*7+6,none⟩=some (.int .u32 (e6:Int))):=Lib.hid fun W hW=>by
        have hlt:=row_ltD T5.out gT rfl
        have hh:∀j v,w5.cell? ⟨gT,j,none⟩=some v→W.cell? ⟨gT,j,none⟩=some v:=fun j v h=>by rw[←h];exact World.cell?_of_block (hW.block _ hlt)
        have ha:=fun j (hj:j<7) v hv=>hh _ v (hct (k*7+j) v ((mpL_at ms k j _ hm hj).trans hv))
        exact⟨ha 0 (by decide) _ rfl,ha 1 (by decide) _ rfl,ha 2 (by decide) _ rfl,ha 3 (by decide) _ rfl,ha 4 (by decide) _ rfl,ha 5 (by decide) _ rfl,ha 6 (by decide) _ rfl⟩
       have hlo:¬(c:Int)<(i:Int):=by have:=FNC.out.1;omega
       have hhi:¬(i:Int)+1<(c:Int):=by have:=FNC.out.2.1;omega
       have hle:¬(ms.length:Int)<(c:Int):=by have:=FNC.out.2.2.1;omega
       have wl:IntKind.u64.wrap ((i:Int)+1)=(i:Int)+1:=by rw[IntKind.wrap_u64];have:=FNC.out;omega
       have wm:IntKind.u64.wrap (ms.length:Int)=(ms.length:Int):=by rw[IntKind.wrap_u64];have:=FNC.out;omega
       have hc0i:¬(c:Int)=0:=by omega
       have hc0d:((c:Int)==0)=false:=by simp;omega
       have hm2:(c:Int)%2=(s:Int):=by omega
       have hs0:(0:Int)≤(s:Int):=by omega
       have hs1:(s:Int)<2:=by omega
       have c0:w5.cell? ⟨x,0,none⟩=some (.pointer (some ⟨d,0,none⟩)):=X5.out.cell (k:=0) rfl
       obtain⟨g1,g2,wv,hds,_⟩:=D5.out
       have RD:=Lib.hid (read_any s (by rw[SKC.out.2.1];omega) SKC.out.2.2.1 SKC.out.1 hds)
       have B5h:=Lib.hid B5.out
       clear hc0 hct hm hs hk hds
       go_wp2_with fail
       refine RD.out.mono ?_
       rintro e w6 ⟨gb,rfl,_,ib,hb6⟩
       obtain⟨mm,hrg⟩:=(G5.out.wr (Wr.cut hb6 (fun _=>False)) id id).rg
       have OM:=Lib.hid (mOpen_any 0 rg mm (s:Int) (cR key) (some ⟨gb,0,none⟩) 256 256 _ w6 hrg ib)
       rw[OP.out] at OM
       have HV:Hid (opnV ⟨⟨e0,e1,e2,e3,e4,e5,e6⟩,0⟩ = .tuple #[.agg #[.int .u64 (e0:Int),.int .u32 (e1:Int),.int .u64 (e2:Int),.int .u16 (e3:Int),.int .u8 (e4:Int),.int .u16 (e5:Int),.int .u32 (e6:Int)],.int .i64 0]):=Lib.hid rfl
       rw[HV.out] at OM
       have c1:w6.cell? ⟨x,1,none⟩=some (.pointer (some ⟨rg,0,none⟩)):=(X5.out.ab hb6).cell (k:=1) rfl
       have B56:=Lib.hid hb6
       clear ib hb6 hrg RD c0
       go_wp2_with fail
       refine OM.out.mono ?_
       rintro e w7 ⟨rfl,hb7⟩
       have B57:=Lib.hid (below_tr B56.out hb7 B56.out.size)
       clear hb7 OM c1 B56
       go_upto_region 47 with (fail)
       have n8:CbB (w7.alloc (.cells #[.int .u64 (e0:Int),.int .u32 (e1:Int),.int .u64 (e2:Int),.int .u16 (e3:Int),.int .u8 (e4:Int),.int .u16 (e5:Int),.int .u32 (e6:Int)] 40)) w7.heap.size 40 #[.int .u64 (e0:Int),.int .u32 (e1:Int),.int .u64 (e2:Int),.int .u16 (e3:Int),.int .u8 (e4:Int),.int .u16 (e5:Int),.int .u32 (e6:Int)]:=CbB.new _ _ _
       have b8:Below w7.heap.size w7 (w7.alloc (.cells #[.int .u64 (e0:Int),.int .u32 (e1:Int),.int .u64 (e2:Int),.int .u16 (e3:Int),.int .u8 (e4:Int),.int .u16 (e5:Int),.int .u32 (e6:Int)] 40)):=(Below.refl _ _).alloc (Nat.le_refl _) _
       obtain⟨w8,hw8⟩:∃w8,w7.alloc (.cells #[.int .u64 (e0:Int),.int .u32 (e1:Int),.int .u64 (e2:Int),.int .u16 (e3:Int),.int .u8 (e4:Int),.int .u16 (e5:Int),.int .u32 (e6:Int)] 40)=w8:=⟨_,rfl⟩
       rw[hw8] at n8 b8⊢
       obtain⟨G,hG⟩:∃G,w7.heap.size=G:=⟨_,rfl⟩
       have B58:=Lib.hid (below_tr B57.out b8 B57.out.size)
       rw[hG] at n8⊢
       have G8:=Lib.hid n8
       have TC8:=TC
       have TC:Hid (∀W,Below w8.heap.size w8 W→W.cell? ⟨gT,k*7,none⟩=some (.int .u64 (e0:Int))∧W.cell? ⟨gT,k*7+1,none⟩=some (.int .u32 (e1:Int))∧W.cell? ⟨gT,k*7+2,none⟩=some (.int .u64 (e2:Int))∧W.cell? ⟨gT,k*7+3,none⟩=some (.int .u16 (e3:Int))∧W.cell? ⟨gT,k*7+4,none⟩=some (.int .u8 (e4:Int))∧W.cell? ⟨gT,k*7+5,none⟩=some (.int .u16 (e5:Int))∧W.cell? ⟨gT,k*7+6,none⟩=some (.int .u32 (e6:Int))):=Lib.hid fun W hW=>TC8.out W (below_tr B58.out hW B58.out.size)
       clear n8 b8 hw8 hG TC8 B57
       refine wp_wide3 [⟨232,IsR (.int .i64 0),[],false⟩,⟨233,IsR (.bool true),[0],false⟩,⟨234,IsR (.bool true),[1],false⟩,⟨235,IsR (.int .i64 0),[2],false⟩,⟨236,IsR (.bool true),[2,3],false⟩,⟨237,IsR (.bool true),[2,4],false⟩,⟨238,IsR (.bool true),[5],false⟩,⟨239,IsR (.agg #[.int .u64 (e0:Int),.int .u32 (e1:Int),.int .u64 (e2:Int),.int .u16 (e3:Int),.int .u8 (e4:Int),.int .u16 (e5:Int),.int .u32 (e6:Int)]),[6],false⟩,⟨240,IsR (.slice (some ⟨gT,0,none⟩) ms.length cT),[6],false⟩,⟨241,IsR (.int .u64 (c:Int)),[6],false⟩,⟨242,IsR (.int .u64 (k:Int)),[6,9],false⟩,⟨243,IsR (.pointer (some ⟨gT,k*7,none⟩)),[6,8,10],false⟩,⟨244,IsR (.agg #[.int .u64 (e0:Int),.int .u32 (e1:Int),.int .u64 (e2:Int),.int .u16 (e3:Int),.int .u8 (e4:Int),.int .u16 (e5:Int),.int .u32 (e6:Int)]),[6,11],false⟩,⟨245,IsR (.bool true),[6,7,12],false⟩,⟨246,IsR (.bool true),[6,13],false⟩,⟨247,IsR (.bool true),[14],false⟩,⟨248,IsR (.bool true),[15],false⟩] (by kernel_rfl) (by kernel_rfl) rfl rfl rfl ⟨?_,?_,?_,?_,?_,?_,?_,?_,?_,?_,?_,?_,?_,?_,?_,?_,?_,trivial⟩ ?_
       · refine⟨rfl,IsR.mono _,fun a W hA hb hd=>takes_plain rfl (yields_value _ ?_ rfl)⟩
         have h23:a.tmps[23]?.getD undef = .int .i64 0:=(eval_get a 23).trans ((hA.eval (by simp)).trans rfl)
         go_simp
       · refine⟨rfl,IsR.mono _,fun a W hA hb hd=>takes_plain rfl (yields_value _ ?_ rfl)⟩
         have h232:a.tmps[232]?.getD undef = .int .i64 0:=(eval_get a 232).trans (hd 0 (by simp) _ rfl)
         go_simp
       · refine⟨rfl,IsR.mono _,fun a W hA hb hd=>takes_plain rfl (yields_value _ ?_ rfl)⟩
         have h233:a.tmps[233]?.getD undef = .bool true:=(eval_get a 233).trans (hd 1 (by simp) _ rfl)
         go_simp
       · refine⟨rfl,IsR.mono _,fun a W hA hb hd=>takes_on (i:=2) (d:=234) (b:=true) rfl rfl rfl (hd 2 (by simp) _ rfl) (yields_value _ ?_ rfl)⟩
         have h25:a.tmps[25]?.getD undef = .int .i64 0:=(eval_get a 25).trans ((hA.eval (by simp)).trans rfl)
         go_simp
       · refine⟨rfl,IsR.mono _,fun a W hA hb hd=>takes_on (i:=2) (d:=234) (b:=true) rfl rfl rfl (hd 2 (by simp) _ rfl) (yields_value _ ?_ rfl)⟩
         have h235:a.tmps[235]?.getD undef = .int .i64 0:=(eval_get a 235).trans (hd 3 (by simp) _ rfl)
         go_simp
       · refine⟨rfl,IsR.mono _,fun a W hA hb hd=>takes_plain rfl (yields_value _ ?_ rfl)⟩
         have h234:a.tmps[234]?.getD undef = .bool true:=(eval_get a 234).trans (hd 2 (by simp) _ rfl)
         have h236:a.tmps[236]?.getD undef = .bool true:=(eval_get a 236).trans (hd 4 (by simp) _ rfl)
         go_simp
       · refine⟨rfl,IsR.mono _,fun a W hA hb hd=>takes_plain rfl (yields_value _ ?_ rfl)⟩
         have h237:a.tmps[237]?.getD undef = .bool true:=(eval_get a 237).trans (hd 5 (by simp) _ rfl)
         go_simp
       · refine⟨rfl,IsR.mono _,fun a W hA hb hd=>takes_on (i:=6) (d:=238) (b:=true) rfl rfl rfl (hd 6 (by simp) _ rfl) (yields_value _ ?_ rfl)⟩
         have h24:a.tmps[24]?.getD undef = .pointer (some ⟨G,0,none⟩):=(eval_get a 24).trans ((hA.eval (by simp)).trans rfl)
         have hc0:=(G8.out.ab hb).cell (k:=0) rfl
         have hc1:=(G8.out.ab hb).cell (k:=1) rfl
         have hc2:=(G8.out.ab hb).cell (k:=2) rfl
         have hc3:=(G8.out.ab hb).cell (k:=3) rfl
         have hc4:=(G8.out.ab hb).cell (k:=4) rfl
         have hc5:=(G8.out.ab hb).cell (k:=5) rfl
         have hc6:=(G8.out.ab hb).cell (k:=6) rfl
         go_simp
       · refine⟨rfl,IsR.mono _,fun a W hA hb hd=>takes_on (i:=6) (d:=238) (b:=true) rfl rfl rfl (hd 6 (by simp) _ rfl) (yields_value _ ?_ rfl)⟩
         have h11:a.tmps[11]?.getD undef = .slice (some ⟨gT,0,none⟩) ms.length cT:=(eval_get a 11).trans ((hA.eval (by simp)).trans rfl)
         go_simp
       · refine⟨rfl,IsR.mono _,fun a W hA hb hd=>takes_on (i:=6) (d:=238) (b:=true) rfl rfl rfl (hd 6 (by simp) _ rfl) (yields_value _ ?_ rfl)⟩
         have h21:a.tmps[21]?.getD undef = .int .u64 (c:Int):=(eval_get a 21).trans ((hA.eval (by simp)).trans rfl)
         go_simp
       · refine⟨rfl,IsR.mono _,fun a W hA hb hd=>takes_on (i:=6) (d:=238) (b:=true) rfl rfl rfl (hd 6 (by simp) _ rfl) ?_⟩
         have h241:a.tmps[241]?.getD undef = .int .u64 (c:Int):=(eval_get a 241).trans (hd 9 (by simp) _ rfl)
         refine yields_value (.int .u64 (k:Int)) ?_ rfl
         go_simp
         first | done | exact WC.out
       · refine⟨rfl,IsR.mono _,fun a W hA hb hd=>takes_on (i:=6) (d:=238) (b:=true) rfl rfl rfl (hd 6 (by simp) _ rfl) (yields_value _ ?_ rfl)⟩
         have h240:a.tmps[240]?.getD undef = .slice (some ⟨gT,0,none⟩) ms.length cT:=(eval_get a 240).trans (hd 8 (by simp) _ rfl)
         have h242:a.tmps[242]?.getD undef = .int .u64 (k:Int):=(eval_get a 242).trans (hd 10 (by simp) _ rfl)
         have i0:(0:Int)≤(k:Int):=by omega
         have i1:(k:Int)<(ms.length:Int):=KL.out
         go_simp
       · refine⟨rfl,IsR.mono _,fun a W hA hb hd=>takes_on (i:=6) (d:=238) (b:=true) rfl rfl rfl (hd 6 (by simp) _ rfl) (yields_value _ ?_ rfl)⟩
         have h243:a.tmps[243]?.getD undef = .pointer (some ⟨gT,k*7,none⟩):=(eval_get a 243).trans (hd 11 (by simp) _ rfl)
         obtain⟨hc0,hc1,hc2,hc3,hc4,hc5,hc6⟩:=TC.out W hb
         go_simp
       · refine⟨rfl,IsR.mono _,fun a W hA hb hd=>takes_on (i:=6) (d:=238) (b:=true) rfl rfl rfl (hd 6 (by simp) _ rfl) (yields_value _ ?_ rfl)⟩
         have h239:a.tmps[239]?.getD undef = .agg #[.int .u64 (e0:Int),.int .u32 (e1:Int),.int .u64 (e2:Int),.int .u16 (e3:Int),.int .u8 (e4:Int),.int .u16 (e5:Int),.int .u32 (e6:Int)]:=(eval_get a 239).trans (hd 7 (by simp) _ rfl)
         have h244:a.tmps[244]?.getD undef = .agg #[.int .u64 (e0:Int),.int .u32 (e1:Int),.int .u64 (e2:Int),.int .u16 (e3:Int),.int .u8 (e4:Int),.int .u16 (e5:Int),.int .u32 (e6:Int)]:=(eval_get a 244).trans (hd 12 (by simp) _ rfl)
         go_simp
       · refine⟨rfl,IsR.mono _,fun a W hA hb hd=>takes_plain rfl (yields_value _ ?_ rfl)⟩
         have h238:a.tmps[238]?.getD undef = .bool true:=(eval_get a 238).trans (hd 6 (by simp) _ rfl)
         have h245:a.tmps[245]?.getD undef = .bool true:=(eval_get a 245).trans (hd 13 (by simp) _ rfl)
         go_simp
       · refine⟨rfl,IsR.mono _,fun a W hA hb hd=>takes_plain rfl (yields_value _ ?_ rfl)⟩
         have h246:a.tmps[246]?.getD undef = .bool true:=(eval_get a 246).trans (hd 14 (by simp) _ rfl)
         go_simp
       · refine⟨rfl,IsR.mono _,fun a W hA hb hd=>takes_on (i:=15) (d:=247) (b:=true) rfl rfl rfl (hd 15 (by simp) _ rfl) ?_⟩
         refine yields_call 9 #[] (by go_simp) ((known20_any W).mono ?_)
         rintro e W1 ⟨rfl,h3⟩
         exact⟨_,rfl,rfl,h3⟩
       intro vs w9 hR hF hb
       have e232:vs 232 = .int .i64 0:=hR 0 _ rfl
       have e233:vs 233 = .bool true:=hR 1 _ rfl
       have e234:vs 234 = .bool true:=hR 2 _ rfl
       have e235:vs 235 = .int .i64 0:=hR 3 _ rfl
       have e236:vs 236 = .bool true:=hR 4 _ rfl
       have e237:vs 237 = .bool true:=hR 5 _ rfl
       have e238:vs 238 = .bool true:=hR 6 _ rfl
       have e239:vs 239 = .agg #[.int .u64 (e0:Int),.int .u32 (e1:Int),.int .u64 (e2:Int),.int .u16 (e3:Int),.int .u8 (e4:Int),.int .u16 (e5:Int),.int .u32 (e6:Int)]:=hR 7 _ rfl
       have e240:vs 240 = .slice (some ⟨gT,0,none⟩) ms.length cT:=hR 8 _ rfl
       have e241:vs 241 = .int .u64 (c:Int):=hR 9 _ rfl
       have e242:vs 242 = .int .u64 (k:Int):=hR 10 _ rfl
       have e243:vs 243 = .pointer (some ⟨gT,k*7,none⟩):=hR 11 _ rfl
       have e244:vs 244 = .agg #[.int .u64 (e0:Int),.int .u32 (e1:Int),.int .u64 (e2:Int),.int .u16 (e3:Int),.int .u8 (e4:Int),.int .u16 (e5:Int),.int .u32 (e6:Int)]:=hR 12 _ rfl
       have e245:vs 245 = .bool true:=hR 13 _ rfl
       have e246:vs 246 = .bool true:=hR 14 _ rfl
       have e247:vs 247 = .bool true:=hR 15 _ rfl
       have e248:vs 248 = .bool true:=hR 16 _ rfl
       simp only[List.map_cons,List.map_nil,List.foldl_cons,List.foldl_nil,List.length_cons,List.length_nil,List.drop_succ_cons,List.drop_zero,Act.put,List.setIfInBounds_toArray,List.set_cons_zero,List.set_cons_succ,e232,e233,e234,e235,e236,e237,e238,e239,e240,e241,e242,e243,e244,e245,e246,e247,e248]
       have B89:=Lib.hid hb
       clear hR hF hb e232 e233 e234 e235 e236 e237 e238 e239 e240 e241 e242 e243 e244 e245 e246 e247 e248
       go_wp2_with fail
       go_ret
       exact⟨rfl,below_tr B5h.out (below_tr B58.out B89.out B58.out.size) B5h.out.size⟩
      case' pos =>
       subst her
       have hsf:nn=i+1∧T1=beginT T (i+1)∧S1=⟨1099511627776,i+1,i⟩:=by
        rcases SF.out.2.1 with h | h
        · exact h.2
        · exact absurd rfl h.1
       have HN:=Lib.hid hsf.1
       have CM4:Hid (CmB w w3 O3 x p d rg lg r gw gv (cR key) (beginT T nn) D2 ⟨1099511627776,nn,i⟩ al vP (U.map fun q=>(q,i,5)) vT ms):=Lib.hid (by
        have h:=CM3.out
        obtain⟨h1,h2,h3⟩:=hsf
        rw[←h1] at h2 h3
        rw[←h2,←h3]
        exact h)
       have wi:IntKind.u32.wrap (i:Int)=(i:Int):=by rw[IntKind.wrap_u32];have:=I9.out;omega
       have AB4:Hid (Below w3.heap.size w3 (w3.alloc (.cells #[.int .u64 (nn:Int),.int .u32 0,.int .u64 0,.int .u16 0,.int .u8 0,.int .u16 0,.int .u32 (i:Int)] 40))):=Lib.hid ((Below.refl _ _).alloc (Nat.le_refl _) _)
       have CM5:=Lib.hid (CM4.out.alloc AB4.out (O':=markO O3 w3.heap.size (some w3.heap.size) (0,5)) (fun k hk=>markO_old hk))
       have GM5:Hid (CbB (w3.alloc (.cells #[.int .u64 (nn:Int),.int .u32 0,.int .u64 0,.int .u16 0,.int .u8 0,.int .u16 0,.int .u32 (i:Int)] 40)) w3.heap.size 40 #[.int .u64 (nn:Int),.int .u32 0,.int .u64 0,.int .u16 0,.int .u8 0,.int .u16 0,.int .u32 (i:Int)]):=Lib.hid (CbB.new _ _ _)
       have GT5:Hid (markO O3 w3.heap.size (some w3.heap.size) (0,5) w3.heap.size=(0,5)):=Lib.hid (markO_new (Nat.le_refl _))
       obtain⟨AP,cP,hvP⟩:=row_shape CM5.out.pr
       rw[List.length_map] at hvP
       subst hvP
       have c7:(w3.alloc (.cells #[.int .u64 (nn:Int),.int .u32 0,.int .u64 0,.int .u16 0,.int .u8 0,.int .u16 0,.int .u32 (i:Int)] 40)).cell? ⟨x,7,none⟩=some (.slice AP U.length cP):=CM5.out.box.cell (k:=7) rfl
       clear hsf CM3 CM4 AB4 HQ0
       go_wp2_with fail
       clear c7
       go_loopw [97] (fun z wr=>∃(k:Nat) (O5:Tgm) (T5:PgP),k≤U.length∧z = .int .i64 (k:Int)∧CmB w wr O5 x p d rg lg r gw gv (cR key) T5 D2 ⟨1099511627776,nn,i⟩ al (.slice AP U.length cP) (U.map fun q=>(q,i,5)) vT ms∧DrC T5 i U k∧CbB wr w3.heap.size 40 #[.int .u64 (nn:Int),.int .u32 0,.int .u64 0,.int .u16 0,.int .u8 0,.int .u16 0,.int .u32 (i:Int)]∧O5 w3.heap.size=(0,5)) (fun z _=>U.length-(intOf z).toNat)
       case atStart=>exact⟨0,_,_,Nat.zero_le _,rfl,CM5.out,by rw[HN.out];exact BD.out.begin,GM5.out,GT5.out⟩
       case round=>
        clear CM5 GM5 GT5
        obtain⟨k,O5,T5,hk,rfl,hcm,hdr,hg,ht⟩:=hrel
        have CM:=Lib.hid hcm
        have DC:=Lib.hid hdr
        have GM:=Lib.hid hg
        have GT:=Lib.hid ht
        clear hcm hdr hg ht
        by_cases hlt:k<U.length
        · have hlti:(k:Int)<(U.length:Int):=by omega
          have HLT:=Lib.hid hlt
          have LU:=Lib.hid DC.out.lu
          obtain⟨pg,hpg⟩:∃pg,U[k]? = some pg:=⟨_,List.getElem?_eq_getElem hlt⟩
          have DD:=Lib.hid (DC.out.drop hpg)
          obtain⟨gP,hgP,hcP⟩:=row_cellsW CM.out.pr (by rw[List.length_map];omega)
          subst hgP
          obtain⟨r0,r1,r2⟩:=refC_at (U.map fun q=>(q,i,5)) k (pg,i,5) (by rw[List.getElem?_map,hpg];rfl)
          have CX:Hid (∀W (F:Nat→Prop),Fr wr W F→(∀q,F q→q<wr.heap.size∧(O5 q).1=p)→W.cell? ⟨x,3,none⟩=some (.pointer (some ⟨p,0,none⟩))∧W.cell? ⟨x,7,none⟩=some (.slice (some ⟨gP,0,none⟩) U.length cP)∧W.cell? ⟨gP,k*3,none⟩=some (.int .u32 (pg:Int))∧W.cell? ⟨gP,k*3+1,none⟩=some (.int .u64 (i:Int))∧W.cell? ⟨gP,k*3+2,none⟩=some (.int .u16 5)):=Lib.hid fun W F hW hF=>by
           have hx:=CbB.fr CM.out.box hW (fun e=>by have h9:=(hF _ e).2;rw[CM.out.tx] at h9;exact not_p9 (i:=8) HPP.out h9)
           have hgl:=row_ltD CM.out.pr gP rfl
           have hh:∀j v,wr.cell? ⟨gP,j,none⟩=some v→W.cell? ⟨gP,j,none⟩=some v:=fun j v h=>by rw[←h];exact World.cell?_of_block (hW.block _ hgl (fun e=>by have h9:=(hF _ e).2;rw[CM.out.pt gP rfl] at h9;exact not_p9 (i:=6) HPP.out h9))
           exact⟨hx.cell (k:=3) rfl,hx.cell (k:=7) rfl,hh _ _ (hcP _ _ r0),hh _ _ (hcP _ _ r1),hh _ _ (hcP _ _ r2)⟩
          have DR:Hid (∀W,Below wr.heap.size wr W→Calls Tryz.prog 26 #[.pointer (some ⟨p,0,none⟩),.agg #[.int .u32 (pg:Int),.int .u64 (i:Int),.int .u16 5]] W fun e W1=>e = .returned (.int .i64 0)∧DpW wr.heap.size O5 p d rg lg { T5 with wa:=putL pg (.bool true) T5.wa,dr:=putL pg (.bool true) T5.dr } (.int .i64 0) (.int .i64 0) W1∧Fr W W1 (fun q=>q<wr.heap.size∧(O5 q).1=p)):=Lib.hid fun W hW=>by
           have CW:=CM.out.ab hW
           have hn:=SK3.out.n
           refine (drop_new pg i 5 CW.pg CW.dv DC.out.fa ⟨by rw[DC.out.cm];omega,DC.out.fl⟩ ⟨by have:=DD.out.1;omega,by rw[hn];exact DD.out.1.2,by have:=DD.out.1;omega⟩ DD.out.2.1 DD.out.2.2.1 DD.out.2.2.2.1).mono ?_
           rintro e W1 ⟨O',rfl,h1,h2⟩
           refine⟨rfl,⟨rfl,O',h1,fun k hk=>(h2.tg k (Nat.lt_of_lt_of_le hk hW.size)).trans (cutO_old hk)⟩,h2.fr.imp fun q hq=>?_⟩
           by_cases hlt:q<wr.heap.size
           · rw[cutO_old hlt] at hq;exact⟨hlt,hq⟩
           · rw[cutO_at (by omega)] at hq
             exact absurd hq (not_p9 (i:=0) HPP.out)
          clear hlt hk hcP r0 r1 r2 hpg
          go_upto_region 21 with (fail)
          refine wp_wide5 (fun i q=>i=11∧q<wr.heap.size∧(O5 q).1=p) [⟨100,IsR (.pointer (some ⟨x,0,none⟩)),[],false⟩,⟨101,IsR (.pointer (some ⟨x,0,none⟩)),[0],false⟩,⟨102,IsR (.pointer (some ⟨x,3,none⟩)),[1],false⟩,⟨103,IsR (.pointer (some ⟨p,0,none⟩)),[2],false⟩,⟨104,IsR (.pointer (some ⟨x,0,none⟩)),[],false⟩,⟨105,IsR (.pointer (some ⟨x,0,none⟩)),[4],false⟩,⟨106,IsR (.pointer (some ⟨x,7,none⟩)),[5],false⟩,⟨107,IsR (.slice (some ⟨gP,0,none⟩) U.length cP),[6],false⟩,⟨108,IsR (.int .i64 (k:Int)),[],false⟩,⟨109,IsR (.pointer (some ⟨gP,k*3,none⟩)),[7,8],false⟩,⟨110,IsR (.agg #[.int .u32 (pg:Int),.int .u64 (i:Int),.int .u16 5]),[9],false⟩,⟨111,DpW wr.heap.size O5 p d rg lg { T5 with wa:=putL pg (.bool true) T5.wa,dr:=putL pg (.bool true) T5.dr } (.int .i64 0),[3,10],false⟩] (by kernel_rfl) (by kernel_rfl) rfl rfl rfl ⟨?_,?_,?_,?_,?_,?_,?_,?_,?_,?_,?_,?_,trivial⟩ ?_
          · refine⟨rfl,IsR.monoF _ _,fun a W hA hb hd=>Takes.to5 (takes_plain rfl (yields_value _ ?_ rfl)) _⟩
            have h9:a.tmps[9]?.getD undef = .pointer (some ⟨x,0,none⟩):=(eval_get a 9).trans ((hA.eval (by simp)).trans rfl)
            go_simp
          · refine⟨rfl,IsR.monoF _ _,fun a W hA hb hd=>Takes.to5 (takes_plain rfl (yields_value _ ?_ rfl)) _⟩
            have h100:a.tmps[100]?.getD undef = .pointer (some ⟨x,0,none⟩):=(eval_get a 100).trans (hd 0 (by simp) _ rfl)
            go_simp
          · refine⟨rfl,IsR.monoF _ _,fun a W hA hb hd=>Takes.to5 (takes_plain rfl (yields_value _ ?_ rfl)) _⟩
            have h101:a.tmps[101]?.getD undef = .pointer (some ⟨x,0,none⟩):=(eval_get a 101).trans (hd 1 (by simp) _ rfl)
            go_simp
          · refine⟨rfl,IsR.monoF _ _,fun a W hA hb hd=>Takes.to5 (takes_plain rfl (yields_value _ ?_ rfl)) _⟩
            have h102:a.tmps[102]?.getD undef = .pointer (some ⟨x,3,none⟩):=(eval_get a 102).trans (hd 2 (by simp) _ rfl)
            have hc:=(CX.out W _ hb (fun q ⟨j,_,hj⟩=>hj.2)).1
            go_simp
          · refine⟨rfl,IsR.monoF _ _,fun a W hA hb hd=>Takes.to5 (takes_plain rfl (yields_value _ ?_ rfl)) _⟩
            have h9:a.tmps[9]?.getD undef = .pointer (some ⟨x,0,none⟩):=(eval_get a 9).trans ((hA.eval (by simp)).trans rfl)
            go_simp
          · refine⟨rfl,IsR.monoF _ _,fun a W hA hb hd=>Takes.to5 (takes_plain rfl (yields_value _ ?_ rfl)) _⟩
            have h104:a.tmps[104]?.getD undef = .pointer (some ⟨x,0,none⟩):=(eval_get a 104).trans (hd 4 (by simp) _ rfl)
            go_simp
          · refine⟨rfl,IsR.monoF _ _,fun a W hA hb hd=>Takes.to5 (takes_plain rfl (yields_value _ ?_ rfl)) _⟩
            have h105:a.tmps[105]?.getD undef = .pointer (some ⟨x,0,none⟩):=(eval_get a 105).trans (hd 5 (by simp) _ rfl)
            go_simp
          · refine⟨rfl,IsR.monoF _ _,fun a W hA hb hd=>Takes.to5 (takes_plain rfl (yields_value _ ?_ rfl)) _⟩
            have h106:a.tmps[106]?.getD undef = .pointer (some ⟨x,7,none⟩):=(eval_get a 106).trans (hd 6 (by simp) _ rfl)
            have hc:=(CX.out W _ hb (fun q ⟨j,_,hj⟩=>hj.2)).2.1
            go_simp
          · refine⟨rfl,IsR.monoF _ _,fun a W hA hb hd=>Takes.to5 (takes_plain rfl (yields_value _ ?_ rfl)) _⟩
            have h17:a.tmps[17]?.getD undef = .int .i64 (k:Int):=(eval_get a 17).trans ((hA.eval (by simp)).trans rfl)
            go_simp
          · refine⟨rfl,IsR.monoF _ _,fun a W hA hb hd=>Takes.to5 (takes_plain rfl (yields_value _ ?_ rfl)) _⟩
            have h107:a.tmps[107]?.getD undef = .slice (some ⟨gP,0,none⟩) U.length cP:=(eval_get a 107).trans (hd 7 (by simp) _ rfl)
            have h108:a.tmps[108]?.getD undef = .int .i64 (k:Int):=(eval_get a 108).trans (hd 8 (by simp) _ rfl)
            have i0:(0:Int)≤(k:Int):=by omega
            have i1:(k:Int)<(U.length:Int):=hlti
            go_simp
          · refine⟨rfl,IsR.monoF _ _,fun a W hA hb hd=>Takes.to5 (takes_plain rfl (yields_value _ ?_ rfl)) _⟩
            have h109:a.tmps[109]?.getD undef = .pointer (some ⟨gP,k*3,none⟩):=(eval_get a 109).trans (hd 9 (by simp) _ rfl)
            obtain⟨_,_,hc0,hc1,hc2⟩:=CX.out W _ hb (fun q ⟨j,_,hj⟩=>hj.2)
            go_simp
          · refine⟨rfl,fun v W W1 h hf=>DpW.ab h (hf.none fun q ⟨j,hj,hj2,_⟩=>hj hj2),fun a W hA hb hd=>takes5_plain rfl ?_⟩
            have h103:a.tmps[103]?.getD undef = .pointer (some ⟨p,0,none⟩):=(eval_get a 103).trans (hd 3 (by simp) _ rfl)
            have h110:a.tmps[110]?.getD undef = .agg #[.int .u32 (pg:Int),.int .u64 (i:Int),.int .u16 5]:=(eval_get a 110).trans (hd 10 (by simp) _ rfl)
            refine .inr ⟨26,#[.pointer (some ⟨p,0,none⟩),.agg #[.int .u32 (pg:Int),.int .u64 (i:Int),.int .u16 5]],by go_simp,(DR.out W (hb.none fun q ⟨j,hj,hj2,_⟩=>hj hj2)).mono ?_⟩
            rintro e W1 ⟨rfl,h1,h2⟩
            exact⟨_,rfl,h1,h2.imp fun q hq=>⟨rfl,hq⟩⟩
          intro vt w6 hR hb
          obtain⟨_,O6,hp6,ht6⟩:DpW wr.heap.size O5 p d rg lg { T5 with wa:=putL pg (.bool true) T5.wa,dr:=putL pg (.bool true) T5.dr } (.int .i64 0) (vt 111) w6:=hR 11 _ rfl
          have e100:vt 100 = .pointer (some ⟨x,0,none⟩):=hR 0 _ rfl
          have e101:vt 101 = .pointer (some ⟨x,0,none⟩):=hR 1 _ rfl
          have e102:vt 102 = .pointer (some ⟨x,3,none⟩):=hR 2 _ rfl
          have e103:vt 103 = .pointer (some ⟨p,0,none⟩):=hR 3 _ rfl
          have e104:vt 104 = .pointer (some ⟨x,0,none⟩):=hR 4 _ rfl
          have e105:vt 105 = .pointer (some ⟨x,0,none⟩):=hR 5 _ rfl
          have e106:vt 106 = .pointer (some ⟨x,7,none⟩):=hR 6 _ rfl
          have e107:vt 107 = .slice (some ⟨gP,0,none⟩) U.length cP:=hR 7 _ rfl
          have e108:vt 108 = .int .i64 (k:Int):=hR 8 _ rfl
          have e109:vt 109 = .pointer (some ⟨gP,k*3,none⟩):=hR 9 _ rfl
          have e110:vt 110 = .agg #[.int .u32 (pg:Int),.int .u64 (i:Int),.int .u16 5]:=hR 10 _ rfl
          have e111:vt 111 = .int .i64 0:=(hR 11 _ rfl).1
          simp only[List.map_cons,List.map_nil,List.foldl_cons,List.foldl_nil,List.length_cons,List.length_nil,List.drop_succ_cons,List.drop_zero,Act.put,List.setIfInBounds_toArray,List.set_cons_zero,List.set_cons_succ,e100,e101,e102,e103,e104,e105,e106,e107,e108,e109,e110,e111]
          have s6:Wr (fun τ=>τ.1=p) wr O5 w6 O6:=Wr.mk' hb (fun q ⟨j,_,hj⟩=>hj.2) ht6
          have CM6:=Lib.hid (CM.out.step s6 (fun i hi=>not_p9 HPP.out) hp6 (CM.out.dv.wr s6 (not_p9 HPP.out)) (CM.out.ri.wr s6 (not_p9 HPP.out) (not_p9 HPP.out)) (CM.out.lo.wr s6 (not_p9 HPP.out)) (CM.out.rs.wr s6 (not_p9 HPP.out)))
          have G6:=Lib.hid (CbB.fr GM.out s6.fr (fun e=>by rw[GT.out] at e;exact not_p9 (i:=5) HPP.out e))
          have T6:=Lib.hid ((s6.tg _ GM.out.lt).trans GT.out)
          clear hR hb hp6 ht6 s6 e100 e101 e102 e103 e104 e105 e106 e107 e108 e109 e110 e111 CX DR CM GM GT
          generalize vt 111=q111 at *
          have kb:(k:Int)≤5:=by have:=HLT.out;have:=LU.out;omega
          go_wp2_with fail
          go_roundw
          case rel=>exact⟨k+1,O6,_,HLT.out,by go_num,CM6.out,DD.out.2.2.2.2,G6.out,T6.out⟩
          case measure=>simp[intOf];have:=HLT.out;omega
        · obtain rfl:k=U.length:=by omega
          have OC:=Lib.hid (DC.out.opened (R:=cR key))
          have c7:wr.cell? ⟨x,7,none⟩=some (.slice AP U.length cP):=CM.out.box.cell (k:=7) rfl
          have f7:=CM.out.box.free 7
          have K6:=Lib.hid (CM.out.box.set 7 (.slice none 0 0))
          have s6:Wr (fun τ=>τ=(0,8)) wr O5 (wr.setCell ⟨x,7,none⟩ (.slice none 0 0)) O5:=⟨(fr_setD wr x 7 _).imp fun q hq=>by rw[hq];exact CM.out.tx,fun _ _=>rfl⟩
          have CM6:Hid (CmB w (wr.setCell ⟨x,7,none⟩ (.slice none 0 0)) O5 x p d rg lg r gw gv (cR key) T5 D2 ⟨1099511627776,nn,i⟩ al (.slice none 0 0) [] vT ms):=Lib.hid ⟨K6.out,CM.out.tx,CM.out.pg.wr s6 (fun i e=>by have:=HPP.out;injection e with e;omega) (fun e=>by cases e),CM.out.dv.wr s6 (fun e=>by cases e),CM.out.ri.wr s6 (fun e=>by cases e) (fun e=>by cases e),CM.out.lo.wr s6 (fun e=>by cases e),CM.out.rs.wr s6 (fun e=>by cases e),World.ownsRow_nil _ _ _ _,(fun k hk=>by cases hk),row_fr CM.out.tr s6.fr (fun k hk e=>by rw[CM.out.tt k hk] at e;cases e),CM.out.tt,s6.below CM.out.bl CM.out.bl.size (fun k hk e=>by rw[CM.out.ol k hk] at e;cases e),CM.out.ol⟩
          have G6:=Lib.hid (CbB.fr GM.out s6.fr (fun e=>by rw[GT.out] at e;cases e))
          have W6:=Lib.hid (fun W hW=>FC.out W (below_tr CM6.out.bl hW CM6.out.bl.size))
          have hcf6:=(W6.out _ (Below.refl _ _)).1
          clear hlt hk K6 s6 CM GM DC
          go_wp2_with fail
          generalize q.a=qa at *
          generalize q.n=qn at *
          generalize q.c=qc at *
          generalize q.b=qb at *
          clear hcf6 W6
          obtain⟨gm,hgm⟩:∃gm,w3.heap.size=gm:=⟨_,rfl⟩
          rw[hgm] at G6 GT
          rw[hgm]
          clear hgm
          go_loopw [122] (fun z wr=>∃(j:Nat) (O7:Tgm) (T7:PgP) (vP:Value) (new:List Nat) (e0 e1 e2:Nat),j≤qn∧z = .int .i64 (j:Int)∧CmB w wr O7 x p d rg lg r gw gv (cR key) T7 D2 ⟨1099511627776,nn,i⟩ al vP (new.map fun q=>(q,nn,5)) vT ms∧OpC T7 (cR key) i U new∧new.length=j∧CbB wr gm 40 #[.int .u64 (nn:Int),.int .u32 (e0:Int),.int .u64 (e1:Int),.int .u16 (e2:Int),.int .u8 0,.int .u16 0,.int .u32 (i:Int)]∧O7 gm=(0,5)∧e0<4294967296∧e1<18446744073709551616∧e2<65536) (fun z _=>qn-(intOf z).toNat)
          case atStart=>exact⟨0,O5,T5,_,[],0,0,0,Nat.zero_le _,rfl,CM6.out,OC.out,rfl,G6.out,GT.out,by decide,by decide,by decide⟩
          case round=>
           clear CM6 G6 GT OC
           obtain⟨j,O7,T7,vP7,new,e0,e1,e2,hj,rfl,hcm,hoc,hln,hg,ht,hb0,hb1,hb2⟩:=hrel
           have CM:=Lib.hid hcm
           have OC:=Lib.hid hoc
           have LN7:=Lib.hid hln
           have GM:=Lib.hid hg
           have GT:=Lib.hid ht
           have EB:=Lib.hid (And.intro hb0 (And.intro hb1 hb2))
           clear hcm hoc hln hg ht hb0 hb1 hb2
           by_cases hltj0:j<qn
           · have hltj:(j:Int)<(qn:Int):=by omega
             have HLJ:=Lib.hid hltj0
             obtain⟨AP7,cP7,hvP⟩:=row_shape CM.out.pr
             rw[List.length_map,LN7.out] at hvP
             subst hvP
             obtain⟨y,rfl,_,_⟩:=((FC.out _ CM.out.bl).2).cell (by omega)
             obtain⟨b,hbb⟩:∃b,at' qb j=b:=⟨_,rfl⟩
             have HBB:Hid (b<256):=Lib.hid (by
              have hl:=(FC.out _ CM.out.bl).2.len
              rw[←hbb]
              unfold at'
              rw[List.getElem?_eq_getElem (by omega)]
              exact (FC.out _ CM.out.bl).2.2 _ (List.getElem_mem (by omega)))
             have HBF:=Lib.hid hbb
             obtain⟨⟨pg,en⟩,rest,hfr,p2,p40,hO8⟩:=OC.out.put1 (key:=key) (by rw[LN7.out];have:=HLJ.out;have:=H5.out;omega) (by have:=I9.out;omega) rfl HBB.out
             obtain⟨T8,hT8⟩:∃T8,putT T7 (pg,en) rest ⟨1,1,0,pg,i+1,5⟩ (payB b)=T8:=⟨_,rfl⟩
             have OC8:Hid (OpC T8 (cR key) i U (new++[pg])):=Lib.hid (by rw[←hT8];exact hO8)
             have PG40:Hid (pg<40):=Lib.hid p40
             have CX:Hid (∀W (F:Nat→Prop),Fr wr W F→(∀q,F q→q<wr.heap.size∧(O7 q).1=p)→W.cell? ⟨x,3,none⟩=some (.pointer (some ⟨p,0,none⟩))∧W.cell? (yf.add i)=some (.slice (some y) qn qc)∧W.cell? (y.add j)=some (.int .u8 (b:Int))):=Lib.hid fun W F hW hF=>by
              have sW:Wr (fun τ=>τ.1=p) wr O7 W O7:=⟨hW.imp fun q hq=>(hF q hq).2,fun _ _=>rfl⟩
              have bW:=sW.below CM.out.bl CM.out.bl.size (fun k hk e=>by rw[CM.out.ol k hk] at e;exact not_p9 (i:=9) HPP.out e)
              obtain⟨y',e,_,hc⟩:=((FC.out W bW).2).cell (by have:=HLJ.out;omega)
              injection e with e
              subst e
              exact⟨(CbB.fr CM.out.box sW.fr (fun e=>by rw[CM.out.tx] at e;exact not_p9 (i:=8) HPP.out e)).cell (k:=3) rfl,(FC.out W bW).1,by rw[←HBF.out];exact hc j HLJ.out⟩
             have PU:Hid (∀W (g:Nat),Below wr.heap.size wr W→IsB W (some ⟨g,0,none⟩) 224 224 (payB b)→wr.heap.size≤g→Calls Tryz.prog 27 #[.pointer (some ⟨p,0,none⟩),.int .u32 1,.int .u8 1,.int .u8 0,.slice (some ⟨g,0,none⟩) 224 224] W fun e W1=>e = .returned (.tuple #[.agg #[.int .u32 (pg:Int),.int .u64 (nn:Int),.int .u16 5],.int .i64 0])∧DpW wr.heap.size O7 p d rg lg T8 (.tuple #[.agg #[.int .u32 (pg:Int),.int .u64 (nn:Int),.int .u16 5],.int .i64 0]) (.tuple #[.agg #[.int .u32 (pg:Int),.int .u64 (nn:Int),.int .u16 5],.int .i64 0]) W1∧Fr W W1 (fun q=>q<wr.heap.size∧(O7 q).1=p)):=Lib.hid fun W g hW hib hg=>by
              have CW:=CM.out.ab hW
              have hcm9:T7.cm=nn:=by rw[OC.out.cm,HN.out]
              refine (put_ok (t:=1) (k:=1) (lv:=0) (gen:=5) (r:=(pg,en)) (rest:=rest) (pay:=payB b) CW.pg CW.ri OC.out.fa ⟨by rw[OC.out.cm];omega,OC.out.fl⟩ ⟨by decide,by decide⟩ (by decide) (by decide) (by show 2≤12;decide) (new_two key) (by decide) hfr hib (by rw[cutO_at hg];have:=HPP.out;show (0:Nat)≠p;omega)).mono ?_
              rintro e W1 ⟨O',rfl,h1,h2⟩
              rw[OC.out.cm] at h1
              refine⟨congrArg (fun z:Nat=>Ending.returned (.tuple #[.agg #[.int .u32 (pg:Int),.int .u64 (z:Int),.int .u16 5],.int .i64 0])) hcm9,⟨rfl,O',by rw[←hT8];exact h1,fun k hk=>(h2.tg k (Nat.lt_of_lt_of_le hk hW.size)).trans (cutO_old hk)⟩,h2.fr.imp fun q hq=>?_⟩
              by_cases hlt:q<wr.heap.size
              · rw[cutO_old hlt] at hq;exact⟨hlt,hq⟩
              · rw[cutO_at (by omega)] at hq
                exact absurd hq (not_p9 (i:=0) HPP.out)
             clear hltj0 hj hbb hfr p2 p40 hO8 hT8
             go_upto_region 28 with (fail)
             refine wp_wide5L (fun i q=>i=12∧q<wr.heap.size∧(O7 q).1=p) [⟨126,IsR (.pointer (some ⟨x,0,none⟩)),[],false⟩,⟨127,IsR (.pointer (some ⟨x,0,none⟩)),[0],false⟩,⟨128,IsR (.pointer (some ⟨x,3,none⟩)),[1],false⟩,⟨129,IsR (.pointer (some ⟨p,0,none⟩)),[2],false⟩,⟨130,IsR (.slice (some yf) N fc),[],false⟩,⟨131,IsR (.int .i64 (i:Int)),[],false⟩,⟨132,IsR (.pointer (some (yf.add i))),[4,5],false⟩,⟨133,IsR (.slice (some y) qn qc),[6],false⟩,⟨134,IsR (.int .i64 (j:Int)),[],false⟩,⟨135,IsR (.pointer (some (y.add j))),[7,8],false⟩,⟨136,IsR (.int .u8 (b:Int)),[9],false⟩,⟨137,FilC wr.heap.size b,[10],false⟩,⟨138,DpW wr.heap.size O7 p d rg lg T8 (.tuple #[.agg #[.int .u32 (pg:Int),.int .u64 (nn:Int),.int .u16 5],.int .i64 0]),[3,11],false⟩,⟨125,IsR (.tuple #[.agg #[.int .u32 (pg:Int),.int .u64 (nn:Int),.int .u16 5],.int .i64 0]),[12],false⟩,⟨139,IsR (.agg #[.int .u32 (pg:Int),.int .u64 (nn:Int),.int .u16 5]),[13],false⟩,⟨140,IsR (.int .i64 0),[13],false⟩,⟨19,RefN wr.heap.size,[],false⟩] [15] (fun _ _ _ d _ h=>by cases d <;> exact h) ?_ (by kernel_rfl) (by kernel_rfl) rfl rfl rfl ⟨?_,?_,?_,?_,?_,?_,?_,?_,?_,?_,?_,?_,?_,?_,?_,?_,?_,trivial⟩ ?_
             · intro li hli hl0 ol e1 e2
               simp only[List.mem_cons,List.mem_nil_iff,or_false] at hli
               subst hli
               injection e1 with e1
               injection e2 with e2
               subst e1 e2
               refine⟨rfl,fun a W hA hb hd=>⟨.int .i64 0,fun w'=>?_,rfl⟩⟩
               have h125:a.tmps[125]?.getD undef = .tuple #[.agg #[.int .u32 (pg:Int),.int .u64 (nn:Int),.int .u16 5],.int .i64 0]:=(eval_get a 125).trans (hd 13 (by simp) _ rfl)
               go_simp
             · refine⟨rfl,IsR.monoF _ _,fun a W hA hb hd=>Takes.to5 (takes_plain rfl (yields_value _ ?_ rfl)) _⟩
               have h9:a.tmps[9]?.getD undef = .pointer (some ⟨x,0,none⟩):=(eval_get a 9).trans ((hA.eval (by simp)).trans rfl)
               go_simp
             · refine⟨rfl,IsR.monoF _ _,fun a W hA hb hd=>Takes.to5 (takes_plain rfl (yields_value _ ?_ rfl)) _⟩
               have h126:a.tmps[126]?.getD undef = .pointer (some ⟨x,0,none⟩):=(eval_get a 126).trans (hd 0 (by simp) _ rfl)
               go_simp
             · refine⟨rfl,IsR.monoF _ _,fun a W hA hb hd=>Takes.to5 (takes_plain rfl (yields_value _ ?_ rfl)) _⟩
               have h127:a.tmps[127]?.getD undef = .pointer (some ⟨x,0,none⟩):=(eval_get a 127).trans (hd 1 (by simp) _ rfl)
               go_simp
             · refine⟨rfl,IsR.monoF _ _,fun a W hA hb hd=>Takes.to5 (takes_plain rfl (yields_value _ ?_ rfl)) _⟩
               have h128:a.tmps[128]?.getD undef = .pointer (some ⟨x,3,none⟩):=(eval_get a 128).trans (hd 2 (by simp) _ rfl)
               have hc:=(CX.out W _ hb (fun q ⟨j,_,hj⟩=>hj.2)).1
               go_simp
             · refine⟨rfl,IsR.monoF _ _,fun a W hA hb hd=>Takes.to5 (takes_plain rfl (yields_value _ ?_ rfl)) _⟩
               have h1:a.tmps[1]?.getD undef = .slice (some yf) N fc:=(eval_get a 1).trans ((hA.eval (by simp)).trans rfl)
               go_simp
             · refine⟨rfl,IsR.monoF _ _,fun a W hA hb hd=>Takes.to5 (takes_plain rfl (yields_value _ ?_ rfl)) _⟩
               have h13:a.tmps[13]?.getD undef = .int .i64 (i:Int):=(eval_get a 13).trans ((hA.eval (by simp)).trans rfl)
               go_simp
             · refine⟨rfl,IsR.monoF _ _,fun a W hA hb hd=>Takes.to5 (takes_plain rfl (yields_value _ ?_ rfl)) _⟩
               have h130:a.tmps[130]?.getD undef = .slice (some yf) N fc:=(eval_get a 130).trans (hd 4 (by simp) _ rfl)
               have h131:a.tmps[131]?.getD undef = .int .i64 (i:Int):=(eval_get a 131).trans (hd 5 (by simp) _ rfl)
               have i0:(0:Int)≤(i:Int):=by omega
               have i1:(i:Int)<(N:Int):=hlti
               go_simp
             · refine⟨rfl,IsR.monoF _ _,fun a W hA hb hd=>Takes.to5 (takes_plain rfl (yields_value _ ?_ rfl)) _⟩
               have h132:a.tmps[132]?.getD undef = .pointer (some (yf.add i)):=(eval_get a 132).trans (hd 6 (by simp) _ rfl)
               have hc:=(CX.out W _ hb (fun q ⟨j,_,hj⟩=>hj.2)).2.1
               go_simp
             · refine⟨rfl,IsR.monoF _ _,fun a W hA hb hd=>Takes.to5 (takes_plain rfl (yields_value _ ?_ rfl)) _⟩
               have h18:a.tmps[18]?.getD undef = .int .i64 (j:Int):=(eval_get a 18).trans ((hA.eval (by simp)).trans rfl)
               go_simp
             · refine⟨rfl,IsR.monoF _ _,fun a W hA hb hd=>Takes.to5 (takes_plain rfl (yields_value _ ?_ rfl)) _⟩
               have h133:a.tmps[133]?.getD undef = .slice (some y) qn qc:=(eval_get a 133).trans (hd 7 (by simp) _ rfl)
               have h134:a.tmps[134]?.getD undef = .int .i64 (j:Int):=(eval_get a 134).trans (hd 8 (by simp) _ rfl)
               have j0:(0:Int)≤(j:Int):=by omega
               have j1:(j:Int)<(qn:Int):=hltj
               go_simp
             · refine⟨rfl,IsR.monoF _ _,fun a W hA hb hd=>Takes.to5 (takes_plain rfl (yields_value _ ?_ rfl)) _⟩
               have h135:a.tmps[135]?.getD undef = .pointer (some (y.add j)):=(eval_get a 135).trans (hd 9 (by simp) _ rfl)
               have hc:=(CX.out W _ hb (fun q ⟨j,_,hj⟩=>hj.2)).2.2
               go_simp
             · refine⟨rfl,fun v W W1 ⟨g,h1,h2,h3⟩ hf=>⟨g,h1,h2.fr hf (fun x hx ⟨j,_,_,hj,_⟩=>by injection hx with hx;subst hx;simp only at *;omega),h3⟩,fun a W hA hb hd=>takes5_plain rfl ?_⟩
               have h136:a.tmps[136]?.getD undef = .int .u8 (b:Int):=(eval_get a 136).trans (hd 10 (by simp) _ rfl)
               refine .inr ⟨28,#[.int .u8 (b:Int)],by go_simp,(fill20_any b HBB.out W).mono ?_⟩
               rintro e W1 ⟨g,rfl,h1,h2,h3⟩
               exact⟨_,rfl,⟨g,rfl,isB_whole h2 (payB_byt HBB.out) (payB_len b) (by decide),Nat.le_trans hb.size h1⟩,Fr.of h3 _⟩
             · refine⟨rfl,fun v W W1 h hf=>DpW.ab h (hf.none fun q ⟨j,hj,hj2,_⟩=>hj hj2),fun a W hA hb hd=>takes5_plain rfl ?_⟩
               have h129:a.tmps[129]?.getD undef = .pointer (some ⟨p,0,none⟩):=(eval_get a 129).trans (hd 3 (by simp) _ rfl)
               obtain⟨g,e9,hib,hge⟩:=hd 11 (by simp) _ rfl
               have h137:a.tmps[137]?.getD undef = .slice (some ⟨g,0,none⟩) 224 224:=(eval_get a 137).trans e9
               refine .inr ⟨27,#[.pointer (some ⟨p,0,none⟩),.int .u32 1,.int .u8 1,.int .u8 0,.slice (some ⟨g,0,none⟩) 224 224],by go_simp,(PU.out W g (hb.none fun q ⟨j,hj,hj2,_⟩=>hj hj2) hib hge).mono ?_⟩
               rintro e W1 ⟨rfl,h1,h2⟩
               exact⟨_,rfl,h1,h2.imp fun q hq=>⟨rfl,hq⟩⟩
             · refine⟨rfl,IsR.monoF _ _,fun a W hA hb hd=>takes5_plain rfl ?_⟩
               have h138:a.tmps[138]?.getD undef = .tuple #[.agg #[.int .u32 (pg:Int),.int .u64 (nn:Int),.int .u16 5],.int .i64 0]:=(eval_get a 138).trans (hd 12 (by simp) _ rfl).1
               refine Yields.to5 (yields_value (.tuple #[.agg #[.int .u32 (pg:Int),.int .u64 (nn:Int),.int .u16 5],.int .i64 0]) ?_ rfl) _
               go_simp
             · refine⟨rfl,IsR.monoF _ _,fun a W hA hb hd=>Takes.to5 (takes_plain rfl (yields_value _ ?_ rfl)) _⟩
               have h125:a.tmps[125]?.getD undef = .tuple #[.agg #[.int .u32 (pg:Int),.int .u64 (nn:Int),.int .u16 5],.int .i64 0]:=(eval_get a 125).trans (hd 13 (by simp) _ rfl)
               go_simp
             · refine⟨rfl,IsR.monoF _ _,fun a W hA hb hd=>Takes.to5 (takes_plain rfl (yields_value _ ?_ rfl)) _⟩
               have h125:a.tmps[125]?.getD undef = .tuple #[.agg #[.int .u32 (pg:Int),.int .u64 (nn:Int),.int .u16 5],.int .i64 0]:=(eval_get a 125).trans (hd 13 (by simp) _ rfl)
               go_simp
             · refine⟨rfl,fun v W W1 ⟨g,h1,h2,h3⟩ hf=>⟨g,h1,CbB.fr h2 hf (fun ⟨j,_,_,hj,_⟩=>by omega),h3⟩,fun a W hA hb hd=>takes5_plain rfl ?_⟩
               refine .inl ⟨.pointer (some ⟨W.heap.size,0,none⟩),W.alloc (.cells #[.int .u32 0,.int .u64 0,.int .u16 0] 34),?_,⟨_,rfl,CbB.new _ _ _,hb.size⟩,Fr.of ((Below.refl _ _).alloc (Nat.le_refl _) _) _⟩
               go_simp
             intro vt w7 hR hb
             obtain⟨_,O8,hp8,ht8⟩:DpW wr.heap.size O7 p d rg lg T8 (.tuple #[.agg #[.int .u32 (pg:Int),.int .u64 (nn:Int),.int .u16 5],.int .i64 0]) (vt 138) w7:=hR 12 _ rfl
             obtain⟨G,e19,hG1,hG2⟩:RefN wr.heap.size (vt 19) w7:=hR 16 _ rfl
             have e126:vt 126 = .pointer (some ⟨x,0,none⟩):=hR 0 _ rfl
             have e127:vt 127 = .pointer (some ⟨x,0,none⟩):=hR 1 _ rfl
             have e128:vt 128 = .pointer (some ⟨x,3,none⟩):=hR 2 _ rfl
             have e129:vt 129 = .pointer (some ⟨p,0,none⟩):=hR 3 _ rfl
             have e130:vt 130 = .slice (some yf) N fc:=hR 4 _ rfl
             have e131:vt 131 = .int .i64 (i:Int):=hR 5 _ rfl
             have e132:vt 132 = .pointer (some (yf.add i)):=hR 6 _ rfl
             have e133:vt 133 = .slice (some y) qn qc:=hR 7 _ rfl
             have e134:vt 134 = .int .i64 (j:Int):=hR 8 _ rfl
             have e135:vt 135 = .pointer (some (y.add j)):=hR 9 _ rfl
             have e136:vt 136 = .int .u8 (b:Int):=hR 10 _ rfl
             have e125:vt 125 = .tuple #[.agg #[.int .u32 (pg:Int),.int .u64 (nn:Int),.int .u16 5],.int .i64 0]:=hR 13 _ rfl
             have e139:vt 139 = .agg #[.int .u32 (pg:Int),.int .u64 (nn:Int),.int .u16 5]:=hR 14 _ rfl
             have e140:vt 140 = .int .i64 0:=hR 15 _ rfl
             simp only[List.map_cons,List.map_nil,List.foldl_cons,List.foldl_nil,List.length_cons,List.length_nil,List.drop_succ_cons,List.drop_zero,Act.put,List.setIfInBounds_toArray,List.set_cons_zero,List.set_cons_succ,e126,e127,e128,e129,e130,e131,e132,e133,e134,e135,e136,e125,e139,e140,e19]
             have s7:Wr (fun τ=>τ.1=p) wr O7 w7 O8:=Wr.mk' hb (fun q ⟨j,_,hj⟩=>hj.2) ht8
             have S7:=Lib.hid s7
             have P7:=Lib.hid (hp8.retag (τ:=(0,10)) (a:=0) (b:=0) (c:=0) hG1)
             have GC:=Lib.hid hG1
             have GL:=Lib.hid hG2
             clear hR hb e19 hp8 ht8 s7 hG1 hG2 e126 e127 e128 e129 e130 e131 e132 e133 e134 e135 e136 e125 e139 e140
             generalize vt 137=q137 at *
             generalize vt 138=q138 at *
             generalize vt 19=q19 at *
             go_wp2_with (first
              | (with_reducible refine wpList_storeC (o:=⟨none,.store _ (.tmp 19) (.tmp 139),_,_,_,_⟩) ?_ 34 (.tmp 19) (.tmp 139) ?_ G ?_ #[.int .u32 (pg:Int),.int .u64 (nn:Int),.int .u16 5] ?_ (t:=34) GC.out ?_ ?_ ?_ ?_
                 · rfl
                 · rfl
                 · rfl
                 · rfl
                 · exact szRefJ _ _
                 · rfl
                 · simp[Value.oneCell']
                 intro w8 hw8
                 have G8:Hid (CbB w8 G 34 #[.int .u32 (pg:Int),.int .u64 (nn:Int),.int .u16 5]):=Lib.hid (by rw[hw8];exact CbB.row GC.out _)
                 have g78:w7.grownBy w8 (some G):=by rw[hw8];exact fr_row9 w7 G _
                 have s8:Wr (fun τ=>τ=(0,10)) w7 (tagO O8 G (0,10)) w8 (tagO O8 G (0,10)):=Wr.grown g78 tagO_at
                 have p8:=P7.out.wr s8 (fun j e=>by have:=HPP.out;injection e with e;omega) (fun e=>by cases e)
                 have s9:Wr (fun τ=>τ.1=p) wr O7 w8 (tagO O8 G (0,10)):=⟨(S7.out.fresh ((Fr.grown g78).imp fun k hk=>by injection hk with hk;rw[←hk];exact GL.out)).fr,fun k hk=>(tagO_ne (by have:=GL.out;omega)).trans (S7.out.tg k hk)⟩
                 have CM8:=Lib.hid (CM.out.step s9 (fun i hi=>not_p9 HPP.out) p8 (CM.out.dv.wr s9 (not_p9 HPP.out)) (CM.out.ri.wr s9 (not_p9 HPP.out) (not_p9 HPP.out)) (CM.out.lo.wr s9 (not_p9 HPP.out)) (CM.out.rs.wr s9 (not_p9 HPP.out)))
                 have GM8:=Lib.hid (CbB.fr GM.out s9.fr (fun e=>by rw[GT.out] at e;exact not_p9 (i:=5) HPP.out e))
                 have GT8:=Lib.hid ((s9.tg _ GM.out.lt).trans GT.out)
                 have TG8:Hid (tagO O8 G (0,10) G=(0,10)):=Lib.hid tagO_at
                 clear hw8 g78 s8 p8 s9))
             obtain⟨O9,hO9⟩:∃O9,tagO O8 G (0,10)=O9:=⟨_,rfl⟩
             rw[hO9] at CM8 GT8 TG8
             clear hO9 GC GL P7 S7 CM GM GT CX PU OC
             obtain⟨ps8,hps8⟩:∃ps8,(new.map fun q=>(q,nn,5))++[(pg,nn,5)]=ps8:=⟨_,rfl⟩
             have HP8:=Lib.hid hps8
             have CX:Hid (∀W (F:Nat→Prop),Fr w8 W F→(∀q,F q→(Value.slice AP7 j cP7).ownBlock=some q)→W.cell? ⟨x,7,none⟩=some (.slice AP7 j cP7)∧W.cell? ⟨G,0,none⟩=some (.int .u32 (pg:Int))∧W.cell? ⟨G,1,none⟩=some (.int .u64 (nn:Int))∧W.cell? ⟨G,2,none⟩=some (.int .u16 5)):=Lib.hid fun W F hW hF=>by
              have hg:=CbB.fr G8.out hW (fun e=>by have h9:=CM8.out.pt _ (hF _ e);rw[TG8.out] at h9;cases h9)
              exact⟨(CbB.fr CM8.out.box hW (fun e=>by have h9:=CM8.out.pt _ (hF _ e);rw[CM8.out.tx] at h9;cases h9)).cell (k:=7) rfl,hg.cell (k:=0) rfl,hg.cell (k:=1) rfl,hg.cell (k:=2) rfl⟩
             clear hps8
             refine wp_wide5 (fun i q=>i=7∧(Value.slice AP7 j cP7).ownBlock=some q) [⟨143,IsR (.pointer (some ⟨x,0,none⟩)),[],false⟩,⟨144,IsR (.pointer (some ⟨x,0,none⟩)),[],false⟩,⟨145,IsR (.pointer (some ⟨x,0,none⟩)),[1],false⟩,⟨146,IsR (.pointer (some ⟨x,7,none⟩)),[2],false⟩,⟨147,IsR (.slice AP7 j cP7),[3],false⟩,⟨148,IsR (.agg #[.int .u32 (pg:Int),.int .u64 (nn:Int),.int .u16 5]),[],false⟩,⟨149,RefS w8.heap.size #[.int .u32 (pg:Int),.int .u64 (nn:Int),.int .u16 5],[5],false⟩,⟨150,ApR w.heap.size w8.heap.size (.slice AP7 j cP7) ps8,[4,6],false⟩,⟨151,IsR (.pointer (some ⟨x,0,none⟩)),[0],false⟩,⟨152,IsR (.pointer (some ⟨x,7,none⟩)),[8],false⟩] (by kernel_rfl) (by kernel_rfl) rfl rfl rfl ⟨?_,?_,?_,?_,?_,?_,?_,?_,?_,?_,trivial⟩ ?_
             · refine⟨rfl,IsR.monoF _ _,fun a W hA hb hd=>Takes.to5 (takes_plain rfl (yields_value _ ?_ rfl)) _⟩
               have h9:a.tmps[9]?.getD undef = .pointer (some ⟨x,0,none⟩):=(eval_get a 9).trans ((hA.eval (by simp)).trans rfl)
               go_simp
             · refine⟨rfl,IsR.monoF _ _,fun a W hA hb hd=>Takes.to5 (takes_plain rfl (yields_value _ ?_ rfl)) _⟩
               have h9:a.tmps[9]?.getD undef = .pointer (some ⟨x,0,none⟩):=(eval_get a 9).trans ((hA.eval (by simp)).trans rfl)
               go_simp
             · refine⟨rfl,IsR.monoF _ _,fun a W hA hb hd=>Takes.to5 (takes_plain rfl (yields_value _ ?_ rfl)) _⟩
               have h144:a.tmps[144]?.getD undef = .pointer (some ⟨x,0,none⟩):=(eval_get a 144).trans (hd 1 (by simp) _ rfl)
               go_simp
             · refine⟨rfl,IsR.monoF _ _,fun a W hA hb hd=>Takes.to5 (takes_plain rfl (yields_value _ ?_ rfl)) _⟩
               have h145:a.tmps[145]?.getD undef = .pointer (some ⟨x,0,none⟩):=(eval_get a 145).trans (hd 2 (by simp) _ rfl)
               go_simp
             · refine⟨rfl,IsR.monoF _ _,fun a W hA hb hd=>Takes.to5 (takes_plain rfl (yields_value _ ?_ rfl)) _⟩
               have h146:a.tmps[146]?.getD undef = .pointer (some ⟨x,7,none⟩):=(eval_get a 146).trans (hd 3 (by simp) _ rfl)
               have hc:=(CX.out W _ hb (fun q ⟨j,_,hj⟩=>hj.2)).1
               go_simp
             · refine⟨rfl,IsR.monoF _ _,fun a W hA hb hd=>Takes.to5 (takes_plain rfl (yields_value _ ?_ rfl)) _⟩
               have h19:a.tmps[19]?.getD undef = .pointer (some ⟨G,0,none⟩):=(eval_get a 19).trans ((hA.eval (by simp)).trans rfl)
               obtain⟨_,hc0,hc1,hc2⟩:=CX.out W _ hb (fun q ⟨j,_,hj⟩=>hj.2)
               go_simp
             · refine⟨rfl,fun v W W1 ⟨g,h1,h2,h3⟩ hf=>⟨g,h1,CbB.fr h2 hf (fun ⟨j,_,_,hj⟩=>by have:=row_ltD CM8.out.pr g hj;omega),h3⟩,fun a W hA hb hd=>takes5_plain rfl ?_⟩
               have h148:a.tmps[148]?.getD undef = .agg #[.int .u32 (pg:Int),.int .u64 (nn:Int),.int .u16 5]:=(eval_get a 148).trans (hd 5 (by simp) _ rfl)
               refine .inl ⟨.slice (some ⟨W.heap.size,0,none⟩) 1 1,W.alloc (.cells #[.int .u32 (pg:Int),.int .u64 (nn:Int),.int .u16 5] 34),?_,⟨_,rfl,CbB.new _ _ _,hb.size⟩,Fr.of ((Below.refl _ _).alloc (Nat.le_refl _) _) _⟩
               go_simp
             · refine⟨rfl,fun v W W1 h hf=>ApR.ab h (hf.none fun q ⟨j,hj,hj2,_⟩=>hj hj2),fun a W hA hb hd=>takes5_plain rfl ?_⟩
               obtain⟨g,e9,hg1,hg2⟩:=hd 6 (by simp) _ rfl
               have hbw:=(hb.none fun q ⟨j,hj,hj2,_⟩=>hj hj2)
               refine yields5_appS (.tmp 147) (.tmp 149) rfl Tryz.underlying53 infoRfC rfl (by decide) (row_fr CM8.out.pr (Fr.of hbw (fun _=>False)) (fun _ _ h=>h)) (hd 4 (by simp) _ rfl) e9 rfl (row_at hg1) (by simp[Value.oneCell']) (by rw[List.length_map,LN7.out];have:=HLJ.out;have:=H5.out;omega) (by decide) (Nat.le_trans CM8.out.bl.size hbw.size) fun v9 w9 r1 r2 r3=>⟨?_,r2.imp fun q hq=>⟨rfl,hq⟩⟩
               rw[←HP8.out]
               refine ApR.snoc rfl r1 ?_
               rcases r3 with r3 | r3
               · exact .inl r3
               · exact .inr ⟨_,r3,hbw.size⟩
             · refine⟨rfl,IsR.monoF _ _,fun a W hA hb hd=>Takes.to5 (takes_plain rfl (yields_value _ ?_ rfl)) _⟩
               have h143:a.tmps[143]?.getD undef = .pointer (some ⟨x,0,none⟩):=(eval_get a 143).trans (hd 0 (by simp) _ rfl)
               go_simp
             · refine⟨rfl,IsR.monoF _ _,fun a W hA hb hd=>Takes.to5 (takes_plain rfl (yields_value _ ?_ rfl)) _⟩
               have h151:a.tmps[151]?.getD undef = .pointer (some ⟨x,0,none⟩):=(eval_get a 151).trans (hd 8 (by simp) _ rfl)
               go_simp
             intro vt w9 hR hb
             have f89:Fr w8 w9 (fun q=>(Value.slice AP7 j cP7).ownBlock=some q):=hb.imp fun q ⟨_,_,hj⟩=>hj
             have ar9:ApR w.heap.size w8.heap.size (.slice AP7 j cP7) ps8 (vt 150) w9:=hR 7 _ rfl
             have e143:vt 143 = .pointer (some ⟨x,0,none⟩):=hR 0 _ rfl
             have e144:vt 144 = .pointer (some ⟨x,0,none⟩):=hR 1 _ rfl
             have e145:vt 145 = .pointer (some ⟨x,0,none⟩):=hR 2 _ rfl
             have e146:vt 146 = .pointer (some ⟨x,7,none⟩):=hR 3 _ rfl
             have e147:vt 147 = .slice AP7 j cP7:=hR 4 _ rfl
             have e148:vt 148 = .agg #[.int .u32 (pg:Int),.int .u64 (nn:Int),.int .u16 5]:=hR 5 _ rfl
             have e151:vt 151 = .pointer (some ⟨x,0,none⟩):=hR 8 _ rfl
             have e152:vt 152 = .pointer (some ⟨x,7,none⟩):=hR 9 _ rfl
             simp only[List.map_cons,List.map_nil,List.foldl_cons,List.foldl_nil,List.length_cons,List.length_nil,List.drop_succ_cons,List.drop_zero,Act.put,List.setIfInBounds_toArray,List.set_cons_zero,List.set_cons_succ,e143,e144,e145,e146,e147,e148,e151,e152]
             have x9:=CbB.fr CM8.out.box f89 (fun e=>by have h9:=CM8.out.pt _ e;rw[CM8.out.tx] at h9;cases h9)
             clear hR hb e143 e144 e145 e146 e147 e148 e151 e152
             generalize vt 149=q149 at *
             generalize vt 150=v150 at *
             obtain⟨A10,c10,hv10⟩:=row_shape ar9.1
             subst hv10
             have PU:=CM8.out.puts f89 ar9
             obtain⟨cm10,s10⟩:=PU
             have CM10:=Lib.hid cm10
             have S10:=Lib.hid s10
             have G10:=Lib.hid (CbB.fr G8.out s10.fr (fun e=>by rw[TG8.out] at e;rcases e with e | e <;> cases e))
             have GM10:=Lib.hid (CbB.fr GM8.out s10.fr (fun e=>by rw[GT8.out] at e;rcases e with e | e <;> cases e))
             have GT10:=Lib.hid ((s10.tg _ GM8.out.lt).trans GT8.out)
             have d0:=G10.out.cell (k:=0) (v:=.int .u32 (pg:Int)) rfl
             have d1:=G10.out.cell (k:=1) (v:=.int .u64 (nn:Int)) rfl
             have d2:=G10.out.cell (k:=2) (v:=.int .u16 5) rfl
             have c7:w9.cell? ⟨x,7,none⟩=some (.slice AP7 j cP7):=x9.cell (k:=7) rfl
             have f7:=x9.free 7
             clear f89 ar9 x9 cm10 s10 CX CM8 G8 GM8 GT8 TG8 G10 S10
             go_wp2_with (first
              | (with_reducible refine wpList_storeO (o:=⟨none,.store _ (.tmp 155) (.tmp 153),_,_,_,_⟩) ?_ 34 (.tmp 155) (.tmp 153) ?_ gm 1 ?_ #[.int .u32 (pg:Int),.int .u64 (nn:Int),.int .u16 5] ?_ (t:=40) GM10.out ?_ ?_ ?_ ?_
                 · rfl
                 · rfl
                 · rfl
                 · rfl
                 · exact szRefJ _ _
                 · exact (by decide:1+3≤7)
                 · simp[Value.oneCell']
                 intro w11 hw11
                 have G11:Hid (CbB w11 gm 40 #[.int .u64 (nn:Int),.int .u32 (pg:Int),.int .u64 (nn:Int),.int .u16 5,.int .u8 0,.int .u16 0,.int .u32 (i:Int)]):=Lib.hid (by rw[hw11];exact CbB.row GM10.out _)
                 have s11:Wr (fun τ=>τ=(0,5)) _ _ w11 _:=Wr.grown (by rw[hw11];exact fr_row9 _ gm _) GT10.out
                 have CM11:=Lib.hid (CM10.out.step s11 (fun i hi e=>by injection e with e1 e2;omega) (CM10.out.pg.wr s11 (fun i e=>by have:=HPP.out;injection e with e;omega) (fun e=>by cases e)) (CM10.out.dv.wr s11 (fun e=>by cases e)) (CM10.out.ri.wr s11 (fun e=>by cases e) (fun e=>by cases e)) (CM10.out.lo.wr s11 (fun e=>by cases e)) (CM10.out.rs.wr s11 (fun e=>by cases e)))
                 clear hw11 s11))
             have NB:Hid (nn<18446744073709551616):=Lib.hid (by have:=HN.out;have:=I9.out;omega)
             have PS8:Hid (ps8=(new++[pg]).map fun q=>(q,nn,5)):=Lib.hid (by rw[←HP8.out,List.map_append];rfl)
             have CM12:=CM11.out
             have GT12:=GT10.out
             rw[PS8.out] at CM12 GT12
             have C12:=Lib.hid CM12
             clear CM12 CM11 CM10 d0 d1 d2 c7 f7
             go_roundw
             case rel=>exact⟨j+1,_,T8,_,new++[pg],pg,nn,5,HLJ.out,by go_num,C12.out,OC8.out,by rw[List.length_append,LN7.out];rfl,G11.out,GT12,by have:=PG40.out;omega,NB.out,by decide⟩
             case measure=>simp[intOf];have:=HLJ.out;omega
           · obtain rfl:j=qn:=by omega
             have KB:Hid (MsOk ms∧ms.length=i∧al.length≤10*i):=Lib.hid ⟨RA.out.2.1,RA.out.2.2,RA.out.1⟩
             obtain⟨m,hm⟩:∃m:Mp,(⟨nn,e0,e1,e2,0,0,i⟩:Mp)=m:=⟨_,rfl⟩
             have HM:=Lib.hid hm
             have MOK:Hid (m.cm=i+1∧m.Ok∧rightB m=true∧m.gn=0):=Lib.hid (by
              have h1:=EB.out
              have h2:=HN.out
              have h3:=I9.out
              subst hm
              refine⟨h2,⟨by show nn<_;omega,h1.1,h1.2.1,h1.2.2,by show 0<256;decide,by show 0<65536;decide,by show i<_;omega⟩,?_,rfl⟩
              have hz:¬nn=0:=by omega
              simp[rightB,hz])
             obtain⟨q5,hq5⟩:∃q5,finishP (cR key) T7 D2 al ⟨1099511627776,nn,i⟩ m=q5:=⟨_,rfl⟩
             obtain⟨fe,T8,D8,al8,S8⟩:=q5
             have HF5:=Lib.hid hq5
             have SKM:=Lib.hid (SK3.out.more (show 30*i+1≤30*i+2 by omega) (show 30*i≤30*i+2 by omega))
             have NX:Hid ((fe=0∧S8=⟨1099511627776,i+1,i+1⟩∧RdC key T8 D8 al8 new (ms++[m]) (i+1))∨(i+1=N∧FnC key D8 S8 (ms++[m]) (if fe=0 then i+1 else i))):=Lib.hid (by
              have hF:=HF5.out
              rw[HN.out] at hF
              obtain⟨m1,m2,m3,m4⟩:=MOK.out
              rcases QF.out with hN | hQ
              · right
                have h:=cround_any (al:=al) KO.out BY.out OC.out KB.out.1 KB.out.2.1 I9.out m1 m2 m3 m4 SKM.out
                rw[hF] at h
                exact⟨hN,h⟩
              · left
                obtain⟨T',D',al',e,h⟩:=cround_quiet KO.out BY.out OC.out KB.out.2.2 KB.out.1 KB.out.2.1 I9.out m1 m2 m3 m4 SKM.out (SF.out.2.2 hQ).2
                rw[hF] at e
                simp only[Prod.mk.injEq] at e
                obtain⟨e1,e2,e3,e4,e5⟩:=e
                subst e1 e2 e3 e4 e5
                exact⟨rfl,rfl,h⟩)
             have d0:=GM.out.cell (k:=0) (v:=.int .u64 (nn:Int)) rfl
             have d1:=GM.out.cell (k:=1) (v:=.int .u32 (e0:Int)) rfl
             have d2:=GM.out.cell (k:=2) (v:=.int .u64 (e1:Int)) rfl
             have d3:=GM.out.cell (k:=3) (v:=.int .u16 (e2:Int)) rfl
             have d4:=GM.out.cell (k:=4) (v:=.int .u8 0) rfl
             have d5:=GM.out.cell (k:=5) (v:=.int .u16 0) rfl
             have d6:=GM.out.cell (k:=6) (v:=.int .u32 (i:Int)) rfl
             have A9:Hid (Below wr.heap.size wr (wr.alloc (.cells #[.int .u64 (nn:Int),.int .u32 (e0:Int),.int .u64 (e1:Int),.int .u16 (e2:Int),.int .u8 0,.int .u16 0,.int .u32 (i:Int)] 40))):=Lib.hid ((Below.refl _ _).alloc (Nat.le_refl _) _)
             have N9:Hid (CbB (wr.alloc (.cells #[.int .u64 (nn:Int),.int .u32 (e0:Int),.int .u64 (e1:Int),.int .u16 (e2:Int),.int .u8 0,.int .u16 0,.int .u32 (i:Int)] 40)) wr.heap.size 40 #[.int .u64 (nn:Int),.int .u32 (e0:Int),.int .u64 (e1:Int),.int .u16 (e2:Int),.int .u8 0,.int .u16 0,.int .u32 (i:Int)]):=Lib.hid (CbB.new _ _ _)
             clear hltj0 hj hm hq5
             go_wp2_with (first | (with_reducible refine stop_dstQ 160 ?_))
             unfold StopQ
             refine wpList_appRowS rfl (.tmp 157) (.tmp 159) rfl Tryz.underlying84 infoMp9 rfl (by decide) (B:=w.heap.size) (y:=⟨wr.heap.size,0,none⟩) (c:=1) (ys:=(mpv ⟨nn,e0,e1,e2,0,0,i⟩).toList) (row_fr CM.out.tr (Fr.of A9.out (fun _=>False)) (fun _ _ h=>h)) rfl rfl rfl (row_at N9.out) (by simp[mpv,Value.oneCell']) (by rw[KB.out.2.1];have:=I9.out;omega) (by decide) (Nat.le_trans CM.out.bl.size A9.out.size) ?_
             intro va wa hva hga hoa
             have fa:Fr wr wa (fun k=>vT.ownBlock=some k):=(Fr.of A9.out _).tr (Fr.grown hga)
             rw[HM.out] at hva
             have TO:=CM.out.told fa hva (by
              rcases hoa with hoa | hoa
              · exact .inl hoa
              · exact .inr ⟨_,hoa,A9.out.size⟩)
             have CMA:=Lib.hid TO.1
             have GMA:=Lib.hid (CbB.fr GM.out TO.2.fr (fun e=>by rw[GT.out] at e;cases e))
             have GTA:=Lib.hid ((TO.2.tg _ GM.out.lt).trans GT.out)
             clear hva hga hoa fa TO
             obtain⟨OA,hOA⟩:∃OA,markO O7 wr.heap.size va.ownBlock (0,7)=OA:=⟨_,rfl⟩
             rw[hOA] at CMA GTA
             clear hOA d0 d1 d2 d3 d4 d5 d6 A9 N9 CM GM GT
             have CX:Hid (∀W (F:Nat→Prop),Fr wa W F→(∀q,F q→q<wa.heap.size∧(OA q=(0,1)∨OA q=(0,2)∨OA q=(0,4)∨(OA q).1=p))→W.cell? ⟨x,3,none⟩=some (.pointer (some ⟨p,0,none⟩))∧W.cell? ⟨x,4,none⟩=some (.pointer (some ⟨r,0,none⟩))∧CbB W gm 40 #[.int .u64 (nn:Int),.int .u32 (e0:Int),.int .u64 (e1:Int),.int .u16 (e2:Int),.int .u8 0,.int .u16 0,.int .u32 (i:Int)]):=Lib.hid fun W F hW hF=>by
              have hx:=CbB.fr CMA.out.box hW (fun e=>by have h9:=(hF _ e).2;rw[CMA.out.tx] at h9;exact not_f9 (i:=8) HPP.out (by decide) (by decide) (by decide) h9)
              exact⟨hx.cell (k:=3) rfl,hx.cell (k:=4) rfl,CbB.fr GMA.out hW (fun e=>by have h9:=(hF _ e).2;rw[GTA.out] at h9;exact not_f9 (i:=5) HPP.out (by decide) (by decide) (by decide) h9)⟩
             have FN:Hid (∀W,Below wa.heap.size wa W→Calls Tryz.prog 29 #[.pointer (some ⟨p,0,none⟩),.pointer (some ⟨r,0,none⟩),.agg #[.int .u64 (nn:Int),.int .u32 (e0:Int),.int .u64 (e1:Int),.int .u16 (e2:Int),.int .u8 0,.int .u16 0,.int .u32 (i:Int)]] W fun e W1=>e = .returned (.int .i64 (fe:Int))∧FinW wa.heap.size OA p d rg lg r (cR key) (fe,T8,D8,al8,S8) (.int .i64 (fe:Int)) (.int .i64 (fe:Int)) W1∧Fr W W1 (fun q=>q<wa.heap.size∧(OA q=(0,1)∨OA q=(0,2)∨OA q=(0,4)∨(OA q).1=p))):=Lib.hid fun W hW=>by
              have CW:=CMA.out.ab hW
              obtain⟨m1,m2,m3,m4⟩:=MOK.out
              have hi:=I9.out
              obtain⟨f1,f2,f3⟩:=fin_cond (m:=m) (al:=al) OC.out (cR_ok KO.out BY.out) (by rw[m1];omega) (by omega) (fun _=>(cm_seal KO.out BY.out m2 m3 m4).2) SKM.out (by omega) (by omega) (by have:=KB.out.2.2;omega)
              have hal:=KB.out.2.2
              have hst:=SKM.out.st
              have hwn:=SKM.out.wn
              have h9:=finish_any (m:=m) CW.pg CW.rs CW.dv CW.lo CW.ri OC.out.fa (by rw[m1];omega) (by rw[m1];exact OC.out.cm) OC.out.fl (by show nn=m.cm;rw[m1,HN.out]) m3 m2 SKM.out.ok (by omega) (by omega) (by omega) (by rw[SKM.out.n];exact OC.out.puOk.1) OC.out.puOk.2 f1 f2 (fun T1 D1 al1 T2 D2 al2 S3 D3 g1 g2 g3=>f3 T1 D1 al1 T2 D2 al2 S3 D3 g1 g2 g3)
              rw[HF5.out,←HM.out] at h9
              refine h9.mono ?_
              rintro e W1 ⟨O',rfl,h1,h2,h3,h4,h5,h6⟩
              refine⟨rfl,⟨rfl,O',h1,h2,h3,h4,h5,fun k hk=>(h6.tg k (Nat.lt_of_lt_of_le hk hW.size)).trans (cutO_old hk)⟩,h6.fr.imp fun q hq=>?_⟩
              by_cases hlt:q<wa.heap.size
              · rw[cutO_old hlt] at hq;exact⟨hlt,hq⟩
              · rw[cutO_at (by omega)] at hq
                exact absurd hq (not_f9 (i:=0) HPP.out (by decide) (by decide) (by decide))
             go_upto_region 35 with (fail)
             refine wp_wide5 (fun i q=>i=9∧q<wa.heap.size∧(OA q=(0,1)∨OA q=(0,2)∨OA q=(0,4)∨(OA q).1=p)) [⟨161,IsR (.pointer (some ⟨x,0,none⟩)),[],false⟩,⟨162,IsR (.pointer (some ⟨x,0,none⟩)),[0],false⟩,⟨163,IsR (.pointer (some ⟨x,3,none⟩)),[1],false⟩,⟨164,IsR (.pointer (some ⟨p,0,none⟩)),[2],false⟩,⟨165,IsR (.pointer (some ⟨x,0,none⟩)),[],false⟩,⟨166,IsR (.pointer (some ⟨x,0,none⟩)),[4],false⟩,⟨167,IsR (.pointer (some ⟨x,4,none⟩)),[5],false⟩,⟨168,IsR (.pointer (some ⟨r,0,none⟩)),[6],false⟩,⟨169,IsR (.agg #[.int .u64 (nn:Int),.int .u32 (e0:Int),.int .u64 (e1:Int),.int .u16 (e2:Int),.int .u8 0,.int .u16 0,.int .u32 (i:Int)]),[],false⟩,⟨170,FinW wa.heap.size OA p d rg lg r (cR key) (fe,T8,D8,al8,S8) (.int .i64 (fe:Int)),[3,7,8],false⟩] (by kernel_rfl) (by kernel_rfl) rfl rfl rfl ⟨?_,?_,?_,?_,?_,?_,?_,?_,?_,?_,trivial⟩ ?_
             · refine⟨rfl,IsR.monoF _ _,fun a W hA hb hd=>Takes.to5 (takes_plain rfl (yields_value _ ?_ rfl)) _⟩
               have h9:a.tmps[9]?.getD undef = .pointer (some ⟨x,0,none⟩):=(eval_get a 9).trans ((hA.eval (by simp)).trans rfl)
               go_simp
             · refine⟨rfl,IsR.monoF _ _,fun a W hA hb hd=>Takes.to5 (takes_plain rfl (yields_value _ ?_ rfl)) _⟩
               have h161:a.tmps[161]?.getD undef = .pointer (some ⟨x,0,none⟩):=(eval_get a 161).trans (hd 0 (by simp) _ rfl)
               go_simp
             · refine⟨rfl,IsR.monoF _ _,fun a W hA hb hd=>Takes.to5 (takes_plain rfl (yields_value _ ?_ rfl)) _⟩
               have h162:a.tmps[162]?.getD undef = .pointer (some ⟨x,0,none⟩):=(eval_get a 162).trans (hd 1 (by simp) _ rfl)
               go_simp
             · refine⟨rfl,IsR.monoF _ _,fun a W hA hb hd=>Takes.to5 (takes_plain rfl (yields_value _ ?_ rfl)) _⟩
               have h163:a.tmps[163]?.getD undef = .pointer (some ⟨x,3,none⟩):=(eval_get a 163).trans (hd 2 (by simp) _ rfl)
               have hc:=(CX.out W _ hb (fun q ⟨j,_,hj⟩=>hj.2)).1
               go_simp
             · refine⟨rfl,IsR.monoF _ _,fun a W hA hb hd=>Takes.to5 (takes_plain rfl (yields_value _ ?_ rfl)) _⟩
               have h9:a.tmps[9]?.getD undef = .pointer (some ⟨x,0,none⟩):=(eval_get a 9).trans ((hA.eval (by simp)).trans rfl)
               go_simp
             · refine⟨rfl,IsR.monoF _ _,fun a W hA hb hd=>Takes.to5 (takes_plain rfl (yields_value _ ?_ rfl)) _⟩
               have h165:a.tmps[165]?.getD undef = .pointer (some ⟨x,0,none⟩):=(eval_get a 165).trans (hd 4 (by simp) _ rfl)
               go_simp
             · refine⟨rfl,IsR.monoF _ _,fun a W hA hb hd=>Takes.to5 (takes_plain rfl (yields_value _ ?_ rfl)) _⟩
               have h166:a.tmps[166]?.getD undef = .pointer (some ⟨x,0,none⟩):=(eval_get a 166).trans (hd 5 (by simp) _ rfl)
               go_simp
             · refine⟨rfl,IsR.monoF _ _,fun a W hA hb hd=>Takes.to5 (takes_plain rfl (yields_value _ ?_ rfl)) _⟩
               have h167:a.tmps[167]?.getD undef = .pointer (some ⟨x,4,none⟩):=(eval_get a 167).trans (hd 6 (by simp) _ rfl)
               have hc:=(CX.out W _ hb (fun q ⟨j,_,hj⟩=>hj.2)).2.1
               go_simp
             · refine⟨rfl,IsR.monoF _ _,fun a W hA hb hd=>Takes.to5 (takes_plain rfl (yields_value _ ?_ rfl)) _⟩
               have h16:a.tmps[16]?.getD undef = .pointer (some ⟨gm,0,none⟩):=(eval_get a 16).trans ((hA.eval (by simp)).trans rfl)
               have hg:=(CX.out W _ hb (fun q ⟨j,_,hj⟩=>hj.2)).2.2
               have hc0:=hg.cell (k:=0) rfl
               have hc1:=hg.cell (k:=1) rfl
               have hc2:=hg.cell (k:=2) rfl
               have hc3:=hg.cell (k:=3) rfl
               have hc4:=hg.cell (k:=4) rfl
               have hc5:=hg.cell (k:=5) rfl
               have hc6:=hg.cell (k:=6) rfl
               go_simp
             · refine⟨rfl,fun v W W1 h hf=>FinW.ab h (hf.none fun q ⟨j,hj,hj2,_⟩=>hj hj2),fun a W hA hb hd=>takes5_plain rfl ?_⟩
               have h164:a.tmps[164]?.getD undef = .pointer (some ⟨p,0,none⟩):=(eval_get a 164).trans (hd 3 (by simp) _ rfl)
               have h168:a.tmps[168]?.getD undef = .pointer (some ⟨r,0,none⟩):=(eval_get a 168).trans (hd 7 (by simp) _ rfl)
               have h169:a.tmps[169]?.getD undef = .agg #[.int .u64 (nn:Int),.int .u32 (e0:Int),.int .u64 (e1:Int),.int .u16 (e2:Int),.int .u8 0,.int .u16 0,.int .u32 (i:Int)]:=(eval_get a 169).trans (hd 8 (by simp) _ rfl)
               refine .inr ⟨29,#[.pointer (some ⟨p,0,none⟩),.pointer (some ⟨r,0,none⟩),.agg #[.int .u64 (nn:Int),.int .u32 (e0:Int),.int .u64 (e1:Int),.int .u16 (e2:Int),.int .u8 0,.int .u16 0,.int .u32 (i:Int)]],by go_simp,(FN.out W (hb.none fun q ⟨j,hj,hj2,_⟩=>hj hj2)).mono ?_⟩
               rintro e W1 ⟨rfl,h1,h2⟩
               exact⟨_,rfl,h1,h2.imp fun q hq=>⟨rfl,hq⟩⟩
             intro vt w13 hR hb
             obtain⟨_,O13,hp13,hd13,hl13,hs13,hr13,ht13⟩:FinW wa.heap.size OA p d rg lg r (cR key) (fe,T8,D8,al8,S8) (.int .i64 (fe:Int)) (vt 170) w13:=hR 9 _ rfl
             have e161:vt 161 = .pointer (some ⟨x,0,none⟩):=hR 0 _ rfl
             have e162:vt 162 = .pointer (some ⟨x,0,none⟩):=hR 1 _ rfl
             have e163:vt 163 = .pointer (some ⟨x,3,none⟩):=hR 2 _ rfl
             have e164:vt 164 = .pointer (some ⟨p,0,none⟩):=hR 3 _ rfl
             have e165:vt 165 = .pointer (some ⟨x,0,none⟩):=hR 4 _ rfl
             have e166:vt 166 = .pointer (some ⟨x,0,none⟩):=hR 5 _ rfl
             have e167:vt 167 = .pointer (some ⟨x,4,none⟩):=hR 6 _ rfl
             have e168:vt 168 = .pointer (some ⟨r,0,none⟩):=hR 7 _ rfl
             have e169:vt 169 = .agg #[.int .u64 (nn:Int),.int .u32 (e0:Int),.int .u64 (e1:Int),.int .u16 (e2:Int),.int .u8 0,.int .u16 0,.int .u32 (i:Int)]:=hR 8 _ rfl
             have e170:vt 170 = .int .i64 (fe:Int):=(hR 9 _ rfl).1
             simp only[List.map_cons,List.map_nil,List.foldl_cons,List.foldl_nil,List.length_cons,List.length_nil,List.drop_succ_cons,List.drop_zero,Act.put,List.setIfInBounds_toArray,List.set_cons_zero,List.set_cons_succ,e161,e162,e163,e164,e165,e166,e167,e168,e169,e170]
             have s13:Wr (fun τ=>τ=(0,1)∨τ=(0,2)∨τ=(0,4)∨τ.1=p) wa OA w13 O13:=Wr.mk' hb (fun q ⟨j,_,hj⟩=>hj.2) ht13
             have C13:=Lib.hid (CMA.out.step s13 (fun i hi=>not_f9 HPP.out (by omega) (by omega) (by omega)) hp13 hd13 hr13 hl13 hs13)
             clear hR hb hp13 hd13 hl13 hs13 hr13 ht13 s13 CX FN CMA GMA GTA e161 e162 e163 e164 e165 e166 e167 e168 e169 e170
             generalize vt 170=q170 at *
             have hnn:(nn:Int)=((i+1:Nat):Int):=by rw[HN.out]
             have HNN:=Lib.hid hnn
             clear hnn
             by_cases hfe:fe=0
             · subst hfe
               go_wp2_with fail
               go_roundw
               case rel=>
                rcases NX.out with ⟨_,h2,h3⟩ | ⟨h1,h2⟩
                · refine .inl ⟨i+1,O13,T8,D8,al8,vP7,new,ms++[m],HLT.out,by go_num,by rw[HNN.out],?_,h3⟩
                  have h4:=C13.out
                  rw[h2] at h4
                  rw[HN.out] at h4
                  exact h4
                · refine .inr ⟨O13,T8,D8,S8,al8,vP7,_,ms++[m],i+1,?_,by rw[HNN.out],C13.out,h2⟩
                  rw[←h1]
                  go_num
               case measure=>simp[intOf];have:=HLT.out;omega
             · have z1:((fe:Int)==0)=false:=by simp;omega
               have z2:¬(fe:Int)=0:=by omega
               go_wp2_with fail
               go_roundw
               case rel=>
                rcases NX.out with ⟨h1,_⟩ | ⟨h1,h2⟩
                · exact absurd h1 hfe
                · rw[if_neg hfe] at h2
                  refine .inr ⟨O13,T8,D8,S8,al8,vP7,_,ms++[m],i,?_,rfl,C13.out,h2⟩
                  rw[←h1]
                  go_num
               case measure=>simp[intOf];have:=HLT.out;omega
   · have hfin:∃(O1:Tgm) (T:PgP) (D:DvS) (S:RsS) (al:List Sl) (vP:Value) (ps:List (Nat×Nat×Nat)) (ms:List Mp) (last:Nat),u53 = .int .i64 (N:Int)∧u12 = .int .u64 (last:Int)∧CmB w wr O1 x p d rg lg r gw gv (cR key) T D S al vP ps vT ms∧FnC key D S ms last:=by
      rcases hrel with ⟨i,O1,T,D,al,vP,U,ms,hi,h1,h2,h3,h4⟩ | h
      · obtain rfl:i=N:=by
         rcases Nat.lt_or_ge i N with hlt | hge
         · exact absurd ⟨i,O1,T,D,al,vP,U,ms,hlt,h1,h2,h3,h4⟩ hrd
         · omega
        exact⟨O1,T,D,_,al,vP,_,ms,i,h1,h2,h3,h4.fin⟩
      · exact h
     clear hrel hrd
     obtain⟨O1,T,D,S,al,vP,ps,ms,last,rfl,rfl,hcm,hfn⟩:=hfin
     have CM:=Lib.hid hcm
     have FN:=Lib.hid hfn
     clear hcm hfn
     have c0:wr.cell? ⟨x,0,none⟩=some (.pointer (some ⟨d,0,none⟩)):=CM.out.box.cell (k:=0) rfl
     have CR:=Lib.hid (crashM mA mn mc mk FN.out.sk.ok (by have:=FN.out.sk.wn;omega) CM.out.dv (IM.out.ab CM.out.bl) (fun h0 y hy e=>by rw[CM.out.ol _ (isB_lt IM.out h0 hy)] at e;cases e))
     go_wp2_with fail
     refine CR.out.mono ?_
     rintro e w5 ⟨rfl,hd5,s5⟩
     have SKC:=Lib.hid (FN.out.sk.crash mk)
     have D5:=Lib.hid hd5
     have X5:=Lib.hid (CbB.fr CM.out.box s5.fr (fun e=>by rw[CM.out.tx] at e;cases e))
     have G5:=Lib.hid (CM.out.ri.wr s5 (fun e=>by cases e) (fun e=>by cases e))
     have S5:=Lib.hid (CM.out.rs.wr s5 (fun e=>by cases e))
     have T5:=Lib.hid (row_fr CM.out.tr s5.fr (fun k hk e=>by rw[CM.out.tt k hk] at e;cases e))
     have B5:Hid (Below w.heap.size w w5):=Lib.hid (s5.below CM.out.bl CM.out.bl.size (fun k hk e=>by rw[CM.out.ol k hk] at e;cases e))
     clear hd5 s5 CR c0 CM
     have c4:w5.cell? ⟨x,4,none⟩=some (.pointer (some ⟨r,0,none⟩)):=X5.out.cell (k:=4) rfl
     go_wp2_with fail
     refine (committedM S5.out).mono ?_
     rintro e w6 ⟨rfl,rfl⟩
     obtain⟨c,hc⟩:∃c,S.com=c:=⟨_,rfl⟩
     have HC:=Lib.hid hc
     rw[hc]
     clear hc c4
     by_cases hc0:c=0
     · have hc0i:(c:Int)=0:=by omega
       have hl0:last=0:=by have:=FN.out.lo;have:=HC.out;omega
       subst hl0
       clear hc0
       go_wp2_with fail
       refine (known20_any _).mono ?_
       rintro e w7 ⟨rfl,hb7⟩
       have B7:=Lib.hid (below_tr B5.out hb7 B5.out.size)
       clear hb7
       go_wp2_with fail
       go_ret
       exact⟨rfl,B7.out⟩
     have FNC:=Lib.hid (And.intro (show last≤c by rw[←HC.out];exact FN.out.lo) (And.intro (show c≤last+1 by rw[←HC.out];exact FN.out.hi) (And.intro (show c≤ms.length by rw[←HC.out];exact FN.out.le) FN.out.mo.le)))
     obtain⟨A,cT,hvT⟩:=row_shape T5.out
     subst hvT
     obtain⟨gT,hgT,hct⟩:=row_cellsW T5.out (by have:=FNC.out.2.2.1;omega)
     subst hgT
     obtain⟨k,hk⟩:∃k,c-1=k:=⟨_,rfl⟩
     obtain⟨m,hm⟩:∃m,ms[k]? = some m:=⟨_,List.getElem?_eq_getElem (by have:=FNC.out.2.2.1;omega)⟩
     obtain⟨s,hs⟩:∃s,c%2=s:=⟨_,rfl⟩
     have KC:=Lib.hid hk
     have KL:Hid ((k:Int)<(ms.length:Int)):=Lib.hid (by have:=FNC.out.2.2.1;omega)
     have WC:Hid (IntKind.u64.wrap ((c:Int)-1)=(k:Int)):=Lib.hid (by rw[IntKind.wrap_u64];have:=FNC.out.2.2;omega)
     have OP:Hid (mOpenP (cR key) (s:Int) (blkL (crashD D mk).now s)=⟨m,0⟩):=Lib.hid (by
      have h1:=SKC.out.2.2.2
      rw[HC.out,hs] at h1
      rw[h1]
      exact cm_open KO.out FN.out.mo (by omega) (by rw[KC.out];exact hm) hs)
     obtain⟨e0,e1,e2,e3,e4,e5,e6⟩:=m
     have TC:Hid (∀W,Below w5.heap.size w5 W→W.cell? ⟨gT,k*7,none⟩=some (.int .u64 (e0:Int))∧W.cell? ⟨gT,k*7+1,none⟩=some (.int .u32 (e1:Int))∧W.cell? ⟨gT,k*7+2,none⟩=some (.int .u64 (e2:Int))∧W.cell? ⟨gT,k*7+3,none⟩=some (.int .u16 (e3:Int))∧W.cell? ⟨gT,k*7+4,none⟩=some (.int .u8 (e4:Int))∧W.cell? ⟨gT,k*7+5,none⟩=some (.int .u16 (e5:Int))∧W.cell? ⟨gT,k*7+6,none⟩=some (.int .u32 (e6:Int))):=Lib.hid fun W hW=>by
      have hlt:=row_ltD T5.out gT rfl
      have hh:∀j v,w5.cell? ⟨gT,j,none⟩=some v→W.cell? ⟨gT,j,none⟩=some v:=fun j v h=>by rw[←h];exact World.cell?_of_block (hW.block _ hlt)
      have ha:=fun j (hj:j<7) v hv=>hh _ v (hct (k*7+j) v ((mpL_at ms k j _ hm hj).trans hv))
      exact⟨ha 0 (by decide) _ rfl,ha 1 (by decide) _ rfl,ha 2 (by decide) _ rfl,ha 3 (by decide) _ rfl,ha 4 (by decide) _ rfl,ha 5 (by decide) _ rfl,ha 6 (by decide) _ rfl⟩
     have hlo:¬(c:Int)<(last:Int):=by have:=FNC.out.1;omega
     have hhi:¬(last:Int)+1<(c:Int):=by have:=FNC.out.2.1;omega
     have hle:¬(ms.length:Int)<(c:Int):=by have:=FNC.out.2.2.1;omega
     have wl:IntKind.u64.wrap ((last:Int)+1)=(last:Int)+1:=by rw[IntKind.wrap_u64];have:=FNC.out;omega
     have wm:IntKind.u64.wrap (ms.length:Int)=(ms.length:Int):=by rw[IntKind.wrap_u64];have:=FNC.out;omega
     have hc0i:¬(c:Int)=0:=by omega
     have hc0d:((c:Int)==0)=false:=by simp;omega
     have hm2:(c:Int)%2=(s:Int):=by omega
     have hs0:(0:Int)≤(s:Int):=by omega
     have hs1:(s:Int)<2:=by omega
     have c0:w5.cell? ⟨x,0,none⟩=some (.pointer (some ⟨d,0,none⟩)):=X5.out.cell (k:=0) rfl
     obtain⟨g1,g2,wv,hds,_⟩:=D5.out
     have RD:=Lib.hid (read_any s (by rw[SKC.out.2.1];omega) SKC.out.2.2.1 SKC.out.1 hds)
     have B5h:=Lib.hid B5.out
     clear hc0 hct hm hs hk hds
     go_wp2_with fail
     refine RD.out.mono ?_
     rintro e w6 ⟨gb,rfl,_,ib,hb6⟩
     obtain⟨mm,hrg⟩:=(G5.out.wr (Wr.cut hb6 (fun _=>False)) id id).rg
     have OM:=Lib.hid (mOpen_any 0 rg mm (s:Int) (cR key) (some ⟨gb,0,none⟩) 256 256 _ w6 hrg ib)
     rw[OP.out] at OM
     have HV:Hid (opnV ⟨⟨e0,e1,e2,e3,e4,e5,e6⟩,0⟩ = .tuple #[.agg #[.int .u64 (e0:Int),.int .u32 (e1:Int),.int .u64 (e2:Int),.int .u16 (e3:Int),.int .u8 (e4:Int),.int .u16 (e5:Int),.int .u32 (e6:Int)],.int .i64 0]):=Lib.hid rfl
     rw[HV.out] at OM
     have c1:w6.cell? ⟨x,1,none⟩=some (.pointer (some ⟨rg,0,none⟩)):=(X5.out.ab hb6).cell (k:=1) rfl
     have B56:=Lib.hid hb6
     clear ib hb6 hrg RD c0
     go_wp2_with fail
     refine OM.out.mono ?_
     rintro e w7 ⟨rfl,hb7⟩
     have B57:=Lib.hid (below_tr B56.out hb7 B56.out.size)
     clear hb7 OM c1 B56
     go_upto_region 47 with (fail)
     have n8:CbB (w7.alloc (.cells #[.int .u64 (e0:Int),.int .u32 (e1:Int),.int .u64 (e2:Int),.int .u16 (e3:Int),.int .u8 (e4:Int),.int .u16 (e5:Int),.int .u32 (e6:Int)] 40)) w7.heap.size 40 #[.int .u64 (e0:Int),.int .u32 (e1:Int),.int .u64 (e2:Int),.int .u16 (e3:Int),.int .u8 (e4:Int),.int .u16 (e5:Int),.int .u32 (e6:Int)]:=CbB.new _ _ _
     have b8:Below w7.heap.size w7 (w7.alloc (.cells #[.int .u64 (e0:Int),.int .u32 (e1:Int),.int .u64 (e2:Int),.int .u16 (e3:Int),.int .u8 (e4:Int),.int .u16 (e5:Int),.int .u32 (e6:Int)] 40)):=(Below.refl _ _).alloc (Nat.le_refl _) _
     obtain⟨w8,hw8⟩:∃w8,w7.alloc (.cells #[.int .u64 (e0:Int),.int .u32 (e1:Int),.int .u64 (e2:Int),.int .u16 (e3:Int),.int .u8 (e4:Int),.int .u16 (e5:Int),.int .u32 (e6:Int)] 40)=w8:=⟨_,rfl⟩
     rw[hw8] at n8 b8⊢
     obtain⟨G,hG⟩:∃G,w7.heap.size=G:=⟨_,rfl⟩
     have B58:=Lib.hid (below_tr B57.out b8 B57.out.size)
     rw[hG] at n8⊢
     have G8:=Lib.hid n8
     have TC8:=TC
     have TC:Hid (∀W,Below w8.heap.size w8 W→W.cell? ⟨gT,k*7,none⟩=some (.int .u64 (e0:Int))∧W.cell? ⟨gT,k*7+1,none⟩=some (.int .u32 (e1:Int))∧W.cell? ⟨gT,k*7+2,none⟩=some (.int .u64 (e2:Int))∧W.cell? ⟨gT,k*7+3,none⟩=some (.int .u16 (e3:Int))∧W.cell? ⟨gT,k*7+4,none⟩=some (.int .u8 (e4:Int))∧W.cell? ⟨gT,k*7+5,none⟩=some (.int .u16 (e5:Int))∧W.cell? ⟨gT,k*7+6,none⟩=some (.int .u32 (e6:Int))):=Lib.hid fun W hW=>TC8.out W (below_tr B58.out hW B58.out.size)
     clear n8 b8 hw8 hG TC8 B57
     refine wp_wide3 [⟨232,IsR (.int .i64 0),[],false⟩,⟨233,IsR (.bool true),[0],false⟩,⟨234,IsR (.bool true),[1],false⟩,⟨235,IsR (.int .i64 0),[2],false⟩,⟨236,IsR (.bool true),[2,3],false⟩,⟨237,IsR (.bool true),[2,4],false⟩,⟨238,IsR (.bool true),[5],false⟩,⟨239,IsR (.agg #[.int .u64 (e0:Int),.int .u32 (e1:Int),.int .u64 (e2:Int),.int .u16 (e3:Int),.int .u8 (e4:Int),.int .u16 (e5:Int),.int .u32 (e6:Int)]),[6],false⟩,⟨240,IsR (.slice (some ⟨gT,0,none⟩) ms.length cT),[6],false⟩,⟨241,IsR (.int .u64 (c:Int)),[6],false⟩,⟨242,IsR (.int .u64 (k:Int)),[6,9],false⟩,⟨243,IsR (.pointer (some ⟨gT,k*7,none⟩)),[6,8,10],false⟩,⟨244,IsR (.agg #[.int .u64 (e0:Int),.int .u32 (e1:Int),.int .u64 (e2:Int),.int .u16 (e3:Int),.int .u8 (e4:Int),.int .u16 (e5:Int),.int .u32 (e6:Int)]),[6,11],false⟩,⟨245,IsR (.bool true),[6,7,12],false⟩,⟨246,IsR (.bool true),[6,13],false⟩,⟨247,IsR (.bool true),[14],false⟩,⟨248,IsR (.bool true),[15],false⟩] (by kernel_rfl) (by kernel_rfl) rfl rfl rfl ⟨?_,?_,?_,?_,?_,?_,?_,?_,?_,?_,?_,?_,?_,?_,?_,?_,?_,trivial⟩ ?_
     · refine⟨rfl,IsR.mono _,fun a W hA hb hd=>takes_plain rfl (yields_value _ ?_ rfl)⟩
       have h23:a.tmps[23]?.getD undef = .int .i64 0:=(eval_get a 23).trans ((hA.eval (by simp)).trans rfl)
       go_simp
     · refine⟨rfl,IsR.mono _,fun a W hA hb hd=>takes_plain rfl (yields_value _ ?_ rfl)⟩
       have h232:a.tmps[232]?.getD undef = .int .i64 0:=(eval_get a 232).trans (hd 0 (by simp) _ rfl)
       go_simp
     · refine⟨rfl,IsR.mono _,fun a W hA hb hd=>takes_plain rfl (yields_value _ ?_ rfl)⟩
       have h233:a.tmps[233]?.getD undef = .bool true:=(eval_get a 233).trans (hd 1 (by simp) _ rfl)
       go_simp
     · refine⟨rfl,IsR.mono _,fun a W hA hb hd=>takes_on (i:=2) (d:=234) (b:=true) rfl rfl rfl (hd 2 (by simp) _ rfl) (yields_value _ ?_ rfl)⟩
       have h25:a.tmps[25]?.getD undef = .int .i64 0:=(eval_get a 25).trans ((hA.eval (by simp)).trans rfl)
       go_simp
     · refine⟨rfl,IsR.mono _,fun a W hA hb hd=>takes_on (i:=2) (d:=234) (b:=true) rfl rfl rfl (hd 2 (by simp) _ rfl) (yields_value _ ?_ rfl)⟩
       have h235:a.tmps[235]?.getD undef = .int .i64 0:=(eval_get a 235).trans (hd 3 (by simp) _ rfl)
       go_simp
     · refine⟨rfl,IsR.mono _,fun a W hA hb hd=>takes_plain rfl (yields_value _ ?_ rfl)⟩
       have h234:a.tmps[234]?.getD undef = .bool true:=(eval_get a 234).trans (hd 2 (by simp) _ rfl)
       have h236:a.tmps[236]?.getD undef = .bool true:=(eval_get a 236).trans (hd 4 (by simp) _ rfl)
       go_simp
     · refine⟨rfl,IsR.mono _,fun a W hA hb hd=>takes_plain rfl (yields_value _ ?_ rfl)⟩
       have h237:a.tmps[237]?.getD undef = .bool true:=(eval_get a 237).trans (hd 5 (by simp) _ rfl)
       go_simp
     · refine⟨rfl,IsR.mono _,fun a W hA hb hd=>takes_on (i:=6) (d:=238) (b:=true) rfl rfl rfl (hd 6 (by simp) _ rfl) (yields_value _ ?_ rfl)⟩
       have h24:a.tmps[24]?.getD undef = .pointer (some ⟨G,0,none⟩):=(eval_get a 24).trans ((hA.eval (by simp)).trans rfl)
       have hc0:=(G8.out.ab hb).cell (k:=0) rfl
       have hc1:=(G8.out.ab hb).cell (k:=1) rfl
       have hc2:=(G8.out.ab hb).cell (k:=2) rfl
       have hc3:=(G8.out.ab hb).cell (k:=3) rfl
       have hc4:=(G8.out.ab hb).cell (k:=4) rfl
       have hc5:=(G8.out.ab hb).cell (k:=5) rfl
       have hc6:=(G8.out.ab hb).cell (k:=6) rfl
       go_simp
     · refine⟨rfl,IsR.mono _,fun a W hA hb hd=>takes_on (i:=6) (d:=238) (b:=true) rfl rfl rfl (hd 6 (by simp) _ rfl) (yields_value _ ?_ rfl)⟩
       have h11:a.tmps[11]?.getD undef = .slice (some ⟨gT,0,none⟩) ms.length cT:=(eval_get a 11).trans ((hA.eval (by simp)).trans rfl)
       go_simp
     · refine⟨rfl,IsR.mono _,fun a W hA hb hd=>takes_on (i:=6) (d:=238) (b:=true) rfl rfl rfl (hd 6 (by simp) _ rfl) (yields_value _ ?_ rfl)⟩
       have h21:a.tmps[21]?.getD undef = .int .u64 (c:Int):=(eval_get a 21).trans ((hA.eval (by simp)).trans rfl)
       go_simp
     · refine⟨rfl,IsR.mono _,fun a W hA hb hd=>takes_on (i:=6) (d:=238) (b:=true) rfl rfl rfl (hd 6 (by simp) _ rfl) ?_⟩
       have h241:a.tmps[241]?.getD undef = .int .u64 (c:Int):=(eval_get a 241).trans (hd 9 (by simp) _ rfl)
       refine yields_value (.int .u64 (k:Int)) ?_ rfl
       go_simp
       first | done | exact WC.out
     · refine⟨rfl,IsR.mono _,fun a W hA hb hd=>takes_on (i:=6) (d:=238) (b:=true) rfl rfl rfl (hd 6 (by simp) _ rfl) (yields_value _ ?_ rfl)⟩
       have h240:a.tmps[240]?.getD undef = .slice (some ⟨gT,0,none⟩) ms.length cT:=(eval_get a 240).trans (hd 8 (by simp) _ rfl)
       have h242:a.tmps[242]?.getD undef = .int .u64 (k:Int):=(eval_get a 242).trans (hd 10 (by simp) _ rfl)
       have i0:(0:Int)≤(k:Int):=by omega
       have i1:(k:Int)<(ms.length:Int):=KL.out
       go_simp
     · refine⟨rfl,IsR.mono _,fun a W hA hb hd=>takes_on (i:=6) (d:=238) (b:=true) rfl rfl rfl (hd 6 (by simp) _ rfl) (yields_value _ ?_ rfl)⟩
       have h243:a.tmps[243]?.getD undef = .pointer (some ⟨gT,k*7,none⟩):=(eval_get a 243).trans (hd 11 (by simp) _ rfl)
       obtain⟨hc0,hc1,hc2,hc3,hc4,hc5,hc6⟩:=TC.out W hb
       go_simp
     · refine⟨rfl,IsR.mono _,fun a W hA hb hd=>takes_on (i:=6) (d:=238) (b:=true) rfl rfl rfl (hd 6 (by simp) _ rfl) (yields_value _ ?_ rfl)⟩
       have h239:a.tmps[239]?.getD undef = .agg #[.int .u64 (e0:Int),.int .u32 (e1:Int),.int .u64 (e2:Int),.int .u16 (e3:Int),.int .u8 (e4:Int),.int .u16 (e5:Int),.int .u32 (e6:Int)]:=(eval_get a 239).trans (hd 7 (by simp) _ rfl)
       have h244:a.tmps[244]?.getD undef = .agg #[.int .u64 (e0:Int),.int .u32 (e1:Int),.int .u64 (e2:Int),.int .u16 (e3:Int),.int .u8 (e4:Int),.int .u16 (e5:Int),.int .u32 (e6:Int)]:=(eval_get a 244).trans (hd 12 (by simp) _ rfl)
       go_simp
     · refine⟨rfl,IsR.mono _,fun a W hA hb hd=>takes_plain rfl (yields_value _ ?_ rfl)⟩
       have h238:a.tmps[238]?.getD undef = .bool true:=(eval_get a 238).trans (hd 6 (by simp) _ rfl)
       have h245:a.tmps[245]?.getD undef = .bool true:=(eval_get a 245).trans (hd 13 (by simp) _ rfl)
       go_simp
     · refine⟨rfl,IsR.mono _,fun a W hA hb hd=>takes_plain rfl (yields_value _ ?_ rfl)⟩
       have h246:a.tmps[246]?.getD undef = .bool true:=(eval_get a 246).trans (hd 14 (by simp) _ rfl)
       go_simp
     · refine⟨rfl,IsR.mono _,fun a W hA hb hd=>takes_on (i:=15) (d:=247) (b:=true) rfl rfl rfl (hd 15 (by simp) _ rfl) ?_⟩
       refine yields_call 9 #[] (by go_simp) ((known20_any W).mono ?_)
       rintro e W1 ⟨rfl,h3⟩
       exact⟨_,rfl,rfl,h3⟩
     intro vs w9 hR hF hb
     have e232:vs 232 = .int .i64 0:=hR 0 _ rfl
     have e233:vs 233 = .bool true:=hR 1 _ rfl
     have e234:vs 234 = .bool true:=hR 2 _ rfl
     have e235:vs 235 = .int .i64 0:=hR 3 _ rfl
     have e236:vs 236 = .bool true:=hR 4 _ rfl
     have e237:vs 237 = .bool true:=hR 5 _ rfl
     have e238:vs 238 = .bool true:=hR 6 _ rfl
     have e239:vs 239 = .agg #[.int .u64 (e0:Int),.int .u32 (e1:Int),.int .u64 (e2:Int),.int .u16 (e3:Int),.int .u8 (e4:Int),.int .u16 (e5:Int),.int .u32 (e6:Int)]:=hR 7 _ rfl
     have e240:vs 240 = .slice (some ⟨gT,0,none⟩) ms.length cT:=hR 8 _ rfl
     have e241:vs 241 = .int .u64 (c:Int):=hR 9 _ rfl
     have e242:vs 242 = .int .u64 (k:Int):=hR 10 _ rfl
     have e243:vs 243 = .pointer (some ⟨gT,k*7,none⟩):=hR 11 _ rfl
     have e244:vs 244 = .agg #[.int .u64 (e0:Int),.int .u32 (e1:Int),.int .u64 (e2:Int),.int .u16 (e3:Int),.int .u8 (e4:Int),.int .u16 (e5:Int),.int .u32 (e6:Int)]:=hR 12 _ rfl
     have e245:vs 245 = .bool true:=hR 13 _ rfl
     have e246:vs 246 = .bool true:=hR 14 _ rfl
     have e247:vs 247 = .bool true:=hR 15 _ rfl
     have e248:vs 248 = .bool true:=hR 16 _ rfl
     simp only[List.map_cons,List.map_nil,List.foldl_cons,List.foldl_nil,List.length_cons,List.length_nil,List.drop_succ_cons,List.drop_zero,Act.put,List.setIfInBounds_toArray,List.set_cons_zero,List.set_cons_succ,e232,e233,e234,e235,e236,e237,e238,e239,e240,e241,e242,e243,e244,e245,e246,e247,e248]
     have B89:=Lib.hid hb
     clear hR hF hb e232 e233 e234 e235 e236 e237 e238 e239 e240 e241 e242 e243 e244 e245 e246 e247 e248
     go_wp2_with fail
     go_ret
     exact⟨rfl,below_tr B5h.out (below_tr B58.out B89.out B58.out.size) B5h.out.size⟩
end Go.Proofs.YtlobgddnlnffbaaGreat
