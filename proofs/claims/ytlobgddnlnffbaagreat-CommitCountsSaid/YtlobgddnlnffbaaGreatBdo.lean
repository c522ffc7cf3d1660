/-
  Parts of the proof, joined.
-/
import Derived.Test.YtlobgddnlnffbaaGreatBdk
import Derived.Test.YtlobgddnlnffbaaGreatBdi
import Derived.Test.YtlobgddnlnffbaaGreatBdn
import Derived.Test.YtlobgddnlnffbaaGreatBdj
namespace Go.Proofs.YtlobgddnlnffbaaGreat
set_option maxHeartbeats 4000000
open Go.RowKit
set_option linter.unusedVariables false
theorem told_seal {l:Lb} (hl:l.Ok) (h1:1≤l.k) (h4:l.k≤4) {X:List Nat} (hX:X.length=240):toldP (headL l++X)=⟨l.k,l.lv,l.gn,l.cm,0⟩:=by
 have a1:=hl.k;have a2:=hl.lv;have a3:=hl.gn;have a4:=hl.cm
 have e:headL l++X=magL++([l.k]++([l.lv]++(digB l.gn 2++(digB l.cm 8++X)))):=by
  unfold headL headN
  simp only[flatN,digB_one a1,digB_one a2,List.append_nil,List.append_assoc]
  rfl
 have hlen:(headL l++X).length=256:=by rw[List.length_append,headL_len,hX]
 have k4:at' (headL l++X) 4=l.k:=by rw[e];rfl
 have k5:at' (headL l++X) 5=l.lv:=by rw[e];rfl
 have t4:(headL l++X).take 4=magL:=by rw[e];rfl
 have d6:(headL l++X).drop 6=digB l.gn 2++(digB l.cm 8++X):=by rw[e];rfl
 have d8:(headL l++X).drop 8=digB l.cm 8++X:=by
  rw[show (8:Nat)=6+2 from rfl,←List.drop_drop,d6,List.drop_append_of_le_length (by rw[digB_len];decide),List.drop_of_length_le (by rw[digB_len];decide),List.nil_append]
 unfold toldP
 rw[if_pos hlen,if_pos ⟨t4,by rw[k4];exact⟨h1,h4⟩⟩,k4,k5,d6,d8,List.take_append_of_le_length (by rw[digB_len];decide),List.take_of_length_le (by rw[digB_len];decide),List.take_append_of_le_length (by rw[digB_len];decide),List.take_of_length_le (by rw[digB_len];decide),numB_digB _ 2 a3,numB_digB _ 8 a4]
theorem headL_byt (l:Lb) (h:l.Ok):Byt (headL l):=by
 have:∀(ps:List (Nat×Nat)),Byt (flatN ps):=fun ps=>by
  induction ps with
  | nil=>exact fun x hx=>by cases hx
  | cons p ps ih=>exact byt_app (digB_byt _ _) ih
 exact byt_app (fun x hx=>by simp at hx;omega) (this _)
theorem flatN_byt:∀(ps:List (Nat×Nat)),Byt (flatN ps)
 | []=>fun x hx=>by cases hx
 | p::ps=>byt_app (digB_byt _ _) (flatN_byt ps)
theorem slvs_snoc (all:List Sl) (s:Sl):slvs (all++[s])=slvs all++slvs [s]:=by
 induction all with
 | nil=>rfl
 | cons t r ih=>rw[List.cons_append,slvs,ih];simp[slvs,List.append_assoc]
set_option maxRecDepth 100000 in
theorem logSeal_pushT (B g:Nat) (u:Value) (all:List Sl) (kA tA:Option Addr) (kn kc tn tc:Nat) (l:Lb) (key text R:List Nat) (w:World) (hg:CbB w g 157 #[u]) (hrow:w.ownsRow B 159 9 u all.length (slvs all)) (hB:B≤w.heap.size) (h1000:all.length≤100000)
 (hl:l.Ok) (ik:IsB w kA kn kc key) (it:IsB w tA tn tc text) (hkA:∀x,kA=some x→u.ownBlock≠some x.block) (htA:∀x,tA=some x→u.ownBlock≠some x.block) (hs:sealP key l text=(R,0)):
 Calls Tryz.prog 111 #[.pointer (some ⟨g,0,none⟩),.slice kA kn kc,.agg (lab l),.slice tA tn tc] w fun e w'=>∃v v',e = .returned (.tuple #[v,.int .i64 0])∧OwB w' w.heap.size v R∧(CbB w' g 157 #[v']∧w'.ownsRow B 159 9 v' (all++[(⟨l,key,text,R⟩:Sl)]).length (slvs (all++[(⟨l,key,text,R⟩:Sl)])))∧(v'.ownBlock=u.ownBlock∨∃k,v'.ownBlock=some k∧w.heap.size≤k)∧Fr w w' (fun k=>k=g∨u.ownBlock=some k):=by
 obtain⟨i0,hi0,hz0,hz1,hz2⟩:=info_parts infoSl
 have C0:Hid (CbB (w.alloc (.cells (lab l) 36)) w.heap.size 36 (lab l)):=Lib.hid (CbB.new _ _ _)
 have B0:Hid (Below w.heap.size w (w.alloc (.cells (lab l) 36))):=Lib.hid ((Below.refl _ _).alloc (Nat.le_refl _) _)
 have HS:=Lib.hid fun W h1 h2=>lseal_any kA tA kn kc tn tc l key text W hl h1 h2
 rw[hs] at HS
 have IK:=Lib.hid ik
 have IT:=Lib.hid it
 have GG:=Lib.hid hg
 have RR:=Lib.hid hrow
 have KA:=Lib.hid hkA
 have TA:=Lib.hid htA
 have HL:=Lib.hid h1000
 have HB:=Lib.hid hB
 have NG:Hid (u.ownBlock≠some g):=Lib.hid (row_ne hrow hg (by decide))
 have GL:=Lib.hid hg.lt
 have VL:Hid (∀k,u.ownBlock=some k→k<w.heap.size):=Lib.hid fun k hk=>by
  rcases hrow.2 with ⟨rfl,_⟩ | ⟨g',cap,cur,rfl,_,hh,_⟩
  · cases hk
  · have:g'=k:=by injection hk
    subst this
    exact (Array.getElem?_eq_some_iff.1 hh).1
 have SV:Hid (slvs [⟨l,key,text,R⟩]=[.int .u32 (l.ten:Int),.int .u8 (l.k:Int),.int .u8 (l.lv:Int),.int .u32 (l.pg:Int),.int .u64 (l.cm:Int),.int .u16 (l.gn:Int),.string (strOf key),.string (strOf text),.string (strOf R)]):=Lib.hid rfl
 simp only at HS
 rw[lab_cells] at HS C0 B0⊢
 clear hl ik it hs hg hrow hkA htA h1000 hB
 go_enter Tryz.func111,Tryz.ntmps111
 go_wp2_with fail
 refine (HS.out _ (IK.out.ab B0.out) (IT.out.ab B0.out)).mono ?_
 rintro e w1 ⟨v,rfl,hv,hb⟩
 have V1:=Lib.hid (hv.lower B0.out.size)
 have B1:=Lib.hid (below_tr B0.out hb B0.out.size)
 have L1:=Lib.hid (C0.out.ab hb)
 have K1:=Lib.hid (IK.out.ab B1.out)
 have T1:=Lib.hid (IT.out.ab B1.out)
 have G1:=Lib.hid (GG.out.ab B1.out)
 have R1:Hid (w1.ownsRow B 159 9 u all.length (slvs all)):=Lib.hid (row_fr RR.out (Fr.of B1.out (fun _=>False)) (fun _ _ h=>h))
 have H1:Hid (B≤w1.heap.size):=Lib.hid (Nat.le_trans HB.out B1.out.size)
 have VW:Hid (∀g,v.ownBlock=some g→u.ownBlock≠some g):=Lib.hid (row_own_ne R1.out V1.out (by decide))
 have LW:Hid (u.ownBlock≠some w.heap.size):=Lib.hid fun h=>by have:=VL.out _ h;omega
 clear hv hb B0 C0
 obtain⟨A3,c3,rfl,_,_⟩:=V1.out.shape
 go_wp2_with fail
 refine wp_wide5 (fun i k=>i=14∧u.ownBlock=some k) [⟨23,IsR (.pointer (some ⟨g,0,none⟩)),[],false⟩,⟨24,IsR (.pointer (some ⟨g,0,none⟩)),[],false⟩,⟨25,IsR (.pointer (some ⟨g,0,none⟩)),[1],false⟩,⟨26,IsR (.pointer (some ⟨g,0,none⟩)),[2],false⟩,⟨27,IsR (u),[3],false⟩,⟨28,IsR (.agg #[.int .u32 (l.ten:Int),.int .u8 (l.k:Int),.int .u8 (l.lv:Int),.int .u32 (l.pg:Int),.int .u64 (l.cm:Int),.int .u16 (l.gn:Int)]),[],false⟩,⟨29,IsR (.slice kA kn kc),[],false⟩,⟨30,IsR (.string (strOf key)),[6],false⟩,⟨31,IsR (.slice tA tn tc),[],false⟩,⟨32,IsR (.string (strOf text)),[8],false⟩,⟨33,IsR (.slice A3 R.length c3),[],false⟩,⟨34,IsR (.string (strOf R)),[10],false⟩,⟨35,IsR (.agg #[.int .u32 (l.ten:Int),.int .u8 (l.k:Int),.int .u8 (l.lv:Int),.int .u32 (l.pg:Int),.int .u64 (l.cm:Int),.int .u16 (l.gn:Int),.string (strOf key),.string (strOf text),.string (strOf R)]),[5,7,9,11],false⟩,⟨36,(fun z W=>∃G,z = .slice (some ⟨G,0,none⟩) 1 1∧CbB W G 159 #[.int .u32 (l.ten:Int),.int .u8 (l.k:Int),.int .u8 (l.lv:Int),.int .u32 (l.pg:Int),.int .u64 (l.cm:Int),.int .u16 (l.gn:Int),.string (strOf key),.string (strOf text),.string (strOf R)]∧w1.heap.size≤G),[12],false⟩,⟨37,(fun z W=>W.ownsRow B 159 9 z (all.length+1) (slvs all++slvs [⟨l,key,text,R⟩])∧(z.ownBlock=u.ownBlock∨∃k,z.ownBlock=some k∧w1.heap.size≤k)),[4,13],false⟩,⟨38,IsR (.pointer (some ⟨g,0,none⟩)),[0],false⟩,⟨39,IsR (.pointer (some ⟨g,0,none⟩)),[15],false⟩] (by kernel_rfl) (by kernel_rfl) rfl rfl rfl ⟨?_,?_,?_,?_,?_,?_,?_,?_,?_,?_,?_,?_,?_,?_,?_,?_,?_,trivial⟩ ?_
 · refine⟨rfl,IsR.monoF _ _,fun a W hA hb hd=>Takes.to5 (takes_plain rfl (yields_value _ ?_ rfl)) _⟩
   have h0:a.tmps[0]?.getD undef = .pointer (some ⟨g,0,none⟩):=(eval_get a 0).trans ((hA.eval (by simp)).trans rfl)
   go_simp
 · refine⟨rfl,IsR.monoF _ _,fun a W hA hb hd=>Takes.to5 (takes_plain rfl (yields_value _ ?_ rfl)) _⟩
   have h0:a.tmps[0]?.getD undef = .pointer (some ⟨g,0,none⟩):=(eval_get a 0).trans ((hA.eval (by simp)).trans rfl)
   go_simp
 · refine⟨rfl,IsR.monoF _ _,fun a W hA hb hd=>Takes.to5 (takes_plain rfl (yields_value _ ?_ rfl)) _⟩
   have h24:a.tmps[24]?.getD undef = .pointer (some ⟨g,0,none⟩):=(eval_get a 24).trans (hd 1 (by simp) _ rfl)
   go_simp
 · refine⟨rfl,IsR.monoF _ _,fun a W hA hb hd=>Takes.to5 (takes_plain rfl (yields_value _ ?_ rfl)) _⟩
   have h25:a.tmps[25]?.getD undef = .pointer (some ⟨g,0,none⟩):=(eval_get a 25).trans (hd 2 (by simp) _ rfl)
   go_simp
 · refine⟨rfl,IsR.monoF _ _,fun a W hA hb hd=>Takes.to5 (takes_plain rfl (yields_value _ ?_ rfl)) _⟩
   have h26:a.tmps[26]?.getD undef = .pointer (some ⟨g,0,none⟩):=(eval_get a 26).trans (hd 3 (by simp) _ rfl)
   have hc:W.cell? ⟨g,0,none⟩=some u:=(G1.out.fr hb (fun ⟨j,_,_,hj⟩=>NG.out hj)).cell (k:=0) rfl
   obtain⟨Au,cu,hu⟩:=row_shape R1.out
   subst hu
   go_simp
 · refine⟨rfl,IsR.monoF _ _,fun a W hA hb hd=>Takes.to5 (takes_plain rfl (yields_value _ ?_ rfl)) _⟩
   have h6:a.tmps[6]?.getD undef = .pointer (some ⟨w.heap.size,0,none⟩):=(eval_get a 6).trans ((hA.eval (by simp)).trans rfl)
   have hl:=L1.out.fr hb (fun ⟨j,_,_,hj⟩=>LW.out hj)
   have l0:=hl.cell (k:=0) rfl
   have l1:=hl.cell (k:=1) rfl
   have l2:=hl.cell (k:=2) rfl
   have l3:=hl.cell (k:=3) rfl
   have l4:=hl.cell (k:=4) rfl
   have l5:=hl.cell (k:=5) rfl
   go_simp
 · refine⟨rfl,IsR.monoF _ _,fun a W hA hb hd=>Takes.to5 (takes_plain rfl (yields_value _ ?_ rfl)) _⟩
   have h1:a.tmps[1]?.getD undef = .slice kA kn kc:=(eval_get a 1).trans ((hA.eval (by simp)).trans rfl)
   go_simp
 · refine⟨rfl,IsR.monoF _ _,fun a W hA hb hd=>Takes.to5 (takes_plain rfl (yields_value _ ?_ rfl)) _⟩
   have h29:a.tmps[29]?.getD undef = .slice kA kn kc:=(eval_get a 29).trans (hd 6 (by simp) _ rfl)
   have hst:=conv_str (K1.out.fr hb (fun x hx ⟨j,_,_,hj⟩=>KA.out x hx hj)) (Below.refl _ _)
   go_simp
 · refine⟨rfl,IsR.monoF _ _,fun a W hA hb hd=>Takes.to5 (takes_plain rfl (yields_value _ ?_ rfl)) _⟩
   have h3:a.tmps[3]?.getD undef = .slice tA tn tc:=(eval_get a 3).trans ((hA.eval (by simp)).trans rfl)
   go_simp
 · refine⟨rfl,IsR.monoF _ _,fun a W hA hb hd=>Takes.to5 (takes_plain rfl (yields_value _ ?_ rfl)) _⟩
   have h31:a.tmps[31]?.getD undef = .slice tA tn tc:=(eval_get a 31).trans (hd 8 (by simp) _ rfl)
   have hst:=conv_str (T1.out.fr hb (fun x hx ⟨j,_,_,hj⟩=>TA.out x hx hj)) (Below.refl _ _)
   go_simp
 · refine⟨rfl,IsR.monoF _ _,fun a W hA hb hd=>Takes.to5 (takes_plain rfl (yields_value _ ?_ rfl)) _⟩
   have h10:a.tmps[10]?.getD undef = .slice A3 R.length c3:=(eval_get a 10).trans ((hA.eval (by simp)).trans rfl)
   go_simp
 · refine⟨rfl,IsR.monoF _ _,fun a W hA hb hd=>Takes.to5 (takes_plain rfl (yields_value _ ?_ rfl)) _⟩
   have h33:a.tmps[33]?.getD undef = .slice A3 R.length c3:=(eval_get a 33).trans (hd 10 (by simp) _ rfl)
   have hst:=conv_str ((V1.out.fr hb (fun x hx ⟨j,_,_,hj⟩=>VW.out x hx hj)).isB rfl) (Below.refl _ _)
   go_simp
 · refine⟨rfl,IsR.monoF _ _,fun a W hA hb hd=>Takes.to5 (takes_plain rfl (yields_value _ ?_ rfl)) _⟩
   have h28:a.tmps[28]?.getD undef = .agg #[.int .u32 (l.ten:Int),.int .u8 (l.k:Int),.int .u8 (l.lv:Int),.int .u32 (l.pg:Int),.int .u64 (l.cm:Int),.int .u16 (l.gn:Int)]:=(eval_get a 28).trans (hd 5 (by simp) _ rfl)
   have h30:a.tmps[30]?.getD undef = .string (strOf key):=(eval_get a 30).trans (hd 7 (by simp) _ rfl)
   have h32:a.tmps[32]?.getD undef = .string (strOf text):=(eval_get a 32).trans (hd 9 (by simp) _ rfl)
   have h34:a.tmps[34]?.getD undef = .string (strOf R):=(eval_get a 34).trans (hd 11 (by simp) _ rfl)
   go_simp
 · refine⟨rfl,fun z W W1 ⟨G1,h1,h2,h3⟩ hf=>⟨G1,h1,h2.fr hf (fun ⟨j,_,_,hj⟩=>by have:=VL.out _ hj;have:=B1.out.size;omega),h3⟩,fun a W hA hb hd=>takes5_plain rfl ?_⟩
   have h35:a.tmps[35]?.getD undef = .agg #[.int .u32 (l.ten:Int),.int .u8 (l.k:Int),.int .u8 (l.lv:Int),.int .u32 (l.pg:Int),.int .u64 (l.cm:Int),.int .u16 (l.gn:Int),.string (strOf key),.string (strOf text),.string (strOf R)]:=(eval_get a 35).trans (hd 12 (by simp) _ rfl)
   refine .inl ⟨.slice (some ⟨W.heap.size,0,none⟩) 1 1,W.alloc (.cells #[.int .u32 (l.ten:Int),.int .u8 (l.k:Int),.int .u8 (l.lv:Int),.int .u32 (l.pg:Int),.int .u64 (l.cm:Int),.int .u16 (l.gn:Int),.string (strOf key),.string (strOf text),.string (strOf R)] 159),?_,⟨_,rfl,CbB.new _ _ _,hb.size⟩,Fr.of ((Below.refl _ _).alloc (Nat.le_refl _) _) _⟩
   go_simp
 · refine⟨rfl,fun z W W1 ⟨h2,h9⟩ hf=>⟨row_fr h2 hf (fun k hk ⟨j,hj,hj2,_⟩=>hj hj2),h9⟩,fun a W hA hb hd=>takes5_plain rfl ?_⟩
   have hs:a.eval (.tmp 27)=u:=hd 4 (by simp) _ rfl
   obtain⟨GG2,he,hcb,hG⟩:=hd 13 (by simp) _ rfl
   have hx:a.eval (.tmp 36) = .slice (some ⟨GG2,0,none⟩) 1 1:=he
   have hown:=row_fr R1.out hb (fun k hk ⟨j,hj,hj2,_⟩=>hj hj2)
   obtain⟨v1,W1,hrun,r1,r2,_,r3⟩:=run_append_own_at (P:=Tryz.prog) W B 155 155 159 i0 _ 9 80 Tryz.underlying155 hi0 hz0 hz1 hz2 rfl (by decide) u all.length (slvs all) hown ⟨GG2,0,none⟩ 1 1 (slvs [⟨l,key,text,R⟩]) rfl (row_at hcb) (by rw[SV.out];simp[Value.oneCell']) (by have:=HL.out;simp only[maxLen];omega) (by have:=HL.out;omega) (Nat.le_trans H1.out hb.size)
   refine .inl ⟨v1,W1,?_,⟨r1,r3.imp id fun e=>⟨_,e,hb.size⟩⟩,(Fr.grown r2).imp fun k hk=>⟨rfl,hk⟩⟩
   unfold execOp
   simp only[resolve,invoke,builtin,Sem.run_bind,Sem.run_pure,Result.andThen_ok,List.map_toArray,List.map_cons,List.map_nil,hs,hx,hrun]
 · refine⟨rfl,IsR.monoF _ _,fun a W hA hb hd=>Takes.to5 (takes_plain rfl (yields_value _ ?_ rfl)) _⟩
   have h23:a.tmps[23]?.getD undef = .pointer (some ⟨g,0,none⟩):=(eval_get a 23).trans (hd 0 (by simp) _ rfl)
   go_simp
 · refine⟨rfl,IsR.monoF _ _,fun a W hA hb hd=>Takes.to5 (takes_plain rfl (yields_value _ ?_ rfl)) _⟩
   have h38:a.tmps[38]?.getD undef = .pointer (some ⟨g,0,none⟩):=(eval_get a 38).trans (hd 15 (by simp) _ rfl)
   go_simp
 intro vs2 w2 hR hb
 have RW:Hid (w2.ownsRow B 159 9 (vs2 37) (all.length+1) (slvs all++slvs [⟨l,key,text,R⟩])):=Lib.hid (hR 14 _ rfl).1
 have OW:Hid ((vs2 37).ownBlock=u.ownBlock∨∃k,(vs2 37).ownBlock=some k∧w1.heap.size≤k):=Lib.hid (hR 14 _ rfl).2
 have e23:vs2 23 = .pointer (some ⟨g,0,none⟩):=hR 0 _ rfl
 have e24:vs2 24 = .pointer (some ⟨g,0,none⟩):=hR 1 _ rfl
 have e25:vs2 25 = .pointer (some ⟨g,0,none⟩):=hR 2 _ rfl
 have e26:vs2 26 = .pointer (some ⟨g,0,none⟩):=hR 3 _ rfl
 have e27:vs2 27=u:=hR 4 _ rfl
 have e28:vs2 28 = .agg #[.int .u32 (l.ten:Int),.int .u8 (l.k:Int),.int .u8 (l.lv:Int),.int .u32 (l.pg:Int),.int .u64 (l.cm:Int),.int .u16 (l.gn:Int)]:=hR 5 _ rfl
 have e29:vs2 29 = .slice kA kn kc:=hR 6 _ rfl
 have e30:vs2 30 = .string (strOf key):=hR 7 _ rfl
 have e31:vs2 31 = .slice tA tn tc:=hR 8 _ rfl
 have e32:vs2 32 = .string (strOf text):=hR 9 _ rfl
 have e33:vs2 33 = .slice A3 R.length c3:=hR 10 _ rfl
 have e34:vs2 34 = .string (strOf R):=hR 11 _ rfl
 have e35:vs2 35 = .agg #[.int .u32 (l.ten:Int),.int .u8 (l.k:Int),.int .u8 (l.lv:Int),.int .u32 (l.pg:Int),.int .u64 (l.cm:Int),.int .u16 (l.gn:Int),.string (strOf key),.string (strOf text),.string (strOf R)]:=hR 12 _ rfl
 have e38:vs2 38 = .pointer (some ⟨g,0,none⟩):=hR 15 _ rfl
 have e39:vs2 39 = .pointer (some ⟨g,0,none⟩):=hR 16 _ rfl
 simp only[List.map_cons,List.map_nil,List.foldl_cons,List.foldl_nil,List.length_cons,List.length_nil,List.drop_succ_cons,List.drop_zero,Act.put,List.setIfInBounds_toArray,List.set_cons_zero,List.set_cons_succ,e23,e24,e25,e26,e27,e28,e29,e30,e31,e32,e33,e34,e35,e38,e39]
 have FR:Hid (Fr w1 w2 (fun k=>u.ownBlock=some k)):=Lib.hid (hb.imp fun k ⟨j,_,hj⟩=>hj)
 clear hR hb e23 e24 e25 e26 e27 e28 e29 e30 e31 e32 e33 e34 e35 e38 e39
 generalize vs2 36=q36 at *
 generalize vs2 37=q37 at *
 have G2:=Lib.hid (G1.out.fr FR.out NG.out)
 have V2:=Lib.hid (V1.out.fr FR.out (fun k hk e=>VW.out k hk e))
 have hc:w2.cell? ⟨g,0,none⟩=some u:=G2.out.cell (k:=0) rfl
 have hf:=G2.out.free 0
 obtain⟨A7,c7,rfl⟩:=row_shape RW.out
 obtain⟨Au,cu,rfl⟩:=row_shape R1.out
 go_wp2_with fail
 go_ret2
 have hgc:=grown_cell w2 g 0 (.slice A7 (all.length+1) c7)
 have hfg:=Fr.grown hgc
 refine⟨_,_,rfl,V2.out.fr hfg (fun k hk e=>own_ne' (by decide) G2.out V2.out (by rw[hk,e])),⟨G2.out.set 0 _,?_⟩,OW.out.imp id (fun ⟨k,h1,h2⟩=>⟨k,h1,Nat.le_trans B1.out.size h2⟩),?_⟩
 · rw[slvs_snoc,List.length_append,List.length_singleton]
   exact row_fr RW.out hfg (fun k hk e=>by
    injection e with e
    subst e
    exact row_ne RW.out G2.out (by decide) hk)
 · exact ((Fr.of B1.out _).tr (FR.out.imp fun k hk=>.inr hk)).tr (hfg.imp fun k hk=>.inl (by injection hk with hk;exact hk.symm))
set_option linter.unusedSimpArgs false
theorem stepD_ok {D:DvS} (h:D.Ok):(stepD D).2.Ok:=by
 obtain⟨h1,h2,h3,h4,h5,h6,h7,h8,h9⟩:=h
 unfold stepD
 cases D.down with
 | true=>exact⟨h1,h2,h3,h4,h5,h6,h7,h8,h9⟩
 | false=>
   by_cases c0:D.cut=0
   · rw[decide_eq_true c0]
     exact⟨h1,h2,h3,h4,h5,h6,h7,h8,h9⟩
   · rw[decide_eq_false c0]
     have hc:-1≤(bif decide (0<D.cut) then D.cut-1 else D.cut)∧(bif decide (0<D.cut) then D.cut-1 else D.cut)≤9223372036854775807:=by
      by_cases c1:0<D.cut
      · rw[decide_eq_true c1];simp only[cond_true];omega
      · rw[decide_eq_false c1];simp only[cond_false];omega
     cases decide (0<D.fail)
     · exact⟨h1,h2,h3,h4,h5,h6,h7,hc,h9⟩
     · exact⟨h1,h2,h3,h4,h5,h6,h7,hc,by show D.fail-1≤9223372036854775807;omega⟩
theorem byt_putD {L b:List Nat} {i:Nat} (h:Byt L) (hb:Byt b):Byt (putD L b i):=by
 intro x hx
 unfold putD at hx
 rcases List.mem_append.1 hx with hx | hx
 · exact h x (List.mem_of_mem_take hx)
 · rcases List.mem_append.1 hx with hx | hx
   · exact hb x hx
   · exact h x (List.mem_of_mem_drop hx)
theorem writeD_ok {D:DvS} {i:Nat} {b:List Nat} (h:D.Ok) (hi:i<D.n) (hl:b.length=256) (hb:Byt b):(writeD D i b).2.Ok:=by
 have h1:=stepD_ok h
 have h2:=stepD_same D
 unfold writeD
 generalize hs:stepD D=q at *
 obtain⟨e,D1⟩:=q
 cases e with
 | succ e=>exact h1
 | zero=>
   simp only at h1 h2⊢
   exact⟨h1.n8,h1.n4,putD_lenN h1.now (by rw[h2.1];exact hi) hl,h1.firm,byt_putD h1.bnow hb,h1.bfirm,fun x hx=>by
    rcases List.mem_append.1 hx with hx | hx
    · exact h1.ws x hx
    · rw[List.mem_singleton] at hx
      subst hx
      exact⟨by rw[h2.1];exact hi,hl,hb⟩,h1.cut,h1.fail⟩
theorem syncD_ok {D:DvS} (h:D.Ok):(syncD D).2.Ok:=by
 have h1:=stepD_ok h
 unfold syncD
 generalize hs:stepD D=q at *
 obtain⟨e,D1⟩:=q
 cases e with
 | succ e=>exact h1
 | zero=>exact⟨h1.n8,h1.n4,h1.now,h1.now,h1.bnow,h1.bnow,(fun x hx=>by cases hx),h1.cut,h1.fail⟩
theorem stepD_st (D:DvS):(stepD D).2.st≤D.st+1∧(stepD D).2.n=D.n:=by
 unfold stepD
 cases D.down <;> cases decide (D.cut=0) <;> cases decide (0<D.fail) <;> exact⟨by first | exact Nat.le_refl _ | exact Nat.le_succ _,rfl⟩
theorem writeD_st (D:DvS) (i:Nat) (b:List Nat):(writeD D i b).2.st≤D.st+1∧(writeD D i b).2.n=D.n∧(writeD D i b).2.ws.length≤D.ws.length+1:=by
 have h:=stepD_st D
 have h2:=stepD_same D
 unfold writeD
 generalize stepD D=q at *
 obtain⟨e,D1⟩:=q
 cases e with
 | zero=>exact⟨h.1,h.2,by simp only[List.length_append,List.length_singleton];rw[h2.2.2.2];exact Nat.le_refl _⟩
 | succ e=>exact⟨h.1,h.2,by show D1.ws.length≤_;rw[h2.2.2.2];omega⟩
theorem stepD_err (D:DvS):(stepD D).1≤1000:=by
 unfold stepD
 cases D.down <;> cases decide (D.cut=0) <;> cases decide (0<D.fail) <;> cases decide (D.fail=1) <;> first | exact (by decide:(0:Nat)≤1000) | exact (by decide:(80:Nat)≤1000) | exact (by decide:(81:Nat)≤1000)
theorem writeD_err (D:DvS) (i:Nat) (b:List Nat):(writeD D i b).1≤1000:=by
 have h:=stepD_err D
 unfold writeD
 generalize stepD D=q at *
 obtain⟨e,D1⟩:=q
 cases e <;> exact h
theorem syncD_err (D:DvS):(syncD D).1≤1000:=by
 have h:=stepD_err D
 unfold syncD
 generalize stepD D=q at *
 obtain⟨e,D1⟩:=q
 cases e <;> exact h
section
variable {w:World} {O:Tgm}
theorem writeM {d i bc:Nat} {bA:Option Addr} {b:List Nat} {D:DvS} (h:DvM w O d D) (ok:D.Ok) (hst:D.st≤1000000000) (hws:D.ws.length≤100000) (hi:i<D.n) (ib:IsB w bA 256 bc b) (hX:∀x,bA=some x→O x.block≠(0,1)):
 Calls Tryz.prog 112 #[.pointer (some ⟨d,0,none⟩),.int .i64 (i:Int),.slice bA 256 bc] w fun e w'=>∃O',e = .returned (.int .i64 ((writeD D i b).1:Int))∧DvM w' O' d (writeD D i b).2∧Wr (fun t=>t=(0,1)) w O w' O':=by
 obtain⟨g1,g2,wv,h1,t1,t2,t3,t4⟩:=h
 obtain⟨l1,l2,l3⟩:=h1.lt
 refine (write_any i bc bA b h1 ok hst (Nat.zero_le _) hws hi ib (fun x hx=>⟨fun e=>hX x hx (by rw[e];exact t1),fun e=>hX x hx (by rw[e];exact t2),fun e=>hX x hx (t4 _ e)⟩)).mono ?_
 rintro e w' ⟨rfl,⟨wv',k1,k2⟩,kf⟩
 have ho:∀k,k<w.heap.size→markO O w.heap.size wv'.ownBlock (0,1) k=O k:=fun k hk=>markO_old hk
 refine⟨markO O w.heap.size wv'.ownBlock (0,1),rfl,⟨g1,g2,wv',k1,(ho _ l1).trans t1,(ho _ l2).trans t2,(ho _ l3).trans t3,fun k hk=>?_⟩,⟨kf.imp fun k hk=>?_,ho⟩⟩
 · rcases k2 with k2 | ⟨k',e1,e2⟩
   · rw[k2] at hk
     exact (ho k (row_ltD h1.row k hk)).trans (t4 k hk)
   · rw[hk] at e1
     injection e1 with e1
     subst e1
     rw[hk]
     exact markO_new e2
 · rcases hk with rfl | rfl | hk
   · exact t1
   · exact t2
   · exact t4 k hk
theorem syncM {d:Nat} {D:DvS} (h:DvM w O d D) (ok:D.Ok) (hst:D.st≤1000000000):
 Calls Tryz.prog 113 #[.pointer (some ⟨d,0,none⟩)] w fun e w'=>∃O',e = .returned (.int .i64 ((syncD D).1:Int))∧DvM w' O' d (syncD D).2∧Wr (fun t=>t=(0,1)) w O w' O':=by
 obtain⟨g1,g2,wv,h1,t1,t2,t3,t4⟩:=h
 obtain⟨l1,l2,l3⟩:=h1.lt
 refine (sync_any h1 ok hst).mono ?_
 rintro e w' ⟨rfl,⟨wv',k1,k2⟩,kf⟩
 have ho:∀k,k<w.heap.size→cutO O w.heap.size k=O k:=fun k hk=>cutO_old hk
 refine⟨cutO O w.heap.size,rfl,⟨g1,g2,wv',k1,(ho _ l1).trans t1,(ho _ l2).trans t2,(ho _ l3).trans t3,fun k hk=>?_⟩,⟨kf.imp fun k hk=>?_,ho⟩⟩
 · rcases k2 with k2 | k2
   · rw[k2] at hk
     exact (ho k (row_ltD h1.row k hk)).trans (t4 k hk)
   · rw[k2] at hk;cases hk
 · rcases hk with rfl | rfl
   · exact t1
   · exact t3
def SlR (N:Nat) (O:Tgm) (g:Nat) (all:List Sl) (R:List Nat) (v:Value) (W:World):Prop:=
 ∃x O',v = .tuple #[x,.int .i64 0]∧OwB W N x R∧(∀k,x.ownBlock=some k→O' k=(0,0))∧LgM W O' g all∧∀k,k<N→O' k=O k
theorem logSealM {g kn kc tn tc:Nat} {kA tA:Option Addr} {all:List Sl} {l:Lb} {key text R:List Nat} (h:LgM w O g all) (h1000:all.length≤100000)
 (hl:l.Ok) (ik:IsB w kA kn kc key) (it:IsB w tA tn tc text) (hkA:∀x,kA=some x→O x.block≠(0,2)) (htA:∀x,tA=some x→O x.block≠(0,2)) (hs:sealP key l text=(R,0)):
 Calls Tryz.prog 111 #[.pointer (some ⟨g,0,none⟩),.slice kA kn kc,.agg (lab l),.slice tA tn tc] w fun e w'=>∃v,e = .returned v∧SlR w.heap.size O g (all++[⟨l,key,text,R⟩]) R v w'∧Fr w w' (fun k=>O k=(0,2)):=by
 obtain⟨u,h1,h2,t1,t2⟩:=h
 refine (logSeal_pushT 0 g u all kA tA kn kc tn tc l key text R w h1 h2 (Nat.zero_le _) h1000 hl ik it (fun x hx e=>hkA x hx (t2 _ e)) (fun x hx e=>htA x hx (t2 _ e)) hs).mono ?_
 rintro e w' ⟨v,v',rfl,k1,⟨k2,k3⟩,k4,k5⟩
 have ho:∀k,k<w.heap.size→markO O w.heap.size v'.ownBlock (0,2) k=O k:=fun k hk=>markO_old hk
 refine⟨_,rfl,⟨v,markO O w.heap.size v'.ownBlock (0,2),rfl,k1,fun k hk=>?_,⟨v',k2,k3,(ho _ h1.lt).trans t1,fun k hk=>?_⟩,ho⟩,k5.imp fun k hk=>?_⟩
 · have hge:=own_ge9 k1.own k hk
   have hne:v'.ownBlock≠some k:=row_own_ne k3 k1 (by decide) k hk
   unfold markO
   rw[if_neg (by omega),if_neg hne]
 · rcases k4 with k4 | ⟨k',e1,e2⟩
   · rw[k4] at hk
     exact (ho k (row_ltD h2 k hk)).trans (t2 k hk)
   · rw[hk] at e1
     injection e1 with e1
     subst e1
     rw[hk]
     exact markO_new e2
 · rcases hk with rfl | hk
   · exact t1
   · exact t2 k hk
end
end Go.Proofs.YtlobgddnlnffbaaGreat
