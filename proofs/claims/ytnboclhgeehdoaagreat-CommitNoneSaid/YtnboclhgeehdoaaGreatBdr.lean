/-
  Parts of the proof, joined.
-/
import Derived.Test.YtnboclhgeehdoaaGreatBdq
import Derived.Test.YtnboclhgeehdoaaGreatBdo
import Derived.Test.YtnboclhgeehdoaaGreatBdi
import Derived.Deep.QuietTactic
import Derived.BigQuiet
import Derived.Test.YtnboclhgeehdoaaGreatBdp
namespace Go.Proofs.YtnboclhgeehdoaaGreat
set_option maxHeartbeats 16000000
open Go.RowKit
set_option linter.unusedVariables false
set_option linter.unusedSimpArgs false
set_option maxRecDepth 100000 in
theorem ringAdd_yesT (B g m t gn kn kc:Nat) (kA:Option Addr) (key:List Nat) (l:RgL) (w:World) (vs:List ((Nat×Nat)×Value)) (h:RgB w B g m l) (h1:MapB whV whOk w m vs) (h2:RgV w B vs l) (ht:t<4294967296) (hg:gn<65536) (ik:IsB w kA kn kc key) (hk:KeyOk key) (hs:getR (t,gn) l=none):
 Calls Tryz.prog 43 #[.pointer (some ⟨g,0,none⟩),.int .u32 (t:Int),.int .u16 (gn:Int),.slice kA kn kc] w fun e w'=>∃q,e = .returned (.int .i64 0)∧w'.heap[g]? = some (.cells #[.map (some m)] 105 (0,0))∧MapB whV whOk w' m (vs++[((t,gn),q)])∧RgV w' B (vs++[((t,gn),q)]) (l++[((t,gn),key)])∧OwB w' w.heap.size q key∧w.grownBy w' (some m):=by
 have lk:=ik.len
 have hk2:=hk
 unfold KeyOk at hk2
 obtain⟨X,rfl,_,_⟩:=ik.cell (by omega)
 have hc:=h.cell
 have hok:whOk (t,gn):=⟨ht,hg⟩
 have HM:=Lib.hid (smay_any (some X) kn kc 1 w)
 have eM:Hid (decide ((kn=16∨kn=32)∧1≤1∧1≤4)=true):=Lib.hid (decide_eq_true ⟨by omega,by decide,by decide⟩)
 have e1:lookL (t,gn) vs=none:=by
  rcases h2.look (t,gn) with ⟨e1,e2⟩ | ⟨v,k,e1,e2,e3⟩
  · exact e1
  · rw[hs] at e2;cases e2
 have hlk:(Instr.lookup 103 (.map (some m)) (.agg #[.int .u32 (t:Int),.int .u16 (gn:Int)]) true).run Tryz.prog w = .ok (.tuple #[.slice none 0 0,.bool false]) w:=h1.look_none wh_K Tryz.underlying103 hok e1 (zero_bytes w) true
 have HR:=Lib.hid h
 have H1:=Lib.hid h1
 have H2:=Lib.hid h2
 have E1:=Lib.hid e1
 have HK:=Lib.hid hk
 have IK:=Lib.hid ik
 have LK:=Lib.hid lk
 have HN:Hid (kn≤32∧0<kn):=Lib.hid (by omega)
 have HO:=Lib.hid hok
 clear h h1 h2 hok ht hg hk hk2 hs e1 ik lk
 go_enter Tryz.func43,Tryz.ntmps43
 go_wp2_with fail
 refine HM.out.mono ?_
 rw[eM.out]
 rintro e w' ⟨rfl,rfl⟩
 go_wp2_with fail
 refine wp_wide3 [⟨28,IsR (.pointer (some ⟨g,0,none⟩)),[],false⟩,⟨29,IsR (.pointer (some ⟨g,0,none⟩)),[0],false⟩,⟨30,IsR (.pointer (some ⟨g,0,none⟩)),[1],false⟩,⟨31,IsR (.map (some m)),[2],false⟩,⟨32,IsR (.int .u32 (t:Int)),[],false⟩,⟨33,IsR (.int .u16 (gn:Int)),[],false⟩,⟨34,IsR (.agg #[.int .u32 (t:Int),.int .u16 (gn:Int)]),[4,5],false⟩,⟨35,EmR,[],false⟩,⟨36,IsR (.slice (some X) kn kc),[],false⟩,⟨37,OwR w.heap.size key,[7,8],false⟩] (by kernel_rfl) (by kernel_rfl) rfl rfl rfl ⟨?_,?_,?_,?_,?_,?_,?_,?_,?_,?_,trivial⟩ ?_
 · refine⟨rfl,IsR.mono _,fun a W hA hb hd=>takes_plain rfl (yields_value _ ?_ rfl)⟩
   have h0:a.tmps[0]?.getD undef = .pointer (some ⟨g,0,none⟩):=(eval_get a 0).trans ((hA.eval (by simp)).trans rfl)
   go_simp
 · refine⟨rfl,IsR.mono _,fun a W hA hb hd=>takes_plain rfl (yields_value _ ?_ rfl)⟩
   have h28:a.tmps[28]?.getD undef = .pointer (some ⟨g,0,none⟩):=(eval_get a 28).trans (hd 0 (by simp) _ rfl)
   go_simp
 · refine⟨rfl,IsR.mono _,fun a W hA hb hd=>takes_plain rfl (yields_value _ ?_ rfl)⟩
   have h29:a.tmps[29]?.getD undef = .pointer (some ⟨g,0,none⟩):=(eval_get a 29).trans (hd 1 (by simp) _ rfl)
   go_simp
 · refine⟨rfl,IsR.mono _,fun a W hA hb hd=>takes_plain rfl (yields_value _ ?_ rfl)⟩
   have h30:a.tmps[30]?.getD undef = .pointer (some ⟨g,0,none⟩):=(eval_get a 30).trans (hd 2 (by simp) _ rfl)
   have hcc:=(HR.out.ab hb).cell
   go_simp
 · refine⟨rfl,IsR.mono _,fun a W hA hb hd=>takes_plain rfl (yields_value _ ?_ rfl)⟩
   have h1:a.tmps[1]?.getD undef = .int .u32 (t:Int):=(eval_get a 1).trans ((hA.eval (by simp)).trans rfl)
   go_simp
 · refine⟨rfl,IsR.mono _,fun a W hA hb hd=>takes_plain rfl (yields_value _ ?_ rfl)⟩
   have h2:a.tmps[2]?.getD undef = .int .u16 (gn:Int):=(eval_get a 2).trans ((hA.eval (by simp)).trans rfl)
   go_simp
 · refine⟨rfl,IsR.mono _,fun a W hA hb hd=>takes_plain rfl (yields_value _ ?_ rfl)⟩
   have h32:a.tmps[32]?.getD undef = .int .u32 (t:Int):=(eval_get a 32).trans (hd 4 (by simp) _ rfl)
   have h33:a.tmps[33]?.getD undef = .int .u16 (gn:Int):=(eval_get a 33).trans (hd 5 (by simp) _ rfl)
   go_simp
 · refine⟨rfl,EmR.mono,fun a W hA hb hd=>takes_plain rfl ?_⟩
   exact yields_empty rfl
 · refine⟨rfl,IsR.mono _,fun a W hA hb hd=>takes_plain rfl (yields_value _ ?_ rfl)⟩
   have h3:a.tmps[3]?.getD undef = .slice (some X) kn kc:=(eval_get a 3).trans ((hA.eval (by simp)).trans rfl)
   go_simp
 · refine⟨rfl,OwR.mono _ _,fun a W hA hb hd=>takes_plain rfl ?_⟩
   obtain⟨Y,he⟩:=hd 7 (by simp) _ rfl
   have hs:a.eval (.tmp 35) = .slice (some Y) 0 0:=he
   have hx:a.eval (.tmp 36) = .slice (some X) kn kc:=hd 8 (by simp) _ rfl
   exact yields_appG (.tmp 35) (.tmp 36) rfl (isB_empty W Y) hs (IK.out.ab hb) hx (by have:=HN.out.2;omega) (by have:=HN.out.1;omega) fun v1 W1 h1 h2=>by
    rw[List.nil_append] at h1
    exact OwB.lower h1 hb.size
 intro vs9 w9 hR hF hb
 have K9:Hid (OwB w9 w.heap.size (vs9 37) key):=Lib.hid (hR 9 _ rfl)
 have e28:vs9 28 = .pointer (some ⟨g,0,none⟩):=hR 0 _ rfl
 have e29:vs9 29 = .pointer (some ⟨g,0,none⟩):=hR 1 _ rfl
 have e30:vs9 30 = .pointer (some ⟨g,0,none⟩):=hR 2 _ rfl
 have e31:vs9 31 = .map (some m):=hR 3 _ rfl
 have e32:vs9 32 = .int .u32 (t:Int):=hR 4 _ rfl
 have e33:vs9 33 = .int .u16 (gn:Int):=hR 5 _ rfl
 have e34:vs9 34 = .agg #[.int .u32 (t:Int),.int .u16 (gn:Int)]:=hR 6 _ rfl
 have e36:vs9 36 = .slice (some X) kn kc:=hR 8 _ rfl
 simp only[List.map_cons,List.map_nil,List.foldl_cons,List.foldl_nil,List.length_cons,List.length_nil,List.drop_succ_cons,List.drop_zero,Act.put,List.setIfInBounds_toArray,List.set_cons_zero,List.set_cons_succ,e28,e29,e30,e31,e32,e33,e34,e36]
 have B9:=Lib.hid hb
 clear hR hF hb e28 e29 e30 e31 e32 e33 e34 e36
 generalize vs9 35=q35 at *
 generalize vs9 37=q37 at *
 go_wp2_with (refine wpList_mapPut rfl (.tmp 31) (.tmp 34) (.tmp 37) rfl wh_K Tryz.underlying103 rfl (H1.out.ab B9.out) (t,gn) HO.out rfl q37 rfl ?_
              intro w10 h10 hg10 hz10 hb10
              have M10:=Lib.hid h10
              have G10:=Lib.hid hg10
              clear h10 hg10 hz10 hb10)
 go_ret
 have hB:B≤w.heap.size:=Nat.le_of_lt (Nat.lt_of_le_of_lt HR.out.low HR.out.mlt)
 have R9:=HR.out.ab B9.out
 have hne:g≠m:=fun e=>by
  subst e
  obtain⟨es,c,q,_⟩:=H1.out
  rw[HR.out.box] at q
  cases q
 have hput:putL (t,gn) q37 vs=vs++[((t,gn),q37)]:=by simp[putL,E1.out]
 have M9:=H1.out.ab B9.out
 have hgr:w.grownBy w10 (some m):=by
  have hb:=B9.out
  exact⟨G10.out.os.trans hb.os,G10.out.tape.trans hb.tape,G10.out.output.trans hb.output,Nat.le_trans hb.size G10.out.size,fun i hi hne=>(G10.out.block i (Nat.lt_of_lt_of_le hi hb.size) hne).trans (hb.block i hi)⟩
 have hkk:=K9.out.grown G10.out (notMap K9.out M9)
 have hm10:=M10.out
 rw[hput] at hm10
 refine⟨q37,rfl,(G10.out.block g R9.lt (by simp[hne])).trans R9.box,hm10,?_,hkk,hgr⟩
 have hvs:RgV w10 B vs l:=(H2.out.ab B9.out).imp fun v k hv=>hv.grown G10.out (notMap hv M9)
 exact RgV.snoc ((K9.out.lower hB).grown G10.out (notMap K9.out M9)) hvs
theorem ringAddM {w:World} {O:Tgm} {g t gn kn kc:Nat} {kA:Option Addr} {key:List Nat} {l:RgL} (h:RgM w O g l) (ht:t<4294967296) (hg:gn<65536) (ik:IsB w kA kn kc key):
 Calls Tryz.prog 43 #[.pointer (some ⟨g,0,none⟩),.int .u32 (t:Int),.int .u16 (gn:Int),.slice kA kn kc] w fun e w'=>∃O',e = .returned (.int .i64 ((addP (t,gn) key l).1:Int))∧RgM w' O' g (addP (t,gn) key l).2∧Wr (fun τ=>τ=(0,3)) w O w' O':=by
 have H:=h
 obtain⟨m,vs,h1,h2,h3,h4,t1,t2,t3⟩:=h
 have hb:RgB w 0 g m l:=⟨h1,Nat.zero_le _,⟨vs,h2,h3⟩,h4⟩
 have lk:=ik.len
 have no:∀(err:Nat),((err=2∧¬(kn=16∨kn=32))∨(err=8∧(kn=16∨kn=32)∧(getR (t,gn) l).isSome=true))→Calls Tryz.prog 43 #[.pointer (some ⟨g,0,none⟩),.int .u32 (t:Int),.int .u16 (gn:Int),.slice kA kn kc] w fun e w'=>∃O',e = .returned (.int .i64 (err:Int))∧RgM w' O' g l∧Wr (fun τ=>τ=(0,3)) w O w' O':=fun err he=>
  (ringAdd_no 0 g m t gn kn kc err kA l w hb ht hg he).mono fun e w' ⟨e1,e2⟩=>⟨_,e1,H.wr (Wr.cut e2 (fun _=>False)) id id,Wr.cut e2 _⟩
 unfold addP
 by_cases hk:key.length=16∨key.length=32
 · rw[if_pos hk]
   cases hs:getR (t,gn) l with
   | some k=>
     rw[Option.isSome_some,if_pos rfl]
     exact no 8 (.inr ⟨rfl,by omega,by rw[hs];rfl⟩)
   | none=>
     rw[Option.isSome_none,if_neg Bool.false_ne_true]
     refine (ringAdd_yesT 0 g m t gn kn kc kA key l w vs hb h2 h3 ht hg ik hk hs).mono ?_
     rintro e w' ⟨q,rfl,k1,k2,k3,k4,k5⟩
     have lg:g<w.heap.size:=lt_of_block h1
     refine⟨cutO O w.heap.size,rfl,⟨m,_,k1,k2,k3,fun p hp=>?_,(cutO_old lg).trans t1,(cutO_old h2.lt).trans t2,fun p hp k hk2=>?_⟩,(Wr.mk' (Fr.grown k5) (fun k hk=>by injection hk with hk;subst hk;exact t2) (fun k hk=>cutO_old hk))⟩
     · rcases List.mem_append.1 hp with hp | hp
       · exact h4 p hp
       · rw[List.mem_singleton] at hp
         subst hp
         exact hk
     · rcases List.mem_append.1 hp with hp | hp
       · obtain⟨k',hk'⟩:=h3.mem p hp
         exact (cutO_old (row_ltD hk'.own k hk2)).trans (t3 p hp k hk2)
       · rw[List.mem_singleton] at hp
         subst hp
         exact cutO_at (own_ge9 k4.own k hk2)
 · rw[if_neg hk]
   exact no 2 (.inl ⟨rfl,by omega⟩)
def stX (w:World) (N m x:Nat) (τ:Nat×Nat):Tgm:=fun k=>if k=x then τ else stO w N m k
theorem stX_x {w:World} {N m x:Nat} {τ:Nat×Nat}:stX w N m x τ x=τ:=if_pos rfl
theorem stX_c {w:World} {N m x k:Nat} {τ fr:Nat×Nat} {T T':TypeId} {cs cs':Array Value} (hx:CbB w x T cs) (hN:N≤k) (h:w.heap[k]? = some (.cells cs' T' fr)) (hT:T≠T'):stX w N m x τ k=(if T'=102∨T'=151∨T'=181 then (0,1) else if T'=108∨T'=179 then (0,2) else if T'=105 then (0,3) else (0,0)):=by
 unfold stX
 rw[if_neg,stO_c hN h]
 intro e
 subst e
 unfold CbB at hx
 rw[h] at hx
 injection hx with hx
 injection hx with _ hx
 exact hT hx.symm
theorem stX_low {w:World} {N m x k:Nat} {τ:Nat×Nat} (hx:N≤x) (h:k<N):stX w N m x τ k=(0,9):=by unfold stX;rw[if_neg (by omega),stO_low h]
theorem stageX {w:World} {d g1 g2 rg m lg N x:Nat} {wv:Value} {D:DvS} {R:RgL} {all:List Sl} {T:TypeId} {cs:Array Value} {τ:Nat×Nat} (hd:DsB w N d g1 g2 wv D) (hr:RgB w N rg m R) (hrg:N≤rg) (hl:LgB w N lg all) (hlg:N≤lg) (hx:CbB w x T cs) (hT:T≠102∧T≠151∧T≠181∧T≠108∧T≠179∧T≠105∧T≠5):DvM w (stX w N m x τ) d D∧RgM w (stX w N m x τ) rg R∧LgM w (stX w N m x τ) lg all:=by
 obtain⟨q1,q2,q3,q4,q5,q6,q7⟩:=hT
 obtain⟨l1,l2,l3⟩:=hd.low
 refine⟨⟨g1,g2,wv,⟨hd.box,hd.now,hd.firm,row_low hd.row (Nat.zero_le _),hd.ne,⟨Nat.zero_le _,Nat.zero_le _,Nat.zero_le _⟩⟩,(stX_c hx l1 hd.box q1).trans (by decide),(stX_c hx l2 hd.now q2).trans (by decide),(stX_c hx l3 hd.firm q2).trans (by decide),fun k hk=>?_⟩,?_,?_⟩
 · obtain⟨cs,fr,h1⟩:=row_ty9 hd.row k hk
   exact (stX_c hx (own_ge9 hd.row k hk) h1 q3).trans (by decide)
 · obtain⟨vs,h1,h2⟩:=hr.map
   refine⟨m,vs,hr.box,h1,h2.low0,hr.ne,(stX_c hx hrg hr.box q6).trans (by decide),?_,fun p hp k hk=>?_⟩
   · have hm:=hr.low
     obtain⟨es,clock,h3,_⟩:=h1
     unfold stX
     rw[if_neg (fun e=>by
      subst e
      unfold CbB at hx
      rw[h3] at hx
      cases hx)]
     unfold stO
     rw[if_neg (by omega),h3]
     exact if_pos rfl
   · obtain⟨k',hk'⟩:=h2.mem p hp
     obtain⟨cs,fr,h3⟩:=row_ty9 hk'.own k hk
     exact (stX_c hx (own_ge9 hk'.own k hk) h3 q7).trans (by decide)
 · obtain⟨h0,v,h1,h2⟩:=hl
   refine⟨v,h1,row_low h2 (Nat.zero_le _),(stX_c hx hlg h1 q4).trans (by decide),fun k hk=>?_⟩
   obtain⟨cs,fr,h3⟩:=row_ty9 h2 k hk
   exact (stX_c hx (own_ge9 h2 k hk) h3 q5).trans (by decide)
def k2R:RgL:=[((0,0),zeros 16)]
def k2M:Mp:=⟨1,0,0,0,0,0,0⟩
def k2T:PgP:=beginT (newT [(2,8)]) 1
theorem k2M_ok:k2M.Ok:=⟨by decide,by decide,by decide,by decide,by decide,by decide,by decide⟩
def k2D (l f:List Nat) (st:Nat):DvS:=⟨8,l,f,[],st,0,-1,false⟩
theorem k2D_ok {l f:List Nat} {st:Nat} (h1:l.length=2048) (h2:f.length=2048) (b1:Byt l) (b2:Byt f):(k2D l f st).Ok where
 n8:=by show 8≤8;omega
 n4:=by show 8≤4096;omega
 now:=by show l.length=8*256;omega
 firm:=by show f.length=8*256;omega
 bnow:=b1
 bfirm:=b2
 ws:=fun x hx=>by cases hx
 cut:=⟨by show (-1:Int)≤-1;decide,by show (-1:Int)≤1000000000;decide⟩
 fail:=by show 0≤1000000000;decide
theorem k2_step (l f:List Nat) (st:Nat):stepD (k2D l f st)=(0,k2D l f (st+1)):=rfl
theorem k2_sync (l f:List Nat) (st:Nat):syncD (k2D l f st)=(0,k2D l l (st+1)):=rfl
theorem k2_write (l f:List Nat) (st i:Nat) (b:List Nat):writeD (k2D l f st) i b=(0,{ k2D (putD l b i) f (st+1) with ws:=[(i,b)] }):=rfl
theorem k2_sync2 (l f:List Nat) (st:Nat) (ws:List (Nat×List Nat)):syncD { k2D l f st with ws:=ws }=(0,k2D l l (st+1)):=rfl
theorem k2_new:newD 8=k2D (zeros 2048) (zeros 2048) 0:=rfl
theorem k2_reserve (l f:List Nat):reserveP ⟨2,0,0⟩ (k2D l f 0)=(1,0,⟨2,1,0⟩,k2D l f 1):=by
 unfold reserveP
 rw[if_neg (by decide),k2_step]
theorem k2_adv (l f:List Nat) (st:Nat):advanceP ⟨2,1,0⟩ (k2D l f st) 1=(0,⟨2,1,1⟩,k2D l f (st+1)):=by
 unfold advanceP
 rw[if_neg (by decide),k2_step]
theorem k2_flush (l f:List Nat) (st:Nat):flushP k2R k2T (k2D l f st) []=(0,{ k2T with fl:=true,fa:=false },k2D l l (st+1),[]):=by
 have h1:U32.srt (k2T.pu.map (·.1))=[]:=by simp[U32.srt,k2T,beginT]
 unfold flushP
 rw[h1]
 unfold flushF
 simp only
 rw[k2_sync]
 rfl
def k2B:List Nat:=(mSealP k2R k2M).1
theorem k2_seal:mSealP k2R k2M=(k2B,0):=by
 have h:(mSealP k2R k2M).2=0:=by
  unfold mSealP
  rw[show rightB k2M=true from by decide,show getR (0,k2M.gn) k2R=some (zeros 16) from rfl]
  simp only[cond_true]
  rw[sealM (.inl (zeros_len 16))]
 unfold k2B
 rw[←h]
theorem k2_meta (l:List Nat) (st:Nat):metaP k2R { k2T with fl:=true,fa:=false } (k2D l l st) [] k2M=(0,{ k2T with fl:=true,fa:=false },k2D (putD l k2B 1) (putD l k2B 1) (st+2),[]++lgM k2R k2M):=by
 unfold metaP
 rw[if_neg (by decide),if_neg (by decide),k2_seal,if_neg (by decide),show k2M.cm%2=1 from rfl,k2_write]
 simp only
 rw[k2_sync2]
 rfl
theorem k2B_len:k2B.length=256:=by
 unfold k2B mSealP
 rw[show rightB k2M=true from by decide,show getR (0,k2M.gn) k2R=some (zeros 16) from rfl]
 simp only[cond_true]
 exact (seal_ok9 (.inl (zeros_len 16)) (by decide) (by decide) (mbytes_len k2M)).2
theorem k2B_byt:Byt k2B:=by
 unfold k2B mSealP
 rw[show rightB k2M=true from by decide,show getR (0,k2M.gn) k2R=some (zeros 16) from rfl]
 simp only[cond_true]
 refine sealP_byt (byt_zeros 16) ?_ (labM_ok k2M_ok)
 unfold mbytes
 exact byt_app (flatN_byt _) (byt_zeros _)
set_option maxRecDepth 100000 in
theorem known20_any (w:World):Calls Tryz.prog 21 #[] w fun e w'=>e = .returned (.bool true)∧Below w.heap.size w w':=by
 have hmk:∀W:World,(Instr.makeSlice 64 (.int .i64 16) (.int .i64 16)).run Tryz.prog W = .ok (.slice (some ⟨W.heap.size,0,none⟩) 16 16) (W.alloc (.cells (bts (zeros 16)) 5)):=fun W=>make_u8 16 16 (Nat.le_refl _) (by decide) W
 go_enter Tryz.func21,Tryz.ntmps21
 go_wp2_with fail
 refine (diskNew_any 8 w (by decide) (by decide)).mono ?_
 rintro e w1 ⟨d,g1,g2,rfl,hd,hb1⟩
 have D1:=Lib.hid hd.ds
 have B1:=Lib.hid hb1
 clear hd hb1
 go_wp2_with fail
 refine (regsNew_nil d 2 w1).mono ?_
 rintro e w2 ⟨rfl,hx,hb2⟩
 obtain⟨r,hr0⟩:∃r,w1.heap.size=r:=⟨_,rfl⟩
 rw[hr0] at hx⊢
 have X2:=Lib.hid hx
 have D2:=Lib.hid (D1.out.ab hb2)
 have B2:=Lib.hid (below_tr B1.out hb2 B1.out.size)
 have RL:Hid (w.heap.size≤r):=Lib.hid (by rw[←hr0];exact B1.out.size)
 clear hx hb2 hr0 D1 B1
 go_wp2_with fail
 refine (newRing_any w2).mono ?_
 rintro e w3 ⟨rg,m,rfl,hge,hr,hb3⟩
 have D3:=Lib.hid (D2.out.ab hb3)
 have X3:=Lib.hid (X2.out.ab hb3)
 have R3:=Lib.hid (hr.lowr B2.out.size)
 have GE3:=Lib.hid (Nat.le_trans B2.out.size hge)
 have B3:=Lib.hid (below_tr B2.out hb3 B2.out.size)
 clear hr hb3 hge D2 B2 X2
 go_wp2_with fail
 refine (newLog_any w3).mono ?_
 rintro e w4 ⟨lg,rfl,hge,hl,hb4⟩
 have D4:=Lib.hid (D3.out.ab hb4)
 have X4:=Lib.hid (X3.out.ab hb4)
 have R4:=Lib.hid (R3.out.ab hb4)
 have GE4:=Lib.hid (Nat.le_trans B3.out.size hge)
 have B4:=Lib.hid (below_tr B3.out hb4 B3.out.size)
 have L4:=Lib.hid (LgB.empty (B:=w.heap.size) hl B4.out.size)
 clear hl hb4 hge D3 B3 R3 X3
 obtain⟨dv,ri,lo⟩:=stageX (τ:=(0,4)) D4.out R4.out GE3.out L4.out GE4.out X4.out (by decide)
 obtain⟨O4,hO4⟩:∃O4,stX w4 w.heap.size m r (0,4)=O4:=⟨_,rfl⟩
 have OL:Hid (∀k,k<w.heap.size→O4 k=(0,9)):=Lib.hid fun k hk=>by rw[←hO4];exact stX_low RL.out hk
 have TX:Hid (O4 r=(0,4)):=Lib.hid (by rw[←hO4];exact stX_x)
 rw[hO4] at dv ri lo
 have DV:=Lib.hid dv
 have RI:=Lib.hid ri
 have LO:=Lib.hid lo
 have RS:Hid (RsM w4 O4 r d ⟨2,0,0⟩):=Lib.hid ⟨X4.out,TX.out,show 2<18446744073709551616 by decide,show 0≤2 by decide,show 0≤0 by decide⟩
 clear dv ri lo hO4 D4 R4 L4 X4 GE3 GE4 TX RL
 go_wp2_with fail
 have b5:Below w4.heap.size w4 (w4.alloc (.cells #[.int .u32 2,.int .u32 8] 72)):=(Below.refl _ _).alloc (Nat.le_refl _) _
 have s5:Wr (fun _=>False) w4 O4 (w4.alloc (.cells #[.int .u32 2,.int .u32 8] 72)) O4:=Wr.of b5 _ (fun _ _=>rfl)
 have r5:RnB (w4.alloc (.cells #[.int .u32 2,.int .u32 8] 72)) (some ⟨w4.heap.size,0,none⟩) 1 1 [(2,8)]:=by
  obtain⟨A,c,h1,h2,_⟩:=(RuB.one w4 2 8).rn
  injection h1 with e1 e2 e3
  subst e1 e3
  exact h2
 refine (new_ok (DV.out.wr s5 id) r5 (by decide) (by decide) (by decide) (rg:=rg) (lg:=lg)).mono ?_
 rintro e w6 ⟨p,O6,rfl,hp6,s6,hge6⟩
 have P6:=Lib.hid hp6
 have S6:=Lib.hid (s5.tr s6)
 have PP:Hid (0<p):=Lib.hid (by obtain⟨b,h,_⟩:=hp6;exact h.pos)
 have DV6:=Lib.hid (DV.out.wr S6.out id)
 have RI6:=Lib.hid (RI.out.wr S6.out id id)
 have LO6:=Lib.hid (LO.out.wr S6.out id)
 have RS6:=Lib.hid (RS.out.wr S6.out id)
 clear b5 s5 r5 hp6 s6 hge6 DV RI LO RS
 go_wp2_with fail
 have hI:IsB (w6.alloc (.cells (bts (zeros 16)) 5)) (some ⟨w6.heap.size,0,none⟩) 16 16 (zeros 16):=isB_whole (Bk.newAt _ (zeros 16) rfl) (byt_zeros 16) (zeros_len 16) (by decide)
 have hba:Below w6.heap.size w6 (w6.alloc (.cells (bts (zeros 16)) 5)):=(Below.refl _ _).alloc (Nat.le_refl _) _
 have sa:Wr (fun _=>False) w6 O6 (w6.alloc (.cells (bts (zeros 16)) 5)) O6:=Wr.of hba _ (fun _ _=>rfl)
 refine (ringAddM (t:=0) (gn:=0) (RI6.out.wr sa id id) (by decide) (by decide) hI).mono ?_
 rw[show addP (0,0) (zeros 16) []=(0,k2R) from rfl]
 rintro e w7 ⟨O7,rfl,hr7,s7⟩
 have S7:=Lib.hid (sa.imp (Q:=fun τ=>τ=(0,3)) (fun _=>False.elim) |>.tr s7)
 have P7:=Lib.hid (P6.out.wr S7.out (fun i e=>by have:=PP.out;injection e with e;omega) (fun e=>by cases e))
 have DV7:=Lib.hid (DV6.out.wr S7.out (fun e=>by cases e))
 have RI7:=Lib.hid hr7
 have LO7:=Lib.hid (LO6.out.wr S7.out (fun e=>by cases e))
 have RS7:=Lib.hid (RS6.out.wr S7.out (fun e=>by cases e))
 have T7:=Lib.hid ((S6.out.imp (Q:=fun τ=>τ=(0,3)) fun _=>False.elim).tr S7.out)
 clear hI hba sa hr7 s7 S6 S7 P6 DV6 RI6 LO6 RS6
 dsimp only
 go_wp2_with fail
 refine (start_one (n:=1) P7.out RS7.out DV7.out (by rw[k2_new];exact k2D_ok (zeros_len _) (zeros_len _) (byt_zeros _) (byt_zeros _)) (by decide) rfl rfl (by decide) (by rw[k2_new];exact k2_reserve _ _) (by decide) (by decide) (by decide)).mono ?_
 rintro e w8 ⟨O8,rfl,hp8,hs8,hd8,s8⟩
 have P8:Hid (PgM w8 O8 p d rg lg k2T):=Lib.hid hp8
 have DV8:=Lib.hid hd8
 have RS8:=Lib.hid hs8
 have RI8:=Lib.hid (RI7.out.wr s8 (fun e=>by have:=PP.out;rcases e with e | e | e <;> first | (cases e;done) | (injection e with e;omega)) (fun e=>by have:=PP.out;rcases e with e | e | e <;> first | (cases e;done) | (injection e with e;omega)))
 have LO8:=Lib.hid (LO7.out.wr s8 (fun e=>by have:=PP.out;rcases e with e | e | e <;> first | (cases e;done) | (injection e with e;omega)))
 have T8:=Lib.hid ((T7.out.imp (Q:=fun τ=>τ=(0,1)∨τ=(0,2)∨τ=(0,3)∨τ=(0,4)∨τ=(p,1)) fun τ h=>.inr (.inr (.inl h))).tr (s8.imp fun τ h=>h.imp id fun h=>.inr (.inr h)))
 clear hp8 hs8 hd8 s8 P7 DV7 RS7 RI7 LO7 T7
 go_wp2_with fail
 refine (finish_one (m:=k2M) P8.out RS8.out DV8.out LO8.out RI8.out rfl (by decide) rfl rfl rfl (by decide) k2M_ok (k2D_ok (zeros_len _) (zeros_len _) (byt_zeros _) (byt_zeros _)) (by show 1≤900000000;decide) (by show 0≤90000;decide) (by decide) (fun x hx=>by cases hx) (by decide) (k2_flush _ _ _)
  (k2D_ok (zeros_len _) (zeros_len _) (byt_zeros _) (byt_zeros _)) (by show 2≤900000000;decide) (by show 0≤90000;decide) (by decide) (k2_meta _ _) (k2D_ok (putD_len (zeros_len _) (by decide) (by rw[k2B_len];decide)) (putD_len (zeros_len _) (by decide) (by rw[k2B_len];decide)) (putD_byt (byt_zeros _) k2B_byt) (putD_byt (byt_zeros _) k2B_byt)) (by show 4≤1000000000;decide) (k2_adv _ _ _) rfl (.inr rfl) rfl).mono ?_
 rintro e w9 ⟨O9,rfl,hp9,hs9,hd9,hl9,s9⟩
 have RS9:=Lib.hid hs9
 have T9:=Lib.hid (T8.out.tr (s9.imp fun τ h=>h.imp id fun h=>h.imp id .inr))
 clear hp9 hs9 hd9 hl9 s9
 go_wp2_with fail
 refine (committedM RS9.out).mono ?_
 rintro e w10 ⟨rfl,rfl⟩
 go_wp2_with fail
 go_ret
 refine⟨rfl,T9.out.below B4.out B4.out.size (fun k hk h=>?_)⟩
 rw[OL.out k hk] at h
 have:=PP.out
 simp at h
open Go.RowKit Go.ChangeShapes Go.WideShapes
theorem zero_blkN {i n:Nat} (hi:i<n):blkL (zeros (n*256)) i=zeros 256:=by
 unfold blkL zeros
 rw[List.drop_replicate,List.take_replicate,Nat.min_eq_left (by omega)]
set_option maxRecDepth 100000 in
theorem rd8_any (n:Nat) (hn:n≤100000) (w:World):Calls Tryz.prog 14 #[.int .i64 (n:Int)] w fun e w'=>∃g v1 v2 b1 b2,e = .returned (.pointer (some ⟨g,0,none⟩))∧RdB w' w.heap.size g v1 v2 b1 b2 0 (-1) false (zeros (n*256))∧b1.length=n∧b2.length=n∧Below w.heap.size w w':=by
 have HN:=Lib.hid hn
 clear hn
 go_enter Tryz.func14,Tryz.ntmps14
 go_wp2_with fail
 go_loopw [4] (fun z wr=>∃i:Nat,i≤n∧z = .int .i64 (i:Int)∧∃v1 v2 b1 b2,RdB wr w.heap.size w.heap.size v1 v2 b1 b2 0 (-1) false (zeros (n*256))∧b1.length=i∧b2.length=i∧Below w.heap.size w wr) (fun z _=>n-(intOf z).toNat)
 case atStart=>
  refine⟨0,Nat.zero_le _,rfl,.slice none 0 0,.slice none 0 0,[],[],⟨CbB.new _ _ _,World.ownsRow_nil _ _ _ _,World.ownsRow_nil _ _ _ _,fun k hk=>(by cases hk),fun i b hi=>(by simp at hi),fun i b hi=>(by simp at hi),by simp,Nat.le_refl _⟩,rfl,rfl,(Below.refl _ _).alloc (Nat.le_refl _) _⟩
 case round=>
  obtain⟨i,hi,rfl,v1,v2,b1,b2,hr,hl1,hl2,hb⟩:=hrel
  by_cases hlt:i<n
  · have hlti:(i:Int)<(n:Int):=by omega
    have hib:(i:Int)≤100000:=by have:=HN.out;omega
    have HR:=Lib.hid hr
    have HB:=Lib.hid hb
    have L1:=Lib.hid hl1
    have L2:=Lib.hid hl2
    have HL:=Lib.hid hlt
    clear hr hb hlt hi hl1 hl2
    go_wp2_with fail
    · skip
      refine wp_wide5 (fun i k=>i=4∧v1.ownBlock=some k) [⟨11,IsR (.pointer (some ⟨w.heap.size,0,none⟩)),[],false⟩,⟨12,IsR (v1),[0],false⟩,⟨13,BnewR wr.heap.size,[],false⟩,⟨14,OneSl wr.heap.size,[2],false⟩,⟨15,AppR w.heap.size wr.heap.size v1 b1,[1,3],false⟩,⟨16,IsR (.pointer (some ⟨w.heap.size,0,none⟩)),[],false⟩] (by kernel_rfl) (by kernel_rfl) rfl rfl rfl ⟨?_,?_,?_,?_,?_,?_,trivial⟩ ?_
      · refine⟨rfl,IsR.monoF _ _,fun a W hA hb hd=>Takes.to5 (takes_plain rfl (yields_value _ ?_ rfl)) _⟩
        have h3:a.tmps[3]?.getD undef = .pointer (some ⟨w.heap.size,0,none⟩):=(eval_get a 3).trans ((hA.eval (by simp)).trans rfl)
        go_simp
      · refine⟨rfl,IsR.monoF _ _,fun a W hA hb hd=>Takes.to5 (takes_plain rfl (yields_value _ ?_ rfl)) _⟩
        have h11:a.tmps[11]?.getD undef = .pointer (some ⟨w.heap.size,0,none⟩):=(eval_get a 11).trans (hd 0 (by simp) _ rfl)
        have hc:W.cell? ⟨w.heap.size,0,none⟩=some v1:=(HR.out.box.fr hb (fun ⟨j,_,_,hj⟩=>row_ne HR.out.own1 HR.out.box (by decide) hj)).cell (k:=0) rfl
        obtain⟨A,cp,hv⟩:=row_shape HR.out.own1
        subst hv
        go_simp
      · refine⟨rfl,fun z W W1 h1 hf=>h1.fr hf (fun k ⟨j,_,_,hj⟩=>own_ltX HR.out.own1 k hj),fun a W hA hb hd=>takes5_plain rfl ?_⟩
        refine .inl ⟨.slice (some ⟨W.heap.size,0,none⟩) 256 256,W.alloc (.cells (bts (zeros 256)) 5),?_,⟨_,rfl,hb.size,Bk.new _ _ _⟩,Fr.of ((Below.refl _ _).alloc (Nat.le_refl _) _) _⟩
        have hmk:=make_u8 256 256 (Nat.le_refl _) (by decide) W
        have hx:a.eval (.const (.int .i64 256)) = .int .i64 ((256:Nat):Int):=rfl
        unfold execOp
        simp only[hx,hmk,Sem.run_bind,Result.andThen_ok,Sem.run_pure]
      · refine⟨rfl,fun z W W1 ⟨G1,u,h1,h2,h3,h4⟩ hf=>⟨G1,u,h1,h2.fr hf (fun ⟨j,_,_,hj⟩=>by have:=own_ltX HR.out.own1 _ hj;omega),h3,h4.fr hf (fun k ⟨j,_,_,hj⟩=>own_ltX HR.out.own1 k hj)⟩,fun a W hA hb hd=>takes5_plain rfl ?_⟩
        obtain⟨b,hu,hbs,hbk⟩:=hd 2 (by simp) _ rfl
        have h13:a.tmps[13]?.getD undef = .slice (some ⟨b,0,none⟩) 256 256:=(eval_get a 13).trans hu
        refine .inl ⟨.slice (some ⟨W.heap.size,0,none⟩) 1 1,W.alloc (.cells #[.slice (some ⟨b,0,none⟩) 256 256] 64),?_,⟨_,_,rfl,CbB.new _ _ _,hb.size,b,rfl,hbs,hbk.alloc _⟩,Fr.of ((Below.refl _ _).alloc (Nat.le_refl _) _) _⟩
        go_simp
      · refine⟨rfl,fun z W W1 ⟨b,h1,h2,h3,h4⟩ hf=>⟨b,h1,h2.fr hf (fun ⟨j,_,_,hj⟩=>by have:=own_ltX HR.out.own1 _ hj;omega),row_fr h3 hf (fun k hk ⟨j,hj,hj2,_⟩=>hj hj2),h4⟩,fun a W hA hb hd=>takes5_plain rfl ?_⟩
        have hs:a.eval (.tmp 12)=v1:=hd 1 (by simp) _ rfl
        obtain⟨Gs,u,he,hcb,hGs,b,rfl,hbs,hbk⟩:=hd 3 (by simp) _ rfl
        have hx:a.eval (.tmp 14) = .slice (some ⟨Gs,0,none⟩) 1 1:=he
        have hown:=row_fr HR.out.own1 hb (fun k hk ⟨j,hj,hj2,_⟩=>hj hj2)
        obtain⟨i0,hi0,hz0,hz1,hz2⟩:=info_parts infoSlB
        obtain⟨vq,W1,hrun,r1,r2,_,r4⟩:=run_append_own_at (P:=Tryz.prog) W w.heap.size 117 117 64 i0 _ 1 24 Tryz.underlying117 hi0 hz0 hz1 hz2 rfl (by decide) v1 b1.length _ hown ⟨Gs,0,none⟩ 1 1 [.slice (some ⟨b,0,none⟩) 256 256] rfl (row_at hcb) (by simp[Value.oneCell']) (by have:=HN.out;have:=HL.out;have:=L1.out;have:=L2.out;simp only[maxLen];have:=L1.out;have:=HL.out;omega) (by have:=HN.out;have:=HL.out;have:=L1.out;have:=L2.out;have:=L1.out;have:=HL.out;omega) (Nat.le_trans HB.out.size hb.size)
        refine .inl ⟨vq,W1,?_,⟨b,hbs,hbk.fr (Fr.grown r2) (fun e=>by have:=own_ltX HR.out.own1 _ e;omega),r1,?_⟩,(Fr.grown r2).imp fun k hk=>⟨rfl,hk⟩⟩
        · unfold execOp
          simp only[resolve,invoke,builtin,Sem.run_bind,Sem.run_pure,Result.andThen_ok,List.map_toArray,List.map_cons,List.map_nil,hs,hx,hrun]
        · rcases r4 with r4 | r4
          · exact .inl r4
          · exact .inr ⟨_,r4,hb.size⟩
      · refine⟨rfl,IsR.monoF _ _,fun a W hA hb hd=>Takes.to5 (takes_plain rfl (yields_value _ ?_ rfl)) _⟩
        have h3:a.tmps[3]?.getD undef = .pointer (some ⟨w.heap.size,0,none⟩):=(eval_get a 3).trans ((hA.eval (by simp)).trans rfl)
        go_simp
      intro vs0 wrn hR hb
      obtain⟨b,hbs,hbk,hrow,hvv⟩:AppR w.heap.size wr.heap.size v1 b1 (vs0 15) wrn:=hR 4 _ rfl
      have e11:vs0 11 = .pointer (some ⟨w.heap.size,0,none⟩):=hR 0 _ rfl
      have e12:vs0 12=v1:=hR 1 _ rfl
      have e16:vs0 16 = .pointer (some ⟨w.heap.size,0,none⟩):=hR 5 _ rfl
      simp only[List.map_cons,List.map_nil,List.foldl_cons,List.foldl_nil,List.length_cons,List.length_nil,List.drop_succ_cons,List.drop_zero,Act.put,List.setIfInBounds_toArray,List.set_cons_zero,List.set_cons_succ,e11,e12,e16]
      have FR:Hid (Fr wr wrn (fun k=>v1.ownBlock=some k)):=Lib.hid (hb.imp fun k ⟨j,_,hj⟩=>hj)
      have NW:=Lib.hid (HR.out.push1 HB.out.size FR.out (by rw[L1.out,zero_blkN (by have:=HL.out;omega)];exact hbk) hbs hrow hvv)
      have G2:=Lib.hid (HR.out.box.fr FR.out (row_ne HR.out.own1 HR.out.box (by decide)))
      have BB:=Lib.hid (Fr.below FR.out (fun k hk=>own_ge9 HR.out.own1 k hk) HB.out HB.out.size)
      obtain⟨A1,c1,hv1⟩:=row_shape hrow
      generalize vs0 15=q15 at *
      subst hv1
      have hf:=G2.out.free 0
      have hcl:=G2.out.cell (k:=0) rfl
      clear hR hb hrow hvv e11 e12 e16
      generalize vs0 13=q13 at *
      generalize vs0 14=q14 at *
      go_upto_region 6 with (fail)
      obtain⟨wm,hwm⟩:∃wm,wrn.setCell ⟨w.heap.size,0,none⟩ (.slice A1 (b1.length+1) c1)=wm:=⟨_,rfl⟩
      have BM:Hid (Below w.heap.size w wm):=Lib.hid (by rw[←hwm];exact Fr.below (fr_cell _ _ _ _) (fun k hk=>by omega) BB.out BB.out.size)
      rw[hwm] at NW⊢
      clear hwm hf hcl G2 FR hbk hbs BB HR HB
      have HB:=BM
      clear BM
      refine wp_wide5 (fun i k=>i=4∧v2.ownBlock=some k) [⟨17,IsR (.pointer (some ⟨w.heap.size,1,none⟩)),[],false⟩,⟨18,IsR (v2),[0],false⟩,⟨19,BnewR wm.heap.size,[],false⟩,⟨20,OneSl wm.heap.size,[2],false⟩,⟨21,AppR w.heap.size wm.heap.size v2 b2,[1,3],false⟩,⟨22,IsR (.pointer (some ⟨w.heap.size,1,none⟩)),[],false⟩] (by kernel_rfl) (by kernel_rfl) rfl rfl rfl ⟨?_,?_,?_,?_,?_,?_,trivial⟩ ?_
      · refine⟨rfl,IsR.monoF _ _,fun a W hA hb hd=>Takes.to5 (takes_plain rfl (yields_value _ ?_ rfl)) _⟩
        have h3:a.tmps[3]?.getD undef = .pointer (some ⟨w.heap.size,0,none⟩):=(eval_get a 3).trans ((hA.eval (by simp)).trans rfl)
        go_simp
      · refine⟨rfl,IsR.monoF _ _,fun a W hA hb hd=>Takes.to5 (takes_plain rfl (yields_value _ ?_ rfl)) _⟩
        have h17:a.tmps[17]?.getD undef = .pointer (some ⟨w.heap.size,1,none⟩):=(eval_get a 17).trans (hd 0 (by simp) _ rfl)
        have hc:W.cell? ⟨w.heap.size,1,none⟩=some v2:=(NW.out.box.fr hb (fun ⟨j,_,_,hj⟩=>row_ne NW.out.own2 NW.out.box (by decide) hj)).cell (k:=1) rfl
        obtain⟨A,cp,hv⟩:=row_shape NW.out.own2
        subst hv
        go_simp
      · refine⟨rfl,fun z W W1 h1 hf=>h1.fr hf (fun k ⟨j,_,_,hj⟩=>own_ltX NW.out.own2 k hj),fun a W hA hb hd=>takes5_plain rfl ?_⟩
        refine .inl ⟨.slice (some ⟨W.heap.size,0,none⟩) 256 256,W.alloc (.cells (bts (zeros 256)) 5),?_,⟨_,rfl,hb.size,Bk.new _ _ _⟩,Fr.of ((Below.refl _ _).alloc (Nat.le_refl _) _) _⟩
        have hmk:=make_u8 256 256 (Nat.le_refl _) (by decide) W
        have hx:a.eval (.const (.int .i64 256)) = .int .i64 ((256:Nat):Int):=rfl
        unfold execOp
        simp only[hx,hmk,Sem.run_bind,Result.andThen_ok,Sem.run_pure]
      · refine⟨rfl,fun z W W1 ⟨G1,u,h1,h2,h3,h4⟩ hf=>⟨G1,u,h1,h2.fr hf (fun ⟨j,_,_,hj⟩=>by have:=own_ltX NW.out.own2 _ hj;omega),h3,h4.fr hf (fun k ⟨j,_,_,hj⟩=>own_ltX NW.out.own2 k hj)⟩,fun a W hA hb hd=>takes5_plain rfl ?_⟩
        obtain⟨b,hu,hbs,hbk⟩:=hd 2 (by simp) _ rfl
        have h19:a.tmps[19]?.getD undef = .slice (some ⟨b,0,none⟩) 256 256:=(eval_get a 19).trans hu
        refine .inl ⟨.slice (some ⟨W.heap.size,0,none⟩) 1 1,W.alloc (.cells #[.slice (some ⟨b,0,none⟩) 256 256] 64),?_,⟨_,_,rfl,CbB.new _ _ _,hb.size,b,rfl,hbs,hbk.alloc _⟩,Fr.of ((Below.refl _ _).alloc (Nat.le_refl _) _) _⟩
        go_simp
      · refine⟨rfl,fun z W W1 ⟨b,h1,h2,h3,h4⟩ hf=>⟨b,h1,h2.fr hf (fun ⟨j,_,_,hj⟩=>by have:=own_ltX NW.out.own2 _ hj;omega),row_fr h3 hf (fun k hk ⟨j,hj,hj2,_⟩=>hj hj2),h4⟩,fun a W hA hb hd=>takes5_plain rfl ?_⟩
        have hs:a.eval (.tmp 18)=v2:=hd 1 (by simp) _ rfl
        obtain⟨Gs,u,he,hcb,hGs,b,rfl,hbs,hbk⟩:=hd 3 (by simp) _ rfl
        have hx:a.eval (.tmp 20) = .slice (some ⟨Gs,0,none⟩) 1 1:=he
        have hown:=row_fr NW.out.own2 hb (fun k hk ⟨j,hj,hj2,_⟩=>hj hj2)
        obtain⟨i0,hi0,hz0,hz1,hz2⟩:=info_parts infoSlB
        obtain⟨vq,W1,hrun,r1,r2,_,r4⟩:=run_append_own_at (P:=Tryz.prog) W w.heap.size 117 117 64 i0 _ 1 24 Tryz.underlying117 hi0 hz0 hz1 hz2 rfl (by decide) v2 b2.length _ hown ⟨Gs,0,none⟩ 1 1 [.slice (some ⟨b,0,none⟩) 256 256] rfl (row_at hcb) (by simp[Value.oneCell']) (by have:=HN.out;have:=HL.out;have:=L1.out;have:=L2.out;simp only[maxLen];have:=L2.out;have:=HL.out;omega) (by have:=HN.out;have:=HL.out;have:=L1.out;have:=L2.out;have:=L2.out;have:=HL.out;omega) (Nat.le_trans HB.out.size hb.size)
        refine .inl ⟨vq,W1,?_,⟨b,hbs,hbk.fr (Fr.grown r2) (fun e=>by have:=own_ltX NW.out.own2 _ e;omega),r1,?_⟩,(Fr.grown r2).imp fun k hk=>⟨rfl,hk⟩⟩
        · unfold execOp
          simp only[resolve,invoke,builtin,Sem.run_bind,Sem.run_pure,Result.andThen_ok,List.map_toArray,List.map_cons,List.map_nil,hs,hx,hrun]
        · rcases r4 with r4 | r4
          · exact .inl r4
          · exact .inr ⟨_,r4,hb.size⟩
      · refine⟨rfl,IsR.monoF _ _,fun a W hA hb hd=>Takes.to5 (takes_plain rfl (yields_value _ ?_ rfl)) _⟩
        have h3:a.tmps[3]?.getD undef = .pointer (some ⟨w.heap.size,0,none⟩):=(eval_get a 3).trans ((hA.eval (by simp)).trans rfl)
        go_simp
      intro vs1 wmn hR hb
      obtain⟨b,hbs,hbk,hrow,hvv⟩:AppR w.heap.size wm.heap.size v2 b2 (vs1 21) wmn:=hR 4 _ rfl
      have e17:vs1 17 = .pointer (some ⟨w.heap.size,1,none⟩):=hR 0 _ rfl
      have e18:vs1 18=v2:=hR 1 _ rfl
      have e22:vs1 22 = .pointer (some ⟨w.heap.size,1,none⟩):=hR 5 _ rfl
      simp only[List.map_cons,List.map_nil,List.foldl_cons,List.foldl_nil,List.length_cons,List.length_nil,List.drop_succ_cons,List.drop_zero,Act.put,List.setIfInBounds_toArray,List.set_cons_zero,List.set_cons_succ,e17,e18,e22]
      have FR:Hid (Fr wm wmn (fun k=>v2.ownBlock=some k)):=Lib.hid (hb.imp fun k ⟨j,_,hj⟩=>hj)
      have NW2:=Lib.hid (NW.out.push2 HB.out.size FR.out hbk (by rw[zeros_len]) hbs hrow hvv)
      have G2:=Lib.hid (NW.out.box.fr FR.out (row_ne NW.out.own2 NW.out.box (by decide)))
      have BB:=Lib.hid (Fr.below FR.out (fun k hk=>own_ge9 NW.out.own2 k hk) HB.out HB.out.size)
      obtain⟨A2,c2,hv2⟩:=row_shape hrow
      generalize vs1 21=q21 at *
      subst hv2
      have hf:=G2.out.free 1
      have hcl:=G2.out.cell (k:=1) rfl
      clear hR hb hrow hvv e17 e18 e22
      generalize vs1 19=q19 at *
      generalize vs1 20=q20 at *
      have B7:=Lib.hid (Fr.below (fr_cell wmn w.heap.size 1 (.slice A2 (b2.length+1) c2)) (fun k hk=>by omega) BB.out BB.out.size)
      clear G2 FR hbk hbs BB HB NW
      go_wp2_with fail
      go_roundw
      case rel=>exact⟨i+1,HL.out,by go_num,_,_,_,_,NW2.out,by rw[List.length_append,L1.out];rfl,by rw[List.length_append,L2.out];rfl,B7.out⟩
      case measure=>simp[intOf];have:=HL.out;omega
  · obtain rfl:i=n:=by omega
    have HR:=Lib.hid hr
    have HB:=Lib.hid hb
    have L1:=Lib.hid hl1
    have L2:=Lib.hid hl2
    clear hr hb hlt hi hl1 hl2
    go_wp2_with fail
    go_ret
    exact⟨w.heap.size,v1,v2,b1,b2,rfl,HR.out,L1.out,L2.out,HB.out⟩
def hasD (l:RnL) (p:Nat):Bool:=l.any fun r=>decide (r.1≤p)&&decide (p<r.2)
theorem any_take (l:RnL) (f:Nat×Nat→Bool) {i:Nat} {r:Nat×Nat} (h:l[i]? = some r):(l.take (i+1)).any f=((l.take i).any f||f r):=by
 rw[List.take_add_one,h]
 simp
set_option maxRecDepth 100000 in
theorem rhas_any (A:Option Addr) (n c p:Nat) (l:RnL) (w:World) (h:RnB w A n c l):
 Calls Tryz.prog 79 #[.slice A n c,.int .u32 (p:Int)] w fun e w'=>e = .returned (.bool (hasD l p))∧Below w.heap.size w w':=by
 have hn:(n:Int)≤9223372036854775807:=by have:=h.cap;have:=h.max;unfold maxLen at this;omega
 have HR:=Lib.hid h
 clear h
 go_enter Tryz.func79,Tryz.ntmps79
 go_wp2_with fail
 go_loopw [5] (fun z wx=>∃i:Nat,i≤n∧z = .int .i64 (i:Int)∧(l.take i).any (fun r=>decide (r.1≤p)&&decide (p<r.2))=false∧Below w.heap.size w wx) (fun z _=>n-(intOf z).toNat)
 case atStart=>exact⟨0,Nat.zero_le _,rfl,rfl,Below.refl _ _⟩
 case round=>
  obtain⟨i,hi,rfl,hal,hb⟩:=hrel
  have HB:=Lib.hid hb
  have HA:=Lib.hid hal
  clear hb hal
  by_cases hlt:i<n
  · obtain⟨r,hr⟩:∃r,l[i]? = some r:=⟨_,List.getElem?_eq_getElem (by rw[HR.out.len];exact hlt)⟩
    obtain⟨x,rfl,hxl,hcel⟩:=HR.out.at hr
    have hlti:(i:Int)<(n:Int):=by omega
    have HLT:=Lib.hid hlt
    have AT:=Lib.hid (any_take l (fun r=>decide (r.1≤p)&&decide (p<r.2)) hr)
    have MM:=Lib.hid (List.mem_of_getElem? hr)
    have r0:wr.cell? (x.add (i*2))=some (.int .u32 (r.1:Int)):=(hcel _ HB.out).1
    have r1:wr.cell? ⟨(x.add (i*2)).block,(x.add (i*2)).off+1,none⟩=some (.int .u32 (r.2:Int)):=(hcel _ HB.out).2
    have hi0:(0:Int)≤(i:Int):=by omega
    clear hlt hi hr hxl hcel
    by_cases h1:r.1≤p
    · have e1:decide ((r.1:Int)≤(p:Int))=true:=decide_eq_true (by omega)
      have e1n:decide (r.1≤p)=true:=decide_eq_true h1
      have E1:=Lib.hid h1
      clear h1
      by_cases h2:p<r.2
      · have e2:decide ((p:Int)<(r.2:Int))=true:=decide_eq_true (by omega)
        have e2n:decide (p<r.2)=true:=decide_eq_true h2
        have hs:Hid (hasD l p=true):=Lib.hid (by
         unfold hasD
         exact List.any_eq_true.2 ⟨r,MM.out,by rw[decide_eq_true E1.out,decide_eq_true h2];rfl⟩)
        clear h2
        by_cases h0:i=0
        · subst h0
          simp only[Nat.zero_mul,addr_zero] at r0 r1
          go_wp2_with fail
          go_ret
          exact⟨by rw[hs.out];rfl,HB.out⟩
        · clear h0
          go_wp2_with fail
          go_ret
          exact⟨by rw[hs.out];rfl,HB.out⟩
      · have e2:decide ((p:Int)<(r.2:Int))=false:=decide_eq_false (by omega)
        have e2n:decide (p<r.2)=false:=decide_eq_false h2
        have hs:Hid ((l.take (i+1)).any (fun r=>decide (r.1≤p)&&decide (p<r.2))=false):=Lib.hid (by rw[AT.out,HA.out,decide_eq_false h2];simp)
        clear h2
        by_cases h0:i=0
        · subst h0
          simp only[Nat.zero_mul,addr_zero] at r0 r1
          go_wp2_with fail
          go_roundw
          case rel=>exact⟨0+1,HLT.out,by go_num,hs.out,HB.out⟩
          case measure=>simp[intOf];have:=HLT.out;omega
        · clear h0
          go_wp2_with fail
          go_roundw
          case rel=>exact⟨i+1,HLT.out,by go_num,hs.out,HB.out⟩
          case measure=>simp[intOf];have:=HLT.out;omega
    · have e1:decide ((r.1:Int)≤(p:Int))=false:=decide_eq_false (by omega)
      have e1n:decide (r.1≤p)=false:=decide_eq_false h1
      have hs:Hid ((l.take (i+1)).any (fun r=>decide (r.1≤p)&&decide (p<r.2))=false):=Lib.hid (by rw[AT.out,HA.out,decide_eq_false h1];simp)
      clear h1
      by_cases h0:i=0
      · subst h0
        simp only[Nat.zero_mul,addr_zero] at r0 r1
        go_wp2_with fail
        go_roundw
        case rel=>exact⟨0+1,HLT.out,by go_num,hs.out,HB.out⟩
        case measure=>simp[intOf];have:=HLT.out;omega
      · clear h0
        go_wp2_with fail
        go_roundw
        case rel=>exact⟨i+1,HLT.out,by go_num,hs.out,HB.out⟩
        case measure=>simp[intOf];have:=HLT.out;omega
  · obtain rfl:i=n:=by omega
    have hs:Hid (hasD l p=false):=Lib.hid (by
     have h1:=HA.out
     rw[List.take_of_length_le (by rw[HR.out.len];exact Nat.le_refl _)] at h1
     exact h1)
    clear hlt hi
    go_wp2_with fail
    go_ret
    exact⟨by rw[hs.out];rfl,HB.out⟩
def pgn (b:Bool):List Value:=[.bool false,.bool b,.bool false,.bool false,.bool false,.int .u32 0,.int .u8 0,.int .u8 0,.int .u32 0,.int .u64 0,.int .u16 0,.slice none 0 0,.int .i64 0]
theorem pgn_len (b:Bool):(pgn b).length=13:=rfl
theorem infoPg19:(Tryz.prog.info? 167).map (fun i=>(i.zero,i.size,i.bytes))=some (some (.agg (pgn false).toArray),13,72):=by kernel_rfl
def OneP (S:Nat) (b:Bool) (v:Value) (W:World):Prop:=∃G,v = .slice (some ⟨G,0,none⟩) 1 1∧CbB W G 167 (pgn b).toArray∧S≤G
def pgRow (l:RnL) (i:Nat):List Value:=(List.range i).flatMap fun k=>pgn (hasD l k)
theorem pgRow_succ (l:RnL) (i:Nat):pgRow l (i+1)=pgRow l i++pgn (hasD l i):=by unfold pgRow;rw[List.range_succ,List.flatMap_append];simp
def AppP (B S:Nat) (v1:Value) (l:RnL) (i:Nat) (v:Value) (W:World):Prop:=W.ownsRow B 167 13 v (i+1) (pgRow l (i+1))∧(v.ownBlock=v1.ownBlock∨∃k,v.ownBlock=some k∧S≤k)
set_option maxRecDepth 100000 in
theorem rnew19_any {B dd rr m c n:Nat} {v1 v2:Value} {b1 b2:List Nat} {st cut:Int} {down:Bool} {L:List Nat} {A:Option Addr} {l:RnL} {w:World} (hd:RdB w B dd v1 v2 b1 b2 st cut down L) (hn:b1.length=n) (hn4:n≤100000) (h:RnB w A m c l):
 Calls Tryz.prog 47 #[.pointer (some ⟨dd,0,none⟩),.pointer (some ⟨rr,0,none⟩),.slice A m c] w fun e w'=>∃g v,e = .returned (.pointer (some ⟨g,0,none⟩))∧w.heap.size≤g∧CbB w' g 164 #[.pointer (some ⟨dd,0,none⟩),.pointer (some ⟨rr,0,none⟩),.slice none 0 0,v,.int .u64 0,.int .u64 0,.bool false,.bool false]∧w'.ownsRow w.heap.size 167 13 v n (pgRow l n)∧Below w.heap.size w w':=by
 obtain⟨A1,c1,hv1⟩:=row_shape hd.own1
 rw[hn] at hv1
 have HD:=Lib.hid hd
 have HI:=Lib.hid h
 have HV:=Lib.hid hv1
 have HN:=Lib.hid hn4
 have CD:Hid (∀W,Below w.heap.size w W→W.cell? ⟨dd,0,none⟩=some (.slice A1 n c1)):=Lib.hid fun W hW=>by rw[←hv1];exact (hd.box.ab hW).cell (k:=0) rfl
 clear hd h hn hv1 hn4
 go_enter Tryz.func47,Tryz.ntmps47
 go_wp2_with fail
 go_loopw [8] (fun z wr=>∃i:Nat,i≤n∧z = .int .i64 (i:Int)∧∃v,CbB wr w.heap.size 164 #[.pointer (some ⟨dd,0,none⟩),.pointer (some ⟨rr,0,none⟩),.slice none 0 0,v,.int .u64 0,.int .u64 0,.bool false,.bool false]∧wr.ownsRow w.heap.size 167 13 v i (pgRow l i)∧Below w.heap.size w wr) (fun z _=>n-(intOf z).toNat)
 case atStart=>exact⟨0,Nat.zero_le _,rfl,.slice none 0 0,CbB.new _ _ _,World.ownsRow_nil _ _ _ _,(Below.refl _ _).alloc (Nat.le_refl _) _⟩
 case round=>
  obtain⟨i,hi,rfl,v,hx,hr,hb⟩:=hrel
  have HX:=Lib.hid hx
  have HR:=Lib.hid hr
  have HB:=Lib.hid hb
  have c0:=CD.out wr hb
  have hib:(i:Int)≤100000:=by have:=HN.out;omega
  by_cases hlt:i<n
  · have hlti:(i:Int)<(n:Int):=by omega
    have HL:=Lib.hid hlt
    have hwi:IntKind.u32.wrap (i:Int)=(i:Int):=wrap_u32 _ (by omega) (by omega)
    have HWI:=Lib.hid hwi
    clear hx hr hb hlt hi
    go_upto_region 5 with (fail)
    have hN:∀W,Fr wr W (fun k=>v.ownBlock=some k)→Below w.heap.size w W:=fun W hW=>Fr.below hW (fun k hk=>own_ge9 HR.out k hk) HB.out HB.out.size
    have HNN:=Lib.hid hN
    clear hN
    refine wp_wide5 (fun i k=>i=8∧v.ownBlock=some k) [⟨21,IsR (.pointer (some ⟨w.heap.size,3,none⟩)),[],false⟩,⟨22,IsR (v),[0],false⟩,⟨23,IsR (.slice A m c),[],false⟩,⟨24,IsR (.int .i64 (i:Int)),[],false⟩,⟨25,IsR (.int .u32 (i:Int)),[3],false⟩,⟨26,IsR (.bool (hasD l i)),[2,4],false⟩,⟨27,IsR (.agg (pgn (hasD l i)).toArray),[5],false⟩,⟨28,OneP wr.heap.size (hasD l i),[6],false⟩,⟨29,AppP w.heap.size wr.heap.size v l i,[1,7],false⟩,⟨30,IsR (.pointer (some ⟨w.heap.size,3,none⟩)),[],false⟩] (by kernel_rfl) (by kernel_rfl) rfl rfl rfl ⟨?_,?_,?_,?_,?_,?_,?_,?_,?_,?_,trivial⟩ ?_
    · refine⟨rfl,IsR.monoF _ _,fun a W hA hb hd=>Takes.to5 (takes_plain rfl (yields_value _ ?_ rfl)) _⟩
      have h7:a.tmps[7]?.getD undef = .pointer (some ⟨w.heap.size,0,none⟩):=(eval_get a 7).trans ((hA.eval (by simp)).trans rfl)
      go_simp
    · refine⟨rfl,IsR.monoF _ _,fun a W hA hb hd=>Takes.to5 (takes_plain rfl (yields_value _ ?_ rfl)) _⟩
      have h21:a.tmps[21]?.getD undef = .pointer (some ⟨w.heap.size,3,none⟩):=(eval_get a 21).trans (hd 0 (by simp) _ rfl)
      have hc:W.cell? ⟨w.heap.size,3,none⟩=some v:=(HX.out.fr hb (fun ⟨j,_,_,hj⟩=>row_ne HR.out HX.out (by decide) hj)).cell (k:=3) rfl
      obtain⟨A2,c2,hv⟩:=row_shape HR.out
      subst hv
      go_simp
    · refine⟨rfl,IsR.monoF _ _,fun a W hA hb hd=>Takes.to5 (takes_plain rfl (yields_value _ ?_ rfl)) _⟩
      have h2:a.tmps[2]?.getD undef = .slice A m c:=(eval_get a 2).trans ((hA.eval (by simp)).trans rfl)
      go_simp
    · refine⟨rfl,IsR.monoF _ _,fun a W hA hb hd=>Takes.to5 (takes_plain rfl (yields_value _ ?_ rfl)) _⟩
      have h8:a.tmps[8]?.getD undef = .int .i64 (i:Int):=(eval_get a 8).trans ((hA.eval (by simp)).trans rfl)
      go_simp
    · refine⟨rfl,IsR.monoF _ _,fun a W hA hb hd=>Takes.to5 (takes_plain rfl (yields_value _ ?_ rfl)) _⟩
      have h24:a.tmps[24]?.getD undef = .int .i64 (i:Int):=(eval_get a 24).trans (hd 3 (by simp) _ rfl)
      have hw:=HWI.out
      go_simp
    · refine⟨rfl,IsR.monoF _ _,fun a W hA hb hd=>takes5_plain rfl ?_⟩
      have h23:a.tmps[23]?.getD undef = .slice A m c:=(eval_get a 23).trans (hd 2 (by simp) _ rfl)
      have h25:a.tmps[25]?.getD undef = .int .u32 (i:Int):=(eval_get a 25).trans (hd 4 (by simp) _ rfl)
      refine .inr ⟨79,#[.slice A m c,.int .u32 (i:Int)],by go_simp,(rhas_any A m c i l W (HI.out.ab (HNN.out W (hb.imp fun k ⟨j,_,_,hj⟩=>hj)))).mono ?_⟩
      rintro e W1 ⟨rfl,h3⟩
      exact⟨_,rfl,rfl,Fr.of h3 _⟩
    · refine⟨rfl,IsR.monoF _ _,fun a W hA hb hd=>Takes.to5 (takes_plain rfl (yields_value _ ?_ rfl)) _⟩
      have h26:a.tmps[26]?.getD undef = .bool (hasD l i):=(eval_get a 26).trans (hd 5 (by simp) _ rfl)
      unfold pgn
      go_simp
    · refine⟨rfl,fun z W W1 ⟨G1,h1,h2,h3⟩ hf=>⟨G1,h1,h2.fr hf (fun ⟨j,_,_,hj⟩=>by have:=row_ltD HR.out _ hj;omega),h3⟩,fun a W hA hb hd=>takes5_plain rfl ?_⟩
      have h27:a.tmps[27]?.getD undef = .agg (pgn (hasD l i)).toArray:=(eval_get a 27).trans (hd 6 (by simp) _ rfl)
      refine .inl ⟨.slice (some ⟨W.heap.size,0,none⟩) 1 1,W.alloc (.cells (pgn (hasD l i)).toArray 167),?_,⟨_,rfl,CbB.new _ _ _,hb.size⟩,Fr.of ((Below.refl _ _).alloc (Nat.le_refl _) _) _⟩
      unfold pgn at *
      go_simp
    · refine⟨rfl,fun z W W1 ⟨h3,h4⟩ hf=>⟨row_fr h3 hf (fun k hk ⟨j,hj,hj2,_⟩=>hj hj2),h4⟩,fun a W hA hb hd=>takes5_plain rfl ?_⟩
      have hs:a.eval (.tmp 22)=v:=hd 1 (by simp) _ rfl
      obtain⟨Gs,he,hcb,hGs⟩:=hd 7 (by simp) _ rfl
      have hx:a.eval (.tmp 28) = .slice (some ⟨Gs,0,none⟩) 1 1:=he
      have hown:=row_fr HR.out hb (fun k hk ⟨j,hj,hj2,_⟩=>hj hj2)
      obtain⟨i0,hi0,hz0,hz1,hz2⟩:=info_parts infoPg19
      obtain⟨vq,W1,hrun,r1,r2,_,r4⟩:=run_append_own_at (P:=Tryz.prog) W w.heap.size 162 162 167 i0 _ 13 72 Tryz.underlying162 hi0 hz0 hz1 hz2 rfl (by decide) v i _ hown ⟨Gs,0,none⟩ 1 1 (pgn (hasD l i)) (pgn_len _) (row_at hcb) (by simp[pgn,Value.oneCell']) (by have:=HN.out;have:=HL.out;simp only[maxLen];omega) (by have:=HN.out;have:=HL.out;omega) (Nat.le_trans HB.out.size hb.size)
      refine .inl ⟨vq,W1,?_,⟨by rw[pgRow_succ];exact r1,?_⟩,(Fr.grown r2).imp fun k hk=>⟨rfl,hk⟩⟩
      · unfold execOp
        simp only[resolve,invoke,builtin,Sem.run_bind,Sem.run_pure,Result.andThen_ok,List.map_toArray,List.map_cons,List.map_nil,hs,hx,hrun]
      · rcases r4 with r4 | r4
        · exact .inl r4
        · exact .inr ⟨_,r4,hb.size⟩
    · refine⟨rfl,IsR.monoF _ _,fun a W hA hb hd=>Takes.to5 (takes_plain rfl (yields_value _ ?_ rfl)) _⟩
      have h7:a.tmps[7]?.getD undef = .pointer (some ⟨w.heap.size,0,none⟩):=(eval_get a 7).trans ((hA.eval (by simp)).trans rfl)
      go_simp
    intro vs0 wrn hR hb
    obtain⟨hrow,hvv⟩:AppP w.heap.size wr.heap.size v l i (vs0 29) wrn:=hR 8 _ rfl
    have e21:vs0 21 = .pointer (some ⟨w.heap.size,3,none⟩):=hR 0 _ rfl
    have e22:vs0 22=v:=hR 1 _ rfl
    have e23:vs0 23 = .slice A m c:=hR 2 _ rfl
    have e24:vs0 24 = .int .i64 (i:Int):=hR 3 _ rfl
    have e25:vs0 25 = .int .u32 (i:Int):=hR 4 _ rfl
    have e26:vs0 26 = .bool (hasD l i):=hR 5 _ rfl
    have e27:vs0 27 = .agg (pgn (hasD l i)).toArray:=hR 6 _ rfl
    have e30:vs0 30 = .pointer (some ⟨w.heap.size,3,none⟩):=hR 9 _ rfl
    simp only[List.map_cons,List.map_nil,List.foldl_cons,List.foldl_nil,List.length_cons,List.length_nil,List.drop_succ_cons,List.drop_zero,Act.put,List.setIfInBounds_toArray,List.set_cons_zero,List.set_cons_succ,e21,e22,e23,e24,e25,e26,e27,e30]
    have FR:Hid (Fr wr wrn (fun k=>v.ownBlock=some k)):=Lib.hid (hb.imp fun k ⟨j,_,hj⟩=>hj)
    have G2:=Lib.hid (HX.out.fr FR.out (row_ne HR.out HX.out (by decide)))
    have BB:=Lib.hid (HNN.out wrn FR.out)
    obtain⟨A2,c2,hv2⟩:=row_shape hrow
    generalize vs0 29=q29 at *
    subst hv2
    have RW:=Lib.hid hrow
    have hf:=G2.out.free 3
    have hcl:=G2.out.cell (k:=3) rfl
    clear hR hb hrow hvv e21 e22 e23 e24 e25 e26 e27 e30 HNN FR
    generalize vs0 28=q28 at *
    have X3:=Lib.hid (G2.out.set 3 (.slice A2 (i+1) c2))
    have R3:=Lib.hid (row_fr RW.out (fr_setD wrn w.heap.size 3 (.slice A2 (i+1) c2)) (fun k hk e=>row_ne RW.out G2.out (by decide) (by rw[hk,e])))
    have B3:Hid (Below w.heap.size w (wrn.setCell ⟨w.heap.size,3,none⟩ (.slice A2 (i+1) c2))):=Lib.hid (BB.out.setCell (Nat.le_refl w.heap.size) _)
    clear G2 RW BB HX HR HB
    go_wp2_with fail
    go_roundw
    case rel=>exact⟨i+1,HL.out,by go_num,_,X3.out,R3.out,B3.out⟩
    case measure=>simp[intOf];have:=HL.out;omega
  · obtain rfl:i=n:=by omega
    clear hx hr hb hlt hi
    go_wp2_with fail
    go_ret
    exact⟨w.heap.size,v,rfl,Nat.le_refl _,HX.out,HR.out,HB.out⟩
set_option maxRecDepth 100000 in
theorem rnew09_nil (dd lim:Nat) (w:World):Calls Tryz.prog 48 #[.pointer (some ⟨dd,0,none⟩),.int .u64 (lim:Int),.slice none 0 0] w fun e w'=>e = .returned (.pointer (some ⟨w.heap.size,0,none⟩))∧CbB w' w.heap.size 169 #[.pointer (some ⟨dd,0,none⟩),.int .u64 (lim:Int),.int .u64 0,.int .u64 0,.slice none 0 0]∧Below w.heap.size w w':=by
 go_enter Tryz.func48,Tryz.ntmps48
 go_wp2_with fail
 go_loopw [8] (fun z wx=>z = .int .i64 0∧CbB wx w.heap.size 169 #[.pointer (some ⟨dd,0,none⟩),.int .u64 (lim:Int),.int .u64 0,.int .u64 0,.slice none 0 0]∧Below w.heap.size w wx) (fun z _=>0)
 case atStart=>exact⟨rfl,CbB.new _ _ _,(Below.refl _ _).alloc (Nat.le_refl _) _⟩
 case round=>
  obtain⟨rfl,hc,hb⟩:=hrel
  have HC:=Lib.hid hc
  have HB:=Lib.hid hb
  clear hc hb
  go_wp2_with fail
  go_ret
  exact⟨rfl,HC.out,HB.out⟩
theorem array7' {α:Type} {cs:Array α} (h:cs.size=7):∃c0 c1 c2 c3 c4 c5 c6,cs = #[c0,c1,c2,c3,c4,c5,c6]:=by
 obtain⟨l⟩:=cs
 match l,h with
 | [c0,c1,c2,c3,c4,c5,c6],_=>exact⟨c0,c1,c2,c3,c4,c5,c6,rfl⟩
set_option maxRecDepth 100000 in
theorem open_meta {W:World} {r:Reach} {base:Nat} {v:Value} (hk:Value.okWide Tryz.prog W r base 49 v):∃m:Mp,v = .agg (mpv m)∧m.Ok:=by
 obtain⟨cs,rfl,hs,hc⟩:=okWide_ints (ts:=[41,42,41,43,5,43,42]) Tryz.underlying49 (by kernel_rfl) hk
 have h7:Tryz.prog.cellsOf 49=7:=by kernel_rfl
 rw[h7] at hs
 obtain⟨c0,c1,c2,c3,c4,c5,c6,rfl⟩:=array7' hs
 obtain⟨z0,rfl,a0,b0⟩:=hc 0 _ .u64 rfl Tryz.underlying41 _ rfl
 obtain⟨z1,rfl,a1,b1⟩:=hc 1 _ .u32 rfl Tryz.underlying42 _ rfl
 obtain⟨z2,rfl,a2,b2⟩:=hc 2 _ .u64 rfl Tryz.underlying41 _ rfl
 obtain⟨z3,rfl,a3,b3⟩:=hc 3 _ .u16 rfl Tryz.underlying43 _ rfl
 obtain⟨z4,rfl,a4,b4⟩:=hc 4 _ .u8 rfl Tryz.underlying5 _ rfl
 obtain⟨z5,rfl,a5,b5⟩:=hc 5 _ .u16 rfl Tryz.underlying43 _ rfl
 obtain⟨z6,rfl,a6,b6⟩:=hc 6 _ .u32 rfl Tryz.underlying42 _ rfl
 have e8:IntKind.u8.min=0∧IntKind.u8.max=255:=⟨rfl,rfl⟩
 have e16:IntKind.u16.min=0∧IntKind.u16.max=65535:=⟨rfl,rfl⟩
 have e32:IntKind.u32.min=0∧IntKind.u32.max=4294967295:=⟨rfl,rfl⟩
 have e64:IntKind.u64.min=0∧IntKind.u64.max=18446744073709551615:=⟨rfl,rfl⟩
 obtain⟨n0,rfl⟩:∃n:Nat,z0=(n:Int):=⟨z0.toNat,by omega⟩
 obtain⟨n1,rfl⟩:∃n:Nat,z1=(n:Int):=⟨z1.toNat,by omega⟩
 obtain⟨n2,rfl⟩:∃n:Nat,z2=(n:Int):=⟨z2.toNat,by omega⟩
 obtain⟨n3,rfl⟩:∃n:Nat,z3=(n:Int):=⟨z3.toNat,by omega⟩
 obtain⟨n4,rfl⟩:∃n:Nat,z4=(n:Int):=⟨z4.toNat,by omega⟩
 obtain⟨n5,rfl⟩:∃n:Nat,z5=(n:Int):=⟨z5.toNat,by omega⟩
 obtain⟨n6,rfl⟩:∃n:Nat,z6=(n:Int):=⟨z6.toNat,by omega⟩
 exact⟨⟨n0,n1,n2,n3,n4,n5,n6⟩,rfl,by show n0<18446744073709551616;omega,by show n1<4294967296;omega,by show n2<18446744073709551616;omega,by show n3<65536;omega,by show n4<256;omega,by show n5<65536;omega,by show n6<4294967296;omega⟩
theorem mpv_lit (m:Mp):mpv m = #[.int .u64 (m.cm:Int),.int .u32 (m.pg:Int),.int .u64 (m.rc:Int),.int .u16 (m.rg:Int),.int .u8 (m.lv:Int),.int .u16 (m.gn:Int),.int .u32 (m.tn:Int)]:=rfl
end Go.Proofs.YtnboclhgeehdoaaGreat
