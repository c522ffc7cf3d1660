/-
  Parts of the proof, joined.
-/
import Derived.Test.YtljmiiiidjeggaaGreatBdw
import Derived.Test.YtljmiiiidjeggaaGreatBdx
import Derived.Test.YtljmiiiidjeggaaGreatBdk
import Derived.Deep.QuietTactic
import Derived.BigQuiet
import Derived.Test.YtljmiiiidjeggaaGreatBdp
import Derived.Test.YtljmiiiidjeggaaGreatBdt
namespace Go.Proofs.YtljmiiiidjeggaaGreat
set_option maxHeartbeats 16000000
open Go.RowKit
set_option linter.unusedVariables false
set_option linter.unusedSimpArgs false
def PreL (B g m g2:Nat) (l:RgL) (i:Nat) (W:World):Prop:=(i=25→RgB W B g m l)∧(i=41→∃v vs,RkB W B g2 v vs l)
def StepL (B g m g2:Nat) (i:Nat) (W W':World):Prop:=
 Below W.heap.size W W'∨(i=25∧(∃l,RgB W B g m l)∧W.grownBy W' (some m))∨(i=41∧∃v vs l,RkB W B g2 v vs l∧Fr W W' (fun k=>k=g2∨v.ownBlock=some k))
section
variable {B g m g2:Nat} {l:RgL}
theorem stepL_rg {i:Nat} (hi:i≠25) {W W':World} (h:StepL B g m g2 i W W') (hr:RgB W B g m l):RgB W' B g m l:=by
 rcases h with h | ⟨h,_⟩ | ⟨_,v,vs,l',h1,h2⟩
 · exact hr.ab h
 · exact absurd h hi
 · exact hr.frK h1 h2
theorem stepL_rk {i:Nat} (hi:i≠41) {W W':World} (h:StepL B g m g2 i W W') (hr:∃v vs,RkB W B g2 v vs l):∃v vs,RkB W' B g2 v vs l:=by
 obtain⟨v,vs,hr⟩:=hr
 rcases h with h | ⟨_,⟨l',h1⟩,h2⟩ | ⟨h,_⟩
 · exact⟨v,vs,hr.ab h⟩
 · exact⟨v,vs,hr.grownM h1 h2⟩
 · exact absurd h hi
theorem stepL_pre:∀i j,i≠j→∀W W',StepL B g m g2 i W W'→PreL B g m g2 l j W→PreL B g m g2 l j W':=
 fun i j hij W W' hs hp=>⟨fun e=>stepL_rg (by omega) hs (hp.1 e),fun e=>stepL_rk (by omega) hs (hp.2 e)⟩
theorem stepL_below {w:World} (h2:w.heap.size≤g2) {i:Nat} {W W':World} (h:StepL w.heap.size g m g2 i W W') (hb:Below w.heap.size w W):Below w.heap.size w W':=by
 rcases h with h | ⟨_,⟨l',h1⟩,h3⟩ | ⟨_,v,vs,l',h1,h3⟩
 · exact below_tr hb h hb.size
 · exact below_grown hb h3 h1.low hb.size
 · refine Fr.below h3 (fun k hk=>?_) hb hb.size
   rcases hk with rfl | hk
   · exact h2
   · exact own_ge9 h1.own k hk
theorem stepL_blk {i k:Nat} {W W':World} {cs:Array Value} {T:TypeId} {fr:Nat×Nat} (h:StepL B g m g2 i W W') (hk:W.heap[k]? = some (.cells cs T fr)) (h1:T≠93) (h2:T≠152):W'.heap[k]? = some (.cells cs T fr):=by
 have hlt:=lt_of_block hk
 rcases h with h | ⟨_,⟨l',hr⟩,h3⟩ | ⟨_,v,vs,l',hr,h3⟩
 · exact (h.block k hlt).trans hk
 · refine (h3.block k hlt fun e=>?_).trans hk
   injection e with e
   subst e
   obtain⟨us,⟨es,c,hm,_⟩,_⟩:=hr.map
   rw[hm] at hk
   cases hk
 · refine (h3.block k hlt fun e=>?_).trans hk
   rcases e with e | e
   · subst e
     have hb:=hr.box
     unfold CbB at hb
     rw[hb] at hk
     injection hk with hk
     injection hk with _ hk
     exact h1 hk.symm
   · obtain⟨cs',fr',hh⟩:=row_ty9 hr.own k e
     rw[hh] at hk
     injection hk with hk
     injection hk with _ hk
     exact h2 hk.symm
end
structure St19 (W:World) (B d g1 g2 x rg lg nb:Nat):Prop where
 box:CbB W x 48 #[.pointer (some ⟨d,0,none⟩),.pointer (some ⟨rg,0,none⟩),.pointer (some ⟨lg,0,none⟩),.pointer none,.pointer none,.slice none 0 0,.slice none 0 0]
 dv:DsB W B d g1 g2 (.slice none 0 0) (newD nb)
 lo:CbB W lg 136 #[.slice none 0 0]
theorem St19.ab {W W':World} {B d g1 g2 x rg lg nb:Nat} (h:St19 W B d g1 g2 x rg lg nb) (hb:Below W.heap.size W W'):St19 W' B d g1 g2 x rg lg nb:=⟨h.box.ab hb,h.dv.ab hb,h.lo.ab hb⟩
theorem St19.step {W W':World} {B B' d g1 g2 x rg lg nb g m gr i:Nat} (h:St19 W B d g1 g2 x rg lg nb) (hs:StepL B' g m gr i W W'):St19 W' B d g1 g2 x rg lg nb:=
 ⟨stepL_blk hs h.box (by decide) (by decide),⟨stepL_blk hs h.dv.box (by decide) (by decide),stepL_blk hs h.dv.now (by decide) (by decide),stepL_blk hs h.dv.firm (by decide) (by decide),World.ownsRow_nil _ _ _ _,h.dv.ne,h.dv.low⟩,stepL_blk hs h.lo (by decide) (by decide)⟩
def Bg19 (w:World) (nb:Nat) (l:RnL) (R:RgL) (e:Ending) (w':World):Prop:=∃x p d rg lg gw O',e = .returned (.tuple #[.pointer (some ⟨x,0,none⟩),.bool true])∧CbB w' x 48 #[.pointer (some ⟨d,0,none⟩),.pointer (some ⟨rg,0,none⟩),.pointer (some ⟨lg,0,none⟩),.pointer (some ⟨p,0,none⟩),.pointer (some ⟨gw,0,none⟩),.slice none 0 0,.slice none 0 0]∧PgM w' O' p d rg lg (newT l)∧DvM w' O' d (newD nb)∧RgM w' O' rg R∧LgM w' O' lg []∧O' x=(0,8)∧(∀k,k<w.heap.size→O' k=(0,9))∧Below w.heap.size w w'
set_option maxRecDepth 100000 in
theorem began19_any {w:World} {A A2:Option Addr} {n c m2 c2 nb:Nat} {ks:List KArg} {l:RnL} (hk:KsB w A n c ks) (hf:RnB w A2 m2 c2 l) (hu:∀r∈l,r.1<4294967296∧r.2<4294967296) (hb8:8≤nb) (hb40:nb≤40) (hn:n≤30) (h1:rightR l=true) (h2:frNew nb l=true):
 Calls Tryz.prog 7 #[.int .i64 (nb:Int),.slice A n c,.slice A2 m2 c2] w fun e w'=>(e = .returned (.tuple #[.pointer none,.bool false])∧(∃q∈ks,64<q.n)∧Below w.heap.size w w')∨((∀q∈ks,q.n≤64)∧Bg19 w nb l (foldK [] ks) e w'):=by
 have K0:=Lib.hid hk
 have F0:=Lib.hid hf
 have HU:=Lib.hid hu
 have N30:=Lib.hid hn
 have RI:=Lib.hid (And.intro h1 h2)
 have NB:=Lib.hid (And.intro hb8 hb40)
 have z1:¬(nb:Int)<8:=by omega
 have z2:¬(40:Int)<(nb:Int):=by omega
 have z3:¬(30:Int)<(n:Int):=by omega
 have nbi:(n:Int)≤30:=by omega
 clear hk hf hu hb8 hb40 hn h1 h2
 go_enter Tryz.func7,Tryz.ntmps7
 go_wp2_with fail
 refine (diskNew_any nb w NB.out.1 (by have:=NB.out.2;omega)).mono ?_
 rintro e w1 ⟨d,g1,g2,rfl,hd,hb1⟩
 have D1:=Lib.hid hd.ds
 have B1:=Lib.hid hb1
 clear hd hb1
 go_wp2_with fail
 refine (newRing_any w1).mono ?_
 rintro e w2 ⟨rg,m,rfl,hge,hr,hb2⟩
 have D2:=Lib.hid (D1.out.ab hb2)
 have R2:=Lib.hid (hr.lowr B1.out.size)
 have GE2:=Lib.hid (Nat.le_trans B1.out.size hge)
 have B2:=Lib.hid (below_tr B1.out hb2 B1.out.size)
 clear hr hb2 hge D1 B1
 go_wp2_with fail
 refine (newLog_any w2).mono ?_
 rintro e w3 ⟨lg,rfl,hge,hl,hb3⟩
 have D3:=Lib.hid (D2.out.ab hb3)
 have R3:=Lib.hid (R2.out.ab hb3)
 have GE3:=Lib.hid (Nat.le_trans B2.out.size hge)
 have B3:=Lib.hid (below_tr B2.out hb3 B2.out.size)
 have L3:=Lib.hid hl
 clear hl hb3 hge D2 B2 R2
 have kx:=CbB.new w3 48 #[.pointer (some ⟨d,0,none⟩),.pointer (some ⟨rg,0,none⟩),.pointer (some ⟨lg,0,none⟩),.pointer none,.pointer none,.slice none 0 0,.slice none 0 0]
 have a1:Below w3.heap.size w3 (w3.alloc (.cells #[.pointer (some ⟨d,0,none⟩),.pointer (some ⟨rg,0,none⟩),.pointer (some ⟨lg,0,none⟩),.pointer none,.pointer none,.slice none 0 0,.slice none 0 0] 48)):=(Below.refl _ _).alloc (Nat.le_refl _) _
 have a2:Below (w3.alloc (.cells #[.pointer (some ⟨d,0,none⟩),.pointer (some ⟨rg,0,none⟩),.pointer (some ⟨lg,0,none⟩),.pointer none,.pointer none,.slice none 0 0,.slice none 0 0] 48)).heap.size (w3.alloc (.cells #[.pointer (some ⟨d,0,none⟩),.pointer (some ⟨rg,0,none⟩),.pointer (some ⟨lg,0,none⟩),.pointer none,.pointer none,.slice none 0 0,.slice none 0 0] 48)) ((w3.alloc (.cells #[.pointer (some ⟨d,0,none⟩),.pointer (some ⟨rg,0,none⟩),.pointer (some ⟨lg,0,none⟩),.pointer none,.pointer none,.slice none 0 0,.slice none 0 0] 48)).alloc (.cells #[.slice none 0 0] 93)):=(Below.refl _ _).alloc (Nat.le_refl _) _
 have kx2:=kx.ab a2
 have kr:=CbB.new (w3.alloc (.cells #[.pointer (some ⟨d,0,none⟩),.pointer (some ⟨rg,0,none⟩),.pointer (some ⟨lg,0,none⟩),.pointer none,.pointer none,.slice none 0 0,.slice none 0 0] 48)) 93 #[.slice none 0 0]
 have a3:=below_tr a1 a2 a1.size
 have es:(w3.alloc (.cells #[.pointer (some ⟨d,0,none⟩),.pointer (some ⟨rg,0,none⟩),.pointer (some ⟨lg,0,none⟩),.pointer none,.pointer none,.slice none 0 0,.slice none 0 0] 48)).heap.size=w3.heap.size+1:=by simp
 rw[es] at kr
 have KX:=Lib.hid kx2
 have KR:=Lib.hid kr
 have A3:=Lib.hid a3
 clear kx a1 a2 kx2 a3 es kr
 go_wp2_with fail
 obtain⟨w5,hw5⟩:∃w5,(w3.alloc (.cells #[.pointer (some ⟨d,0,none⟩),.pointer (some ⟨rg,0,none⟩),.pointer (some ⟨lg,0,none⟩),.pointer none,.pointer none,.slice none 0 0,.slice none 0 0] 48)).alloc (.cells #[.slice none 0 0] 93)=w5:=⟨_,rfl⟩
 obtain⟨x,hx⟩:∃x,w3.heap.size=x:=⟨_,rfl⟩
 rw[hw5] at KX KR A3⊢
 have XL0:Hid (w.heap.size≤x):=Lib.hid (by rw[←hx];exact B3.out.size)
 have D5:=Lib.hid (D3.out.ab A3.out)
 have R5:=Lib.hid (R3.out.ab A3.out)
 have L5:=Lib.hid (L3.out.ab A3.out)
 have B5:=Lib.hid (below_tr B3.out A3.out B3.out.size)
 rw[hx] at KX KR⊢
 obtain⟨gr,hgr⟩:∃gr,x+1=gr:=⟨_,rfl⟩
 rw[hgr] at KR⊢
 have GR:Hid (w.heap.size≤gr):=Lib.hid (by have:=XL0.out;omega)
 have S5:Hid (St19 w5 w.heap.size d g1 g2 x rg lg nb):=Lib.hid ⟨KX.out,D5.out,L5.out⟩
 have T5:Hid (Two w.heap.size rg m gr [] w5):=Lib.hid ⟨R5.out,.slice none 0 0,[],KR.out,⟨by simp[keyCs],.inl ⟨rfl,rfl⟩⟩,trivial,B5.out.size,fun p hp=>by cases hp⟩
 clear hw5 hx A3 D3 R3 L3 B3 KX KR D5 R5 L5 hgr
 go_loopw [36] (fun z wr=>∃i:Nat,i≤n∧z = .int .i64 (i:Int)∧Below w.heap.size w wr∧Two w.heap.size rg m gr (foldK [] (ks.take i)) wr∧St19 wr w.heap.size d g1 g2 x rg lg nb∧∀q∈ks.take i,q.n≤64) (fun z _=>n-(intOf z).toNat)
 case atStart=>exact⟨0,Nat.zero_le _,rfl,B5.out,T5.out,S5.out,fun q hq=>by simp at hq⟩
 case round=>
  clear B5 T5 S5
  obtain⟨i,hi,rfl,hb,hT,hS,hq64⟩:=hrel
  by_cases hlt:i<n
  · obtain⟨q,hq⟩:∃q,ks[i]? = some q:=⟨_,List.getElem?_eq_getElem (by rw[K0.out.len];exact hlt)⟩
    obtain⟨y,rfl,hxl,c0,c1,c2',qt,qg,ik⟩:=K0.out.cel i q hq
    have hlti:(i:Int)<(n:Int):=by omega
    have HL:=Lib.hid hlt
    have HT:=Lib.hid hT
    have HB:=Lib.hid hb
    have ST:=Lib.hid hS
    have HQ:=Lib.hid hq
    have XL:=Lib.hid hxl
    have C0:=Lib.hid c0
    have C1:=Lib.hid c1
    have C2:=Lib.hid c2'
    have IK:=Lib.hid ik
    have QT:=Lib.hid qt
    have QG:=Lib.hid qg
    have Q64:=Lib.hid hq64
    clear hlt hT hb hS hq hxl c0 c1 c2' ik qt qg hi hq64
    go_upto_region 9 with (fail)
    by_cases h64:64<q.n
    · have h64':(64:Int)<(q.n:Int):=by omega
      have H64:=Lib.hid h64
      clear h64
      refine wp_wide3 [⟨39,IsR (.slice (some y) n c),[],false⟩,⟨40,IsR (.int .i64 (i:Int)),[],false⟩,⟨41,IsR (.pointer (some (y.add (i*3)))),[0,1],false⟩,⟨42,IsR (.pointer (some ((y.add (i*3)).add 2))),[2],false⟩,⟨43,IsR (.slice q.a q.n q.c),[3],false⟩,⟨44,IsR (.int .i64 (q.n:Int)),[4],false⟩,⟨45,IsR (.bool true),[5],false⟩,⟨46,IsR (.bool true),[6],false⟩,⟨47,AnyR,[7],false⟩,⟨48,AnyR,[7],false⟩,⟨49,AnyR,[7],false⟩,⟨50,AnyR,[7],false⟩,⟨51,AnyR,[7],false⟩,⟨52,AnyR,[7],false⟩,⟨53,AnyR,[7],false⟩,⟨54,AnyR,[7],false⟩,⟨55,AnyR,[7],false⟩,⟨56,AnyR,[7],false⟩,⟨57,AnyR,[7],false⟩,⟨58,AnyR,[7],false⟩,⟨59,AnyR,[7],false⟩,⟨60,AnyR,[7],false⟩,⟨61,AnyR,[7],false⟩,⟨62,AnyR,[7],false⟩,⟨63,AnyR,[7],false⟩,⟨64,AnyR,[7],false⟩,⟨65,AnyR,[7],false⟩,⟨66,AnyR,[7],false⟩,⟨67,AnyR,[7],false⟩,⟨68,AnyR,[7],false⟩,⟨69,AnyR,[7],false⟩,⟨70,AnyR,[7],false⟩,⟨71,AnyR,[7],false⟩,⟨72,AnyR,[7],false⟩,⟨73,AnyR,[7],false⟩,⟨74,AnyR,[7],false⟩,⟨75,AnyR,[7],false⟩,⟨76,AnyR,[7],false⟩,⟨77,AnyR,[7],false⟩,⟨78,AnyR,[7],false⟩,⟨79,AnyR,[7],false⟩,⟨80,AnyR,[7],false⟩,⟨81,AnyR,[7],false⟩] (by kernel_rfl) (by kernel_rfl) rfl rfl rfl ⟨?_,?_,?_,?_,?_,?_,?_,?_,?_,?_,?_,?_,?_,?_,?_,?_,?_,?_,?_,?_,?_,?_,?_,?_,?_,?_,?_,?_,?_,?_,?_,?_,?_,?_,?_,?_,?_,?_,?_,?_,?_,?_,?_,trivial⟩ ?_
      · refine⟨rfl,IsR.mono _,fun a W hA hb hd=>takes_plain rfl (yields_value _ ?_ rfl)⟩
        have h1:a.tmps[1]?.getD undef = .slice (some y) n c:=(eval_get a 1).trans ((hA.eval (by simp)).trans rfl)
        go_simp
      · refine⟨rfl,IsR.mono _,fun a W hA hb hd=>takes_plain rfl (yields_value _ ?_ rfl)⟩
        have h12:a.tmps[12]?.getD undef = .int .i64 (i:Int):=(eval_get a 12).trans ((hA.eval (by simp)).trans rfl)
        go_simp
      · refine⟨rfl,IsR.mono _,fun a W hA hb hd=>takes_plain rfl (yields_value _ ?_ rfl)⟩
        have h39:a.tmps[39]?.getD undef = .slice (some y) n c:=(eval_get a 39).trans (hd 0 (by simp) _ rfl)
        have h40:a.tmps[40]?.getD undef = .int .i64 (i:Int):=(eval_get a 40).trans (hd 1 (by simp) _ rfl)
        go_simp
      · refine⟨rfl,IsR.mono _,fun a W hA hb hd=>takes_plain rfl (yields_value _ ?_ rfl)⟩
        have h41:a.tmps[41]?.getD undef = .pointer (some (y.add (i*3))):=(eval_get a 41).trans (hd 2 (by simp) _ rfl)
        go_simp
      · refine⟨rfl,IsR.mono _,fun a W hA hb hd=>takes_plain rfl (yields_value _ ?_ rfl)⟩
        have h42:a.tmps[42]?.getD undef = .pointer (some ((y.add (i*3)).add 2)):=(eval_get a 42).trans (hd 3 (by simp) _ rfl)
        have hc:W.cell? (⟨(y.add (i*3)).block,(y.add (i*3)).off+2,none⟩)=some (.slice q.a q.n q.c):=keep_cell2 C2.out XL.out (below_tr HB.out hb HB.out.size)
        go_simp
      · refine⟨rfl,IsR.mono _,fun a W hA hb hd=>takes_plain rfl (yields_value _ ?_ rfl)⟩
        have h43:a.tmps[43]?.getD undef = .slice q.a q.n q.c:=(eval_get a 43).trans (hd 4 (by simp) _ rfl)
        go_simp
      · refine⟨rfl,IsR.mono _,fun a W hA hb hd=>takes_plain rfl (yields_value _ ?_ rfl)⟩
        have h44:a.tmps[44]?.getD undef = .int .i64 (q.n:Int):=(eval_get a 44).trans (hd 5 (by simp) _ rfl)
        go_simp
      · refine⟨rfl,IsR.mono _,fun a W hA hb hd=>takes_plain rfl (yields_value _ ?_ rfl)⟩
        have h45:a.tmps[45]?.getD undef = .bool true:=(eval_get a 45).trans (hd 6 (by simp) _ rfl)
        go_simp
      · exact⟨rfl,AnyR.mono,fun a W hA hb hd=>takes_off (i:=7) (d:=46) (b:=false) rfl rfl rfl (hd 7 (by simp) _ rfl) trivial⟩
      · exact⟨rfl,AnyR.mono,fun a W hA hb hd=>takes_off (i:=7) (d:=46) (b:=false) rfl rfl rfl (hd 7 (by simp) _ rfl) trivial⟩
      · exact⟨rfl,AnyR.mono,fun a W hA hb hd=>takes_off (i:=7) (d:=46) (b:=false) rfl rfl rfl (hd 7 (by simp) _ rfl) trivial⟩
      · exact⟨rfl,AnyR.mono,fun a W hA hb hd=>takes_off (i:=7) (d:=46) (b:=false) rfl rfl rfl (hd 7 (by simp) _ rfl) trivial⟩
      · exact⟨rfl,AnyR.mono,fun a W hA hb hd=>takes_off (i:=7) (d:=46) (b:=false) rfl rfl rfl (hd 7 (by simp) _ rfl) trivial⟩
      · exact⟨rfl,AnyR.mono,fun a W hA hb hd=>takes_off (i:=7) (d:=46) (b:=false) rfl rfl rfl (hd 7 (by simp) _ rfl) trivial⟩
      · exact⟨rfl,AnyR.mono,fun a W hA hb hd=>takes_off (i:=7) (d:=46) (b:=false) rfl rfl rfl (hd 7 (by simp) _ rfl) trivial⟩
      · exact⟨rfl,AnyR.mono,fun a W hA hb hd=>takes_off (i:=7) (d:=46) (b:=false) rfl rfl rfl (hd 7 (by simp) _ rfl) trivial⟩
      · exact⟨rfl,AnyR.mono,fun a W hA hb hd=>takes_off (i:=7) (d:=46) (b:=false) rfl rfl rfl (hd 7 (by simp) _ rfl) trivial⟩
      · exact⟨rfl,AnyR.mono,fun a W hA hb hd=>takes_off (i:=7) (d:=46) (b:=false) rfl rfl rfl (hd 7 (by simp) _ rfl) trivial⟩
      · exact⟨rfl,AnyR.mono,fun a W hA hb hd=>takes_off (i:=7) (d:=46) (b:=false) rfl rfl rfl (hd 7 (by simp) _ rfl) trivial⟩
      · exact⟨rfl,AnyR.mono,fun a W hA hb hd=>takes_off (i:=7) (d:=46) (b:=false) rfl rfl rfl (hd 7 (by simp) _ rfl) trivial⟩
      · exact⟨rfl,AnyR.mono,fun a W hA hb hd=>takes_off (i:=7) (d:=46) (b:=false) rfl rfl rfl (hd 7 (by simp) _ rfl) trivial⟩
      · exact⟨rfl,AnyR.mono,fun a W hA hb hd=>takes_off (i:=7) (d:=46) (b:=false) rfl rfl rfl (hd 7 (by simp) _ rfl) trivial⟩
      · exact⟨rfl,AnyR.mono,fun a W hA hb hd=>takes_off (i:=7) (d:=46) (b:=false) rfl rfl rfl (hd 7 (by simp) _ rfl) trivial⟩
      · exact⟨rfl,AnyR.mono,fun a W hA hb hd=>takes_off (i:=7) (d:=46) (b:=false) rfl rfl rfl (hd 7 (by simp) _ rfl) trivial⟩
      · exact⟨rfl,AnyR.mono,fun a W hA hb hd=>takes_off (i:=7) (d:=46) (b:=false) rfl rfl rfl (hd 7 (by simp) _ rfl) trivial⟩
      · exact⟨rfl,AnyR.mono,fun a W hA hb hd=>takes_off (i:=7) (d:=46) (b:=false) rfl rfl rfl (hd 7 (by simp) _ rfl) trivial⟩
      · exact⟨rfl,AnyR.mono,fun a W hA hb hd=>takes_off (i:=7) (d:=46) (b:=false) rfl rfl rfl (hd 7 (by simp) _ rfl) trivial⟩
      · exact⟨rfl,AnyR.mono,fun a W hA hb hd=>takes_off (i:=7) (d:=46) (b:=false) rfl rfl rfl (hd 7 (by simp) _ rfl) trivial⟩
      · exact⟨rfl,AnyR.mono,fun a W hA hb hd=>takes_off (i:=7) (d:=46) (b:=false) rfl rfl rfl (hd 7 (by simp) _ rfl) trivial⟩
      · exact⟨rfl,AnyR.mono,fun a W hA hb hd=>takes_off (i:=7) (d:=46) (b:=false) rfl rfl rfl (hd 7 (by simp) _ rfl) trivial⟩
      · exact⟨rfl,AnyR.mono,fun a W hA hb hd=>takes_off (i:=7) (d:=46) (b:=false) rfl rfl rfl (hd 7 (by simp) _ rfl) trivial⟩
      · exact⟨rfl,AnyR.mono,fun a W hA hb hd=>takes_off (i:=7) (d:=46) (b:=false) rfl rfl rfl (hd 7 (by simp) _ rfl) trivial⟩
      · exact⟨rfl,AnyR.mono,fun a W hA hb hd=>takes_off (i:=7) (d:=46) (b:=false) rfl rfl rfl (hd 7 (by simp) _ rfl) trivial⟩
      · exact⟨rfl,AnyR.mono,fun a W hA hb hd=>takes_off (i:=7) (d:=46) (b:=false) rfl rfl rfl (hd 7 (by simp) _ rfl) trivial⟩
      · exact⟨rfl,AnyR.mono,fun a W hA hb hd=>takes_off (i:=7) (d:=46) (b:=false) rfl rfl rfl (hd 7 (by simp) _ rfl) trivial⟩
      · exact⟨rfl,AnyR.mono,fun a W hA hb hd=>takes_off (i:=7) (d:=46) (b:=false) rfl rfl rfl (hd 7 (by simp) _ rfl) trivial⟩
      · exact⟨rfl,AnyR.mono,fun a W hA hb hd=>takes_off (i:=7) (d:=46) (b:=false) rfl rfl rfl (hd 7 (by simp) _ rfl) trivial⟩
      · exact⟨rfl,AnyR.mono,fun a W hA hb hd=>takes_off (i:=7) (d:=46) (b:=false) rfl rfl rfl (hd 7 (by simp) _ rfl) trivial⟩
      · exact⟨rfl,AnyR.mono,fun a W hA hb hd=>takes_off (i:=7) (d:=46) (b:=false) rfl rfl rfl (hd 7 (by simp) _ rfl) trivial⟩
      · exact⟨rfl,AnyR.mono,fun a W hA hb hd=>takes_off (i:=7) (d:=46) (b:=false) rfl rfl rfl (hd 7 (by simp) _ rfl) trivial⟩
      · exact⟨rfl,AnyR.mono,fun a W hA hb hd=>takes_off (i:=7) (d:=46) (b:=false) rfl rfl rfl (hd 7 (by simp) _ rfl) trivial⟩
      · exact⟨rfl,AnyR.mono,fun a W hA hb hd=>takes_off (i:=7) (d:=46) (b:=false) rfl rfl rfl (hd 7 (by simp) _ rfl) trivial⟩
      · exact⟨rfl,AnyR.mono,fun a W hA hb hd=>takes_off (i:=7) (d:=46) (b:=false) rfl rfl rfl (hd 7 (by simp) _ rfl) trivial⟩
      intro vs w3 hR hF hb
      have e39:vs 39 = .slice (some y) n c:=hR 0 _ rfl
      have e40:vs 40 = .int .i64 (i:Int):=hR 1 _ rfl
      have e41:vs 41 = .pointer (some (y.add (i*3))):=hR 2 _ rfl
      have e42:vs 42 = .pointer (some ((y.add (i*3)).add 2)):=hR 3 _ rfl
      have e43:vs 43 = .slice q.a q.n q.c:=hR 4 _ rfl
      have e44:vs 44 = .int .i64 (q.n:Int):=hR 5 _ rfl
      have e45:vs 45 = .bool true:=hR 6 _ rfl
      have e46:vs 46 = .bool true:=hR 7 _ rfl
      simp only[List.map_cons,List.map_nil,List.foldl_cons,List.foldl_nil,List.length_cons,List.length_nil,List.drop_succ_cons,List.drop_zero,Act.put,List.setIfInBounds_toArray,List.set_cons_zero,List.set_cons_succ,e39,e40,e41,e42,e43,e44,e45,e46]
      generalize vs 47=q47
      generalize vs 48=q48
      generalize vs 49=q49
      generalize vs 50=q50
      generalize vs 51=q51
      generalize vs 52=q52
      generalize vs 53=q53
      generalize vs 54=q54
      generalize vs 55=q55
      generalize vs 56=q56
      generalize vs 57=q57
      generalize vs 58=q58
      generalize vs 59=q59
      generalize vs 60=q60
      generalize vs 61=q61
      generalize vs 62=q62
      generalize vs 63=q63
      generalize vs 64=q64
      generalize vs 65=q65
      generalize vs 66=q66
      generalize vs 67=q67
      generalize vs 68=q68
      generalize vs 69=q69
      generalize vs 70=q70
      generalize vs 71=q71
      generalize vs 72=q72
      generalize vs 73=q73
      generalize vs 74=q74
      generalize vs 75=q75
      generalize vs 76=q76
      generalize vs 77=q77
      generalize vs 78=q78
      generalize vs 79=q79
      generalize vs 80=q80
      generalize vs 81=q81
      have B3:=Lib.hid (below_tr HB.out hb HB.out.size)
      clear hR hF hb
      go_wp2_with fail
      go_ret2
      exact .inl ⟨rfl,⟨q,List.mem_of_getElem? HQ.out,H64.out⟩,B3.out⟩
    · have h64':¬(64:Int)<(q.n:Int):=by omega
      have N64:=Lib.hid h64
      clear h64
      obtain⟨L,hL⟩:∃L,L=foldK [] (ks.take i):=⟨_,rfl⟩
      rw[←hL] at HT
      have HLL:Hid (L.length≤1000):=Lib.hid (by
       have h1:=foldK_len (ks.take i) []
       have h3:=List.length_take_le' i ks
       have h4:=N30.out
       have h5:=K0.out.len
       rw[List.length_nil,←hL] at h1
       omega)
      have HS:Hid ((addP (q.t,q.g) q.k L).2=foldK [] (ks.take (i+1))):=Lib.hid (by
       rw[List.take_add_one,HQ.out,Option.toList_some,foldK_snoc,hL])
      have Q65:Hid (∀r∈ks.take (i+1),r.n≤64):=Lib.hid fun r hr=>by
       rw[List.take_add_one,HQ.out,Option.toList_some] at hr
       rcases List.mem_append.1 hr with hr | hr
       · exact Q64.out r hr
       · rw[List.mem_singleton.1 hr];have:=N64.out;omega
      clear hL
      refine wp_wide6 (fun W=>Below w.heap.size w W∧St19 W w.heap.size d g1 g2 x rg lg nb) (PreL w.heap.size rg m gr L) (StepL w.heap.size rg m gr) [⟨39,IsR (.slice (some y) n c),[],false⟩,⟨40,IsR (.int .i64 (i:Int)),[],false⟩,⟨41,IsR (.pointer (some (y.add (i*3)))),[0,1],false⟩,⟨42,IsR (.pointer (some ((y.add (i*3)).add 2))),[2],false⟩,⟨43,IsR (.slice q.a q.n q.c),[3],false⟩,⟨44,IsR (.int .i64 (q.n:Int)),[4],false⟩,⟨45,IsR (.bool false),[5],false⟩,⟨46,IsR (.bool false),[6],false⟩,⟨47,IsR (.pointer (some ⟨x,1,none⟩)),[7],false⟩,⟨48,IsR (.pointer (some ⟨rg,0,none⟩)),[7,8],false⟩,⟨49,IsR (.slice (some y) n c),[7],false⟩,⟨50,IsR (.int .i64 (i:Int)),[7],false⟩,⟨51,IsR (.pointer (some (y.add (i*3)))),[7,10,11],false⟩,⟨52,IsR (.pointer (some (y.add (i*3)))),[7,12],false⟩,⟨53,IsR (.int .u32 (q.t:Int)),[7,13],false⟩,⟨54,IsR (.slice (some y) n c),[7],false⟩,⟨55,IsR (.int .i64 (i:Int)),[7],false⟩,⟨56,IsR (.pointer (some (y.add (i*3)))),[7,15,16],false⟩,⟨57,IsR (.pointer (some ((y.add (i*3)).add 1))),[7,17],false⟩,⟨58,IsR (.int .u16 (q.g:Int)),[7,18],false⟩,⟨59,IsR (.slice (some y) n c),[7],false⟩,⟨60,IsR (.int .i64 (i:Int)),[7],false⟩,⟨61,IsR (.pointer (some (y.add (i*3)))),[7,20,21],false⟩,⟨62,IsR (.pointer (some ((y.add (i*3)).add 2))),[7,22],false⟩,⟨63,IsR (.slice q.a q.n q.c),[7,23],false⟩,⟨64,(fun z W=>z = .int .i64 ((addP (q.t,q.g) q.k L).1:Int)∧RgB W w.heap.size rg m (addP (q.t,q.g) q.k L).2),[7,9,14,19,24],false⟩,⟨65,IsR (.slice (some y) n c),[7],false⟩,⟨66,IsR (.int .i64 (i:Int)),[7],false⟩,⟨67,IsR (.pointer (some (y.add (i*3)))),[7,26,27],false⟩,⟨68,IsR (.pointer (some (y.add (i*3)))),[7,28],false⟩,⟨69,IsR (.int .u32 (q.t:Int)),[7,29],false⟩,⟨70,IsR (.slice (some y) n c),[7],false⟩,⟨71,IsR (.int .i64 (i:Int)),[7],false⟩,⟨72,IsR (.pointer (some (y.add (i*3)))),[7,31,32],false⟩,⟨73,IsR (.pointer (some ((y.add (i*3)).add 1))),[7,33],false⟩,⟨74,IsR (.int .u16 (q.g:Int)),[7,34],false⟩,⟨75,IsR (.slice (some y) n c),[7],false⟩,⟨76,IsR (.int .i64 (i:Int)),[7],false⟩,⟨77,IsR (.pointer (some (y.add (i*3)))),[7,36,37],false⟩,⟨78,IsR (.pointer (some ((y.add (i*3)).add 2))),[7,38],false⟩,⟨79,IsR (.slice q.a q.n q.c),[7,39],false⟩,⟨80,(fun z W=>z = .int .i64 ((addP (q.t,q.g) q.k L).1:Int)∧∃v vs,RkB W w.heap.size gr v vs (addP (q.t,q.g) q.k L).2),[7,30,35,40],false⟩,⟨81,IsR (.bool false),[7,25,41],false⟩] rfl (by kernel_rfl) (by kernel_rfl) rfl rfl stepL_pre (fun i W W1 h1 h2=>⟨stepL_below GR.out h1 h2.1,h2.2.step h1⟩) (fun i W=>.inl (Below.refl _ _)) (fun j=>⟨fun _=>HT.out.1.ab (Below.refl _ _).drew,fun _=>by obtain⟨v,vs,h⟩:=HT.out.2;exact⟨v,vs,h.ab (Below.refl _ _).drew⟩⟩) ⟨HB.out.drew,ST.out.ab (Below.refl _ _).drew⟩ ⟨?_,?_,?_,?_,?_,?_,?_,?_,?_,?_,?_,?_,?_,?_,?_,?_,?_,?_,?_,?_,?_,?_,?_,?_,?_,?_,?_,?_,?_,?_,?_,?_,?_,?_,?_,?_,?_,?_,?_,?_,?_,?_,?_,trivial⟩ ?_
      · refine⟨rfl,fun j hj v W W1 h hs=>h,fun a W hA hb hp hd=>Takes.to6 (takes_plain rfl (yields_value _ ?_ rfl)) fun W1 h1=>.inl h1⟩
        have h1:a.tmps[1]?.getD undef = .slice (some y) n c:=(eval_get a 1).trans ((hA.eval (by simp)).trans rfl)
        go_simp
      · refine⟨rfl,fun j hj v W W1 h hs=>h,fun a W hA hb hp hd=>Takes.to6 (takes_plain rfl (yields_value _ ?_ rfl)) fun W1 h1=>.inl h1⟩
        have h12:a.tmps[12]?.getD undef = .int .i64 (i:Int):=(eval_get a 12).trans ((hA.eval (by simp)).trans rfl)
        go_simp
      · refine⟨rfl,fun j hj v W W1 h hs=>h,fun a W hA hb hp hd=>Takes.to6 (takes_plain rfl (yields_value _ ?_ rfl)) fun W1 h1=>.inl h1⟩
        have h39:a.tmps[39]?.getD undef = .slice (some y) n c:=(eval_get a 39).trans (hd 0 (by simp) _ rfl)
        have h40:a.tmps[40]?.getD undef = .int .i64 (i:Int):=(eval_get a 40).trans (hd 1 (by simp) _ rfl)
        go_simp
      · refine⟨rfl,fun j hj v W W1 h hs=>h,fun a W hA hb hp hd=>Takes.to6 (takes_plain rfl (yields_value _ ?_ rfl)) fun W1 h1=>.inl h1⟩
        have h41:a.tmps[41]?.getD undef = .pointer (some (y.add (i*3))):=(eval_get a 41).trans (hd 2 (by simp) _ rfl)
        go_simp
      · refine⟨rfl,fun j hj v W W1 h hs=>h,fun a W hA hb hp hd=>Takes.to6 (takes_plain rfl (yields_value _ ?_ rfl)) fun W1 h1=>.inl h1⟩
        have h42:a.tmps[42]?.getD undef = .pointer (some ((y.add (i*3)).add 2)):=(eval_get a 42).trans (hd 3 (by simp) _ rfl)
        have hc:W.cell? (⟨(y.add (i*3)).block,(y.add (i*3)).off+2,none⟩)=some (.slice q.a q.n q.c):=keep_cell2 C2.out XL.out hb.1
        go_simp
      · refine⟨rfl,fun j hj v W W1 h hs=>h,fun a W hA hb hp hd=>Takes.to6 (takes_plain rfl (yields_value _ ?_ rfl)) fun W1 h1=>.inl h1⟩
        have h43:a.tmps[43]?.getD undef = .slice q.a q.n q.c:=(eval_get a 43).trans (hd 4 (by simp) _ rfl)
        go_simp
      · refine⟨rfl,fun j hj v W W1 h hs=>h,fun a W hA hb hp hd=>Takes.to6 (takes_plain rfl (yields_value _ ?_ rfl)) fun W1 h1=>.inl h1⟩
        have h44:a.tmps[44]?.getD undef = .int .i64 (q.n:Int):=(eval_get a 44).trans (hd 5 (by simp) _ rfl)
        go_simp
      · refine⟨rfl,fun j hj v W W1 h hs=>h,fun a W hA hb hp hd=>Takes.to6 (takes_plain rfl (yields_value _ ?_ rfl)) fun W1 h1=>.inl h1⟩
        have h45:a.tmps[45]?.getD undef = .bool false:=(eval_get a 45).trans (hd 6 (by simp) _ rfl)
        go_simp
      · refine⟨rfl,fun j hj v W W1 h hs=>h,fun a W hA hb hp hd=>Takes.to6 (takes_on (i:=7) (d:=46) (b:=false) rfl rfl rfl (hd 7 (by simp) _ rfl) (yields_value _ ?_ rfl)) fun W1 h1=>.inl h1⟩
        have h10:a.tmps[10]?.getD undef = .pointer (some ⟨x,0,none⟩):=(eval_get a 10).trans ((hA.eval (by simp)).trans rfl)
        go_simp
      · refine⟨rfl,fun j hj v W W1 h hs=>h,fun a W hA hb hp hd=>Takes.to6 (takes_on (i:=7) (d:=46) (b:=false) rfl rfl rfl (hd 7 (by simp) _ rfl) (yields_value _ ?_ rfl)) fun W1 h1=>.inl h1⟩
        have h47:a.tmps[47]?.getD undef = .pointer (some ⟨x,1,none⟩):=(eval_get a 47).trans (hd 8 (by simp) _ rfl)
        have hc:=hb.2.box.cell (k:=1) rfl
        go_simp
      · refine⟨rfl,fun j hj v W W1 h hs=>h,fun a W hA hb hp hd=>Takes.to6 (takes_on (i:=7) (d:=46) (b:=false) rfl rfl rfl (hd 7 (by simp) _ rfl) (yields_value _ ?_ rfl)) fun W1 h1=>.inl h1⟩
        have h1:a.tmps[1]?.getD undef = .slice (some y) n c:=(eval_get a 1).trans ((hA.eval (by simp)).trans rfl)
        go_simp
      · refine⟨rfl,fun j hj v W W1 h hs=>h,fun a W hA hb hp hd=>Takes.to6 (takes_on (i:=7) (d:=46) (b:=false) rfl rfl rfl (hd 7 (by simp) _ rfl) (yields_value _ ?_ rfl)) fun W1 h1=>.inl h1⟩
        have h12:a.tmps[12]?.getD undef = .int .i64 (i:Int):=(eval_get a 12).trans ((hA.eval (by simp)).trans rfl)
        go_simp
      · refine⟨rfl,fun j hj v W W1 h hs=>h,fun a W hA hb hp hd=>Takes.to6 (takes_on (i:=7) (d:=46) (b:=false) rfl rfl rfl (hd 7 (by simp) _ rfl) (yields_value _ ?_ rfl)) fun W1 h1=>.inl h1⟩
        have h49:a.tmps[49]?.getD undef = .slice (some y) n c:=(eval_get a 49).trans (hd 10 (by simp) _ rfl)
        have h50:a.tmps[50]?.getD undef = .int .i64 (i:Int):=(eval_get a 50).trans (hd 11 (by simp) _ rfl)
        go_simp
      · refine⟨rfl,fun j hj v W W1 h hs=>h,fun a W hA hb hp hd=>Takes.to6 (takes_on (i:=7) (d:=46) (b:=false) rfl rfl rfl (hd 7 (by simp) _ rfl) (yields_value _ ?_ rfl)) fun W1 h1=>.inl h1⟩
        have h51:a.tmps[51]?.getD undef = .pointer (some (y.add (i*3))):=(eval_get a 51).trans (hd 12 (by simp) _ rfl)
        go_simp
      · refine⟨rfl,fun j hj v W W1 h hs=>h,fun a W hA hb hp hd=>Takes.to6 (takes_on (i:=7) (d:=46) (b:=false) rfl rfl rfl (hd 7 (by simp) _ rfl) (yields_value _ ?_ rfl)) fun W1 h1=>.inl h1⟩
        have h52:a.tmps[52]?.getD undef = .pointer (some (y.add (i*3))):=(eval_get a 52).trans (hd 13 (by simp) _ rfl)
        have hc:W.cell? (y.add (i*3))=some (.int .u32 (q.t:Int)):=keep_cell C0.out XL.out hb.1
        go_simp
      · refine⟨rfl,fun j hj v W W1 h hs=>h,fun a W hA hb hp hd=>Takes.to6 (takes_on (i:=7) (d:=46) (b:=false) rfl rfl rfl (hd 7 (by simp) _ rfl) (yields_value _ ?_ rfl)) fun W1 h1=>.inl h1⟩
        have h1:a.tmps[1]?.getD undef = .slice (some y) n c:=(eval_get a 1).trans ((hA.eval (by simp)).trans rfl)
        go_simp
      · refine⟨rfl,fun j hj v W W1 h hs=>h,fun a W hA hb hp hd=>Takes.to6 (takes_on (i:=7) (d:=46) (b:=false) rfl rfl rfl (hd 7 (by simp) _ rfl) (yields_value _ ?_ rfl)) fun W1 h1=>.inl h1⟩
        have h12:a.tmps[12]?.getD undef = .int .i64 (i:Int):=(eval_get a 12).trans ((hA.eval (by simp)).trans rfl)
        go_simp
      · refine⟨rfl,fun j hj v W W1 h hs=>h,fun a W hA hb hp hd=>Takes.to6 (takes_on (i:=7) (d:=46) (b:=false) rfl rfl rfl (hd 7 (by simp) _ rfl) (yields_value _ ?_ rfl)) fun W1 h1=>.inl h1⟩
        have h54:a.tmps[54]?.getD undef = .slice (some y) n c:=(eval_get a 54).trans (hd 15 (by simp) _ rfl)
        have h55:a.tmps[55]?.getD undef = .int .i64 (i:Int):=(eval_get a 55).trans (hd 16 (by simp) _ rfl)
        go_simp
      · refine⟨rfl,fun j hj v W W1 h hs=>h,fun a W hA hb hp hd=>Takes.to6 (takes_on (i:=7) (d:=46) (b:=false) rfl rfl rfl (hd 7 (by simp) _ rfl) (yields_value _ ?_ rfl)) fun W1 h1=>.inl h1⟩
        have h56:a.tmps[56]?.getD undef = .pointer (some (y.add (i*3))):=(eval_get a 56).trans (hd 17 (by simp) _ rfl)
        go_simp
      · refine⟨rfl,fun j hj v W W1 h hs=>h,fun a W hA hb hp hd=>Takes.to6 (takes_on (i:=7) (d:=46) (b:=false) rfl rfl rfl (hd 7 (by simp) _ rfl) (yields_value _ ?_ rfl)) fun W1 h1=>.inl h1⟩
        have h57:a.tmps[57]?.getD undef = .pointer (some ((y.add (i*3)).add 1)):=(eval_get a 57).trans (hd 18 (by simp) _ rfl)
        have hc:W.cell? (⟨(y.add (i*3)).block,(y.add (i*3)).off+1,none⟩)=some (.int .u16 (q.g:Int)):=keep_cell2 C1.out XL.out hb.1
        go_simp
      · refine⟨rfl,fun j hj v W W1 h hs=>h,fun a W hA hb hp hd=>Takes.to6 (takes_on (i:=7) (d:=46) (b:=false) rfl rfl rfl (hd 7 (by simp) _ rfl) (yields_value _ ?_ rfl)) fun W1 h1=>.inl h1⟩
        have h1:a.tmps[1]?.getD undef = .slice (some y) n c:=(eval_get a 1).trans ((hA.eval (by simp)).trans rfl)
        go_simp
      · refine⟨rfl,fun j hj v W W1 h hs=>h,fun a W hA hb hp hd=>Takes.to6 (takes_on (i:=7) (d:=46) (b:=false) rfl rfl rfl (hd 7 (by simp) _ rfl) (yields_value _ ?_ rfl)) fun W1 h1=>.inl h1⟩
        have h12:a.tmps[12]?.getD undef = .int .i64 (i:Int):=(eval_get a 12).trans ((hA.eval (by simp)).trans rfl)
        go_simp
      · refine⟨rfl,fun j hj v W W1 h hs=>h,fun a W hA hb hp hd=>Takes.to6 (takes_on (i:=7) (d:=46) (b:=false) rfl rfl rfl (hd 7 (by simp) _ rfl) (yields_value _ ?_ rfl)) fun W1 h1=>.inl h1⟩
        have h59:a.tmps[59]?.getD undef = .slice (some y) n c:=(eval_get a 59).trans (hd 20 (by simp) _ rfl)
        have h60:a.tmps[60]?.getD undef = .int .i64 (i:Int):=(eval_get a 60).trans (hd 21 (by simp) _ rfl)
        go_simp
      · refine⟨rfl,fun j hj v W W1 h hs=>h,fun a W hA hb hp hd=>Takes.to6 (takes_on (i:=7) (d:=46) (b:=false) rfl rfl rfl (hd 7 (by simp) _ rfl) (yields_value _ ?_ rfl)) fun W1 h1=>.inl h1⟩
        have h61:a.tmps[61]?.getD undef = .pointer (some (y.add (i*3))):=(eval_get a 61).trans (hd 22 (by simp) _ rfl)
        go_simp
      · refine⟨rfl,fun j hj v W W1 h hs=>h,fun a W hA hb hp hd=>Takes.to6 (takes_on (i:=7) (d:=46) (b:=false) rfl rfl rfl (hd 7 (by simp) _ rfl) (yields_value _ ?_ rfl)) fun W1 h1=>.inl h1⟩
        have h62:a.tmps[62]?.getD undef = .pointer (some ((y.add (i*3)).add 2)):=(eval_get a 62).trans (hd 23 (by simp) _ rfl)
        have hc:W.cell? (⟨(y.add (i*3)).block,(y.add (i*3)).off+2,none⟩)=some (.slice q.a q.n q.c):=keep_cell2 C2.out XL.out hb.1
        go_simp
      · refine⟨rfl,fun j hj v W W1 h hs=>⟨h.1,stepL_rg hj hs h.2⟩,fun a W hA hb hp hd=>takes6_on (i:=7) (d:=46) (b:=false) rfl rfl rfl (hd 7 (by simp) _ rfl) ?_⟩
        have h48:a.tmps[48]?.getD undef = .pointer (some ⟨rg,0,none⟩):=(eval_get a 48).trans (hd 9 (by simp) _ rfl)
        have h53:a.tmps[53]?.getD undef = .int .u32 (q.t:Int):=(eval_get a 53).trans (hd 14 (by simp) _ rfl)
        have h58:a.tmps[58]?.getD undef = .int .u16 (q.g:Int):=(eval_get a 58).trans (hd 19 (by simp) _ rfl)
        have h63:a.tmps[63]?.getD undef = .slice q.a q.n q.c:=(eval_get a 63).trans (hd 24 (by simp) _ rfl)
        refine .inr ⟨28,#[.pointer (some ⟨rg,0,none⟩),.int .u32 (q.t:Int),.int .u16 (q.g:Int),.slice q.a q.n q.c],by go_simp,(ringAdd_any w.heap.size rg m q.t q.g q.n q.c q.a q.k L W (hp.1 rfl) QT.out QG.out (IK.out.below hb.1)).mono ?_⟩
        rintro e W1 ⟨rfl,h1,h2⟩
        exact⟨_,rfl,⟨rfl,h1⟩,.inr (.inl ⟨rfl,⟨_,hp.1 rfl⟩,h2⟩)⟩
      · refine⟨rfl,fun j hj v W W1 h hs=>h,fun a W hA hb hp hd=>Takes.to6 (takes_on (i:=7) (d:=46) (b:=false) rfl rfl rfl (hd 7 (by simp) _ rfl) (yields_value _ ?_ rfl)) fun W1 h1=>.inl h1⟩
        have h1:a.tmps[1]?.getD undef = .slice (some y) n c:=(eval_get a 1).trans ((hA.eval (by simp)).trans rfl)
        go_simp
      · refine⟨rfl,fun j hj v W W1 h hs=>h,fun a W hA hb hp hd=>Takes.to6 (takes_on (i:=7) (d:=46) (b:=false) rfl rfl rfl (hd 7 (by simp) _ rfl) (yields_value _ ?_ rfl)) fun W1 h1=>.inl h1⟩
        have h12:a.tmps[12]?.getD undef = .int .i64 (i:Int):=(eval_get a 12).trans ((hA.eval (by simp)).trans rfl)
        go_simp
      · refine⟨rfl,fun j hj v W W1 h hs=>h,fun a W hA hb hp hd=>Takes.to6 (takes_on (i:=7) (d:=46) (b:=false) rfl rfl rfl (hd 7 (by simp) _ rfl) (yields_value _ ?_ rfl)) fun W1 h1=>.inl h1⟩
        have h65:a.tmps[65]?.getD undef = .slice (some y) n c:=(eval_get a 65).trans (hd 26 (by simp) _ rfl)
        have h66:a.tmps[66]?.getD undef = .int .i64 (i:Int):=(eval_get a 66).trans (hd 27 (by simp) _ rfl)
        go_simp
      · refine⟨rfl,fun j hj v W W1 h hs=>h,fun a W hA hb hp hd=>Takes.to6 (takes_on (i:=7) (d:=46) (b:=false) rfl rfl rfl (hd 7 (by simp) _ rfl) (yields_value _ ?_ rfl)) fun W1 h1=>.inl h1⟩
        have h67:a.tmps[67]?.getD undef = .pointer (some (y.add (i*3))):=(eval_get a 67).trans (hd 28 (by simp) _ rfl)
        go_simp
      · refine⟨rfl,fun j hj v W W1 h hs=>h,fun a W hA hb hp hd=>Takes.to6 (takes_on (i:=7) (d:=46) (b:=false) rfl rfl rfl (hd 7 (by simp) _ rfl) (yields_value _ ?_ rfl)) fun W1 h1=>.inl h1⟩
        have h68:a.tmps[68]?.getD undef = .pointer (some (y.add (i*3))):=(eval_get a 68).trans (hd 29 (by simp) _ rfl)
        have hc:W.cell? (y.add (i*3))=some (.int .u32 (q.t:Int)):=keep_cell C0.out XL.out hb.1
        go_simp
      · refine⟨rfl,fun j hj v W W1 h hs=>h,fun a W hA hb hp hd=>Takes.to6 (takes_on (i:=7) (d:=46) (b:=false) rfl rfl rfl (hd 7 (by simp) _ rfl) (yields_value _ ?_ rfl)) fun W1 h1=>.inl h1⟩
        have h1:a.tmps[1]?.getD undef = .slice (some y) n c:=(eval_get a 1).trans ((hA.eval (by simp)).trans rfl)
        go_simp
      · refine⟨rfl,fun j hj v W W1 h hs=>h,fun a W hA hb hp hd=>Takes.to6 (takes_on (i:=7) (d:=46) (b:=false) rfl rfl rfl (hd 7 (by simp) _ rfl) (yields_value _ ?_ rfl)) fun W1 h1=>.inl h1⟩
        have h12:a.tmps[12]?.getD undef = .int .i64 (i:Int):=(eval_get a 12).trans ((hA.eval (by simp)).trans rfl)
        go_simp
      · refine⟨rfl,fun j hj v W W1 h hs=>h,fun a W hA hb hp hd=>Takes.to6 (takes_on (i:=7) (d:=46) (b:=false) rfl rfl rfl (hd 7 (by simp) _ rfl) (yields_value _ ?_ rfl)) fun W1 h1=>.inl h1⟩
        have h70:a.tmps[70]?.getD undef = .slice (some y) n c:=(eval_get a 70).trans (hd 31 (by simp) _ rfl)
        have h71:a.tmps[71]?.getD undef = .int .i64 (i:Int):=(eval_get a 71).trans (hd 32 (by simp) _ rfl)
        go_simp
      · refine⟨rfl,fun j hj v W W1 h hs=>h,fun a W hA hb hp hd=>Takes.to6 (takes_on (i:=7) (d:=46) (b:=false) rfl rfl rfl (hd 7 (by simp) _ rfl) (yields_value _ ?_ rfl)) fun W1 h1=>.inl h1⟩
        have h72:a.tmps[72]?.getD undef = .pointer (some (y.add (i*3))):=(eval_get a 72).trans (hd 33 (by simp) _ rfl)
        go_simp
      · refine⟨rfl,fun j hj v W W1 h hs=>h,fun a W hA hb hp hd=>Takes.to6 (takes_on (i:=7) (d:=46) (b:=false) rfl rfl rfl (hd 7 (by simp) _ rfl) (yields_value _ ?_ rfl)) fun W1 h1=>.inl h1⟩
        have h73:a.tmps[73]?.getD undef = .pointer (some ((y.add (i*3)).add 1)):=(eval_get a 73).trans (hd 34 (by simp) _ rfl)
        have hc:W.cell? (⟨(y.add (i*3)).block,(y.add (i*3)).off+1,none⟩)=some (.int .u16 (q.g:Int)):=keep_cell2 C1.out XL.out hb.1
        go_simp
      · refine⟨rfl,fun j hj v W W1 h hs=>h,fun a W hA hb hp hd=>Takes.to6 (takes_on (i:=7) (d:=46) (b:=false) rfl rfl rfl (hd 7 (by simp) _ rfl) (yields_value _ ?_ rfl)) fun W1 h1=>.inl h1⟩
        have h1:a.tmps[1]?.getD undef = .slice (some y) n c:=(eval_get a 1).trans ((hA.eval (by simp)).trans rfl)
        go_simp
      · refine⟨rfl,fun j hj v W W1 h hs=>h,fun a W hA hb hp hd=>Takes.to6 (takes_on (i:=7) (d:=46) (b:=false) rfl rfl rfl (hd 7 (by simp) _ rfl) (yields_value _ ?_ rfl)) fun W1 h1=>.inl h1⟩
        have h12:a.tmps[12]?.getD undef = .int .i64 (i:Int):=(eval_get a 12).trans ((hA.eval (by simp)).trans rfl)
        go_simp
      · refine⟨rfl,fun j hj v W W1 h hs=>h,fun a W hA hb hp hd=>Takes.to6 (takes_on (i:=7) (d:=46) (b:=false) rfl rfl rfl (hd 7 (by simp) _ rfl) (yields_value _ ?_ rfl)) fun W1 h1=>.inl h1⟩
        have h75:a.tmps[75]?.getD undef = .slice (some y) n c:=(eval_get a 75).trans (hd 36 (by simp) _ rfl)
        have h76:a.tmps[76]?.getD undef = .int .i64 (i:Int):=(eval_get a 76).trans (hd 37 (by simp) _ rfl)
        go_simp
      · refine⟨rfl,fun j hj v W W1 h hs=>h,fun a W hA hb hp hd=>Takes.to6 (takes_on (i:=7) (d:=46) (b:=false) rfl rfl rfl (hd 7 (by simp) _ rfl) (yields_value _ ?_ rfl)) fun W1 h1=>.inl h1⟩
        have h77:a.tmps[77]?.getD undef = .pointer (some (y.add (i*3))):=(eval_get a 77).trans (hd 38 (by simp) _ rfl)
        go_simp
      · refine⟨rfl,fun j hj v W W1 h hs=>h,fun a W hA hb hp hd=>Takes.to6 (takes_on (i:=7) (d:=46) (b:=false) rfl rfl rfl (hd 7 (by simp) _ rfl) (yields_value _ ?_ rfl)) fun W1 h1=>.inl h1⟩
        have h78:a.tmps[78]?.getD undef = .pointer (some ((y.add (i*3)).add 2)):=(eval_get a 78).trans (hd 39 (by simp) _ rfl)
        have hc:W.cell? (⟨(y.add (i*3)).block,(y.add (i*3)).off+2,none⟩)=some (.slice q.a q.n q.c):=keep_cell2 C2.out XL.out hb.1
        go_simp
      · refine⟨rfl,fun j hj v W W1 h hs=>⟨h.1,stepL_rk hj hs h.2⟩,fun a W hA hb hp hd=>takes6_on (i:=7) (d:=46) (b:=false) rfl rfl rfl (hd 7 (by simp) _ rfl) ?_⟩
        have h11:a.tmps[11]?.getD undef = .pointer (some ⟨gr,0,none⟩):=(eval_get a 11).trans ((hA.eval (by simp)).trans rfl)
        have h69:a.tmps[69]?.getD undef = .int .u32 (q.t:Int):=(eval_get a 69).trans (hd 30 (by simp) _ rfl)
        have h74:a.tmps[74]?.getD undef = .int .u16 (q.g:Int):=(eval_get a 74).trans (hd 35 (by simp) _ rfl)
        have h79:a.tmps[79]?.getD undef = .slice q.a q.n q.c:=(eval_get a 79).trans (hd 40 (by simp) _ rfl)
        obtain⟨rv,rvs,hrk⟩:=hp.2 rfl
        refine .inr ⟨29,#[.pointer (some ⟨gr,0,none⟩),.int .u32 (q.t:Int),.int .u16 (q.g:Int),.slice q.a q.n q.c],by go_simp,(rkAdd_far w.heap.size gr q.t q.g rv rvs L q.a q.n q.c q.k w W hrk (Nat.le_refl _) QT.out QG.out HLL.out IK.out (IK.out.below hb.1)).mono ?_⟩
        rintro e W1 ⟨v1,vs1,rfl,h1,h2⟩
        exact⟨_,rfl,⟨rfl,v1,vs1,h1⟩,.inr (.inr ⟨rfl,rv,rvs,L,hrk,h2⟩)⟩
      · refine⟨rfl,fun j hj v W W1 h hs=>h,fun a W hA hb hp hd=>Takes.to6 (takes_on (i:=7) (d:=46) (b:=false) rfl rfl rfl (hd 7 (by simp) _ rfl) (yields_value _ ?_ rfl)) fun W1 h1=>.inl h1⟩
        have h64:a.tmps[64]?.getD undef = .int .i64 ((addP (q.t,q.g) q.k L).1:Int):=(eval_get a 64).trans (hd 25 (by simp) _ rfl).1
        have h80:a.tmps[80]?.getD undef = .int .i64 ((addP (q.t,q.g) q.k L).1:Int):=(eval_get a 80).trans (hd 41 (by simp) _ rfl).1
        go_simp
      intro vs w3 hR hb
      have e39:vs 39 = .slice (some y) n c:=hR 0 _ rfl
      have e40:vs 40 = .int .i64 (i:Int):=hR 1 _ rfl
      have e41:vs 41 = .pointer (some (y.add (i*3))):=hR 2 _ rfl
      have e42:vs 42 = .pointer (some ((y.add (i*3)).add 2)):=hR 3 _ rfl
      have e43:vs 43 = .slice q.a q.n q.c:=hR 4 _ rfl
      have e44:vs 44 = .int .i64 (q.n:Int):=hR 5 _ rfl
      have e45:vs 45 = .bool false:=hR 6 _ rfl
      have e46:vs 46 = .bool false:=hR 7 _ rfl
      have e47:vs 47 = .pointer (some ⟨x,1,none⟩):=hR 8 _ rfl
      have e48:vs 48 = .pointer (some ⟨rg,0,none⟩):=hR 9 _ rfl
      have e49:vs 49 = .slice (some y) n c:=hR 10 _ rfl
      have e50:vs 50 = .int .i64 (i:Int):=hR 11 _ rfl
      have e51:vs 51 = .pointer (some (y.add (i*3))):=hR 12 _ rfl
      have e52:vs 52 = .pointer (some (y.add (i*3))):=hR 13 _ rfl
      have e53:vs 53 = .int .u32 (q.t:Int):=hR 14 _ rfl
      have e54:vs 54 = .slice (some y) n c:=hR 15 _ rfl
      have e55:vs 55 = .int .i64 (i:Int):=hR 16 _ rfl
      have e56:vs 56 = .pointer (some (y.add (i*3))):=hR 17 _ rfl
      have e57:vs 57 = .pointer (some ((y.add (i*3)).add 1)):=hR 18 _ rfl
      have e58:vs 58 = .int .u16 (q.g:Int):=hR 19 _ rfl
      have e59:vs 59 = .slice (some y) n c:=hR 20 _ rfl
      have e60:vs 60 = .int .i64 (i:Int):=hR 21 _ rfl
      have e61:vs 61 = .pointer (some (y.add (i*3))):=hR 22 _ rfl
      have e62:vs 62 = .pointer (some ((y.add (i*3)).add 2)):=hR 23 _ rfl
      have e63:vs 63 = .slice q.a q.n q.c:=hR 24 _ rfl
      have e64:vs 64 = .int .i64 ((addP (q.t,q.g) q.k L).1:Int):=(hR 25 _ rfl).1
      have e65:vs 65 = .slice (some y) n c:=hR 26 _ rfl
      have e66:vs 66 = .int .i64 (i:Int):=hR 27 _ rfl
      have e67:vs 67 = .pointer (some (y.add (i*3))):=hR 28 _ rfl
      have e68:vs 68 = .pointer (some (y.add (i*3))):=hR 29 _ rfl
      have e69:vs 69 = .int .u32 (q.t:Int):=hR 30 _ rfl
      have e70:vs 70 = .slice (some y) n c:=hR 31 _ rfl
      have e71:vs 71 = .int .i64 (i:Int):=hR 32 _ rfl
      have e72:vs 72 = .pointer (some (y.add (i*3))):=hR 33 _ rfl
      have e73:vs 73 = .pointer (some ((y.add (i*3)).add 1)):=hR 34 _ rfl
      have e74:vs 74 = .int .u16 (q.g:Int):=hR 35 _ rfl
      have e75:vs 75 = .slice (some y) n c:=hR 36 _ rfl
      have e76:vs 76 = .int .i64 (i:Int):=hR 37 _ rfl
      have e77:vs 77 = .pointer (some (y.add (i*3))):=hR 38 _ rfl
      have e78:vs 78 = .pointer (some ((y.add (i*3)).add 2)):=hR 39 _ rfl
      have e79:vs 79 = .slice q.a q.n q.c:=hR 40 _ rfl
      have e80:vs 80 = .int .i64 ((addP (q.t,q.g) q.k L).1:Int):=(hR 41 _ rfl).1
      have e81:vs 81 = .bool false:=hR 42 _ rfl
      simp only[List.map_cons,List.map_nil,List.foldl_cons,List.foldl_nil,List.length_cons,List.length_nil,List.drop_succ_cons,List.drop_zero,Act.put,List.setIfInBounds_toArray,List.set_cons_zero,List.set_cons_succ,e39,e40,e41,e42,e43,e44,e45,e46,e47,e48,e49,e50,e51,e52,e53,e54,e55,e56,e57,e58,e59,e60,e61,e62,e63,e64,e65,e66,e67,e68,e69,e70,e71,e72,e73,e74,e75,e76,e77,e78,e79,e80,e81]
      have B3:=Lib.hid hb.1
      have S3:=Lib.hid hb.2
      have T3:Hid (Two w.heap.size rg m gr (foldK [] (ks.take (i+1))) w3):=Lib.hid (by
       rw[←HS.out]
       exact⟨(hR 25 _ rfl).2,(hR 41 _ rfl).2⟩)
      clear hR hb
      go_wp2_with fail
      go_roundw
      case rel=>exact⟨i+1,HL.out,by go_num,B3.out,T3.out,S3.out,Q65.out⟩
      case measure=>simp[intOf];have:=HL.out;omega
  · obtain rfl:i=n:=by omega
    have hks:ks.take i=ks:=List.take_of_length_le (by rw[K0.out.len];exact Nat.le_refl _)
    rw[hks] at hT hq64
    have HT:=Lib.hid hT
    have HB:=Lib.hid hb
    have ST:=Lib.hid hS
    have Q64:=Lib.hid hq64
    clear hT hb hS hq64 hks hlt hi
    go_wp2_with fail
    refine (rd8_any nb (by have:=NB.out.2;omega) _).mono ?_
    rintro e w7 ⟨g8,v1,v2,b1,b2,rfl,hrd,hl1,hl2,hb7⟩
    have RD7:=Lib.hid (And.intro hrd hl1)
    have XB:Hid (x<wr.heap.size):=Lib.hid ST.out.box.lt
    have S7:=Lib.hid (ST.out.ab hb7)
    have R7:=Lib.hid (HT.out.1.ab hb7)
    have B7:=Lib.hid (below_tr HB.out hb7 HB.out.size)
    have RN7:=Lib.hid (F0.out.ab B7.out)
    have MY:=Lib.hid (rmay19_any hrd hl1 (by have:=NB.out.2;omega) RN7.out HU.out)
    rw[may_fr RI.out.1,RI.out.1,RI.out.2,Bool.and_self] at MY
    clear hrd hl1 hl2 hb7 ST HT HB
    go_wp2_with fail
    refine MY.out.mono ?_
    rintro e w6 ⟨rfl,hb6⟩
    have RD6:=Lib.hid (And.intro (RD7.out.1.ab hb6) RD7.out.2)
    have S6:=Lib.hid (S7.out.ab hb6)
    have R6:=Lib.hid (R7.out.ab hb6)
    have B6:=Lib.hid (below_tr B7.out hb6 B7.out.size)
    have RN6:=Lib.hid (F0.out.ab B6.out)
    clear hb6 MY RD7 S7 R7 B7 RN7
    obtain⟨dv,ri,lo⟩:=stageX (τ:=(0,8)) S6.out.dv R6.out GE2.out (LgB.empty (B:=w.heap.size) S6.out.lo B6.out.size) GE3.out S6.out.box (by decide)
    obtain⟨O7,hO7⟩:∃O7,stX w6 w.heap.size m x (0,8)=O7:=⟨_,rfl⟩
    have OL:Hid (∀k,k<w.heap.size→O7 k=(0,9)):=Lib.hid fun k hk=>by rw[←hO7];exact stX_low XL0.out hk
    have TX:Hid (O7 x=(0,8)):=Lib.hid (by rw[←hO7];exact stX_x)
    rw[hO7] at dv ri lo
    have DV:=Lib.hid dv
    have RV:=Lib.hid ri
    have LV:=Lib.hid lo
    have K7:=Lib.hid S6.out.box
    have c1:w6.cell? ⟨x,1,none⟩=some (.pointer (some ⟨rg,0,none⟩)):=K7.out.cell (k:=1) rfl
    have c2:w6.cell? ⟨x,2,none⟩=some (.pointer (some ⟨lg,0,none⟩)):=K7.out.cell (k:=2) rfl
    clear dv ri lo hO7 S6 R6
    go_wp2_with fail
    refine (new_ok (rg:=rg) (lg:=lg) DV.out RN6.out (by show nb≤4096;have:=NB.out.2;omega) RI.out.1 RI.out.2).mono ?_
    rintro e w8 ⟨p,O8,rfl,hp8,s8,hge8⟩
    have PP:Hid (0<p):=Lib.hid (by obtain⟨b,h,_⟩:=hp8;exact h.pos)
    have K8:=Lib.hid (CbB.fr K7.out s8.fr id)
    have T8:Hid (O8 x=(0,8)):=Lib.hid ((s8.tg x K7.out.lt).trans TX.out)
    have P8:=Lib.hid hp8
    have V8:=Lib.hid (DV.out.wr s8 id)
    have W8:=Lib.hid (RV.out.wr s8 id id)
    have L8:=Lib.hid (LV.out.wr s8 id)
    have S8:=Lib.hid s8
    clear hp8 s8 hge8 c1 c2 DV RV LV
    have c3:w8.cell? ⟨x,3,none⟩=some (.pointer none):=K8.out.cell (k:=3) rfl
    have f3:=K8.out.free 3
    have K9:=Lib.hid (K8.out.set 3 (.pointer (some ⟨p,0,none⟩)))
    have s9:Wr (fun τ=>τ=(0,8)) w8 O8 (w8.setCell ⟨x,3,none⟩ (.pointer (some ⟨p,0,none⟩))) O8:=⟨(fr_setD w8 x 3 _).imp fun q hq=>by rw[hq];exact T8.out,fun _ _=>rfl⟩
    have P9:=Lib.hid (P8.out.wr s9 (fun i e=>by have:=PP.out;injection e with e;omega) (fun e=>by cases e))
    have V9:=Lib.hid (V8.out.wr s9 (fun e=>by cases e))
    have W9:=Lib.hid (W8.out.wr s9 (fun e=>by cases e) (fun e=>by cases e))
    have L9:=Lib.hid (L8.out.wr s9 (fun e=>by cases e))
    have S9:=Lib.hid ((S8.out.imp (Q:=fun τ=>τ=(0,8)) fun _=>False.elim).tr s9)
    have F9:Hid (Fr w6 (w8.setCell ⟨x,3,none⟩ (.pointer (some ⟨p,0,none⟩))) (fun k=>k=x)):=Lib.hid ((S8.out.fr.imp fun k=>False.elim).trW (fr_setD w8 x 3 _))
    clear s9
    go_wp2_with fail
    obtain⟨w9,hw9⟩:∃w9,w8.setCell ⟨x,3,none⟩ (.pointer (some ⟨p,0,none⟩))=w9:=⟨_,rfl⟩
    rw[hw9] at K9 P9 V9 W9 L9 S9 F9⊢
    clear hw9 c3 f3 K8 P8 V8 W8 L8 S8
    have XL9:Hid (w.heap.size≤x):=XL0
    refine (rnew19_any (RD6.out.1.fr F9.out (fun k hk=>by rw[hk];exact XB.out)) RD6.out.2 (by have:=NB.out.2;omega) (F0.out.ab (Fr.below F9.out (fun k hk=>by rw[hk];exact XL9.out) B6.out B6.out.size))).mono ?_
    rintro e wc ⟨gw,vw,rfl,hgew,hcw,hrw,hbc⟩
    have sc:Wr (fun _=>False) w9 O8 wc O8:=Wr.of hbc _ (fun _ _=>rfl)
    have Kc:=Lib.hid (K9.out.ab hbc)
    have Pc:=Lib.hid (P9.out.wr sc (fun _=>id) id)
    have Vc:=Lib.hid (V9.out.wr sc id)
    have Wc:=Lib.hid (W9.out.wr sc id id)
    have Lc:=Lib.hid (L9.out.wr sc id)
    have Sc:=Lib.hid (S9.out.tr (sc.imp fun _=>False.elim))
    clear hgew hcw hrw hbc sc K9 P9 V9 W9 L9 S9 F9
    have c4:wc.cell? ⟨x,4,none⟩=some (.pointer none):=Kc.out.cell (k:=4) rfl
    have f4:=Kc.out.free 4
    have sd:Wr (fun τ=>τ=(0,8)) wc O8 (wc.setCell ⟨x,4,none⟩ (.pointer (some ⟨gw,0,none⟩))) O8:=⟨(fr_setD wc x 4 _).imp fun q hq=>by rw[hq];exact T8.out,fun _ _=>rfl⟩
    have Kd:=Lib.hid (Kc.out.set 4 (.pointer (some ⟨gw,0,none⟩)))
    have Pd:=Lib.hid (Pc.out.wr sd (fun i e=>by have:=PP.out;injection e with e;omega) (fun e=>by cases e))
    have Vd:=Lib.hid (Vc.out.wr sd (fun e=>by cases e))
    have Wd:=Lib.hid (Wc.out.wr sd (fun e=>by cases e) (fun e=>by cases e))
    have Ld:=Lib.hid (Lc.out.wr sd (fun e=>by cases e))
    have Sd:=Lib.hid (Sc.out.tr sd)
    clear sd
    go_upto_region 17 with (fail)
    obtain⟨wf,hwf⟩:∃wf,wc.setCell ⟨x,4,none⟩ (.pointer (some ⟨gw,0,none⟩))=wf:=⟨_,rfl⟩
    rw[hwf] at Kd Pd Vd Wd Ld Sd⊢
    clear hwf c4 f4 Kc Pc Vc Wc Lc Sc
    have d3:wf.cell? ⟨x,3,none⟩=some (.pointer (some ⟨p,0,none⟩)):=Kd.out.cell (k:=3) rfl
    go_quiet (fail)
    go_wp2_with fail
    go_ret2
    have bq:Below wf.heap.size wf (wf.drewN nq):=bel_drewN9 (Below.refl _ _) nq
    have sq:Wr (fun _=>False) wf O8 (wf.drewN nq) O8:=Wr.of bq _ (fun _ _=>rfl)
    have SS:=Sd.out.tr (sq.imp fun _=>False.elim)
    have BX:Below w.heap.size w (wf.drewN nq):=SS.below B6.out B6.out.size (fun k hk h=>by rw[OL.out k hk] at h;cases h)
    exact .inr ⟨Q64.out,x,p,d,rg,lg,gw,O8,rfl,Kd.out.ab bq,Pd.out.wr sq (fun _=>id) id,Vd.out.wr sq id,Wd.out.wr sq id id,Ld.out.wr sq id,T8.out,fun k hk=>(SS.tg k (Nat.lt_of_lt_of_le hk B6.out.size)).trans (OL.out k hk),BX⟩
set_option maxRecDepth 100000 in
theorem put_closed {w:World} {O:Tgm} {p d rg lg t k lv n c:Nat} {X:Option Addr} {T:PgP} (h:PgM w O p d rg lg T) (hf:T.fa=false) (ho:T.cm=0∨T.fl=true):
 Calls Tryz.prog 8 #[.pointer (some ⟨p,0,none⟩),.int .u32 (t:Int),.int .u8 (k:Int),.int .u8 (lv:Int),.slice X n c] w fun e w'=>e = .returned (.tuple #[.agg #[.int .u32 0,.int .u64 0,.int .u16 0],.int .i64 2])∧Below w.heap.size w w':=by
 obtain⟨b,hN,rfl,rfl,rfl⟩:=h
 have N0:=Lib.hid fun W (hW:Below w.heap.size w W)=>hN.wr (Wr.cut (O:=O) hW (fun _=>False)) (fun _=>id) id
 have HM:=Lib.hid fun W hW=>may_any (N0.out W hW).box
 rw[show mayP (pcS b T)=0 from by unfold mayP pcS;rw[hf];rfl] at HM
 have HO:=Lib.hid fun W hW=>open_any (N0.out W hW).box
 rw[show openB (pcS b T)=false from by unfold openB pcS;rcases ho with e | e <;> simp[e]] at HO
 have B0:Hid (Below w.heap.size w (w.alloc (.cells #[.int .u32 0,.int .u64 0,.int .u16 0] 37))):=Lib.hid ((Below.refl _ _).alloc (Nat.le_refl _) _)
 have K0:Hid (CbB (w.alloc (.cells #[.int .u32 0,.int .u64 0,.int .u16 0] 37)) w.heap.size 37 #[.int .u32 0,.int .u64 0,.int .u16 0]):=Lib.hid (CbB.new _ _ _)
 clear hN hf ho
 go_enter Tryz.func8,Tryz.ntmps8
 go_wp2_with fail
 refine (HM.out _ B0.out).mono ?_
 rintro e w1 ⟨rfl,rfl⟩
 go_wp2_with fail
 refine (HO.out _ B0.out).mono ?_
 rintro e w1 ⟨rfl,rfl⟩
 go_wp2_with fail
 (try simp only[Exit.inBlock,Exit.then])
 refine bodyPost_ret (v:=.tuple #[.agg #[.int .u32 0,.int .u64 0,.int .u16 0],.int .i64 2]) ?_ rfl ?_
 · rw[results_cell_tmp rfl]
   go_simp
 exact⟨rfl,by first | exact B0.out | exact Below.refl _ _ | exact (Below.refl _ _).alloc (Nat.le_refl _) _⟩
structure PlM (w:World) (O:Tgm) (x p d rg lg:Nat) (cs:Array Value) (T:PgP) (D:DvS) (R:RgL) (al:List Sl):Prop where
 box:CbB w x 48 cs
 tx:O x=(0,8)
 pg:PgM w O p d rg lg T
 dv:DvM w O d D
 ri:RgM w O rg R
 lo:LgM w O lg al
theorem PlM.pos {w:World} {O:Tgm} {x p d rg lg:Nat} {cs:Array Value} {T:PgP} {D:DvS} {R:RgL} {al:List Sl} (h:PlM w O x p d rg lg cs T D R al):0<p:=by obtain⟨b,h1,_⟩:=h.pg;exact h1.pos
theorem PlM.ab {w w':World} {O:Tgm} {x p d rg lg:Nat} {cs:Array Value} {T:PgP} {D:DvS} {R:RgL} {al:List Sl} (h:PlM w O x p d rg lg cs T D R al) (hb:Below w.heap.size w w'):PlM w' (cutO O w.heap.size) x p d rg lg cs T D R al:=
 have s:=Wr.cut (O:=O) hb (fun _=>False)
 ⟨h.box.ab hb,(cutO_old h.box.lt).trans h.tx,h.pg.wr s (fun _=>id) id,h.dv.wr s id,h.ri.wr s id id,h.lo.wr s id⟩
theorem PlM.pgs {w w':World} {O O':Tgm} {x p d rg lg:Nat} {cs:Array Value} {T T':PgP} {D:DvS} {R:RgL} {al:List Sl} {P:Nat×Nat→Prop} (h:PlM w O x p d rg lg cs T D R al) (s:Wr P w O w' O') (hP:∀τ,P τ→τ.1=p) (hp:PgM w' O' p d rg lg T'):PlM w' O' x p d rg lg cs T' D R al:=
 have h0:=h.pos
 have hn:∀i,¬P (0,i):=fun i e=>by have e':(0:Nat)=p:=hP _ e;omega
 ⟨CbB.fr h.box s.fr (fun e=>hn 8 (by rw[←h.tx];exact e)),(s.tg _ h.box.lt).trans h.tx,hp,h.dv.wr s (hn 1),h.ri.wr s (hn 3) (hn 0),h.lo.wr s (hn 2)⟩
def refVs:List (Nat×Nat×Nat)→List Value
 | []=>[]
 | r::l=>.int .u32 (r.1:Int) :: .int .u64 (r.2.1:Int) :: .int .u16 (r.2.2:Int)::refVs l
theorem refVs_app:∀a b,refVs (a++b)=refVs a++refVs b
 | [],b=>rfl
 | r::a,b=>by simp only[List.cons_append,refVs,refVs_app a b]
theorem refVs_at:∀(l:List (Nat×Nat×Nat)) (i:Nat) (r:Nat×Nat×Nat),l[i]? = some r→(refVs l)[i*3]? = some (.int .u32 (r.1:Int))∧(refVs l)[i*3+1]? = some (.int .u64 (r.2.1:Int))∧(refVs l)[i*3+2]? = some (.int .u16 (r.2.2:Int))
 | [],i,r,h=>by cases h
 | q::l,0,r,h=>by
   simp only[List.getElem?_cons_zero,Option.some.injEq] at h
   subst h
   exact⟨rfl,rfl,rfl⟩
 | q::l,i+1,r,h=>by
   have ih:=refVs_at l i r (by simpa using h)
   have e0:(i+1)*3=i*3+3:=by omega
   rw[e0]
   exact ih
def refsS (i:Nat):List (Nat×Nat×Nat):=(List.range i).map fun j=>(2+j,7,3)
theorem refsS_succ (i:Nat):refsS (i+1)=refsS i++[(2+i,7,3)]:=by unfold refsS;rw[List.range_succ,List.map_append];rfl
theorem refsS_at {i j:Nat} (h:j<i):(refsS i)[j]? = some (2+j,7,3):=by unfold refsS;rw[List.getElem?_map,List.getElem?_range h];rfl
def RefsB (w:World) (B:Nat) (v:Value) (i:Nat):Prop:=w.ownsRow B 37 3 v i (refVs (refsS i))
def tagO (O:Tgm) (G:Nat) (τ:Nat×Nat):Tgm:=fun k=>if k=G then τ else O k
theorem tagO_ne {O:Tgm} {G k:Nat} {τ:Nat×Nat} (h:k≠G):tagO O G τ k=O k:=if_neg h
theorem tagO_at {O:Tgm} {G:Nat} {τ:Nat×Nat}:tagO O G τ G=τ:=if_pos rfl
section
variable {w:World} {O:Tgm} {p G a b c:Nat} {τ:Nat×Nat}
theorem cb_other {k:Nat} {T T':TypeId} {cs cs':Array Value} (hG:CbB w G T cs) (h:CbB w k T' cs') (hT:T'≠T):k≠G:=fun e=>by
 subst e
 unfold CbB at h hG
 rw[h] at hG
 injection hG with hG
 injection hG with _ hG
 exact hT hG
theorem map_other {k:Nat} {T:TypeId} {cs:Array Value} {l:List (Nat×Value)} (hG:CbB w G T cs) (h:MapB u32Vp u32Okp w k l):k≠G:=fun e=>by
 subst e
 obtain⟨es,c,h1,_⟩:=h
 unfold CbB at hG
 rw[h1] at hG
 cases hG
theorem isB_other {A:Option Addr} {n m:Nat} {l:List Nat} {x:Addr} (hG:CbB w G 37 #[.int .u32 (a:Int),.int .u64 (b:Int),.int .u16 (c:Int)]) (h:IsB w A n m l) (hn:0<n) (hx:A=some x):x.block≠G:=fun e=>by
 obtain⟨y,hy,_,hc⟩:=h.cell hn
 rw[hx] at hy
 injection hy with hy
 subst hy
 have h0:=hc 0 hn
 rw[addr_zero] at h0
 unfold CbB at hG
 unfold World.cell? at h0
 rw[e,hG] at h0
 simp only at h0
 split at h0
 · cases h0
 · match hx:x.off,h0 with
   | 0,h0=>simp at h0
   | 1,h0=>simp at h0
   | 2,h0=>simp at h0
   | k+3,h0=>simp at h0
theorem StB.retag {v:Value} {l:List Nat} (hG:CbB w G 37 #[.int .u32 (a:Int),.int .u64 (b:Int),.int .u16 (c:Int)]) (h:StB w O v l):StB w (tagO O G τ) v l:=by
 obtain⟨A,n,m,h1,h2,h3⟩:=h
 refine⟨A,n,m,h1,h2,fun hn x hx=>?_⟩
 obtain⟨k1,k2⟩:=h3 hn x hx
 exact⟨k1,(tagO_ne (isB_other hG h2 hn hx)).trans k2⟩
theorem MpT.retag {v:Value} {t:Nat×Nat} {l:List (Nat×Value)} {T:TypeId} {cs:Array Value} (hG:CbB w G T cs) (h:MpT w O v t l):MpT w (tagO O G τ) v t l:=by
 rcases h with h | ⟨a,h1,h2,h3⟩
 · exact .inl h
 · exact .inr ⟨a,h1,h2,(tagO_ne (map_other hG h2)).trans h3⟩
theorem PgM.retag {d rg lg:Nat} {T:PgP} (hG:CbB w G 37 #[.int .u32 (a:Int),.int .u64 (b:Int),.int .u16 (c:Int)]) (h:PgM w O p d rg lg T):PgM w (tagO O G τ) p d rg lg T:=by
 obtain⟨bk,h,e1,e2,e3⟩:=h
 obtain⟨vs,k1,k2⟩:=h.kn
 refine⟨bk,?_,e1,e2,e3⟩
 exact {
  box:=h.box
  pos:=h.pos
  tb:=(tagO_ne (cb_other hG h.box (by decide))).trans h.tb
  free:=h.free
  tf:=fun k hk=>(tagO_ne (fun e=>row_ne h.free hG (by decide) (by rw[hk,e]))).trans (h.tf k hk)
  kn:=⟨vs,k1,k2.imp fun v l t ⟨x,h1,h2,h3⟩=>⟨x,h1,h2.retag hG,h3⟩⟩
  tk:=(tagO_ne (map_other hG k1)).trans h.tk
  wa:=h.wa
  tw:=(tagO_ne (map_other hG h.wa)).trans h.tw
  pu:=h.pu.retag hG
  dr:=h.dr.retag hG
  pi:=h.pi
  ti:=(tagO_ne (map_other hG h.pi)).trans h.ti
  rgt:=h.rgt
  okr:=h.okr
  num:=h.num
  cmo:=h.cmo
  opn:=h.opn }
end
section
variable {w:World} {B d g1 g2:Nat} {wv:Value} {D:DvS}
set_option maxRecDepth 100000 in
theorem firm_any (i:Nat) (hi:i<D.n) (ok:D.Ok) (h:DsB w B d g1 g2 wv D):
 Calls Tryz.prog 18 #[.pointer (some ⟨d,0,none⟩),.int .i64 (i:Int)] w fun e w'=>∃g,e = .returned (.tuple #[.slice (some ⟨g,0,none⟩) 256 256,.int .i64 0])∧w.heap.size≤g∧IsB w' (some ⟨g,0,none⟩) 256 256 (blkL D.firm i)∧Below w.heap.size w w':=by
 have HH:=Lib.hid (has_yes i hi h)
 have c0:w.cell? ⟨d,1,none⟩=some (.slice (some ⟨g2,0,none⟩) D.n D.n):=h.box.cell (k:=1) rfl
 have i0:(0:Int)≤(i:Int):=by omega
 have i1:(i:Int)<(D.n:Int):=by omega
 have HD:=Lib.hid h
 have OK:=Lib.hid ok
 have BL:=Lib.hid (blkL_lenN ok.firm hi)
 clear h ok
 go_enter Tryz.func18,Tryz.ntmps18
 go_wp2_with fail
 refine HH.out.mono ?_
 rintro e w1 ⟨rfl,rfl⟩
 clear HH
 go_wp2_with (first
  | (with_reducible refine wpList_loadSub (o:=⟨some 19,.load _ _,_,_,_,_⟩) ?_ 121 (.tmp 18) ?_ ⟨g2,i*256,none⟩ ?_ (bts (blkL D.firm i)) (.array 256 5) (HD.out.firm.sub i) Tryz.underlying121 ?_ ?_ ?_
     · rfl
     · rfl
     · rfl
     · rfl
     · rw[bts_size,BL.out];exact szBlkD)
  | (with_reducible refine wpList_allocD (o:=⟨some 6,.alloc _,_,_,_,_⟩) ?_ 121 ?_ 256 zeroBlkD ?_
     · rfl
     · rfl)
  | (with_reducible refine wpList_storeN (o:=⟨none,.store _ (.tmp 6) (.tmp 19),_,_,_,_⟩) ?_ 121 (.tmp 6) (.tmp 19) ?_ w.heap.size ?_ (blkL D.firm i) ?_ (Bk.new w 121 (zeros 256)) ?_ ?_ ?_
     · rfl
     · rfl
     · rfl
     · rfl
     · rw[BL.out];exact szBlkD
     · rw[BL.out];rfl
     intro w2 hw2))
 go_ret2
 exact⟨_,rfl,Nat.le_refl _,isB_whole ((Bk.new _ _ _).row _) (blkL_byt OK.out.bfirm) BL.out (by decide),Below.row ((Below.refl _ _).alloc (Nat.le_refl _) _) (Nat.le_refl _) _⟩
end
set_option maxRecDepth 100000 in
theorem nought_zero (g n c:Nat) (w:World) (hn:n≤100000) (h:IsB w (some ⟨g,0,none⟩) n c (zeros n)):
 Calls Tryz.prog 19 #[.slice (some ⟨g,0,none⟩) n c] w fun e w'=>e = .returned (.bool true)∧Below w.heap.size w w':=by
 have HC:Hid (∀i,i<n→w.cell? ⟨g,i,none⟩=some (.int .u8 0)):=Lib.hid fun i hi=>by
  have:=cell_isB0 h i (.int .u8 0) (by simp[bvals,zeros,hi])
  rw[show (⟨g,0,none⟩:Addr).add i=⟨g,i,none⟩ from by unfold Addr.add;split <;> simp_all] at this
  exact this
 have nb:(n:Int)≤100000:=by omega
 clear h
 go_enter Tryz.func19,Tryz.ntmps19
 go_wp2_with fail
 go_loopw [3,8] (fun s z wr=>∃i:Nat,i≤n∧z = .int .i64 (i:Int)∧s = .int .u8 0∧w=wr) (fun _ z _=>n-(intOf z).toNat)
 case atStart=>exact⟨0,Nat.zero_le _,rfl,rfl,rfl⟩
 case round=>
  obtain⟨i,hi,rfl,rfl,rfl⟩:=hrel
  by_cases hlt:i<n
  · have hlti:(i:Int)<(n:Int):=by omega
    have hc:=HC.out i hlt
    have HLT:=Lib.hid hlt
    clear hi hlt
    go_wp2_with fail
    go_roundw
    case rel=>exact⟨i+1,HLT.out,by go_num,by rfl,trivial⟩
    case measure=>simp[intOf];have:=HLT.out;omega
  · obtain rfl:i=n:=by omega
    clear hlt hi
    go_wp2_with fail
    go_ret
    exact⟨rfl,Below.refl _ _⟩
end Go.Proofs.YtljmiiiidjeggaaGreat
