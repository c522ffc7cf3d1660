/-
  Parts of the proof, joined.
-/
import Derived.Test.YtlobgddnlnffbaaGreatBdt
import Derived.Test.YtlobgddnlnffbaaGreatBdk
import Derived.Test.YtlobgddnlnffbaaGreatBdl
import Derived.Test.YtlobgddnlnffbaaGreatBdq
import Derived.Test.YtlobgddnlnffbaaGreatBdo
import Derived.Test.YtlobgddnlnffbaaGreatBdj
import Derived.Test.YtlobgddnlnffbaaGreatBds
import Derived.Great.Walk
namespace Go.Proofs.YtlobgddnlnffbaaGreat
set_option maxHeartbeats 16000000
open Go.RowKit
set_option linter.unusedVariables false
set_option linter.unusedSimpArgs false
structure St20 (W:World) (B d g1 g2 x rg lg nb:Nat):Prop where
 box:CbB W x 55 #[.pointer (some ⟨d,0,none⟩),.pointer (some ⟨rg,0,none⟩),.pointer (some ⟨lg,0,none⟩),.pointer none,.pointer none,.pointer none,.pointer none,.slice none 0 0]
 dv:DsB W B d g1 g2 (.slice none 0 0) (newD nb)
 lo:CbB W lg 157 #[.slice none 0 0]
theorem St20.ab {W W':World} {B d g1 g2 x rg lg nb:Nat} (h:St20 W B d g1 g2 x rg lg nb) (hb:Below W.heap.size W W'):St20 W' B d g1 g2 x rg lg nb:=⟨h.box.ab hb,h.dv.ab hb,h.lo.ab hb⟩
theorem St20.step {W W':World} {B B' d g1 g2 x rg lg nb g m gr i:Nat} (h:St20 W B d g1 g2 x rg lg nb) (hs:StepL B' g m gr i W W'):St20 W' B d g1 g2 x rg lg nb:=
 ⟨stepL_blk hs h.box (by decide) (by decide),⟨stepL_blk hs h.dv.box (by decide) (by decide),stepL_blk hs h.dv.now (by decide) (by decide),stepL_blk hs h.dv.firm (by decide) (by decide),World.ownsRow_nil _ _ _ _,h.dv.ne,h.dv.low⟩,stepL_blk hs h.lo (by decide) (by decide)⟩
def Bg20 (w:World) (nb lim:Nat) (R:RgL) (e:Ending) (w':World):Prop:=∃x p r d rg lg gw gv O',e = .returned (.tuple #[.pointer (some ⟨x,0,none⟩),.bool true])∧CbB w' x 55 #[.pointer (some ⟨d,0,none⟩),.pointer (some ⟨rg,0,none⟩),.pointer (some ⟨lg,0,none⟩),.pointer (some ⟨p,0,none⟩),.pointer (some ⟨r,0,none⟩),.pointer (some ⟨gw,0,none⟩),.pointer (some ⟨gv,0,none⟩),.slice none 0 0]∧PgM w' O' p d rg lg (newT [(2,nb)])∧DvM w' O' d (newD nb)∧RgM w' O' rg R∧LgM w' O' lg []∧RsM w' O' r d ⟨lim,0,0⟩∧O' x=(0,8)∧(∀k,k<w.heap.size→O' k=(0,9))∧Below w.heap.size w w'
set_option maxRecDepth 100000 in
theorem began20k {w:World} {A:Option Addr} {n c nb lim:Nat} {ks:List KArg} (hk:KsB w A n c ks) (hb8:8≤nb) (hb40:nb≤40) (hn:n≤30) (hlim:lim<18446744073709551616):
 Calls Tryz.prog 10 #[.int .i64 (nb:Int),.int .u64 (lim:Int),.slice A n c] w fun e w'=>(e = .returned (.tuple #[.pointer none,.bool false])∧(∃q∈ks,64<q.n)∧Below w.heap.size w w')∨((∀q∈ks,q.n≤64)∧Bg20 w nb lim (foldK [] ks) e w'):=by
 have K0:=Lib.hid hk
 have N30:=Lib.hid hn
 have NB:=Lib.hid (And.intro hb8 hb40)
 have LIM:=Lib.hid hlim
 have hmk:mkR 2 nb=[(2,nb)]:=by unfold mkR;rw[if_pos (by omega)]
 have RI:Hid (rightR [(2,nb)]=true∧frNew nb [(2,nb)]=true):=Lib.hid ⟨by rw[←hmk];exact (Rgt.mk 2 nb).right,by unfold frNew;simp;omega⟩
 clear hmk
 have z1:¬(nb:Int)<8:=by omega
 have z2:¬(40:Int)<(nb:Int):=by omega
 have z3:¬(30:Int)<(n:Int):=by omega
 have nbi:(n:Int)≤30:=by omega
 have wu:IntKind.u32.wrap (nb:Int)=(nb:Int):=by rw[IntKind.wrap_u32];omega
 clear hk hb8 hb40 hn hlim
 go_enter Tryz.func10,Tryz.ntmps10
 go_wp2_with fail
 refine (diskNew_any nb w NB.out.1 (by have:=NB.out.2;omega)).mono ?_
 rintro e w1 ⟨d,g1,g2,rfl,hd,hb1⟩
 have D1:=Lib.hid hd.ds
 have B1:=Lib.hid hb1
 clear hd hb1
 go_wp2_with fail
 refine (newRing_any w1).mono ?_
 rintro e w2 ⟨rg,m,rfl,hge,hr,hb2⟩
 have D2:=Lib.hid (D1.out.ab hb2)
 have R2:=Lib.hid (hr.lowr B1.out.size)
 have GE2:=Lib.hid (Nat.le_trans B1.out.size hge)
 have B2:=Lib.hid (below_tr B1.out hb2 B1.out.size)
 clear hr hb2 hge D1 B1
 go_wp2_with fail
 refine (newLog_any w2).mono ?_
 rintro e w3 ⟨lg,rfl,hge,hl,hb3⟩
 have D3:=Lib.hid (D2.out.ab hb3)
 have R3:=Lib.hid (R2.out.ab hb3)
 have GE3:=Lib.hid (Nat.le_trans B2.out.size hge)
 have B3:=Lib.hid (below_tr B2.out hb3 B2.out.size)
 have L3:=Lib.hid hl
 clear hl hb3 hge D2 B2 R2
 have kx:=CbB.new w3 55 #[.pointer (some ⟨d,0,none⟩),.pointer (some ⟨rg,0,none⟩),.pointer (some ⟨lg,0,none⟩),.pointer none,.pointer none,.pointer none,.pointer none,.slice none 0 0]
 have a1:Below w3.heap.size w3 (w3.alloc (.cells #[.pointer (some ⟨d,0,none⟩),.pointer (some ⟨rg,0,none⟩),.pointer (some ⟨lg,0,none⟩),.pointer none,.pointer none,.pointer none,.pointer none,.slice none 0 0] 55)):=(Below.refl _ _).alloc (Nat.le_refl _) _
 have a2:Below (w3.alloc (.cells #[.pointer (some ⟨d,0,none⟩),.pointer (some ⟨rg,0,none⟩),.pointer (some ⟨lg,0,none⟩),.pointer none,.pointer none,.pointer none,.pointer none,.slice none 0 0] 55)).heap.size (w3.alloc (.cells #[.pointer (some ⟨d,0,none⟩),.pointer (some ⟨rg,0,none⟩),.pointer (some ⟨lg,0,none⟩),.pointer none,.pointer none,.pointer none,.pointer none,.slice none 0 0] 55)) ((w3.alloc (.cells #[.pointer (some ⟨d,0,none⟩),.pointer (some ⟨rg,0,none⟩),.pointer (some ⟨lg,0,none⟩),.pointer none,.pointer none,.pointer none,.pointer none,.slice none 0 0] 55)).alloc (.cells #[.slice none 0 0] 122)):=(Below.refl _ _).alloc (Nat.le_refl _) _
 have kx2:=kx.ab a2
 have kr:=CbB.new (w3.alloc (.cells #[.pointer (some ⟨d,0,none⟩),.pointer (some ⟨rg,0,none⟩),.pointer (some ⟨lg,0,none⟩),.pointer none,.pointer none,.pointer none,.pointer none,.slice none 0 0] 55)) 122 #[.slice none 0 0]
 have a3:=below_tr a1 a2 a1.size
 have es:(w3.alloc (.cells #[.pointer (some ⟨d,0,none⟩),.pointer (some ⟨rg,0,none⟩),.pointer (some ⟨lg,0,none⟩),.pointer none,.pointer none,.pointer none,.pointer none,.slice none 0 0] 55)).heap.size=w3.heap.size+1:=by simp
 rw[es] at kr
 have KX:=Lib.hid kx2
 have KR:=Lib.hid kr
 have A3:=Lib.hid a3
 clear kx a1 a2 kx2 a3 es kr
 go_wp2_with fail
 obtain⟨w5,hw5⟩:∃w5,(w3.alloc (.cells #[.pointer (some ⟨d,0,none⟩),.pointer (some ⟨rg,0,none⟩),.pointer (some ⟨lg,0,none⟩),.pointer none,.pointer none,.pointer none,.pointer none,.slice none 0 0] 55)).alloc (.cells #[.slice none 0 0] 122)=w5:=⟨_,rfl⟩
 obtain⟨x,hx⟩:∃x,w3.heap.size=x:=⟨_,rfl⟩
 rw[hw5] at KX KR A3⊢
 have XL0:Hid (w.heap.size≤x):=Lib.hid (by rw[←hx];exact B3.out.size)
 have D5:=Lib.hid (D3.out.ab A3.out)
 have R5:=Lib.hid (R3.out.ab A3.out)
 have L5:=Lib.hid (L3.out.ab A3.out)
 have B5:=Lib.hid (below_tr B3.out A3.out B3.out.size)
 rw[hx] at KX KR⊢
 obtain⟨gr,hgr⟩:∃gr,x+1=gr:=⟨_,rfl⟩
 rw[hgr] at KR⊢
 have GR:Hid (w.heap.size≤gr):=Lib.hid (by have:=XL0.out;omega)
 have S5:Hid (St20 w5 w.heap.size d g1 g2 x rg lg nb):=Lib.hid ⟨KX.out,D5.out,L5.out⟩
 have T5:Hid (Two w.heap.size rg m gr [] w5):=Lib.hid ⟨R5.out,.slice none 0 0,[],KR.out,⟨by simp[keyCs],.inl ⟨rfl,rfl⟩⟩,trivial,B5.out.size,fun p hp=>by cases hp⟩
 clear hw5 hx A3 D3 R3 L3 B3 KX KR D5 R5 L5 hgr
 go_loopw [39] (fun z wr=>∃i:Nat,i≤n∧z = .int .i64 (i:Int)∧Below w.heap.size w wr∧Two w.heap.size rg m gr (foldK [] (ks.take i)) wr∧St20 wr w.heap.size d g1 g2 x rg lg nb∧∀q∈ks.take i,q.n≤64) (fun z _=>n-(intOf z).toNat)
 case atStart=>exact⟨0,Nat.zero_le _,rfl,B5.out,T5.out,S5.out,fun q hq=>by simp at hq⟩
 case round=>
  clear B5 T5 S5
  obtain⟨i,hi,rfl,hb,hT,hS,hq64⟩:=hrel
  by_cases hlt:i<n
  · obtain⟨q,hq⟩:∃q,ks[i]? = some q:=⟨_,List.getElem?_eq_getElem (by rw[K0.out.len];exact hlt)⟩
    obtain⟨y,rfl,hxl,c0,c1,c2',qt,qg,ik⟩:=K0.out.cel i q hq
    have hlti:(i:Int)<(n:Int):=by omega
    have HL:=Lib.hid hlt
    have HT:=Lib.hid hT
    have HB:=Lib.hid hb
    have ST:=Lib.hid hS
    have HQ:=Lib.hid hq
    have XL:=Lib.hid hxl
    have C0:=Lib.hid c0
    have C1:=Lib.hid c1
    have C2:=Lib.hid c2'
    have IK:=Lib.hid ik
    have QT:=Lib.hid qt
    have QG:=Lib.hid qg
    have Q64:=Lib.hid hq64
    clear hlt hT hb hS hq hxl c0 c1 c2' ik qt qg hi hq64
    go_upto_region 9 with (fail)
    by_cases h64:64<q.n
    · have h64':(64:Int)<(q.n:Int):=by omega
      have H64:=Lib.hid h64
      clear h64
      refine wp_wide3 [⟨42,IsR (.slice (some y) n c),[],false⟩,⟨43,IsR (.int .i64 (i:Int)),[],false⟩,⟨44,IsR (.pointer (some (y.add (i*3)))),[0,1],false⟩,⟨45,IsR (.pointer (some ((y.add (i*3)).add 2))),[2],false⟩,⟨46,IsR (.slice q.a q.n q.c),[3],false⟩,⟨47,IsR (.int .i64 (q.n:Int)),[4],false⟩,⟨48,IsR (.bool true),[5],false⟩,⟨49,IsR (.bool true),[6],false⟩,⟨50,AnyR,[7],false⟩,⟨51,AnyR,[7],false⟩,⟨52,AnyR,[7],false⟩,⟨53,AnyR,[7],false⟩,⟨54,AnyR,[7],false⟩,⟨55,AnyR,[7],false⟩,⟨56,AnyR,[7],false⟩,⟨57,AnyR,[7],false⟩,⟨58,AnyR,[7],false⟩,⟨59,AnyR,[7],false⟩,⟨60,AnyR,[7],false⟩,⟨61,AnyR,[7],false⟩,⟨62,AnyR,[7],false⟩,⟨63,AnyR,[7],false⟩,⟨64,AnyR,[7],false⟩,⟨65,AnyR,[7],false⟩,⟨66,AnyR,[7],false⟩,⟨67,AnyR,[7],false⟩,⟨68,AnyR,[7],false⟩,⟨69,AnyR,[7],false⟩,⟨70,AnyR,[7],false⟩,⟨71,AnyR,[7],false⟩,⟨72,AnyR,[7],false⟩,⟨73,AnyR,[7],false⟩,⟨74,AnyR,[7],false⟩,⟨75,AnyR,[7],false⟩,⟨76,AnyR,[7],false⟩,⟨77,AnyR,[7],false⟩,⟨78,AnyR,[7],false⟩,⟨79,AnyR,[7],false⟩,⟨80,AnyR,[7],false⟩,⟨81,AnyR,[7],false⟩,⟨82,AnyR,[7],false⟩,⟨83,AnyR,[7],false⟩,⟨84,AnyR,[7],false⟩] (by kernel_rfl) (by kernel_rfl) rfl rfl rfl ⟨?_,?_,?_,?_,?_,?_,?_,?_,?_,?_,?_,?_,?_,?_,?_,?_,?_,?_,?_,?_,?_,?_,?_,?_,?_,?_,?_,?_,?_,?_,?_,?_,?_,?_,?_,?_,?_,?_,?_,?_,?_,?_,?_,trivial⟩ ?_
      · refine⟨rfl,IsR.mono _,fun a W hA hb hd=>takes_plain rfl (yields_value _ ?_ rfl)⟩
        have h2:a.tmps[2]?.getD undef = .slice (some y) n c:=(eval_get a 2).trans ((hA.eval (by simp)).trans rfl)
        go_simp
      · refine⟨rfl,IsR.mono _,fun a W hA hb hd=>takes_plain rfl (yields_value _ ?_ rfl)⟩
        have h12:a.tmps[12]?.getD undef = .int .i64 (i:Int):=(eval_get a 12).trans ((hA.eval (by simp)).trans rfl)
        go_simp
      · refine⟨rfl,IsR.mono _,fun a W hA hb hd=>takes_plain rfl (yields_value _ ?_ rfl)⟩
        have h42:a.tmps[42]?.getD undef = .slice (some y) n c:=(eval_get a 42).trans (hd 0 (by simp) _ rfl)
        have h43:a.tmps[43]?.getD undef = .int .i64 (i:Int):=(eval_get a 43).trans (hd 1 (by simp) _ rfl)
        go_simp
      · refine⟨rfl,IsR.mono _,fun a W hA hb hd=>takes_plain rfl (yields_value _ ?_ rfl)⟩
        have h44:a.tmps[44]?.getD undef = .pointer (some (y.add (i*3))):=(eval_get a 44).trans (hd 2 (by simp) _ rfl)
        go_simp
      · refine⟨rfl,IsR.mono _,fun a W hA hb hd=>takes_plain rfl (yields_value _ ?_ rfl)⟩
        have h45:a.tmps[45]?.getD undef = .pointer (some ((y.add (i*3)).add 2)):=(eval_get a 45).trans (hd 3 (by simp) _ rfl)
        have hc:W.cell? (⟨(y.add (i*3)).block,(y.add (i*3)).off+2,none⟩)=some (.slice q.a q.n q.c):=keep_cell2 C2.out XL.out (below_tr HB.out hb HB.out.size)
        go_simp
      · refine⟨rfl,IsR.mono _,fun a W hA hb hd=>takes_plain rfl (yields_value _ ?_ rfl)⟩
        have h46:a.tmps[46]?.getD undef = .slice q.a q.n q.c:=(eval_get a 46).trans (hd 4 (by simp) _ rfl)
        go_simp
      · refine⟨rfl,IsR.mono _,fun a W hA hb hd=>takes_plain rfl (yields_value _ ?_ rfl)⟩
        have h47:a.tmps[47]?.getD undef = .int .i64 (q.n:Int):=(eval_get a 47).trans (hd 5 (by simp) _ rfl)
        go_simp
      · refine⟨rfl,IsR.mono _,fun a W hA hb hd=>takes_plain rfl (yields_value _ ?_ rfl)⟩
        have h48:a.tmps[48]?.getD undef = .bool true:=(eval_get a 48).trans (hd 6 (by simp) _ rfl)
        go_simp
      · exact⟨rfl,AnyR.mono,fun a W hA hb hd=>takes_off (i:=7) (d:=49) (b:=false) rfl rfl rfl (hd 7 (by simp) _ rfl) trivial⟩
      · exact⟨rfl,AnyR.mono,fun a W hA hb hd=>takes_off (i:=7) (d:=49) (b:=false) rfl rfl rfl (hd 7 (by simp) _ rfl) trivial⟩
      · exact⟨rfl,AnyR.mono,fun a W hA hb hd=>takes_off (i:=7) (d:=49) (b:=false) rfl rfl rfl (hd 7 (by simp) _ rfl) trivial⟩
      · exact⟨rfl,AnyR.mono,fun a W hA hb hd=>takes_off (i:=7) (d:=49) (b:=false) rfl rfl rfl (hd 7 (by simp) _ rfl) trivial⟩
      · exact⟨rfl,AnyR.mono,fun a W hA hb hd=>takes_off (i:=7) (d:=49) (b:=false) rfl rfl rfl (hd 7 (by simp) _ rfl) trivial⟩
      · exact⟨rfl,AnyR.mono,fun a W hA hb hd=>takes_off (i:=7) (d:=49) (b:=false) rfl rfl rfl (hd 7 (by simp) _ rfl) trivial⟩
      · exact⟨rfl,AnyR.mono,fun a W hA hb hd=>takes_off (i:=7) (d:=49) (b:=false) rfl rfl rfl (hd 7 (by simp) _ rfl) trivial⟩
      · exact⟨rfl,AnyR.mono,fun a W hA hb hd=>takes_off (i:=7) (d:=49) (b:=false) rfl rfl rfl (hd 7 (by simp) _ rfl) trivial⟩
      · exact⟨rfl,AnyR.mono,fun a W hA hb hd=>takes_off (i:=7) (d:=49) (b:=false) rfl rfl rfl (hd 7 (by simp) _ rfl) trivial⟩
      · exact⟨rfl,AnyR.mono,fun a W hA hb hd=>takes_off (i:=7) (d:=49) (b:=false) rfl rfl rfl (hd 7 (by simp) _ rfl) trivial⟩
      · exact⟨rfl,AnyR.mono,fun a W hA hb hd=>takes_off (i:=7) (d:=49) (b:=false) rfl rfl rfl (hd 7 (by simp) _ rfl) trivial⟩
      · exact⟨rfl,AnyR.mono,fun a W hA hb hd=>takes_off (i:=7) (d:=49) (b:=false) rfl rfl rfl (hd 7 (by simp) _ rfl) trivial⟩
      · exact⟨rfl,AnyR.mono,fun a W hA hb hd=>takes_off (i:=7) (d:=49) (b:=false) rfl rfl rfl (hd 7 (by simp) _ rfl) trivial⟩
      · exact⟨rfl,AnyR.mono,fun a W hA hb hd=>takes_off (i:=7) (d:=49) (b:=false) rfl rfl rfl (hd 7 (by simp) _ rfl) trivial⟩
      · exact⟨rfl,AnyR.mono,fun a W hA hb hd=>takes_off (i:=7) (d:=49) (b:=false) rfl rfl rfl (hd 7 (by simp) _ rfl) trivial⟩
      · exact⟨rfl,AnyR.mono,fun a W hA hb hd=>takes_off (i:=7) (d:=49) (b:=false) rfl rfl rfl (hd 7 (by simp) _ rfl) trivial⟩
      · exact⟨rfl,AnyR.mono,fun a W hA hb hd=>takes_off (i:=7) (d:=49) (b:=false) rfl rfl rfl (hd 7 (by simp) _ rfl) trivial⟩
      · exact⟨rfl,AnyR.mono,fun a W hA hb hd=>takes_off (i:=7) (d:=49) (b:=false) rfl rfl rfl (hd 7 (by simp) _ rfl) trivial⟩
      · exact⟨rfl,AnyR.mono,fun a W hA hb hd=>takes_off (i:=7) (d:=49) (b:=false) rfl rfl rfl (hd 7 (by simp) _ rfl) trivial⟩
      · exact⟨rfl,AnyR.mono,fun a W hA hb hd=>takes_off (i:=7) (d:=49) (b:=false) rfl rfl rfl (hd 7 (by simp) _ rfl) trivial⟩
      · exact⟨rfl,AnyR.mono,fun a W hA hb hd=>takes_off (i:=7) (d:=49) (b:=false) rfl rfl rfl (hd 7 (by simp) _ rfl) trivial⟩
      · exact⟨rfl,AnyR.mono,fun a W hA hb hd=>takes_off (i:=7) (d:=49) (b:=false) rfl rfl rfl (hd 7 (by simp) _ rfl) trivial⟩
      · exact⟨rfl,AnyR.mono,fun a W hA hb hd=>takes_off (i:=7) (d:=49) (b:=false) rfl rfl rfl (hd 7 (by simp) _ rfl) trivial⟩
      · exact⟨rfl,AnyR.mono,fun a W hA hb hd=>takes_off (i:=7) (d:=49) (b:=false) rfl rfl rfl (hd 7 (by simp) _ rfl) trivial⟩
      · exact⟨rfl,AnyR.mono,fun a W hA hb hd=>takes_off (i:=7) (d:=49) (b:=false) rfl rfl rfl (hd 7 (by simp) _ rfl) trivial⟩
      · exact⟨rfl,AnyR.mono,fun a W hA hb hd=>takes_off (i:=7) (d:=49) (b:=false) rfl rfl rfl (hd 7 (by simp) _ rfl) trivial⟩
      · exact⟨rfl,AnyR.mono,fun a W hA hb hd=>takes_off (i:=7) (d:=49) (b:=false) rfl rfl rfl (hd 7 (by simp) _ rfl) trivial⟩
      · exact⟨rfl,AnyR.mono,fun a W hA hb hd=>takes_off (i:=7) (d:=49) (b:=false) rfl rfl rfl (hd 7 (by simp) _ rfl) trivial⟩
      · exact⟨rfl,AnyR.mono,fun a W hA hb hd=>takes_off (i:=7) (d:=49) (b:=false) rfl rfl rfl (hd 7 (by simp) _ rfl) trivial⟩
      · exact⟨rfl,AnyR.mono,fun a W hA hb hd=>takes_off (i:=7) (d:=49) (b:=false) rfl rfl rfl (hd 7 (by simp) _ rfl) trivial⟩
      · exact⟨rfl,AnyR.mono,fun a W hA hb hd=>takes_off (i:=7) (d:=49) (b:=false) rfl rfl rfl (hd 7 (by simp) _ rfl) trivial⟩
      · exact⟨rfl,AnyR.mono,fun a W hA hb hd=>takes_off (i:=7) (d:=49) (b:=false) rfl rfl rfl (hd 7 (by simp) _ rfl) trivial⟩
      · exact⟨rfl,AnyR.mono,fun a W hA hb hd=>takes_off (i:=7) (d:=49) (b:=false) rfl rfl rfl (hd 7 (by simp) _ rfl) trivial⟩
      · exact⟨rfl,AnyR.mono,fun a W hA hb hd=>takes_off (i:=7) (d:=49) (b:=false) rfl rfl rfl (hd 7 (by simp) _ rfl) trivial⟩
      · exact⟨rfl,AnyR.mono,fun a W hA hb hd=>takes_off (i:=7) (d:=49) (b:=false) rfl rfl rfl (hd 7 (by simp) _ rfl) trivial⟩
      intro vs w3 hR hF hb
      have e42:vs 42 = .slice (some y) n c:=hR 0 _ rfl
      have e43:vs 43 = .int .i64 (i:Int):=hR 1 _ rfl
      have e44:vs 44 = .pointer (some (y.add (i*3))):=hR 2 _ rfl
      have e45:vs 45 = .pointer (some ((y.add (i*3)).add 2)):=hR 3 _ rfl
      have e46:vs 46 = .slice q.a q.n q.c:=hR 4 _ rfl
      have e47:vs 47 = .int .i64 (q.n:Int):=hR 5 _ rfl
      have e48:vs 48 = .bool true:=hR 6 _ rfl
      have e49:vs 49 = .bool true:=hR 7 _ rfl
      simp only[List.map_cons,List.map_nil,List.foldl_cons,List.foldl_nil,List.length_cons,List.length_nil,List.drop_succ_cons,List.drop_zero,Act.put,List.setIfInBounds_toArray,List.set_cons_zero,List.set_cons_succ,e42,e43,e44,e45,e46,e47,e48,e49]
      generalize vs 50=q50
      generalize vs 51=q51
      generalize vs 52=q52
      generalize vs 53=q53
      generalize vs 54=q54
      generalize vs 55=q55
      generalize vs 56=q56
      generalize vs 57=q57
      generalize vs 58=q58
      generalize vs 59=q59
      generalize vs 60=q60
      generalize vs 61=q61
      generalize vs 62=q62
      generalize vs 63=q63
      generalize vs 64=q64
      generalize vs 65=q65
      generalize vs 66=q66
      generalize vs 67=q67
      generalize vs 68=q68
      generalize vs 69=q69
      generalize vs 70=q70
      generalize vs 71=q71
      generalize vs 72=q72
      generalize vs 73=q73
      generalize vs 74=q74
      generalize vs 75=q75
      generalize vs 76=q76
      generalize vs 77=q77
      generalize vs 78=q78
      generalize vs 79=q79
      generalize vs 80=q80
      generalize vs 81=q81
      generalize vs 82=q82
      generalize vs 83=q83
      generalize vs 84=q84
      have B3:=Lib.hid (below_tr HB.out hb HB.out.size)
      clear hR hF hb
      go_wp2_with fail
      go_ret2
      exact .inl ⟨rfl,⟨q,List.mem_of_getElem? HQ.out,H64.out⟩,B3.out⟩
    · have h64':¬(64:Int)<(q.n:Int):=by omega
      have N64:=Lib.hid h64
      clear h64
      obtain⟨L,hL⟩:∃L,L=foldK [] (ks.take i):=⟨_,rfl⟩
      rw[←hL] at HT
      have HLL:Hid (L.length≤1000):=Lib.hid (by
       have h1:=foldK_len (ks.take i) []
       have h3:=List.length_take_le' i ks
       have h4:=N30.out
       have h5:=K0.out.len
       rw[List.length_nil,←hL] at h1
       omega)
      have HS:Hid ((addP (q.t,q.g) q.k L).2=foldK [] (ks.take (i+1))):=Lib.hid (by
       rw[List.take_add_one,HQ.out,Option.toList_some,foldK_snoc,hL])
      have Q65:Hid (∀r∈ks.take (i+1),r.n≤64):=Lib.hid fun r hr=>by
       rw[List.take_add_one,HQ.out,Option.toList_some] at hr
       rcases List.mem_append.1 hr with hr | hr
       · exact Q64.out r hr
       · rw[List.mem_singleton.1 hr];have:=N64.out;omega
      clear hL
      refine wp_wide6 (fun W=>Below w.heap.size w W∧St20 W w.heap.size d g1 g2 x rg lg nb) (PreL w.heap.size rg m gr L) (StepL w.heap.size rg m gr) [⟨42,IsR (.slice (some y) n c),[],false⟩,⟨43,IsR (.int .i64 (i:Int)),[],false⟩,⟨44,IsR (.pointer (some (y.add (i*3)))),[0,1],false⟩,⟨45,IsR (.pointer (some ((y.add (i*3)).add 2))),[2],false⟩,⟨46,IsR (.slice q.a q.n q.c),[3],false⟩,⟨47,IsR (.int .i64 (q.n:Int)),[4],false⟩,⟨48,IsR (.bool false),[5],false⟩,⟨49,IsR (.bool false),[6],false⟩,⟨50,IsR (.pointer (some ⟨x,1,none⟩)),[7],false⟩,⟨51,IsR (.pointer (some ⟨rg,0,none⟩)),[7,8],false⟩,⟨52,IsR (.slice (some y) n c),[7],false⟩,⟨53,IsR (.int .i64 (i:Int)),[7],false⟩,⟨54,IsR (.pointer (some (y.add (i*3)))),[7,10,11],false⟩,⟨55,IsR (.pointer (some (y.add (i*3)))),[7,12],false⟩,⟨56,IsR (.int .u32 (q.t:Int)),[7,13],false⟩,⟨57,IsR (.slice (some y) n c),[7],false⟩,⟨58,IsR (.int .i64 (i:Int)),[7],false⟩,⟨59,IsR (.pointer (some (y.add (i*3)))),[7,15,16],false⟩,⟨60,IsR (.pointer (some ((y.add (i*3)).add 1))),[7,17],false⟩,⟨61,IsR (.int .u16 (q.g:Int)),[7,18],false⟩,⟨62,IsR (.slice (some y) n c),[7],false⟩,⟨63,IsR (.int .i64 (i:Int)),[7],false⟩,⟨64,IsR (.pointer (some (y.add (i*3)))),[7,20,21],false⟩,⟨65,IsR (.pointer (some ((y.add (i*3)).add 2))),[7,22],false⟩,⟨66,IsR (.slice q.a q.n q.c),[7,23],false⟩,⟨67,(fun z W=>z = .int .i64 ((addP (q.t,q.g) q.k L).1:Int)∧RgB W w.heap.size rg m (addP (q.t,q.g) q.k L).2),[7,9,14,19,24],false⟩,⟨68,IsR (.slice (some y) n c),[7],false⟩,⟨69,IsR (.int .i64 (i:Int)),[7],false⟩,⟨70,IsR (.pointer (some (y.add (i*3)))),[7,26,27],false⟩,⟨71,IsR (.pointer (some (y.add (i*3)))),[7,28],false⟩,⟨72,IsR (.int .u32 (q.t:Int)),[7,29],false⟩,⟨73,IsR (.slice (some y) n c),[7],false⟩,⟨74,IsR (.int .i64 (i:Int)),[7],false⟩,⟨75,IsR (.pointer (some (y.add (i*3)))),[7,31,32],false⟩,⟨76,IsR (.pointer (some ((y.add (i*3)).add 1))),[7,33],false⟩,⟨77,IsR (.int .u16 (q.g:Int)),[7,34],false⟩,⟨78,IsR (.slice (some y) n c),[7],false⟩,⟨79,IsR (.int .i64 (i:Int)),[7],false⟩,⟨80,IsR (.pointer (some (y.add (i*3)))),[7,36,37],false⟩,⟨81,IsR (.pointer (some ((y.add (i*3)).add 2))),[7,38],false⟩,⟨82,IsR (.slice q.a q.n q.c),[7,39],false⟩,⟨83,(fun z W=>z = .int .i64 ((addP (q.t,q.g) q.k L).1:Int)∧∃v vs,RkB W w.heap.size gr v vs (addP (q.t,q.g) q.k L).2),[7,30,35,40],false⟩,⟨84,IsR (.bool false),[7,25,41],false⟩] rfl (by kernel_rfl) (by kernel_rfl) rfl rfl stepL_pre (fun i W W1 h1 h2=>⟨stepL_below GR.out h1 h2.1,h2.2.step h1⟩) (fun i W=>.inl (Below.refl _ _)) (fun j=>⟨fun _=>HT.out.1.ab (Below.refl _ _).drew,fun _=>by obtain⟨v,vs,h⟩:=HT.out.2;exact⟨v,vs,h.ab (Below.refl _ _).drew⟩⟩) ⟨HB.out.drew,ST.out.ab (Below.refl _ _).drew⟩ ⟨?_,?_,?_,?_,?_,?_,?_,?_,?_,?_,?_,?_,?_,?_,?_,?_,?_,?_,?_,?_,?_,?_,?_,?_,?_,?_,?_,?_,?_,?_,?_,?_,?_,?_,?_,?_,?_,?_,?_,?_,?_,?_,?_,trivial⟩ ?_
      · refine⟨rfl,fun j hj v W W1 h hs=>h,fun a W hA hb hp hd=>Takes.to6 (takes_plain rfl (yields_value _ ?_ rfl)) fun W1 h1=>.inl h1⟩
        have h2:a.tmps[2]?.getD undef = .slice (some y) n c:=(eval_get a 2).trans ((hA.eval (by simp)).trans rfl)
        go_simp
      · refine⟨rfl,fun j hj v W W1 h hs=>h,fun a W hA hb hp hd=>Takes.to6 (takes_plain rfl (yields_value _ ?_ rfl)) fun W1 h1=>.inl h1⟩
        have h12:a.tmps[12]?.getD undef = .int .i64 (i:Int):=(eval_get a 12).trans ((hA.eval (by simp)).trans rfl)
        go_simp
      · refine⟨rfl,fun j hj v W W1 h hs=>h,fun a W hA hb hp hd=>Takes.to6 (takes_plain rfl (yields_value _ ?_ rfl)) fun W1 h1=>.inl h1⟩
        have h42:a.tmps[42]?.getD undef = .slice (some y) n c:=(eval_get a 42).trans (hd 0 (by simp) _ rfl)
        have h43:a.tmps[43]?.getD undef = .int .i64 (i:Int):=(eval_get a 43).trans (hd 1 (by simp) _ rfl)
        go_simp
      · refine⟨rfl,fun j hj v W W1 h hs=>h,fun a W hA hb hp hd=>Takes.to6 (takes_plain rfl (yields_value _ ?_ rfl)) fun W1 h1=>.inl h1⟩
        have h44:a.tmps[44]?.getD undef = .pointer (some (y.add (i*3))):=(eval_get a 44).trans (hd 2 (by simp) _ rfl)
        go_simp
      · refine⟨rfl,fun j hj v W W1 h hs=>h,fun a W hA hb hp hd=>Takes.to6 (takes_plain rfl (yields_value _ ?_ rfl)) fun W1 h1=>.inl h1⟩
        have h45:a.tmps[45]?.getD undef = .pointer (some ((y.add (i*3)).add 2)):=(eval_get a 45).trans (hd 3 (by simp) _ rfl)
        have hc:W.cell? (⟨(y.add (i*3)).block,(y.add (i*3)).off+2,none⟩)=some (.slice q.a q.n q.c):=keep_cell2 C2.out XL.out hb.1
        go_simp
      · refine⟨rfl,fun j hj v W W1 h hs=>h,fun a W hA hb hp hd=>Takes.to6 (takes_plain rfl (yields_value _ ?_ rfl)) fun W1 h1=>.inl h1⟩
        have h46:a.tmps[46]?.getD undef = .slice q.a q.n q.c:=(eval_get a 46).trans (hd 4 (by simp) _ rfl)
        go_simp
      · refine⟨rfl,fun j hj v W W1 h hs=>h,fun a W hA hb hp hd=>Takes.to6 (takes_plain rfl (yields_value _ ?_ rfl)) fun W1 h1=>.inl h1⟩
        have h47:a.tmps[47]?.getD undef = .int .i64 (q.n:Int):=(eval_get a 47).trans (hd 5 (by simp) _ rfl)
        go_simp
      · refine⟨rfl,fun j hj v W W1 h hs=>h,fun a W hA hb hp hd=>Takes.to6 (takes_plain rfl (yields_value _ ?_ rfl)) fun W1 h1=>.inl h1⟩
        have h48:a.tmps[48]?.getD undef = .bool false:=(eval_get a 48).trans (hd 6 (by simp) _ rfl)
        go_simp
      · refine⟨rfl,fun j hj v W W1 h hs=>h,fun a W hA hb hp hd=>Takes.to6 (takes_on (i:=7) (d:=49) (b:=false) rfl rfl rfl (hd 7 (by simp) _ rfl) (yields_value _ ?_ rfl)) fun W1 h1=>.inl h1⟩
        have h10:a.tmps[10]?.getD undef = .pointer (some ⟨x,0,none⟩):=(eval_get a 10).trans ((hA.eval (by simp)).trans rfl)
        go_simp
      · refine⟨rfl,fun j hj v W W1 h hs=>h,fun a W hA hb hp hd=>Takes.to6 (takes_on (i:=7) (d:=49) (b:=false) rfl rfl rfl (hd 7 (by simp) _ rfl) (yields_value _ ?_ rfl)) fun W1 h1=>.inl h1⟩
        have h50:a.tmps[50]?.getD undef = .pointer (some ⟨x,1,none⟩):=(eval_get a 50).trans (hd 8 (by simp) _ rfl)
        have hc:=hb.2.box.cell (k:=1) rfl
        go_simp
      · refine⟨rfl,fun j hj v W W1 h hs=>h,fun a W hA hb hp hd=>Takes.to6 (takes_on (i:=7) (d:=49) (b:=false) rfl rfl rfl (hd 7 (by simp) _ rfl) (yields_value _ ?_ rfl)) fun W1 h1=>.inl h1⟩
        have h2:a.tmps[2]?.getD undef = .slice (some y) n c:=(eval_get a 2).trans ((hA.eval (by simp)).trans rfl)
        go_simp
      · refine⟨rfl,fun j hj v W W1 h hs=>h,fun a W hA hb hp hd=>Takes.to6 (takes_on (i:=7) (d:=49) (b:=false) rfl rfl rfl (hd 7 (by simp) _ rfl) (yields_value _ ?_ rfl)) fun W1 h1=>.inl h1⟩
        have h12:a.tmps[12]?.getD undef = .int .i64 (i:Int):=(eval_get a 12).trans ((hA.eval (by simp)).trans rfl)
        go_simp
      · refine⟨rfl,fun j hj v W W1 h hs=>h,fun a W hA hb hp hd=>Takes.to6 (takes_on (i:=7) (d:=49) (b:=false) rfl rfl rfl (hd 7 (by simp) _ rfl) (yields_value _ ?_ rfl)) fun W1 h1=>.inl h1⟩
        have h52:a.tmps[52]?.getD undef = .slice (some y) n c:=(eval_get a 52).trans (hd 10 (by simp) _ rfl)
        have h53:a.tmps[53]?.getD undef = .int .i64 (i:Int):=(eval_get a 53).trans (hd 11 (by simp) _ rfl)
        go_simp
      · refine⟨rfl,fun j hj v W W1 h hs=>h,fun a W hA hb hp hd=>Takes.to6 (takes_on (i:=7) (d:=49) (b:=false) rfl rfl rfl (hd 7 (by simp) _ rfl) (yields_value _ ?_ rfl)) fun W1 h1=>.inl h1⟩
        have h54:a.tmps[54]?.getD undef = .pointer (some (y.add (i*3))):=(eval_get a 54).trans (hd 12 (by simp) _ rfl)
        go_simp
      · refine⟨rfl,fun j hj v W W1 h hs=>h,fun a W hA hb hp hd=>Takes.to6 (takes_on (i:=7) (d:=49) (b:=false) rfl rfl rfl (hd 7 (by simp) _ rfl) (yields_value _ ?_ rfl)) fun W1 h1=>.inl h1⟩
        have h55:a.tmps[55]?.getD undef = .pointer (some (y.add (i*3))):=(eval_get a 55).trans (hd 13 (by simp) _ rfl)
        have hc:W.cell? (y.add (i*3))=some (.int .u32 (q.t:Int)):=keep_cell C0.out XL.out hb.1
        go_simp
      · refine⟨rfl,fun j hj v W W1 h hs=>h,fun a W hA hb hp hd=>Takes.to6 (takes_on (i:=7) (d:=49) (b:=false) rfl rfl rfl (hd 7 (by simp) _ rfl) (yields_value _ ?_ rfl)) fun W1 h1=>.inl h1⟩
        have h2:a.tmps[2]?.getD undef = .slice (some y) n c:=(eval_get a 2).trans ((hA.eval (by simp)).trans rfl)
        go_simp
      · refine⟨rfl,fun j hj v W W1 h hs=>h,fun a W hA hb hp hd=>Takes.to6 (takes_on (i:=7) (d:=49) (b:=false) rfl rfl rfl (hd 7 (by simp) _ rfl) (yields_value _ ?_ rfl)) fun W1 h1=>.inl h1⟩
        have h12:a.tmps[12]?.getD undef = .int .i64 (i:Int):=(eval_get a 12).trans ((hA.eval (by simp)).trans rfl)
        go_simp
      · refine⟨rfl,fun j hj v W W1 h hs=>h,fun a W hA hb hp hd=>Takes.to6 (takes_on (i:=7) (d:=49) (b:=false) rfl rfl rfl (hd 7 (by simp) _ rfl) (yields_value _ ?_ rfl)) fun W1 h1=>.inl h1⟩
        have h57:a.tmps[57]?.getD undef = .slice (some y) n c:=(eval_get a 57).trans (hd 15 (by simp) _ rfl)
        have h58:a.tmps[58]?.getD undef = .int .i64 (i:Int):=(eval_get a 58).trans (hd 16 (by simp) _ rfl)
        go_simp
      · refine⟨rfl,fun j hj v W W1 h hs=>h,fun a W hA hb hp hd=>Takes.to6 (takes_on (i:=7) (d:=49) (b:=false) rfl rfl rfl (hd 7 (by simp) _ rfl) (yields_value _ ?_ rfl)) fun W1 h1=>.inl h1⟩
        have h59:a.tmps[59]?.getD undef = .pointer (some (y.add (i*3))):=(eval_get a 59).trans (hd 17 (by simp) _ rfl)
        go_simp
      · refine⟨rfl,fun j hj v W W1 h hs=>h,fun a W hA hb hp hd=>Takes.to6 (takes_on (i:=7) (d:=49) (b:=false) rfl rfl rfl (hd 7 (by simp) _ rfl) (yields_value _ ?_ rfl)) fun W1 h1=>.inl h1⟩
        have h60:a.tmps[60]?.getD undef = .pointer (some ((y.add (i*3)).add 1)):=(eval_get a 60).trans (hd 18 (by simp) _ rfl)
        have hc:W.cell? (⟨(y.add (i*3)).block,(y.add (i*3)).off+1,none⟩)=some (.int .u16 (q.g:Int)):=keep_cell2 C1.out XL.out hb.1
        go_simp
      · refine⟨rfl,fun j hj v W W1 h hs=>h,fun a W hA hb hp hd=>Takes.to6 (takes_on (i:=7) (d:=49) (b:=false) rfl rfl rfl (hd 7 (by simp) _ rfl) (yields_value _ ?_ rfl)) fun W1 h1=>.inl h1⟩
        have h2:a.tmps[2]?.getD undef = .slice (some y) n c:=(eval_get a 2).trans ((hA.eval (by simp)).trans rfl)
        go_simp
      · refine⟨rfl,fun j hj v W W1 h hs=>h,fun a W hA hb hp hd=>Takes.to6 (takes_on (i:=7) (d:=49) (b:=false) rfl rfl rfl (hd 7 (by simp) _ rfl) (yields_value _ ?_ rfl)) fun W1 h1=>.inl h1⟩
        have h12:a.tmps[12]?.getD undef = .int .i64 (i:Int):=(eval_get a 12).trans ((hA.eval (by simp)).trans rfl)
        go_simp
      · refine⟨rfl,fun j hj v W W1 h hs=>h,fun a W hA hb hp hd=>Takes.to6 (takes_on (i:=7) (d:=49) (b:=false) rfl rfl rfl (hd 7 (by simp) _ rfl) (yields_value _ ?_ rfl)) fun W1 h1=>.inl h1⟩
        have h62:a.tmps[62]?.getD undef = .slice (some y) n c:=(eval_get a 62).trans (hd 20 (by simp) _ rfl)
        have h63:a.tmps[63]?.getD undef = .int .i64 (i:Int):=(eval_get a 63).trans (hd 21 (by simp) _ rfl)
        go_simp
      · refine⟨rfl,fun j hj v W W1 h hs=>h,fun a W hA hb hp hd=>Takes.to6 (takes_on (i:=7) (d:=49) (b:=false) rfl rfl rfl (hd 7 (by simp) _ rfl) (yields_value _ ?_ rfl)) fun W1 h1=>.inl h1⟩
        have h64:a.tmps[64]?.getD undef = .pointer (some (y.add (i*3))):=(eval_get a 64).trans (hd 22 (by simp) _ rfl)
        go_simp
      · refine⟨rfl,fun j hj v W W1 h hs=>h,fun a W hA hb hp hd=>Takes.to6 (takes_on (i:=7) (d:=49) (b:=false) rfl rfl rfl (hd 7 (by simp) _ rfl) (yields_value _ ?_ rfl)) fun W1 h1=>.inl h1⟩
        have h65:a.tmps[65]?.getD undef = .pointer (some ((y.add (i*3)).add 2)):=(eval_get a 65).trans (hd 23 (by simp) _ rfl)
        have hc:W.cell? (⟨(y.add (i*3)).block,(y.add (i*3)).off+2,none⟩)=some (.slice q.a q.n q.c):=keep_cell2 C2.out XL.out hb.1
        go_simp
      · refine⟨rfl,fun j hj v W W1 h hs=>⟨h.1,stepL_rg hj hs h.2⟩,fun a W hA hb hp hd=>takes6_on (i:=7) (d:=49) (b:=false) rfl rfl rfl (hd 7 (by simp) _ rfl) ?_⟩
        have h51:a.tmps[51]?.getD undef = .pointer (some ⟨rg,0,none⟩):=(eval_get a 51).trans (hd 9 (by simp) _ rfl)
        have h56:a.tmps[56]?.getD undef = .int .u32 (q.t:Int):=(eval_get a 56).trans (hd 14 (by simp) _ rfl)
        have h61:a.tmps[61]?.getD undef = .int .u16 (q.g:Int):=(eval_get a 61).trans (hd 19 (by simp) _ rfl)
        have h66:a.tmps[66]?.getD undef = .slice q.a q.n q.c:=(eval_get a 66).trans (hd 24 (by simp) _ rfl)
        refine .inr ⟨44,#[.pointer (some ⟨rg,0,none⟩),.int .u32 (q.t:Int),.int .u16 (q.g:Int),.slice q.a q.n q.c],by go_simp,(ringAdd_any w.heap.size rg m q.t q.g q.n q.c q.a q.k L W (hp.1 rfl) QT.out QG.out (IK.out.below hb.1)).mono ?_⟩
        rintro e W1 ⟨rfl,h1,h2⟩
        exact⟨_,rfl,⟨rfl,h1⟩,.inr (.inl ⟨rfl,⟨_,hp.1 rfl⟩,h2⟩)⟩
      · refine⟨rfl,fun j hj v W W1 h hs=>h,fun a W hA hb hp hd=>Takes.to6 (takes_on (i:=7) (d:=49) (b:=false) rfl rfl rfl (hd 7 (by simp) _ rfl) (yields_value _ ?_ rfl)) fun W1 h1=>.inl h1⟩
        have h2:a.tmps[2]?.getD undef = .slice (some y) n c:=(eval_get a 2).trans ((hA.eval (by simp)).trans rfl)
        go_simp
      · refine⟨rfl,fun j hj v W W1 h hs=>h,fun a W hA hb hp hd=>Takes.to6 (takes_on (i:=7) (d:=49) (b:=false) rfl rfl rfl (hd 7 (by simp) _ rfl) (yields_value _ ?_ rfl)) fun W1 h1=>.inl h1⟩
        have h12:a.tmps[12]?.getD undef = .int .i64 (i:Int):=(eval_get a 12).trans ((hA.eval (by simp)).trans rfl)
        go_simp
      · refine⟨rfl,fun j hj v W W1 h hs=>h,fun a W hA hb hp hd=>Takes.to6 (takes_on (i:=7) (d:=49) (b:=false) rfl rfl rfl (hd 7 (by simp) _ rfl) (yields_value _ ?_ rfl)) fun W1 h1=>.inl h1⟩
        have h68:a.tmps[68]?.getD undef = .slice (some y) n c:=(eval_get a 68).trans (hd 26 (by simp) _ rfl)
        have h69:a.tmps[69]?.getD undef = .int .i64 (i:Int):=(eval_get a 69).trans (hd 27 (by simp) _ rfl)
        go_simp
      · refine⟨rfl,fun j hj v W W1 h hs=>h,fun a W hA hb hp hd=>Takes.to6 (takes_on (i:=7) (d:=49) (b:=false) rfl rfl rfl (hd 7 (by simp) _ rfl) (yields_value _ ?_ rfl)) fun W1 h1=>.inl h1⟩
        have h70:a.tmps[70]?.getD undef = .pointer (some (y.add (i*3))):=(eval_get a 70).trans (hd 28 (by simp) _ rfl)
        go_simp
      · refine⟨rfl,fun j hj v W W1 h hs=>h,fun a W hA hb hp hd=>Takes.to6 (takes_on (i:=7) (d:=49) (b:=false) rfl rfl rfl (hd 7 (by simp) _ rfl) (yields_value _ ?_ rfl)) fun W1 h1=>.inl h1⟩
        have h71:a.tmps[71]?.getD undef = .pointer (some (y.add (i*3))):=(eval_get a 71).trans (hd 29 (by simp) _ rfl)
        have hc:W.cell? (y.add (i*3))=some (.int .u32 (q.t:Int)):=keep_cell C0.out XL.out hb.1
        go_simp
      · refine⟨rfl,fun j hj v W W1 h hs=>h,fun a W hA hb hp hd=>Takes.to6 (takes_on (i:=7) (d:=49) (b:=false) rfl rfl rfl (hd 7 (by simp) _ rfl) (yields_value _ ?_ rfl)) fun W1 h1=>.inl h1⟩
        have h2:a.tmps[2]?.getD undef = .slice (some y) n c:=(eval_get a 2).trans ((hA.eval (by simp)).trans rfl)
        go_simp
      · refine⟨rfl,fun j hj v W W1 h hs=>h,fun a W hA hb hp hd=>Takes.to6 (takes_on (i:=7) (d:=49) (b:=false) rfl rfl rfl (hd 7 (by simp) _ rfl) (yields_value _ ?_ rfl)) fun W1 h1=>.inl h1⟩
        have h12:a.tmps[12]?.getD undef = .int .i64 (i:Int):=(eval_get a 12).trans ((hA.eval (by simp)).trans rfl)
        go_simp
      · refine⟨rfl,fun j hj v W W1 h hs=>h,fun a W hA hb hp hd=>Takes.to6 (takes_on (i:=7) (d:=49) (b:=false) rfl rfl rfl (hd 7 (by simp) _ rfl) (yields_value _ ?_ rfl)) fun W1 h1=>.inl h1⟩
        have h73:a.tmps[73]?.getD undef = .slice (some y) n c:=(eval_get a 73).trans (hd 31 (by simp) _ rfl)
        have h74:a.tmps[74]?.getD undef = .int .i64 (i:Int):=(eval_get a 74).trans (hd 32 (by simp) _ rfl)
        go_simp
      · refine⟨rfl,fun j hj v W W1 h hs=>h,fun a W hA hb hp hd=>Takes.to6 (takes_on (i:=7) (d:=49) (b:=false) rfl rfl rfl (hd 7 (by simp) _ rfl) (yields_value _ ?_ rfl)) fun W1 h1=>.inl h1⟩
        have h75:a.tmps[75]?.getD undef = .pointer (some (y.add (i*3))):=(eval_get a 75).trans (hd 33 (by simp) _ rfl)
        go_simp
      · refine⟨rfl,fun j hj v W W1 h hs=>h,fun a W hA hb hp hd=>Takes.to6 (takes_on (i:=7) (d:=49) (b:=false) rfl rfl rfl (hd 7 (by simp) _ rfl) (yields_value _ ?_ rfl)) fun W1 h1=>.inl h1⟩
        have h76:a.tmps[76]?.getD undef = .pointer (some ((y.add (i*3)).add 1)):=(eval_get a 76).trans (hd 34 (by simp) _ rfl)
        have hc:W.cell? (⟨(y.add (i*3)).block,(y.add (i*3)).off+1,none⟩)=some (.int .u16 (q.g:Int)):=keep_cell2 C1.out XL.out hb.1
        go_simp
      · refine⟨rfl,fun j hj v W W1 h hs=>h,fun a W hA hb hp hd=>Takes.to6 (takes_on (i:=7) (d:=49) (b:=false) rfl rfl rfl (hd 7 (by simp) _ rfl) (yields_value _ ?_ rfl)) fun W1 h1=>.inl h1⟩
        have h2:a.tmps[2]?.getD undef = .slice (some y) n c:=(eval_get a 2).trans ((hA.eval (by simp)).trans rfl)
        go_simp
      · refine⟨rfl,fun j hj v W W1 h hs=>h,fun a W hA hb hp hd=>Takes.to6 (takes_on (i:=7) (d:=49) (b:=false) rfl rfl rfl (hd 7 (by simp) _ rfl) (yields_value _ ?_ rfl)) fun W1 h1=>.inl h1⟩
        have h12:a.tmps[12]?.getD undef = .int .i64 (i:Int):=(eval_get a 12).trans ((hA.eval (by simp)).trans rfl)
        go_simp
      · refine⟨rfl,fun j hj v W W1 h hs=>h,fun a W hA hb hp hd=>Takes.to6 (takes_on (i:=7) (d:=49) (b:=false) rfl rfl rfl (hd 7 (by simp) _ rfl) (yields_value _ ?_ rfl)) fun W1 h1=>.inl h1⟩
        have h78:a.tmps[78]?.getD undef = .slice (some y) n c:=(eval_get a 78).trans (hd 36 (by simp) _ rfl)
        have h79:a.tmps[79]?.getD undef = .int .i64 (i:Int):=(eval_get a 79).trans (hd 37 (by simp) _ rfl)
        go_simp
      · refine⟨rfl,fun j hj v W W1 h hs=>h,fun a W hA hb hp hd=>Takes.to6 (takes_on (i:=7) (d:=49) (b:=false) rfl rfl rfl (hd 7 (by simp) _ rfl) (yields_value _ ?_ rfl)) fun W1 h1=>.inl h1⟩
        have h80:a.tmps[80]?.getD undef = .pointer (some (y.add (i*3))):=(eval_get a 80).trans (hd 38 (by simp) _ rfl)
        go_simp
      · refine⟨rfl,fun j hj v W W1 h hs=>h,fun a W hA hb hp hd=>Takes.to6 (takes_on (i:=7) (d:=49) (b:=false) rfl rfl rfl (hd 7 (by simp) _ rfl) (yields_value _ ?_ rfl)) fun W1 h1=>.inl h1⟩
        have h81:a.tmps[81]?.getD undef = .pointer (some ((y.add (i*3)).add 2)):=(eval_get a 81).trans (hd 39 (by simp) _ rfl)
        have hc:W.cell? (⟨(y.add (i*3)).block,(y.add (i*3)).off+2,none⟩)=some (.slice q.a q.n q.c):=keep_cell2 C2.out XL.out hb.1
        go_simp
      · refine⟨rfl,fun j hj v W W1 h hs=>⟨h.1,stepL_rk hj hs h.2⟩,fun a W hA hb hp hd=>takes6_on (i:=7) (d:=49) (b:=false) rfl rfl rfl (hd 7 (by simp) _ rfl) ?_⟩
        have h11:a.tmps[11]?.getD undef = .pointer (some ⟨gr,0,none⟩):=(eval_get a 11).trans ((hA.eval (by simp)).trans rfl)
        have h72:a.tmps[72]?.getD undef = .int .u32 (q.t:Int):=(eval_get a 72).trans (hd 30 (by simp) _ rfl)
        have h77:a.tmps[77]?.getD undef = .int .u16 (q.g:Int):=(eval_get a 77).trans (hd 35 (by simp) _ rfl)
        have h82:a.tmps[82]?.getD undef = .slice q.a q.n q.c:=(eval_get a 82).trans (hd 40 (by simp) _ rfl)
        obtain⟨rv,rvs,hrk⟩:=hp.2 rfl
        refine .inr ⟨45,#[.pointer (some ⟨gr,0,none⟩),.int .u32 (q.t:Int),.int .u16 (q.g:Int),.slice q.a q.n q.c],by go_simp,(rkAdd_far w.heap.size gr q.t q.g rv rvs L q.a q.n q.c q.k w W hrk (Nat.le_refl _) QT.out QG.out HLL.out IK.out (IK.out.below hb.1)).mono ?_⟩
        rintro e W1 ⟨v1,vs1,rfl,h1,h2⟩
        exact⟨_,rfl,⟨rfl,v1,vs1,h1⟩,.inr (.inr ⟨rfl,rv,rvs,L,hrk,h2⟩)⟩
      · refine⟨rfl,fun j hj v W W1 h hs=>h,fun a W hA hb hp hd=>Takes.to6 (takes_on (i:=7) (d:=49) (b:=false) rfl rfl rfl (hd 7 (by simp) _ rfl) (yields_value _ ?_ rfl)) fun W1 h1=>.inl h1⟩
        have h67:a.tmps[67]?.getD undef = .int .i64 ((addP (q.t,q.g) q.k L).1:Int):=(eval_get a 67).trans (hd 25 (by simp) _ rfl).1
        have h83:a.tmps[83]?.getD undef = .int .i64 ((addP (q.t,q.g) q.k L).1:Int):=(eval_get a 83).trans (hd 41 (by simp) _ rfl).1
        go_simp
      intro vs w3 hR hb
      have e42:vs 42 = .slice (some y) n c:=hR 0 _ rfl
      have e43:vs 43 = .int .i64 (i:Int):=hR 1 _ rfl
      have e44:vs 44 = .pointer (some (y.add (i*3))):=hR 2 _ rfl
      have e45:vs 45 = .pointer (some ((y.add (i*3)).add 2)):=hR 3 _ rfl
      have e46:vs 46 = .slice q.a q.n q.c:=hR 4 _ rfl
      have e47:vs 47 = .int .i64 (q.n:Int):=hR 5 _ rfl
      have e48:vs 48 = .bool false:=hR 6 _ rfl
      have e49:vs 49 = .bool false:=hR 7 _ rfl
      have e50:vs 50 = .pointer (some ⟨x,1,none⟩):=hR 8 _ rfl
      have e51:vs 51 = .pointer (some ⟨rg,0,none⟩):=hR 9 _ rfl
      have e52:vs 52 = .slice (some y) n c:=hR 10 _ rfl
      have e53:vs 53 = .int .i64 (i:Int):=hR 11 _ rfl
      have e54:vs 54 = .pointer (some (y.add (i*3))):=hR 12 _ rfl
      have e55:vs 55 = .pointer (some (y.add (i*3))):=hR 13 _ rfl
      have e56:vs 56 = .int .u32 (q.t:Int):=hR 14 _ rfl
      have e57:vs 57 = .slice (some y) n c:=hR 15 _ rfl
      have e58:vs 58 = .int .i64 (i:Int):=hR 16 _ rfl
      have e59:vs 59 = .pointer (some (y.add (i*3))):=hR 17 _ rfl
      have e60:vs 60 = .pointer (some ((y.add (i*3)).add 1)):=hR 18 _ rfl
      have e61:vs 61 = .int .u16 (q.g:Int):=hR 19 _ rfl
      have e62:vs 62 = .slice (some y) n c:=hR 20 _ rfl
      have e63:vs 63 = .int .i64 (i:Int):=hR 21 _ rfl
      have e64:vs 64 = .pointer (some (y.add (i*3))):=hR 22 _ rfl
      have e65:vs 65 = .pointer (some ((y.add (i*3)).add 2)):=hR 23 _ rfl
      have e66:vs 66 = .slice q.a q.n q.c:=hR 24 _ rfl
      have e67:vs 67 = .int .i64 ((addP (q.t,q.g) q.k L).1:Int):=(hR 25 _ rfl).1
      have e68:vs 68 = .slice (some y) n c:=hR 26 _ rfl
      have e69:vs 69 = .int .i64 (i:Int):=hR 27 _ rfl
      have e70:vs 70 = .pointer (some (y.add (i*3))):=hR 28 _ rfl
      have e71:vs 71 = .pointer (some (y.add (i*3))):=hR 29 _ rfl
      have e72:vs 72 = .int .u32 (q.t:Int):=hR 30 _ rfl
      have e73:vs 73 = .slice (some y) n c:=hR 31 _ rfl
      have e74:vs 74 = .int .i64 (i:Int):=hR 32 _ rfl
      have e75:vs 75 = .pointer (some (y.add (i*3))):=hR 33 _ rfl
      have e76:vs 76 = .pointer (some ((y.add (i*3)).add 1)):=hR 34 _ rfl
      have e77:vs 77 = .int .u16 (q.g:Int):=hR 35 _ rfl
      have e78:vs 78 = .slice (some y) n c:=hR 36 _ rfl
      have e79:vs 79 = .int .i64 (i:Int):=hR 37 _ rfl
      have e80:vs 80 = .pointer (some (y.add (i*3))):=hR 38 _ rfl
      have e81:vs 81 = .pointer (some ((y.add (i*3)).add 2)):=hR 39 _ rfl
      have e82:vs 82 = .slice q.a q.n q.c:=hR 40 _ rfl
      have e83:vs 83 = .int .i64 ((addP (q.t,q.g) q.k L).1:Int):=(hR 41 _ rfl).1
      have e84:vs 84 = .bool false:=hR 42 _ rfl
      simp only[List.map_cons,List.map_nil,List.foldl_cons,List.foldl_nil,List.length_cons,List.length_nil,List.drop_succ_cons,List.drop_zero,Act.put,List.setIfInBounds_toArray,List.set_cons_zero,List.set_cons_succ,e42,e43,e44,e45,e46,e47,e48,e49,e50,e51,e52,e53,e54,e55,e56,e57,e58,e59,e60,e61,e62,e63,e64,e65,e66,e67,e68,e69,e70,e71,e72,e73,e74,e75,e76,e77,e78,e79,e80,e81,e82,e83,e84]
      have B3:=Lib.hid hb.1
      have S3:=Lib.hid hb.2
      have T3:Hid (Two w.heap.size rg m gr (foldK [] (ks.take (i+1))) w3):=Lib.hid (by
       rw[←HS.out]
       exact⟨(hR 25 _ rfl).2,(hR 41 _ rfl).2⟩)
      clear hR hb
      go_wp2_with fail
      go_roundw
      case rel=>exact⟨i+1,HL.out,by go_num,B3.out,T3.out,S3.out,Q65.out⟩
      case measure=>simp[intOf];have:=HL.out;omega
  · obtain rfl:i=n:=by omega
    have hks:ks.take i=ks:=List.take_of_length_le (by rw[K0.out.len];exact Nat.le_refl _)
    rw[hks] at hT hq64
    have HT:=Lib.hid hT
    have HB:=Lib.hid hb
    have ST:=Lib.hid hS
    have Q64:=Lib.hid hq64
    clear hT hb hS hq64 hks hlt hi
    go_wp2_with fail
    have b6:Below wr.heap.size wr (wr.alloc (.cells #[.int .u32 2,.int .u32 (nb:Int)] 118)):=(Below.refl _ _).alloc (Nat.le_refl _) _
    have r6:RnB (wr.alloc (.cells #[.int .u32 2,.int .u32 (nb:Int)] 118)) (some ⟨wr.heap.size,0,none⟩) 1 1 [(2,nb)]:=by
     obtain⟨A,c,h1,h2,_⟩:=(RuB.one wr 2 nb).rn
     injection h1 with e1 e2 e3
     subst e1 e3
     exact h2
    refine (rd8_any nb (by have:=NB.out.2;omega) _).mono ?_
    rintro e w7 ⟨g8,v1,v2,b1,b2,rfl,hrd,hl1,hl2,hb7⟩
    have b57:=below_tr b6 hb7 b6.size
    have RD7:=Lib.hid (And.intro hrd hl1)
    have RN7:=Lib.hid (r6.ab hb7)
    have XB:Hid (x<(wr.alloc (.cells #[.int .u32 2,.int .u32 (nb:Int)] 118)).heap.size∧x<wr.heap.size):=Lib.hid (by have:=ST.out.box.lt;simp;omega)
    have S7:=Lib.hid (ST.out.ab b57)
    have R7:=Lib.hid (HT.out.1.ab b57)
    have K7:=Lib.hid S7.out.box
    have B7:=Lib.hid (below_tr HB.out b57 HB.out.size)
    obtain⟨dv,ri,lo⟩:=stageX (τ:=(0,8)) S7.out.dv R7.out GE2.out (LgB.empty (B:=w.heap.size) S7.out.lo B7.out.size) GE3.out K7.out (by decide)
    obtain⟨O7,hO7⟩:∃O7,stX w7 w.heap.size m x (0,8)=O7:=⟨_,rfl⟩
    have OL:Hid (∀k,k<w.heap.size→O7 k=(0,9)):=Lib.hid fun k hk=>by rw[←hO7];exact stX_low XL0.out hk
    have TX:Hid (O7 x=(0,8)):=Lib.hid (by rw[←hO7];exact stX_x)
    rw[hO7] at dv ri lo
    have DV:=Lib.hid dv
    have RV:=Lib.hid ri
    have LV:=Lib.hid lo
    have c1:w7.cell? ⟨x,1,none⟩=some (.pointer (some ⟨rg,0,none⟩)):=K7.out.cell (k:=1) rfl
    have c2:w7.cell? ⟨x,2,none⟩=some (.pointer (some ⟨lg,0,none⟩)):=K7.out.cell (k:=2) rfl
    clear b6 r6 hrd hl1 hl2 hb7 b57 ST HT HB S7 R7 dv ri lo hO7
    obtain⟨B6,hB6⟩:∃B6,(wr.alloc (.cells #[.int .u32 2,.int .u32 (nb:Int)] 118)).heap.size=B6:=⟨_,rfl⟩
    rw[hB6] at RD7 XB
    clear hB6
    go_wp2_with fail
    refine (new_ok (rg:=rg) (lg:=lg) DV.out RN7.out (by show nb≤4096;have:=NB.out.2;omega) RI.out.1 RI.out.2).mono ?_
    rintro e w8 ⟨p,O8,rfl,hp8,s8,hge8⟩
    have PP:Hid (0<p):=Lib.hid (by obtain⟨b,h,_⟩:=hp8;exact h.pos)
    have K8:=Lib.hid (CbB.fr K7.out s8.fr id)
    have T8:Hid (O8 x=(0,8)):=Lib.hid ((s8.tg x K7.out.lt).trans TX.out)
    have P8:=Lib.hid hp8
    have V8:=Lib.hid (DV.out.wr s8 id)
    have W8:=Lib.hid (RV.out.wr s8 id id)
    have L8:=Lib.hid (LV.out.wr s8 id)
    have S8:=Lib.hid s8
    clear hp8 s8 hge8 c1 c2 DV
    have c3:w8.cell? ⟨x,3,none⟩=some (.pointer none):=K8.out.cell (k:=3) rfl
    have f3:=K8.out.free 3
    have K9:=Lib.hid (K8.out.set 3 (.pointer (some ⟨p,0,none⟩)))
    have s9:Wr (fun τ=>τ=(0,8)) w8 O8 (w8.setCell ⟨x,3,none⟩ (.pointer (some ⟨p,0,none⟩))) O8:=⟨(fr_setD w8 x 3 _).imp fun q hq=>by rw[hq];exact T8.out,fun _ _=>rfl⟩
    have P9:=Lib.hid (P8.out.wr s9 (fun i e=>by have:=PP.out;injection e with e;omega) (fun e=>by cases e))
    have V9:=Lib.hid (V8.out.wr s9 (fun e=>by cases e))
    have W9:=Lib.hid (W8.out.wr s9 (fun e=>by cases e) (fun e=>by cases e))
    have L9:=Lib.hid (L8.out.wr s9 (fun e=>by cases e))
    have S9:=Lib.hid ((S8.out.imp (Q:=fun τ=>τ=(0,8)) fun _=>False.elim).tr s9)
    have F9:Hid (Fr w7 (w8.setCell ⟨x,3,none⟩ (.pointer (some ⟨p,0,none⟩))) (fun k=>k=x)):=Lib.hid ((S8.out.fr.imp fun k=>False.elim).trW (fr_setD w8 x 3 _))
    clear s9
    go_wp2_with fail
    obtain⟨w9,hw9⟩:∃w9,w8.setCell ⟨x,3,none⟩ (.pointer (some ⟨p,0,none⟩))=w9:=⟨_,rfl⟩
    rw[hw9] at K9 P9 V9 W9 L9 S9 F9⊢
    clear hw9 c3 f3 K8 P8 V8 S8
    refine (regsNewM (d:=d) (O:=O8) lim LIM.out).mono ?_
    rintro e wa ⟨r,Oa,rfl,hra,sa,hgea⟩
    have Ra:=Lib.hid hra
    have Va:=Lib.hid (V9.out.wr sa id)
    have Wa:=Lib.hid (W9.out.wr sa id id)
    have La:=Lib.hid (L9.out.wr sa id)
    have Pa:=Lib.hid (P9.out.wr sa (fun _=>id) id)
    have Ka:=Lib.hid (CbB.fr K9.out sa.fr id)
    have Ta:Hid (Oa x=(0,8)):=Lib.hid ((sa.tg x K9.out.lt).trans T8.out)
    have Sa:=Lib.hid (S9.out.tr (sa.imp fun _=>False.elim))
    have Fa:=Lib.hid (F9.out.trW (sa.fr.imp fun k=>False.elim))
    clear hra sa hgea K9 P9 V9 S9 F9 T8
    have c4:wa.cell? ⟨x,4,none⟩=some (.pointer none):=Ka.out.cell (k:=4) rfl
    have f4:=Ka.out.free 4
    have sb:Wr (fun τ=>τ=(0,8)) wa Oa (wa.setCell ⟨x,4,none⟩ (.pointer (some ⟨r,0,none⟩))) Oa:=⟨(fr_setD wa x 4 _).imp fun q hq=>by rw[hq];exact Ta.out,fun _ _=>rfl⟩
    have Kb:=Lib.hid (Ka.out.set 4 (.pointer (some ⟨r,0,none⟩)))
    have Vb:=Lib.hid (Va.out.wr sb (fun e=>by cases e))
    have Wb:=Lib.hid (Wa.out.wr sb (fun e=>by cases e) (fun e=>by cases e))
    have Lb:=Lib.hid (La.out.wr sb (fun e=>by cases e))
    have Pb:=Lib.hid (Pa.out.wr sb (fun i e=>by have:=PP.out;injection e with e;omega) (fun e=>by cases e))
    have Rb:=Lib.hid (Ra.out.wr sb (fun e=>by cases e))
    have Sb:=Lib.hid (Sa.out.tr sb)
    have Fb:=Lib.hid (Fa.out.trW (fr_setD wa x 4 (.pointer (some ⟨r,0,none⟩))))
    clear sb
    go_wp2_with fail
    obtain⟨wb,hwb⟩:∃wb,wa.setCell ⟨x,4,none⟩ (.pointer (some ⟨r,0,none⟩))=wb:=⟨_,rfl⟩
    rw[hwb] at Kb Pb Rb Vb Wb Lb Sb Fb⊢
    clear hwb c4 f4 Ka Pa Ra Sa Fa
    refine (rnew19_any (RD7.out.1.fr Fb.out (fun k hk=>by rw[hk];exact XB.out.1)) RD7.out.2 (by have:=NB.out.2;omega) (RN7.out.fr Fb.out (fun y hy e=>by
     injection hy with hy
     have:=XB.out.2
     rw[←hy] at e
     simp at e
     omega))).mono ?_
    rintro e wc ⟨gw,vw,rfl,hgew,hcw,hrw,hbc⟩
    have sc:Wr (fun _=>False) wb Oa wc Oa:=Wr.of hbc _ (fun _ _=>rfl)
    have Kc:=Lib.hid (Kb.out.ab hbc)
    have Vc:=Lib.hid (Vb.out.wr sc id)
    have Wc:=Lib.hid (Wb.out.wr sc id id)
    have Lc:=Lib.hid (Lb.out.wr sc id)
    have Pc:=Lib.hid (Pb.out.wr sc (fun _=>id) id)
    have Rc:=Lib.hid (Rb.out.wr sc id)
    have Sc:=Lib.hid (Sb.out.tr (sc.imp fun _=>False.elim))
    clear hgew hcw hrw hbc sc Kb Pb Rb Sb Fb
    have c5:wc.cell? ⟨x,5,none⟩=some (.pointer none):=Kc.out.cell (k:=5) rfl
    have f5:=Kc.out.free 5
    have sd:Wr (fun τ=>τ=(0,8)) wc Oa (wc.setCell ⟨x,5,none⟩ (.pointer (some ⟨gw,0,none⟩))) Oa:=⟨(fr_setD wc x 5 _).imp fun q hq=>by rw[hq];exact Ta.out,fun _ _=>rfl⟩
    have Kd:=Lib.hid (Kc.out.set 5 (.pointer (some ⟨gw,0,none⟩)))
    have Vd:=Lib.hid (Vc.out.wr sd (fun e=>by cases e))
    have Wd:=Lib.hid (Wc.out.wr sd (fun e=>by cases e) (fun e=>by cases e))
    have Ld:=Lib.hid (Lc.out.wr sd (fun e=>by cases e))
    have Pd:=Lib.hid (Pc.out.wr sd (fun i e=>by have:=PP.out;injection e with e;omega) (fun e=>by cases e))
    have Rd:=Lib.hid (Rc.out.wr sd (fun e=>by cases e))
    have Sd:=Lib.hid (Sc.out.tr sd)
    clear sd
    go_wp2_with fail
    obtain⟨wd,hwd⟩:∃wd,wc.setCell ⟨x,5,none⟩ (.pointer (some ⟨gw,0,none⟩))=wd:=⟨_,rfl⟩
    rw[hwd] at Kd Pd Rd Vd Wd Ld Sd⊢
    clear hwd c5 f5 Kc Pc Rc Sc
    refine (rnew09_nil g8 lim wd).mono ?_
    rintro e we ⟨rfl,hce,hbe⟩
    have se:Wr (fun _=>False) wd Oa we Oa:=Wr.of hbe _ (fun _ _=>rfl)
    have Ke:=Lib.hid (Kd.out.ab hbe)
    have Ve:=Lib.hid (Vd.out.wr se id)
    have We:=Lib.hid (Wd.out.wr se id id)
    have Le:=Lib.hid (Ld.out.wr se id)
    have Pe:=Lib.hid (Pd.out.wr se (fun _=>id) id)
    have Re:=Lib.hid (Rd.out.wr se id)
    have Se:=Lib.hid (Sd.out.tr (se.imp fun _=>False.elim))
    obtain⟨gv,hgv⟩:∃gv,wd.heap.size=gv:=⟨_,rfl⟩
    rw[hgv]
    clear hce hbe se Kd Pd Rd Sd hgv
    have c6:we.cell? ⟨x,6,none⟩=some (.pointer none):=Ke.out.cell (k:=6) rfl
    have f6:=Ke.out.free 6
    have sf:Wr (fun τ=>τ=(0,8)) we Oa (we.setCell ⟨x,6,none⟩ (.pointer (some ⟨gv,0,none⟩))) Oa:=⟨(fr_setD we x 6 _).imp fun q hq=>by rw[hq];exact Ta.out,fun _ _=>rfl⟩
    have Kf:=Lib.hid (Ke.out.set 6 (.pointer (some ⟨gv,0,none⟩)))
    have Vf:=Lib.hid (Ve.out.wr sf (fun e=>by cases e))
    have Wf:=Lib.hid (We.out.wr sf (fun e=>by cases e) (fun e=>by cases e))
    have Lf:=Lib.hid (Le.out.wr sf (fun e=>by cases e))
    have Pf:=Lib.hid (Pe.out.wr sf (fun i e=>by have:=PP.out;injection e with e;omega) (fun e=>by cases e))
    have Rf:=Lib.hid (Re.out.wr sf (fun e=>by cases e))
    have Sf:=Lib.hid (Se.out.tr sf)
    clear sf
    go_upto_region 19 with (fail)
    obtain⟨wf,hwf⟩:∃wf,we.setCell ⟨x,6,none⟩ (.pointer (some ⟨gv,0,none⟩))=wf:=⟨_,rfl⟩
    rw[hwf] at Kf Pf Rf Vf Wf Lf Sf⊢
    clear hwf c6 f6 Ke Pe Re Se
    have d3:wf.cell? ⟨x,3,none⟩=some (.pointer (some ⟨p,0,none⟩)):=Kf.out.cell (k:=3) rfl
    have d4:wf.cell? ⟨x,4,none⟩=some (.pointer (some ⟨r,0,none⟩)):=Kf.out.cell (k:=4) rfl
    go_quiet (fail)
    go_wp2_with fail
    go_ret2
    have bq:Below wf.heap.size wf (wf.drewN nq):=bel_drewN9 (Below.refl _ _) nq
    have sq:Wr (fun _=>False) wf Oa (wf.drewN nq) Oa:=Wr.of bq _ (fun _ _=>rfl)
    have SS:=Sf.out.tr (sq.imp fun _=>False.elim)
    have BX:Below w.heap.size w (wf.drewN nq):=SS.below B7.out B7.out.size (fun k hk h=>by rw[OL.out k hk] at h;cases h)
    exact .inr ⟨Q64.out,x,p,r,d,rg,lg,gw,gv,Oa,rfl,Kf.out.ab bq,Pf.out.wr sq (fun _=>id) id,Vf.out.wr sq id,Wf.out.wr sq id id,Lf.out.wr sq id,Rf.out.wr sq id,Ta.out,fun k hk=>(SS.tg k (Nat.lt_of_lt_of_le hk B7.out.size)).trans (OL.out k hk),BX⟩
open Go.RowKit Go.ChangeShapes Go.WideShapes
theorem fr_row (w:World) (g:Nat) (cs:Array Value):Fr w (w.setRow g cs) (fun q=>q=g):=⟨rfl,rfl,rfl,by simp,fun k _ hk=>setRow_other w g k cs hk⟩
theorem exec_allocB {P:Program} {r:Operand→Value} {o:Oper} (T:TypeId) (ho:o.op = .alloc T) (i:TypeInfo) (z:Value) (hi:P.info? T=some i) (hz:i.zero=some z) (W:World):
 (execOp r o).run P W = .ok (.value (.pointer (some ⟨W.heap.size,0,none⟩))) (W.alloc (.cells z.cells T)):=by
 unfold execOp
 simp[ho,Instr.alloc,zeroValue,typeInfo,hi,hz,newVar,go_sem]
end Go.Proofs.YtlobgddnlnffbaaGreat
