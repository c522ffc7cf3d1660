/-
  Parts of the proof, joined.
-/
import Derived.Test.YtgdhinjhbjolgaaGreatRows
import Derived.WalkKit
import Derived.WalkSpells
import Derived.WalkLawsBesides
import Derived.Lib.Hide
import Derived.Lib.SlBytesConst
import Derived.Test.YtgdhinjhbjolgaaGreatBda
import Derived.Deep.Slices
import Derived.Deep.QuietTactic
import Derived.BigQuiet
import Derived.OneCell
import Derived.Deep.RegionWith
import Derived.Test.YtgdhinjhbjolgaaGreatBdj
import Derived.Deep.LoopGhost
import Derived.Lib.ConvBytes
import Derived.Shelf.SlMaps.Clone
namespace Go.Proofs.YtgdhinjhbjolgaaGreat
set_option maxHeartbeats 4000000
open Go.RowKit
theorem three (n lo hi:Int):n<lo∨(¬n<lo∧hi<n)∨(¬n<lo∧n≤hi∧lo≤n):=by omega
theorem qR_bad (n:Int) (w:World) (h:n<1∨1000<n):
 Calls Tryz.prog 101 #[.int .i64 n] w fun e w'=>e = .returned (.tuple #[.int .i64 0,.int .i64 2])∧w=w':=by
 rcases h with h | h
 · go_enter Tryz.func101,Tryz.ntmps101
   go_wp2
   go_ret2
   exact⟨rfl,rfl⟩
 · have h0:¬n<1:=by omega
   go_enter Tryz.func101,Tryz.ntmps101
   go_wp2
   go_ret2
   exact⟨rfl,rfl⟩
theorem qR_ok (n:Int) (w:World) (h0:1≤n) (h1:n≤1000):
 Calls Tryz.prog 101 #[.int .i64 n] w fun e w'=>e = .returned (.tuple #[.int .i64 (4*n+2),.int .i64 0])∧w=w':=by
 go_enter Tryz.func101,Tryz.ntmps101
 go_wp2
 go_ret2
 exact⟨rfl,rfl⟩
theorem qD_bad (n:Int) (w:World) (h:n<0∨64<n):
 Calls Tryz.prog 99 #[.int .i64 n] w fun e w'=>e = .returned (.tuple #[.int .i64 0,.int .i64 2])∧w=w':=by
 rcases h with h | h
 · go_enter Tryz.func99,Tryz.ntmps99
   go_wp2
   go_ret2
   exact⟨rfl,rfl⟩
 · have h0:¬n<0:=by omega
   go_enter Tryz.func99,Tryz.ntmps99
   go_wp2
   go_ret2
   exact⟨rfl,rfl⟩
theorem qD_ok (n:Int) (w:World) (h0:0≤n) (h1:n≤64):
 Calls Tryz.prog 99 #[.int .i64 n] w fun e w'=>e = .returned (.tuple #[.int .i64 (8*n+4),.int .i64 0])∧w=w':=by
 go_enter Tryz.func99,Tryz.ntmps99
 go_wp2
 go_ret2
 exact⟨rfl,rfl⟩
def quotaB (n:Int):Bool:=decide (1≤n)&&decide (n≤1000)
theorem quotaB_yes {n:Int} (h0:1≤n) (h1:n≤1000):quotaB n=true:=by unfold quotaB;simp;omega
theorem quotaB_no {n:Int} (h:n<1∨1000<n):quotaB n=false:=by unfold quotaB;simp;omega
theorem rQuota_ok (n:Int) (w:World) (h0:1≤n) (h1:n≤1000):
 Calls Tryz.prog 53 #[.int .i64 n] w fun e w'=>e = .returned (.bool true)∧w=w':=by
 go_enter Tryz.func53,Tryz.ntmps53
 go_wp2
 go_ret
 exact⟨rfl,rfl⟩
theorem rQuota_bad (n:Int) (w:World) (h:n<1∨1000<n):
 Calls Tryz.prog 53 #[.int .i64 n] w fun e w'=>e = .returned (.bool false)∧w=w':=by
 rcases h with h | h
 · have h':¬1≤n:=by omega
   go_enter Tryz.func53,Tryz.ntmps53
   go_wp2
   go_ret
   exact⟨rfl,rfl⟩
 · have h':1≤n:=by omega
   have h2:decide (n≤1000)=false:=by simp;omega
   go_enter Tryz.func53,Tryz.ntmps53
   go_wp2
   go_ret
   exact⟨rfl,rfl⟩
theorem qPieces_bad (n:Int) (w:World) (h:n<0∨1024<n):
 Calls Tryz.prog 125 #[.int .i64 n] w fun e w'=>e = .returned (.tuple #[.int .i64 0,.int .i64 2])∧w=w':=by
 rcases h with h | h
 · go_enter Tryz.func125,Tryz.ntmps125
   go_wp2
   go_ret2
   exact⟨rfl,rfl⟩
 · have h0:¬n<0:=by omega
   go_enter Tryz.func125,Tryz.ntmps125
   go_wp2
   go_ret2
   exact⟨rfl,rfl⟩
def piecesOf (n:Int):Int:=if n≤64 then 0 else (n+207)/208
theorem qPieces_ok (n:Int) (w:World) (h0:0≤n) (h1:n≤1024):
 Calls Tryz.prog 125 #[.int .i64 n] w fun e w'=>e = .returned (.tuple #[.int .i64 (piecesOf n),.int .i64 0])∧w=w':=by
 by_cases h:n≤64
 · have e:piecesOf n=0:=by unfold piecesOf;rw[if_pos h]
   rw[e]
   clear e
   go_enter Tryz.func125,Tryz.ntmps125
   go_wp2
   go_ret2
   exact⟨rfl,rfl⟩
 · have e:piecesOf n=(n+208-1)/208:=by unfold piecesOf;rw[if_neg h];omega
   rw[e]
   clear e
   go_enter Tryz.func125,Tryz.ntmps125
   go_wp2
   go_ret2
   exact⟨rfl,rfl⟩
theorem qCost_ok (ka va:Option Addr) (kl kc vl vc:Nat) (w:World) (h0:1≤kl) (h1:kl≤32) (h2:vl≤1024):
 Calls Tryz.prog 111 #[.slice ka kl kc,.slice va vl vc] w fun e w'=>e = .returned (.tuple #[.int .i64 (piecesOf vl+1),.int .i64 0])∧w=w':=by
 have hp:0≤piecesOf vl∧piecesOf vl≤10:=by unfold piecesOf;split <;> omega
 have hk0:((kl:Int)==0)=false:=by simp;omega
 have hk1:decide (32<(kl:Int))=false:=by simp;omega
 go_enter Tryz.func111,Tryz.ntmps111
 go_wp2_with (go_at_call 125;refine (qPieces_ok _ _ (by omega) (by omega)).mono ?_;rintro e w' ⟨rfl,rfl⟩)
 go_ret2
 exact⟨rfl,rfl⟩
theorem qCost_long (ka va:Option Addr) (kl kc vl vc:Nat) (w:World) (h2:1024<vl):
 Calls Tryz.prog 111 #[.slice ka kl kc,.slice va vl vc] w fun e w'=>e = .returned (.tuple #[.int .i64 0,.int .i64 2])∧w=w':=by
 go_enter Tryz.func111,Tryz.ntmps111
 go_wp2_with (go_at_call 125;refine (qPieces_bad _ _ (by omega)).mono ?_;rintro e w' ⟨rfl,rfl⟩)
 go_ret2
 exact⟨rfl,rfl⟩
theorem qCost_key (ka va:Option Addr) (kl kc vl vc:Nat) (w:World) (h2:vl≤1024) (h:kl=0∨32<kl):
 Calls Tryz.prog 111 #[.slice ka kl kc,.slice va vl vc] w fun e w'=>e = .returned (.tuple #[.int .i64 0,.int .i64 2])∧w=w':=by
 rcases h with rfl | h
 · go_enter Tryz.func111,Tryz.ntmps111
   go_wp2_with (go_at_call 125;refine (qPieces_ok _ _ (by omega) (by omega)).mono ?_;rintro e w' ⟨rfl,rfl⟩)
   go_ret2
   exact⟨rfl,rfl⟩
 · have hk0:((kl:Int)==0)=false:=by simp;omega
   have hk1:decide (32<(kl:Int))=true:=by simp;omega
   go_enter Tryz.func111,Tryz.ntmps111
   go_wp2_with (go_at_call 125;refine (qPieces_ok _ _ (by omega) (by omega)).mono ?_;rintro e w' ⟨rfl,rfl⟩)
   go_ret2
   exact⟨rfl,rfl⟩
theorem infoI64:(Tryz.prog.info? 3).map (fun i=>(i.zero,i.size,i.bytes))=some (some (.int .i64 0),1,8):=by kernel_rfl
open Go.RowKit Go.Deep
set_option linter.unusedVariables false
theorem rPieces_any (n:Int) (w:World) (h0:0≤n) (h1:n≤1024):
 Calls Tryz.prog 116 #[.int .i64 n] w fun e w'=>e = .returned (.int .i64 (piecesOf n))∧w=w':=by
 by_cases h:n≤64
 · have e:piecesOf n=0:=by unfold piecesOf;rw[if_pos h]
   rw[e]
   clear e
   go_enter Tryz.func116,Tryz.ntmps116
   go_wp2
   go_ret
   exact⟨rfl,rfl⟩
 · have e:piecesOf n=(n+207)/208:=by unfold piecesOf;rw[if_neg h]
   rw[e]
   clear e
   go_enter Tryz.func116,Tryz.ntmps116
   go_wp2
   go_loop [0,3] (fun m k=>∃j:Int,0≤j∧j≤10∧k = .int .i64 j∧m = .int .i64 (n-208*j)∧-208<n-208*j) (fun m _=>(intOf m+208).toNat)
   case atStart=>exact⟨0,by omega,by omega,rfl,by simp,by omega⟩
   case round=>
    obtain⟨j,hj0,hj1,rfl,rfl,hj2⟩:=hrel
    by_cases hlt:0<n-208*j
    · go_wp2
      go_round
      case rel=>exact⟨j+1,by omega,by omega,rfl,by rw[show n-208*(j+1)=n-208*j-208 from by omega],by omega⟩
      case measure=>simp[intOf];omega
    · have hle:n-208*j≤0:=by omega
      go_wp2
      go_ret
      refine⟨?_,rfl⟩
      show Ending.returned (Value.int .i64 j)=_
      rw[show (n+207)/208=j from by omega]
theorem cost_comm (n:Int):Ending.returned (.tuple #[.int .i64 (1+n),.int .i64 0]) = .returned (.tuple #[.int .i64 (n+1),.int .i64 0]):=by rw[Int.add_comm]
def costN (kl vl:Nat):Int:=if 1≤kl∧kl≤32∧vl≤1024 then piecesOf vl+1 else 0
def costE (kl vl:Nat):Int:=if 1≤kl∧kl≤32∧vl≤1024 then 0 else 2
theorem costN_bd (kl vl:Nat):0≤costN kl vl∧costN kl vl≤11:=by
 unfold costN
 split
 · unfold piecesOf;split <;> omega
 · omega
theorem qCost_any (ka va:Option Addr) (kl kc vl vc:Nat) (w:World):
 Calls Tryz.prog 111 #[.slice ka kl kc,.slice va vl vc] w fun e w'=>e = .returned (.tuple #[.int .i64 (costN kl vl),.int .i64 (costE kl vl)])∧w=w':=by
 unfold costN costE
 by_cases hv:vl≤1024
 · by_cases hk:1≤kl∧kl≤32
   · rw[if_pos ⟨hk.1,hk.2,hv⟩,if_pos ⟨hk.1,hk.2,hv⟩]
     exact qCost_ok ka va kl kc vl vc w hk.1 hk.2 hv
   · rw[if_neg (by omega),if_neg (by omega)]
     exact qCost_key ka va kl kc vl vc w hv (by omega)
 · rw[if_neg (by omega),if_neg (by omega)]
   exact qCost_long ka va kl kc vl vc w (by omega)
theorem rCost_any (ka va:Option Addr) (kl kc vl vc:Nat) (w:World):
 Calls Tryz.prog 93 #[.slice ka kl kc,.slice va vl vc] w fun e w'=>e = .returned (.tuple #[.int .i64 (costN kl vl),.int .i64 (costE kl vl)])∧w=w':=by
 unfold costN costE
 by_cases hk1:kl<1
 · rw[if_neg (by omega),if_neg (by omega)]
   have t1:decide ((kl:Int)<1)=true:=by simp;omega
   go_enter Tryz.func93,Tryz.ntmps93
   go_wp2
   go_ret2
   exact⟨rfl,rfl⟩
 · by_cases hk2:32<kl
   · rw[if_neg (by omega),if_neg (by omega)]
     have t1:decide ((kl:Int)<1)=false:=by simp;omega
     have t2:decide (32<(kl:Int))=true:=by simp;omega
     go_enter Tryz.func93,Tryz.ntmps93
     go_wp2
     go_ret2
     exact⟨rfl,rfl⟩
   · have t1:decide ((kl:Int)<1)=false:=by simp;omega
     have t2:decide (32<(kl:Int))=false:=by simp;omega
     by_cases hv:1024<vl
     · rw[if_neg (by omega),if_neg (by omega)]
       have t3:decide (1024<(vl:Int))=true:=by simp;omega
       go_enter Tryz.func93,Tryz.ntmps93
       go_wp2
       go_ret2
       exact⟨rfl,rfl⟩
     · rw[if_pos (by omega),if_pos (by omega)]
       have t3:decide (1024<(vl:Int))=false:=by simp;omega
       have hp:0≤piecesOf vl∧piecesOf vl≤10:=by unfold piecesOf;split <;> omega
       go_enter Tryz.func93,Tryz.ntmps93
       go_wp2_with (go_at_call 116;refine (rPieces_any _ _ (by omega) (by omega)).mono ?_;rintro e w' ⟨rfl,rfl⟩)
       go_ret2
       exact⟨cost_comm _,rfl⟩
def One (w:World) (b:Nat) (v:Int):Prop:=w.heap[b]? = some (.cells #[.int .i64 v] 3 (0,0))
theorem One.cell {w:World} {b:Nat} {v:Int} (h:One w b v):w.cell? ⟨b,0,none⟩=some (.int .i64 v):=cell_of_one h
theorem One.free {w:World} {b:Nat} {v:Int} (h:One w b v):w.frozen? ⟨b,0,none⟩=false:=free_of_one h
theorem One.set {w:World} {b:Nat} {v:Int} (h:One w b v) (u:Int):One (w.setCell ⟨b,0,none⟩ (.int .i64 u)) b u:=one_setCell h
theorem One.far {w:World} {b c:Nat} {v:Int} (h:One w b v) (hne:b≠c) (u:Value):One (w.setCell ⟨c,0,none⟩ u) b v:=(Below.heap_setCell w ⟨c,0,none⟩ u b hne).trans h
def AddEnd (w:World) (bh bl:Nat) (h l n:Int) (e:Ending) (w':World):Prop:=
 e = .returned (.tuple #[])∧One w' bh (h+n/4294967296+(l+n%4294967296)/4294967296)∧One w' bl ((l+n)%4294967296)∧∀B,B≤bh→B≤bl→Below B w w'
theorem i64_mask32 (n:Int):bits .and .i64 n 4294967295=n%4294967296:=by
 have h127:(BitVec.ofInt 64 4294967295).toNat=2 ^ 32-1:=by decide
 have key:(BitVec.ofInt 64 n &&& BitVec.ofInt 64 4294967295).toNat=(n%((2 ^ 64:Nat):Int)).toNat%2 ^ 32:=by
  rw[BitVec.toNat_and,BitVec.toNat_ofInt,h127,Nat.and_two_pow_sub_one_eq_mod]
 show IntKind.i64.wrap ((BitVec.ofInt 64 n &&& BitVec.ofInt 64 4294967295).toNat:Nat)=n%4294967296
 rw[key,IntKind.wrap_i64]
 omega
theorem qadd_any (bh bl:Nat) (hne:bh≠bl) (h l n:Int) (w:World) (h1:One w bh h) (h2:One w bl l) (hb:-4611686018427387904≤h∧h≤4611686018427387904) (lb:0≤l∧l≤4294967295) (nb:-9223372036854775807-1≤n∧n≤9223372036854775807):
 Calls Tryz.prog 110 #[.int .i64 n,.pointer (some ⟨bh,0,none⟩),.pointer (some ⟨bl,0,none⟩)] w (AddEnd w bh bl h l n):=by
 have c1:=h1.cell
 have c2:=h2.cell
 have f1:=h1.free
 have f2:=h2.free
 have hne':bl≠bh:=fun e=>hne e.symm
 have H1:=zz h1
 have H2:=zz h2
 have hmask:=i64_mask32
 clear h1 h2
 go_enter Tryz.func110,Tryz.ntmps110
 go_wp2
 go_end0
 refine⟨rfl,?_,?_,fun B hB1 hB2=>?_⟩
 · exact ((((H1.out.set _).far hne _).set _).far hne _)
 · exact ((((H2.out.far hne' _).set _).far hne' _).set _)
 · exact ((((Below.refl _ _).setCell hB1 _).setCell hB2 _).setCell hB1 _).setCell hB2 _
def sumS (zs:List Int):Int:=(zs.map (· + 1)).sum
theorem sumS_take_succ (zs:List Int) (k:Nat) (h:k<zs.length):sumS (zs.take (k+1))=sumS (zs.take k)+(zs[k]?.getD 0+1):=by
 rw[List.take_succ_eq_append_getElem h,List.getElem?_eq_getElem h]
 simp only[sumS,List.map_append,List.sum_append,List.map_cons,List.map_nil,List.sum_cons,List.sum_nil,Option.getD_some]
 omega
theorem wf_at {zs:List Int} (hw:∀z∈zs,(Lit.int .i64 z).wf=true) (k:Nat):-9223372036854775807-1≤zs[k]?.getD 0∧zs[k]?.getD 0≤9223372036854775807:=by
 cases h:zs[k]? with
 | none=>simp
 | some z=>
   have:=bounds_i64 (hw z (List.mem_of_getElem? h))
   simp
   omega
def overB (q charge:Int) (zs:List Int):Bool:=decide (q<charge+sumS zs)
def OverSt (w0:World) (B bh bl:Nat) (charge:Int) (zs:List Int) (k:Nat) (w:World):Prop:=
 ∃ h l:Int,One w bh h∧One w bl l∧0≤l∧l≤4294967295∧h*4294967296+l=charge+sumS (zs.take k)∧
   -(4294967296*(2*(k:Int)+1))≤h∧h≤4294967296*(2*(k:Int)+1)∧Below B w0 w
theorem overSt_below {w0:World} {B bh bl:Nat} {charge:Int} {zs:List Int} {k:Nat} {w:World} (h:OverSt w0 B bh bl charge zs k w):Below B w0 w:=by
 obtain⟨_,_,_,_,_,_,_,_,_,hb⟩:=h
 exact hb
theorem overSt_start {w0 w1:World} {B bh bl:Nat} {charge:Int} {zs:List Int} (h1:One w1 bh (0+charge/4294967296+(0+charge%4294967296)/4294967296)) (h2:One w1 bl ((0+charge)%4294967296))
 (hc:-9223372036854775807-1≤charge∧charge≤9223372036854775807) (hb:Below B w0 w1):OverSt w0 B bh bl charge zs 0 w1:=
 ⟨_,_,h1,h2,by omega,by omega,by simp[sumS];omega,by omega,by omega,hb⟩
theorem overSt_step {w0 w3:World} {B bh bl:Nat} {charge h l z:Int} {zs:List Int} {k:Nat}
 (h1:One w3 bh ((h+z/4294967296+(l+z%4294967296)/4294967296)+1/4294967296+((l+z)%4294967296+1%4294967296)/4294967296)) (h2:One w3 bl (((l+z)%4294967296+1)%4294967296))
 (hs:sumS (zs.take (k+1))=sumS (zs.take k)+(z+1)) (p5:h*4294967296+l=charge+sumS (zs.take k)) (p3:0≤l) (p4:l≤4294967295)
 (p6:-(4294967296*(2*(k:Int)+1))≤h) (p7:h≤4294967296*(2*(k:Int)+1)) (hz:-9223372036854775807-1≤z∧z≤9223372036854775807) (hb:Below B w0 w3):OverSt w0 B bh bl charge zs (k+1) w3:=
 ⟨_,_,h1,h2,by omega,by omega,by rw[hs];omega,by omega,by omega,hb⟩
theorem over_high {q charge h l:Int} {zs:List Int} (p5:h*4294967296+l=charge+sumS zs) (p3:0≤l) (p4:l≤4294967295) (hne:(h != q/4294967296)=true):
 Ending.returned (.bool (decide (q/4294967296<h))) = .returned (.bool (overB q charge zs)):=by
 have hne':h≠q/4294967296:=by simpa using hne
 have e:(q/4294967296<h)↔(q<charge+sumS zs):=by omega
 unfold overB
 rw[decide_eq_decide.2 e]
theorem over_low {q charge h l:Int} {zs:List Int} (p5:h*4294967296+l=charge+sumS zs) (p3:0≤l) (p4:l≤4294967295) (hne:(h != q/4294967296)=false):
 Ending.returned (.bool (decide (q%4294967296<l))) = .returned (.bool (overB q charge zs)):=by
 have hne':h=q/4294967296:=by simpa using hne
 have e:(q%4294967296<l)↔(q<charge+sumS zs):=by omega
 unfold overB
 rw[decide_eq_decide.2 e]
theorem qOver_any (q charge:Int) (A:Option Addr) (n c:Nat) (zs:List Int) (w:World) (h:IsRow .i64 w A n c zs) (hn:n≤100000) (hq:-9223372036854775807-1≤q∧q≤9223372036854775807) (hc:-9223372036854775807-1≤charge∧charge≤9223372036854775807):
 Calls Tryz.prog 81 #[.int .i64 q,.int .i64 charge,.slice A n c] w fun e w'=>e = .returned (.bool (overB q charge zs))∧Below w.heap.size w w':=by
 have hlen:=h.len
 have hcap:=h.capMax
 have hlc:=h.lenCap
 have HWF:=zz h.wf
 have H:=zz h
 have HL:=zz hlen
 clear h hlen
 have o1:One ((w.alloc (.cells #[.int .i64 0] 3)).alloc (.cells #[.int .i64 0] 3)) w.heap.size 0:=(Below.heap_alloc _ _ _ (by simp)).trans (heap_alloc_new w _)
 have o2:One ((w.alloc (.cells #[.int .i64 0] 3)).alloc (.cells #[.int .i64 0] 3)) (w.heap.size+1) 0:=by
  have h1:=heap_alloc_new (w.alloc (.cells #[.int .i64 0] 3)) (.cells #[.int .i64 0] 3)
  have h2:(w.alloc (.cells #[.int .i64 0] 3)).heap.size=w.heap.size+1:=by simp
  rw[h2] at h1
  exact h1
 have b1:Below w.heap.size w ((w.alloc (.cells #[.int .i64 0] 3)).alloc (.cells #[.int .i64 0] 3)):=alB.alloc (by simp) _
 have O1:=zz o1
 have O2:=zz o2
 have B1:=zz b1
 clear o1 o2 b1
 go_enter Tryz.func81,Tryz.ntmps81
 go_wp2_with fail
 refine (qadd_any _ _ (by omega) 0 0 charge _ O1.out O2.out (by omega) (by omega) hc).mono ?_
 rintro e w1 ⟨rfl,ho1,ho2,hb⟩
 have hst:OverSt w w.heap.size w.heap.size (w.heap.size+1) charge zs 0 w1:=overSt_start ho1 ho2 hc (B1.out.trans (hb _ (Nat.le_refl _) (by omega)))
 have HST:=zz hst
 clear ho1 ho2 hb hst
 go_wp2_with fail
 go_loopw [19] (fun i wr=>∃k:Nat,k≤n∧i = .int .i64 k∧OverSt w w.heap.size w.heap.size (w.heap.size+1) charge zs k wr) (fun i _=>n-(intOf i).toNat)
 case atStart=>exact⟨0,Nat.zero_le _,rfl,HST.out⟩
 case round=>
  obtain⟨k,hk,rfl,hst⟩:=hrel
  by_cases hlt:k<n
  · obtain⟨x,rfl,-,hx⟩:=(H.out.below (overSt_below hst)).at (by omega)
    have hck:=hx k hlt
    have e0:zs.getD k 0=zs[k]?.getD 0:=by simp[List.getD]
    rw[e0] at hck
    have hzb:=wf_at HWF.out k
    have hs:=sumS_take_succ zs k (by rw[HL.out];exact hlt)
    obtain⟨h,l,p1,p2,p3,p4,p5,p6,p7,p8⟩:=hst
    clear e0 hx
    generalize zs[k]?.getD 0=z at hck hzb hs
    have HS:=zz hs
    have P1:=zz p1
    have P2:=zz p2
    have P5:=zz p5
    have P8:=zz p8
    clear hs p1 p2 p5 p8
    go_wp2_with fail
    refine (qadd_any _ _ (by omega) h l z _ P1.out P2.out (by omega) (by omega) hzb).mono ?_
    rintro e w2 ⟨rfl,ho1,ho2,hb⟩
    have Q1:=zz ho1
    have Q2:=zz ho2
    have QB:=zz (hb w.heap.size (Nat.le_refl _) (by omega))
    clear ho1 ho2 hb
    go_wp2_with fail
    refine (qadd_any _ _ (by omega) _ _ 1 _ Q1.out Q2.out (by omega) (by omega) (by omega)).mono ?_
    rintro e w3 ⟨rfl,ho1,ho2,hb⟩
    have hst':OverSt w w.heap.size w.heap.size (w.heap.size+1) charge zs (k+1) w3:=overSt_step ho1 ho2 HS.out P5.out p3 p4 p6 p7 hzb ((P8.out.trans QB.out).trans (hb _ (Nat.le_refl _) (by omega)))
    have HST':=zz hst'
    clear ho1 ho2 hb hst'
    go_wp2
    go_roundw
    case rel=>exact⟨k+1,by omega,by go_num,HST'.out⟩
    case measure=>simp[intOf];omega
  · obtain⟨h,l,p1,p2,p3,p4,p5,p6,p7,p8⟩:=hst
    have e1:zs.take k=zs:=List.take_of_length_le (by rw[HL.out];omega)
    rw[e1] at p5
    have c1:=p1.cell
    have c2:=p2.cell
    have hmask:=i64_mask32
    have P5:=zz p5
    have P8:=zz p8
    clear p1 p2 p5 p8 e1
    go_wp2
    all_goals go_ret
    · exact⟨over_high P5.out p3 p4 ‹_›,P8.out⟩
    · exact⟨over_low P5.out p3 p4 ‹_›,P8.out⟩
set_option linter.unusedSimpArgs false
def chg (l:Bk2):Int:=(l.map fun p=>costN p.1.length p.2.length).sum
def cvl (v:Value):Nat:=match v with | .slice _ n _=>n | _=>0
def chgE (d:List (Ky×Value)):Int:=(d.map fun p=>costN p.1.length (cvl p.2)).sum
theorem chgE_snoc (d:List (Ky×Value)) (p:Ky×Value):chgE (d++[p])=chgE d+costN p.1.length (cvl p.2):=by simp[chgE]
theorem sum_perm {a b:List Int} (h:a.Perm b):a.sum=b.sum:=by
 induction h with
 | nil=>rfl
 | cons x _ ih=>simp[ih]
 | swap x y l=>simp only[List.sum_cons];omega
 | trans _ _ h1 h2=>exact h1.trans h2
theorem chgE_bd:∀d:List (Ky×Value),0≤chgE d∧chgE d≤11*(d.length:Int)
 | []=>by simp[chgE]
 | p::r=>by
   have h1:=chgE_bd r
   have h2:=costN_bd p.1.length (cvl p.2)
   have h3:chgE (p::r)=costN p.1.length (cvl p.2)+chgE r:=by simp[chgE]
   rw[h3,List.length_cons]
   omega
section
variable {w:World} {O:Tg}
theorem ImB.len {v:Value} {l:List Nat} (h:ImB w O v l):cvl v=l.length:=by
 obtain⟨A,n,c,rfl,h0,h1,_⟩:=h
 exact h1.len.symm
theorem BvL.chg:∀{es:List (Ky×Value)} {l:Bk2},BvL w O es l→chgE es=chg l
 | [],[],_=>rfl
 | p::ps,q::qs,h=>by
   have ih:=BvL.chg h.2
   unfold chgE Go.Proofs.YtgdhinjhbjolgaaGreat.chg at ih⊢
   rw[List.map_cons,List.map_cons,List.sum_cons,List.sum_cons,ih,h.1.1,h.1.2.len]
 | [],_::_,h=>h.elim
 | _::_,[],h=>h.elim
theorem BvL.mem {p:Ky×Value}:∀{es:List (Ky×Value)} {l:Bk2},BvL w O es l→p∈es→∃u,ImB w O p.2 u
 | q::ps,r::qs,h,hp=>by
   rcases List.mem_cons.1 hp with rfl | hp
   · exact⟨_,h.1.2⟩
   · exact BvL.mem h.2 hp
 | [],[],_,hp=>by cases hp
 | [],_::_,h,_=>h.elim
 | _::_,[],h,_=>h.elim
end
theorem all_perm {κ:Type} {d es:List (κ×Value)} (hd:(d.map (·.1)).Nodup) (he:(es.map (·.1)).Nodup) (h1:∀p∈d,p∈es) (h2:∀p∈es,p∈d):d.Perm es:=
 (List.perm_ext_iff_of_nodup (pairs_nodup hd) (pairs_nodup he)).2 fun p=>⟨h1 p,h2 p⟩
theorem below_bytes (w:World) (e:TypeId) (s:ByteArray):Below w.heap.size w (Lib.bytesWorld w e s):=
 ⟨rfl,rfl,rfl,by rw[Lib.bytesWorld_size];omega,fun k hk=>Lib.bytesWorld_at_old w e s k hk⟩
theorem str_bytes (w:World) (k:Ky):∃cap w',(convert 9 32 (.string ⟨k.toArray⟩)).run Tryz.prog w = .ok (.slice (some ⟨w.heap.size,0,none⟩) k.length cap) w'∧Below w.heap.size w w'∧w'.heap.size=w.heap.size+1:=by
 have h:=Lib.run_convert_string_bytes (P:=Tryz.prog) w 9 32 5 ⟨k.toArray⟩ Tryz.underlying9 Tryz.underlying32 Tryz.underlying5
 have hs:(⟨k.toArray⟩:ByteArray).size=k.length:=by show k.toArray.size=k.length;simp
 rw[hs] at h
 exact⟨_,_,h,below_bytes _ _ _,Lib.bytesWorld_size _ _ _⟩
set_option maxRecDepth 100000 in
theorem charge_any (b:Nat) (S:Bk2) (w:World) (O:Tg) (h:BokB w O b S) (hl:S.length≤100000):
 Calls Tryz.prog 82 #[.map (some b)] w fun e w'=>e = .returned (.int .i64 (chg S))∧Below w.heap.size w w':=by
 obtain⟨es,l,hm,hv,hp⟩:=h
 have CE:Hid (chgE es=chg S):=zz (hv.chg.trans (sum_perm (hp.map _)))
 have EN:Hid (es.length≤100000):=zz (by rw[hv.len,hp.length_eq];exact hl)
 have ND:=zz (hm.nodup ky_K)
 have M0:=zz hm
 have HV:=zz hv
 clear hm hv hp hl
 go_enter Tryz.func82,Tryz.ntmps82
 go_wp2_with (first
  | (refine wpList_mapRange rfl (.tmp 8) rfl Tryz.underlying67 rfl M0.out ?_
     intro w1 r1 b1 s1
     have R1:=zz r1
     have B1:=zz b1
     clear r1 b1 s1
     simp[Act.put]))
 go_loopg [3] (es.length) (fun k z wr=>∃d,es.length-d.length≤k∧RngB encStr kyOk wr b w.heap.size es d∧z = .int .i64 (chgE d)∧Below w.heap.size w wr∧w.heap.size<wr.heap.size)
 case atStart=>exact⟨[],by simp,R1.out,rfl,B1.out,R1.out.lt⟩
 case round=>
  obtain⟨d,hk,hr,rfl,hb,hs⟩:=hrel
  have HK:=zz hk
  have NB:=zz hb
  have NS:=zz hs
  have DL:Hid (d.length≤100000):=zz (by have:=hr.len_le;have:=EN.out;omega)
  have CB:=zz (chgE_bd d)
  rcases hr.next ky_K 0 with ⟨hall,hrun⟩ | ⟨p,w2,hp,hd,hrun,hr2,hg2,hs2,hent,hbel⟩
  · have GO:Hid (chgE d=chg S):=zz (by
     rw[←CE.out]
     obtain⟨_,_,_,_,_,_,_,_,_,_,_,_,_,_,hsub,hnd⟩:=hr
     exact sum_perm ((all_perm hnd ND.out hsub hall).map _))
    clear hk hr hb hs hall
    go_wp2_with fail
    go_ret
    exact⟨by rw[←GO.out];rfl,NB.out⟩
  · obtain⟨u,hu⟩:=HV.out.mem hp
    obtain⟨pk,pv⟩:=p
    obtain⟨A,n,c,rfl,hn,_⟩:=hu
    simp only[encStr] at hrun hent
    have HN:=zz hr2
    have HM:Hid (d.length<es.length):=zz (by have:=hr2.len_le;simp at this;omega)
    have B2:=zz (hbel _ _ hb (Nat.le_refl _))
    have S2:Hid (w.heap.size<w2.heap.size):=zz (by rw[hs2];exact hs)
    clear hk hr hb hs hp hd hr2 hg2 hs2 hbel
    go_wp2_with fail
    obtain⟨cap,w3,hcv,b3,_⟩:=str_bytes w2 pk
    rw[hcv]
    have B3:=zz (below_tr B2.out b3 (Nat.le_of_lt S2.out))
    have N3:=zz (HN.out.ab b3)
    have S3:Hid (w.heap.size<w3.heap.size):=zz (Nat.lt_of_lt_of_le S2.out b3.size)
    clear hcv b3
    have HC:=zz (qCost_any (some ⟨w2.heap.size,0,none⟩) A pk.length cap n c w3)
    have CN:=zz (costN_bd pk.length n)
    have CS:Hid (chgE (d++[(pk,Value.slice A n c)])=chgE d+costN pk.length n):=zz (chgE_snoc d _)
    go_wp2_with fail
    refine HC.out.mono ?_
    rintro e w4 ⟨rfl,rfl⟩
    have k0:=CN.out
    have k1:=CB.out
    have k2:=DL.out
    have ksum:IntKind.i64.wrap (chgE d+costN pk.length n)=chgE d+costN pk.length n:=by
     rw[IntKind.wrap_i64];omega
    go_wp2_with fail
    go_roundg (es.length-(d.length+1))
    case measure=>have:=HM.out;have:=HK.out;omega
    case rel=>exact⟨d++[(pk,.slice A n c)],by simp,N3.out,by rw[CS.out],B3.out,S3.out⟩
def cs1 (sn:List (Bk2×Bool)) (x:Nat):Int:=match sn[x-1]? with | some p=>chg p.1 | none=>0
def liveC (sn:List (Bk2×Bool)):List Int:=(sn.filter fun p=>!p.2).map fun p=>chg p.1
def liveK:Nat→List (Bk2×Bool)→List Nat
 | _,[]=>[]
 | k,p::r=>bif p.2 then liveK (k+1) r else (k+1)::liveK (k+1) r
theorem liveK_mem {x:Nat}:∀{sn:List (Bk2×Bool)} {k:Nat},x∈liveK k sn↔∃i S,sn[i]? = some (S,false)∧x=k+i+1
 | [],k=>by simp[liveK]
 | (S, g)::r,k=>by
   unfold liveK
   cases g with
   | true=>
     simp only[cond_true]
     rw[liveK_mem]
     constructor
     · rintro ⟨i,S',h1,h2⟩;exact⟨i+1,S',by simpa using h1,by omega⟩
     · rintro ⟨i,S',h1,h2⟩
       cases i with
       | zero=>simp at h1
       | succ i=>exact⟨i,S',by simpa using h1,by omega⟩
   | false=>
     simp only[cond_false,List.mem_cons]
     rw[liveK_mem]
     constructor
     · rintro (rfl | ⟨i,S',h1,h2⟩)
       · exact⟨0,S,rfl,rfl⟩
       · exact⟨i+1,S',by simpa using h1,by omega⟩
     · rintro ⟨i,S',h1,h2⟩
       cases i with
       | zero=>exact .inl h2
       | succ i=>exact .inr ⟨i,S',by simpa using h1,by omega⟩
theorem liveK_nodup:∀(sn:List (Bk2×Bool)) (k:Nat),(liveK k sn).Nodup
 | [],k=>by simp[liveK]
 | (S,g)::r,k=>by
   unfold liveK
   cases g with
   | true=>exact liveK_nodup r (k+1)
   | false=>
     refine List.nodup_cons.2 ⟨fun h=>?_,liveK_nodup r (k+1)⟩
     obtain⟨i,S',h1,h2⟩:=liveK_mem.1 h
     omega
theorem liveK_cost (sn:List (Bk2×Bool)):∀(r pre:List (Bk2×Bool)),sn=pre++r→(liveK pre.length r).map (cs1 sn)=liveC r
 | [],pre,_=>rfl
 | (S, g)::r,pre,h=>by
   have ih:=liveK_cost sn r (pre++[(S,g)]) (by rw[h,List.append_assoc];rfl)
   rw[List.length_append,List.length_singleton] at ih
   unfold liveK liveC
   cases g with
   | true=>exact ih
   | false=>
     simp only[cond_false,List.map_cons]
     rw[ih]
     have e:cs1 sn (pre.length+1)=chg S:=by
      unfold cs1
      rw[Nat.add_sub_cancel,h,List.getElem?_append_right (Nat.le_refl _),Nat.sub_self]
      rfl
     rw[e]
     rfl
theorem SnB.perm {w:World} {O:Tg} {es:List (Nat×Value)} {sn:List (Bk2×Bool)} (h:SnB w O es sn) (hn:(es.map (·.1)).Nodup):(es.map fun p=>cs1 sn p.1).Perm (liveC sn):=by
 have h1:(es.map (·.1)).Perm (liveK 0 sn):=(List.perm_ext_iff_of_nodup hn (liveK_nodup sn 0)).2 fun x=>by
  rw[liveK_mem]
  constructor
  · intro hx
    obtain⟨p,hp,rfl⟩:=List.mem_map.1 hx
    obtain⟨i,S,nb,e1,e2,_⟩:=h.fwd p hp
    exact⟨i,S,e2,by omega⟩
  · rintro ⟨i,S,e1,rfl⟩
    have:=h.bwd i S e1
    cases hl:lookL (i+1) es with
    | none=>rw[hl] at this;cases this
    | some v=>exact List.mem_map.2 ⟨_,lookL_mem hl,by simp⟩
 have h2:=h1.map (cs1 sn)
 rw[List.map_map] at h2
 rw[←liveK_cost sn sn [] rfl]
 exact h2
def OwI (w:World) (B:Nat) (v:Value) (zs:List Int):Prop:=w.ownsRow B 3 1 v zs.length (zs.map (Value.int .i64))
theorem chg_bd (S:Bk2):0≤chg S∧chg S≤11*(S.length:Int):=by
 induction S with
 | nil=>simp[chg]
 | cons p r ih=>
   have h2:=costN_bd p.1.length p.2.length
   have h3:chg (p::r)=costN p.1.length p.2.length+chg r:=by simp[chg]
   rw[h3,List.length_cons]
   omega
theorem own_notMapI {w:World} {B m:Nat} {v:Value} {xs:List Value} {n s:Nat} {e:TypeId} {es:Array MapEntry} {c:Nat} (h:w.ownsRow B e s v n xs) (hm:w.heap[m]? = some (.map es c)):v.ownBlock≠some m:=by
 rcases h.2 with ⟨rfl,_⟩ | ⟨g,cap,cur,rfl,_,hb,_⟩
 · simp[Value.ownBlock]
 · intro e
   simp only[Value.ownBlock,Option.some.injEq] at e
   subst e
   rw[hb] at hm
   cases hm
theorem own_notIter {w:World} {B b r:Nat} {v:Value} {xs:List Value} {n s:Nat} {e:TypeId} {κ:Type} {kv:κ→Value} {ok:κ→Prop} {l d:List (κ×Value)} (h:w.ownsRow B e s v n xs) (hr:RngB kv ok w b r l d):v.ownBlock≠some r:=by
 obtain⟨es,clock,since,seen,c0,h1,h2,h3,h4,h5,_⟩:=hr
 rcases h.2 with ⟨rfl,_⟩ | ⟨g,cap,cur,rfl,_,hb,_⟩
 · simp[Value.ownBlock]
 · intro e
   simp only[Value.ownBlock,Option.some.injEq] at e
   subst e
   rw[hb] at h5
   cases h5
set_option maxRecDepth 100000 in
theorem snapped_any {w:World} {O:Tg} {s b cb sm nb:Nat} {mo:Option Nat} {t:TnP} {es:List (Nat×Value)} (hx:TnM w O s b t cb mo sm nb es) (hl:∀p∈t.sn,p.1.length≤100000) (hn:t.sn.length≤100000):
 Calls Tryz.prog 83 #[.pointer (some ⟨b,0,none⟩)] w fun e w'=>∃v zs,e = .returned v∧OwI w' w.heap.size v zs∧zs.Perm (liveC t.sn)∧Below w.heap.size w w':=by
 have d4:=hx.box.cell (k:=4) rfl
 have ND:=hx.snm.nodup u64_K
 have PM:=zz (hx.sns.perm ND)
 have EN:Hid (es.length≤100000):=zz (by
  have h1:=(hx.sns.perm ND).length_eq
  have h2:(liveC t.sn).length≤t.sn.length:=by unfold liveC;rw[List.length_map];exact List.length_filter_le _ _
  rw[List.length_map] at h1
  omega)
 have M0:=zz hx.snm
 have HS:=zz hx.sns
 have HL:=zz hl
 have NDH:=zz ND
 clear hx hl hn ND
 go_enter Tryz.func83,Tryz.ntmps83
 go_wp2_with (first
  | (refine wpList_mapRange rfl (.tmp 9) rfl Tryz.underlying69 rfl M0.out ?_
     intro w1 r1 b1 s1
     have R1:=zz r1
     have B1:=zz b1
     clear r1 b1 s1
     simp[Act.put]))
 go_loopg [3] (es.length) (fun k z wr=>∃d,es.length-d.length≤k∧RngB u64V u64Ok wr sm w.heap.size es d∧OwI wr w.heap.size z (d.map fun p=>cs1 t.sn p.1)∧Below w.heap.size w wr∧w.heap.size<wr.heap.size)
 case atStart=>exact⟨[],by simp,R1.out,World.ownsRow_nil _ _ _ _,B1.out,R1.out.lt⟩
 case round=>
  obtain⟨d,hk,hr,ho,hb,hs⟩:=hrel
  have HK:=zz hk
  have NB:=zz hb
  have NS:=zz hs
  have NO:=zz ho
  have DL:Hid (d.length≤100000):=zz (by have:=hr.len_le;have:=EN.out;omega)
  have RNE:=zz (own_notIter ho hr)
  rcases hr.next u64_K 0 with ⟨hall,hrun⟩ | ⟨p,w2,hp,hd,hrun,hr2,hg2,hs2,hent,hbel⟩
  · have GO:Hid ((d.map fun p=>cs1 t.sn p.1).Perm (liveC t.sn)):=zz (by
     obtain⟨_,_,_,_,_,_,_,_,_,_,_,_,_,_,hsub,hnd⟩:=hr
     exact ((all_perm hnd NDH.out hsub hall).map _).trans PM.out)
    clear hk hr hb hs hall ho
    go_wp2_with fail
    go_ret
    exact⟨_,_,rfl,NO.out,GO.out,NB.out⟩
  · obtain⟨i,S,kb,h1,h2,h3,h4,h5⟩:=HS.out.fwd p hp
    obtain⟨pk,pv⟩:=p
    simp only at h1 h3
    subst h3
    simp only[u64V] at hrun hent
    have hb2:=hbel _ _ hb (Nat.le_refl _)
    have HN:=zz hr2
    have HM:Hid (d.length<es.length):=zz (by have:=hr2.len_le;simp at this;omega)
    have B2:=zz hb2
    have S2:Hid (w.heap.size<w2.heap.size):=zz (by rw[hs2];exact hs)
    have O2:Hid (OwI w2 w.heap.size u3 (d.map fun p=>cs1 t.sn p.1)):=zz (ho.kept hg2 (.inr RNE.out))
    have HC:=zz (charge_any kb S w2 O (h4.stp h5 (Stp.of hb2 (fun _=>False) fun _ _=>rfl)) (HL.out _ (List.mem_of_getElem? h2)))
    have CS:Hid (cs1 t.sn pk=chg S):=zz (by unfold cs1;rw[h1,Nat.add_sub_cancel,h2])
    have CB:=zz (chg_bd S)
    have SL:=zz (HL.out _ (List.mem_of_getElem? h2))
    clear hk hr hb hs hp hd hr2 hg2 hs2 hbel ho h4 h5 h1 h2 hb2
    go_wp2_with fail
    refine HC.out.mono ?_
    rintro e w3 ⟨rfl,hb3⟩
    have N3:=zz (HN.out.ab hb3)
    have B3:=zz (below_tr B2.out hb3 (Nat.le_of_lt S2.out))
    have S3:Hid (w.heap.size<w3.heap.size):=zz (Nat.lt_of_lt_of_le S2.out hb3.size)
    have O3:Hid (OwI w3 w.heap.size u3 (d.map fun p=>cs1 t.sn p.1)):=zz (row_fr O2.out (Fr.of hb3 (fun _=>False)) (fun k hk e=>e))
    clear hb3 HC
    obtain⟨i0,hi0,hz0,hz1,hz2⟩:=info_parts infoI64
    have ha:Below w3.heap.size w3 (w3.alloc (.cells #[.int .i64 (chg S)] 3)):=alB
    have wfS:∀z∈[chg S],(Lit.int .i64 z).wf=true:=fun z hz=>by
     simp only[List.mem_singleton] at hz
     subst hz
     have:=CB.out
     have:=SL.out
     have e3:IntKind.i64.min = -9223372036854775808:=rfl
     have e4:IntKind.i64.max=9223372036854775807:=rfl
     simp only[Lit.wf,Bool.and_eq_true,decide_eq_true_eq]
     omega
    have RL:=zz (isRow_lit w3 3 .i64 [chg S] 1 rfl (by decide) wfS)
    have O4:Hid (OwI (w3.alloc (.cells #[.int .i64 (chg S)] 3)) w.heap.size u3 (d.map fun p=>cs1 t.sn p.1)):=zz (row_fr O3.out (Fr.of ha (fun _=>False)) (fun k hk e=>e))
    have B4:=zz (below_tr B3.out ha (Nat.le_of_lt S3.out))
    have N4:=zz (N3.out.ab ha)
    have DLM:Hid ((d.map fun p=>cs1 t.sn p.1).length≤100000):=zz (by rw[List.length_map];exact DL.out)
    have CE:Hid ((d.map fun p=>cs1 t.sn p.1)++[chg S]=(d++[(pk,Value.map (some kb))]).map fun p=>cs1 t.sn p.1):=zz (by rw[List.map_append,List.map_singleton,CS.out])
    clear ha wfS B3 N3 O3
    go_wp2_with (first
     | (refine wpList_app _ rfl (.tmp 15) (.tmp 18) rfl w.heap.size Tryz.underlying101 hi0 hz0 hz1 hz2 rfl rfl O4.out rfl RL.out (by have:=DLM.out;simp only[maxLen];omega) (by have:=DLM.out;omega) B4.out.size ?_
        intro v5 w5 h5 b5 g5 a5
        have O5:=zz h5
        have N5:Hid (RngB u64V u64Ok w5 sm w.heap.size es (d++[(pk,Value.map (some kb))])):=zz (N4.out.grown g5 (by obtain⟨_,_,hh,_⟩:=N4.out.mapB;exact own_notMapI O4.out hh) (own_notIter O4.out N4.out))
        have B5:=zz (B4.out.trans b5)
        have S5:Hid (w.heap.size<w5.heap.size):=zz (Nat.lt_of_lt_of_le S3.out (Nat.le_trans (by simp) g5.size))
        clear h5 b5 g5 a5))
    go_roundg (es.length-(d.length+1))
    case measure=>have:=HM.out;have:=HK.out;omega
    case rel=>exact⟨d++[(pk,Value.map (some kb))],by simp,N5.out,by rw[←CE.out];exact O5.out,B5.out,S5.out⟩
open Go.RowKit Go.Shelf
theorem type_assertI (v:Value) (w:World):(Instr.typeAssert (.iface 67 v) 20 67 false).run Tryz.prog w = .ok v w:=by
 simp[Instr.typeAssert,run_underlying Tryz.underlying67,go_sem,Result.andThen]
set_option maxRecDepth 100000 in
theorem bokClone (b:Nat) (es:List (Ky×Value)) (w:World) (h:MapB encStr kyOk w b es):Calls Tryz.prog 80 #[.map (some b)] w fun e w'=>e = .returned (.map (some w.heap.size))∧MapB encStr kyOk w' w.heap.size es∧Below w.heap.size w w':=by
 obtain⟨es',clock,h1,h2,h3,h4⟩:=h
 have hq:=fun m W=>map_neX Tryz.underlying67 m W
 have ha:Below w.heap.size w (w.alloc (.map es' clock)):=alB
 have HH:=zz (show MapB encStr kyOk (w.alloc (.map es' clock)) w.heap.size es from⟨es',clock,heap_alloc_new w _,h2,h3,h4⟩)
 have HA:=zz ha
 have H1:=zz h1
 clear h1 h2 h3 h4 ha
 go_enter Tryz.func80,Tryz.ntmps80
 go_wp2_with fail
 rw[run_callFunc_extern Tryz.func35 (by kernel_rfl) (by kernel_rfl) (by kernel_rfl) (e:=Extern.MapsClone.clone) (by kernel_rfl),run_maps_clone_sl w 67 H1.out]
 simp only[Result.andThen]
 rw[Oper.upon_value]
 go_wp2_with fail
 rw[type_assertI]
 simp only[Result.andThen]
 rw[Oper.upon_value]
 go_wp2_with fail
 go_ret
 exact⟨rfl,HH.out,HA.out⟩
def opOk (o:OpP):Bool:=decide (1≤o.k.n)&&decide (o.k.n≤32)&&decide (o.v.n≤1024) && !(o.d&&decide (0<o.v.n))
def opV (o:OpP):Value:=.agg #[.slice o.k.A o.k.n o.k.c,.slice o.v.A o.v.n o.v.c,.bool o.d]
set_option maxRecDepth 100000 in
theorem iright_any (o:OpP) (w:World):Calls Tryz.prog 79 #[opV o] w fun e w'=>e = .returned (.bool (opOk o))∧Below w.heap.size w w':=by
 obtain⟨⟨kA,kn,kc,kl⟩,⟨vA,vn,vc,vl⟩,dr⟩:=o
 unfold opV opOk
 simp only
 have ha:Below w.heap.size w (w.alloc (.cells #[.slice kA kn kc,.slice vA vn vc,.bool dr] 61)):=alB
 have HA:=zz ha
 clear ha
 have e1:decide ((1:Int)≤(kn:Int))=decide (1≤kn):=decide_eq_decide.2 (by omega)
 have e2:decide ((kn:Int)≤32)=decide (kn≤32):=decide_eq_decide.2 (by omega)
 have e3:decide ((vn:Int)≤1024)=decide (vn≤1024):=decide_eq_decide.2 (by omega)
 have e4:decide ((0:Int)<(vn:Int))=decide (0<vn):=decide_eq_decide.2 (by omega)
 generalize decide (1≤kn)=b1 at *
 generalize decide (kn≤32)=b2 at *
 generalize decide (vn≤1024)=b3 at *
 obtain⟨b4,h4⟩:∃b,decide (0<vn)=b:=⟨_,rfl⟩
 rw[h4] at e4⊢
 cases b1 <;> cases b2 <;> cases b3 <;> cases b4 <;> cases dr <;>
 (go_enter Tryz.func79,Tryz.ntmps79
  go_wp2_with fail
  go_ret
  exact⟨rfl,HA.out⟩)
structure OpsB (w:World) (A:Option Addr) (n c:Nat) (ops:List OpP):Prop where
 len:ops.length=n
 cap:n≤c
 max:c≤maxLen
 cel:∀(i:Nat) (o:OpP),ops[i]? = some o→∃x,A=some x∧x.block<w.heap.size∧w.cell? (x.add (i*3))=some (.slice o.k.A o.k.n o.k.c)∧w.cell? ⟨(x.add (i*3)).block,(x.add (i*3)).off+1,none⟩=some (.slice o.v.A o.v.n o.v.c)∧w.cell? ⟨(x.add (i*3)).block,(x.add (i*3)).off+2,none⟩=some (.bool o.d)∧IsB w o.k.A o.k.n o.k.c o.k.l∧IsB w o.v.A o.v.n o.v.c o.v.l
theorem OpsB.ab {w w':World} {A:Option Addr} {n c:Nat} {ops:List OpP} (h:OpsB w A n c ops) (hb:Below w.heap.size w w'):OpsB w' A n c ops:=
 ⟨h.len,h.cap,h.max,fun i o ho=>by
  obtain⟨x,h1,h2,h3,h4,h5,h6,h7⟩:=h.cel i o ho
  have hx:(x.add (i*3)).block=x.block:=add_block x _
  refine⟨x,h1,Nat.lt_of_lt_of_le h2 hb.size,?_,?_,?_,h6.ab hb,h7.ab hb⟩
  · exact (World.cell?_of_block (hb.block _ (by rw[hx];exact h2))).trans h3
  · exact (World.cell?_of_block (hb.block _ (by show (x.add (i*3)).block<_;rw[hx];exact h2))).trans h4
  · exact (World.cell?_of_block (hb.block _ (by show (x.add (i*3)).block<_;rw[hx];exact h2))).trans h5⟩
set_option maxRecDepth 100000 in
theorem bnot_any (o:OpP) (w:World):Calls Tryz.prog 78 #[opV o] w fun e w'=>e = .returned (.bool (!opOk o))∧Below w.heap.size w w':=by
 have ha:Below w.heap.size w (w.alloc (.cells #[.slice o.k.A o.k.n o.k.c,.slice o.v.A o.v.n o.v.c,.bool o.d] 61)):=alB
 have HR:=zz fun W=>iright_any o W
 have HA:=zz ha
 unfold opV at *
 generalize opOk o=b at *
 clear ha
 go_enter Tryz.func78,Tryz.ntmps78
 go_wp2_with fail
 refine (HR.out _).mono ?_
 rintro e w1 ⟨rfl,hb⟩
 have B1:=zz (below_tr HA.out hb HA.out.size)
 clear hb HR
 go_wp2_with fail
 go_ret
 exact⟨rfl,B1.out⟩
set_option maxRecDepth 100000 in
theorem idxOps_any (A:Option Addr) (n c:Nat) (ops:List OpP) (w:World) (h:OpsB w A n c ops) (hn:n≤1000000):
 Calls Tryz.prog 109 #[.slice A n c,.func (.func 78) #[] #[]] w fun e w'=>∃z:Int,e = .returned (.int .i64 z)∧(0≤z↔∃o∈ops,opOk o=false)∧Below w.heap.size w w':=by
 have HH:=zz h
 have HL:=zz h.len
 have n0:(n:Int)≤1000000:=by omega
 clear h
 go_enter Tryz.func109,Tryz.ntmps109
 go_wp2_with fail
 go_loopw [8] (fun z wr=>∃k:Nat,k≤n∧z = .int .i64 (k:Int)∧(∀o∈ops.take k,opOk o=true)∧Below w.heap.size w wr) (fun z _=>n-(intOf z).toNat)
 case atStart=>exact⟨0,Nat.zero_le _,rfl,by simp,Below.refl _ _⟩
 case round=>
  obtain⟨k,hk,rfl,hok,hb⟩:=hrel
  by_cases hlt:k<n
  · obtain⟨o,ho⟩:∃o,ops[k]? = some o:=⟨_,List.getElem?_eq_getElem (by rw[HL.out];exact hlt)⟩
    obtain⟨x,rfl,hxl,c0,c1,c2,ik,iv⟩:=(HH.out.ab hb).cel k o ho
    have hlti:(k:Int)<(n:Int):=by omega
    have hk0:(0:Int)≤(k:Int):=by omega
    have OK:=zz hok
    have HB:=zz hb
    have HO:=zz ho
    have KL:=zz hlt
    have HR:=zz fun W=>bnot_any o W
    unfold opV at HR
    obtain⟨bk,hbk⟩:∃b,opOk o=b:=⟨_,rfl⟩
    rw[hbk] at HR
    have BK:=zz hbk
    clear hok hb ho ik iv hlt hk hbk
    go_wp2_with fail
    refine (HR.out _).mono ?_
    rintro e w1 ⟨rfl,hb1⟩
    have B1:=zz (below_tr HB.out hb1 HB.out.size)
    clear hb1 HR c0 c1 c2
    cases bk with
    | false=>
      go_wp2_with fail
      go_ret
      exact⟨(k:Int),rfl,⟨fun _=>⟨o,List.mem_of_getElem? HO.out,BK.out⟩,fun _=>hk0⟩,B1.out⟩
    | true=>
      go_wp2_with fail
      go_roundw
      case rel=>
       refine⟨k+1,KL.out,by go_num,fun q hq=>?_,B1.out⟩
       rw[List.take_add_one,HO.out] at hq
       rcases List.mem_append.1 hq with hq | hq
       · exact OK.out q hq
       · simp at hq;rw[hq];exact BK.out
      case measure=>simp[intOf];have:=KL.out;omega
  · obtain rfl:k=n:=by omega
    have OK:=zz hok
    have HB:=zz hb
    clear hok hb hlt hk
    go_wp2_with fail
    go_ret
    refine⟨-1,rfl,⟨fun h=>absurd h (by decide),fun ⟨o,ho,hf⟩=>?_⟩,HB.out⟩
    have:=OK.out o (by rw[List.take_of_length_le (by rw[HL.out];exact Nat.le_refl _)];exact ho)
    rw[hf] at this
    cases this
set_option maxRecDepth 100000 in
theorem hasBad_any (A:Option Addr) (n c:Nat) (ops:List OpP) (w:World) (h:OpsB w A n c ops) (hn:n≤1000000):
 Calls Tryz.prog 77 #[.slice A n c,.func (.func 78) #[] #[]] w fun e w'=>e = .returned (.bool (!ops.all opOk))∧Below w.heap.size w w':=by
 have HI:=zz (idxOps_any A n c ops w h hn)
 clear h hn
 go_enter Tryz.func77,Tryz.ntmps77
 go_wp2_with fail
 refine HI.out.mono ?_
 rintro e w1 ⟨z,rfl,hz,hb⟩
 have HB:=zz hb
 have hd:decide ((0:Int)≤z) = !ops.all opOk:=by
  rw[Bool.eq_iff_iff]
  simp only[decide_eq_true_eq,Bool.not_eq_true',List.all_eq_false]
  rw[hz]
  simp
 have HD:=zz hd
 clear hz hb hd HI
 go_wp2_with fail
 go_ret
 exact⟨by rw[←HD.out];rfl,HB.out⟩
def doK (l:Bk2) (o:OpP):Bk2:=bif o.d then dropK (k8 o.k.l) l else putK (k8 o.k.l) o.v.l l
def doAll (l:Bk2) (ops:List OpP):Bk2:=ops.foldl doK l
theorem dropK_keys (x:Ky) (l:Bk2):((dropK x l).map (·.1)).Sublist (l.map (·.1)):=List.Sublist.map _ List.filter_sublist
theorem map_keys (x:Ky) (v:List Nat) (l:Bk2):(l.map fun p=>if p.1=x then (x,v) else p).map (·.1)=l.map (·.1):=by
 rw[List.map_map]
 refine List.map_congr_left fun p _=>?_
 simp only[Function.comp_apply]
 by_cases e:p.1=x
 · rw[if_pos e,e]
 · rw[if_neg e]
theorem putK_nodup {x:Ky} {v:List Nat} {l:Bk2} (h:(l.map (·.1)).Nodup):((putK x v l).map (·.1)).Nodup:=by
 unfold putK
 cases hg:getK x l with
 | some u=>simp only[Option.isSome_some,if_true];rw[map_keys];exact h
 | none=>
   simp only[Option.isSome_none,Bool.false_eq_true,if_false]
   rw[List.map_append,List.map_singleton]
   refine List.nodup_append.2 ⟨h,by simp,fun a ha b hb=>?_⟩
   simp only[List.mem_singleton] at hb
   subst hb
   rintro rfl
   obtain⟨p,hp,e⟩:=List.mem_map.1 ha
   have:=getK_of h (show (a,p.2)∈l by rw[←e];exact hp)
   rw[hg] at this
   cases this
theorem doK_nodup {l:Bk2} (o:OpP) (h:(l.map (·.1)).Nodup):((doK l o).map (·.1)).Nodup:=by
 unfold doK
 cases o.d with
 | true=>exact (dropK_keys _ l).nodup h
 | false=>exact putK_nodup h
theorem putK_perm {x:Ky} {v:List Nat} {l S:Bk2} (hp:l.Perm S) (hn:(l.map (·.1)).Nodup):(putK x v l).Perm (putK x v S):=by
 unfold putK
 rw[getK_perm hp hn]
 cases getK x S with
 | some u=>exact hp.map _
 | none=>exact hp.append_right _
theorem doK_perm {l S:Bk2} (o:OpP) (hp:l.Perm S) (hn:(l.map (·.1)).Nodup):(doK l o).Perm (doK S o):=by
 unfold doK
 cases o.d with
 | true=>exact hp.filter _
 | false=>exact putK_perm hp hn
theorem doAll_perm:∀(ops:List OpP) {l S:Bk2},l.Perm S→(l.map (·.1)).Nodup→(doAll l ops).Perm (doAll S ops)
 | [],_,_,h,_=>h
 | o::r,_,_,h,hn=>doAll_perm r (doK_perm o h hn) (doK_nodup o hn)
theorem putK_len (x:Ky) (v:List Nat) (l:Bk2):(putK x v l).length≤l.length+1:=by
 unfold putK
 cases getK x l <;> simp
theorem doK_len (l:Bk2) (o:OpP):(doK l o).length≤l.length+1:=by
 unfold doK
 cases o.d with
 | true=>exact Nat.le_trans (List.length_filter_le _ _) (Nat.le_succ _)
 | false=>exact putK_len _ _ _
theorem doAll_len:∀(ops:List OpP) (l:Bk2),(doAll l ops).length≤l.length+ops.length
 | [],l=>Nat.le_refl _
 | o::r,l=>by
   have h1:=doAll_len r (doK l o)
   have h2:=doK_len l o
   simp only[doAll,List.foldl_cons,List.length_cons] at h1⊢
   omega
theorem doAll_snoc (l:Bk2) (ops:List OpP) (o:OpP):doAll l (ops++[o])=doK (doAll l ops) o:=by simp[doAll]
def batTg (O:Tg) (N:Nat):Tg:=fun k=>if k<N then O k else if k=N+1 then some (0,0) else none
theorem Stp.bat {w w1:World} {O:Tg} (hb:Below w.heap.size w w1) (P:Nat×Nat→Prop):Stp P w O w1 (batTg O w.heap.size):=Stp.of hb P fun k hk=>by unfold batTg;rw[if_pos hk]
section
variable {w w':World} {O:Tg}
theorem ImB.gm {v:Value} {l:List Nat} {b:Nat} {es:Array MapEntry} {cl:Nat} (h:ImB w O v l) (hm:w.heap[b]? = some (.map es cl)) (hg:w.grownBy w' (some b)):ImB w' O v l:=by
 obtain⟨A,n,c,rfl,h0,h1,h2⟩:=h
 refine⟨A,n,c,rfl,h0,isB_frZ h1 (Fr.grown hg) (fun hn x hx e=>?_),fun hn x hx=>?_⟩
 · obtain⟨y,hy,_,hc⟩:=h1.cell hn
   rw[hx] at hy
   injection hy with hy
   subst hy
   have h3:=hc 0 hn
   injection e with e
   unfold World.cell? at h3
   rw[add_block,←e,hm] at h3
   cases h3
 · obtain⟨k1,k2⟩:=h2 hn x hx
   exact⟨Nat.lt_of_lt_of_le k1 hg.size,k2⟩
theorem BvL.gm {b:Nat} {ms:Array MapEntry} {cl:Nat} (hm:w.heap[b]? = some (.map ms cl)) (hg:w.grownBy w' (some b)):∀{es:List (Ky×Value)} {l:Bk2},BvL w O es l→BvL w' O es l
 | [],[],_=>trivial
 | p::ps,q::qs,h=>⟨⟨h.1.1,h.1.2.gm hm hg⟩,BvL.gm hm hg h.2⟩
 | [],_::_,h=>h.elim
 | _::_,[],h=>h.elim
end
section
variable {w w1:World} {O:Tg} {s b n c sm nb:Nat} {t:TnP} {mo:Option Nat} {es:List (Nat×Value)}
theorem TnM.apart (h:TnM w O s b t c mo sm nb es):b≠c∧(∀q,mo=some q→b≠q∧sm≠q)∧sm≠c∧b≠sm:=by
 obtain⟨l,h4,_⟩:=id h.caps.st
 refine⟨cb_neX h.box h4.box (by decide),fun k hk=>⟨fun e=>?_,fun e=>h.ne (by rw[hk,e])⟩,fun e=>?_,fun e=>?_⟩
 · obtain⟨es',cl,h5,_⟩:=(h4.map k hk).2
   have hb:=h.box
   unfold CbB at hb
   rw[e,h5] at hb
   cases hb
 · obtain⟨es',cl,h5,_⟩:=h.snm
   have hb:=h4.box
   unfold CbB at hb
   rw[←e,h5] at hb
   cases hb
 · obtain⟨es',cl,h5,_⟩:=h.snm
   have hb:=h.box
   unfold CbB at hb
   rw[e,h5] at hb
   cases hb
theorem CpA.sameX {A:HL} (h:CpA w 0 c mo A) (hc:w1.heap[c]? = w.heap[c]?) (hm:∀m,mo=some m→w1.heap[m]? = w.heap[m]?):CpA w1 0 c mo A:=by
 obtain⟨⟨l,h1,h2⟩,h3,h4⟩:=h
 have hb:CbB w1 c 98 _:=hc.trans h1.box
 exact⟨⟨l,⟨hb,Nat.zero_le _,fun m hm'=>⟨Nat.zero_le _,(h1.map m hm').2.same (hm m hm')⟩,h1.nil,h1.le⟩,h2⟩,h3,h4⟩
theorem TnM.mod (h:TnM w O s b t c mo sm nb es) (k:Fr w w1 (fun k=>k=b∨k=sm)) {now':Bk2} {sn':List (Bk2×Bool)} {tu':Bool} {nb':Nat} {es':List (Nat×Value)}
 (hbox:CbB w1 b 71 #[.string (strOf t.sec),.int .i64 (t.q:Int),.map (some nb'),.pointer (some ⟨c,0,none⟩),.map (some sm),.int .u64 (sn'.length:Int),.bool tu'])
 (hnow:BokB w O nb' now') (hno:O nb'=none) (hsm:MapB u64V u64Ok w1 sm es') (hsn:SnB w O es' sn'):
 Stp (fun τ=>τ=(s,t.n)) w O w1 O∧TnM w1 O s b ⟨t.n,t.sec,t.q,now',t.A,sn',tu'⟩ c mo sm nb' es':=by
 obtain⟨a1,a2,a3,a4⟩:=h.apart
 have hl:=h.caps.lt
 have st:Stp (fun τ=>τ=(s,t.n)) w O w1 O:=⟨k.imp fun q hq=>by
  rcases hq with rfl | rfl
  · exact⟨_,h.tb,rfl⟩
  · exact⟨_,h.ts,rfl⟩,fun _ _=>rfl⟩
 refine⟨st,⟨hbox,hnow.stp hno st,hno,h.caps.sameX (k.block c hl.1 fun e=>?_) (fun m hm=>k.block m (hl.2 m hm) fun e=>?_),hsm,hsn.stp st,h.tb,h.tc,h.tm,h.ts,h.ne⟩⟩
 · rcases e with e | e
   · exact a1 e.symm
   · exact a3 e.symm
 · rcases e with e | e
   · exact (a2 m hm).1 e.symm
   · exact (a2 m hm).2 e.symm
theorem fr_set (w:World) (g k:Nat) (v:Value):Fr w (w.setCell ⟨g,k,none⟩ v) (fun q=>q=g):=⟨rfl,rfl,rfl,by simp,fun i _ hi=>Below.heap_setCell w ⟨g,k,none⟩ v i hi⟩
theorem updT_self {blocks m:Nat} {T:List TnP} {bs:List (Nat×TnP)} (h:IdM w O s blocks T m bs) {x:Nat×TnP} (hf:fnd bs n=some x):updT n x.2 T=T:=by
 obtain⟨hm,hxn⟩:=fnd_mem hf
 unfold updT
 have:∀t∈T,(if t.n=n then x.2 else t)=t:=fun t ht=>by
  by_cases e:t.n=n
  · rw[if_pos e]
    obtain⟨y,hy,rfl⟩:=List.mem_map.1 (h.prm.mem_iff.2 ht)
    rw[nodup_one h.nodup hy hm (e.trans hxn.symm)]
  · rw[if_neg e]
 rw[List.map_congr_left this]
 simp
theorem liveC_wf {t:TnP} (hl:∀p∈t.sn,p.1.length≤100000):∀z∈liveC t.sn,(Lit.int .i64 z).wf=true:=fun z hz=>by
 unfold liveC at hz
 obtain⟨p,hp,rfl⟩:=List.mem_map.1 hz
 have h1:=chg_bd p.1
 have h2:=hl p (List.mem_filter.1 hp).1
 have e3:IntKind.i64.min = -9223372036854775808:=rfl
 have e4:IntKind.i64.max=9223372036854775807:=rfl
 simp only[Lit.wf,Bool.and_eq_true,decide_eq_true_eq]
 omega
theorem liveC_len (sn:List (Bk2×Bool)):(liveC sn).length≤sn.length:=by unfold liveC;rw[List.length_map];exact List.length_filter_le _ _
theorem sumS_perm {a b:List Int} (h:a.Perm b):sumS a=sumS b:=by
 unfold sumS
 exact sum_perm (h.map _)
theorem overB_perm (q ch:Int) {a b:List Int} (h:a.Perm b):overB q ch a=overB q ch b:=by unfold overB;rw[sumS_perm h]
end
section
variable {w w1:World} {O O2:Tg} {s blocks m n b:Nat} {T:List TnP} {bs:List (Nat×TnP)}
theorem dropL_bs (n:Nat) (bs:List (Nat×TnP)):dropL n (bs.map fun x=>(x.2.n,ptrV x.1))=(bs.filter fun x=>!decide (x.2.n=n)).map fun x=>(x.2.n,ptrV x.1):=by
 unfold dropL
 rw[List.filter_map]
 rfl
theorem IdM.del (h:IdM w O s blocks T m bs) (hb:CbB w1 s 58 #[.int .i64 (blocks:Int),.map (some m)]) (k:Stp (fun τ=>τ=(s,0)) w O w1 O2) (hm:MapB u32V u32Ok w1 m (dropL n (bs.map fun x=>(x.2.n,ptrV x.1)))):
 IdM w1 O2 s blocks (T.filter fun t=>!decide (t.n=n)) m (bs.filter fun x=>!decide (x.2.n=n)):=by
 rw[dropL_bs] at hm
 refine⟨hb,hm,?_,fun x hx=>?_,fun x hx=>h.ok x (List.mem_filter.1 hx).1,(k.tg s h.box.lt).trans h.os,(k.tg m h.map.lt).trans h.om,h.pos⟩
 · have e:(bs.filter fun x=>!decide (x.2.n=n)).map (·.2)=(bs.map (·.2)).filter fun t=>!decide (t.n=n):=by
    rw[List.filter_map]
    rfl
   rw[e]
   exact h.prm.filter _
 · have hx1:=(List.mem_filter.1 hx).1
   exact (h.all x hx1).stp k (fun e=>by injection e with _ e;have:=(h.ok x hx1).n1;omega)
theorem IdM.ins (h:IdM w O s blocks T m bs) (hb:CbB w1 s 58 #[.int .i64 (blocks:Int),.map (some m)]) (k:Stp (fun τ=>τ=(s,0)) w O w1 O2) {t':TnP} (hf:fnd bs t'.n=none) (hm:MapB u32V u32Ok w1 m (putL t'.n (ptrV b) (bs.map fun x=>(x.2.n,ptrV x.1))))
 (ht:TnB w1 O2 s b t') (hok:TnOk t'):IdM w1 O2 s blocks (T++[t']) m (bs++[(b,t')]):=by
 have e:putL t'.n (ptrV b) (bs.map fun x=>(x.2.n,ptrV x.1))=(bs++[(b,t')]).map fun x=>(x.2.n,ptrV x.1):=by
  unfold putL
  rw[look_fnd,hf]
  simp
 rw[e] at hm
 refine⟨hb,hm,?_,fun x hx=>?_,fun x hx=>?_,(k.tg s h.box.lt).trans h.os,(k.tg m h.map.lt).trans h.om,h.pos⟩
 · rw[List.map_append]
   exact h.prm.append_right _
 · rcases List.mem_append.1 hx with hx1 | hx1
   · exact (h.all x hx1).stp k (fun e=>by injection e with _ e;have:=(h.ok x hx1).n1;omega)
   · simp only[List.mem_singleton] at hx1
     subst hx1
     exact ht
 · rcases List.mem_append.1 hx with hx1 | hx1
   · exact h.ok x hx1
   · simp only[List.mem_singleton] at hx1
     subst hx1
     exact hok
theorem Stp.map {P:Nat×Nat→Prop} {τ:Nat×Nat} (g:w.grownBy w1 (some m)) (hO:O m=some τ) (hP:P τ):Stp P w O w1 O:=⟨(Fr.grown g).imp fun q e=>⟨τ,by injection e with e;rw[←e];exact hO,hP⟩,fun _ _=>rfl⟩
end
end Go.Proofs.YtgdhinjhbjolgaaGreat
