/-
  Parts of the proof, joined.
-/
import Derived.Sort.WalkA
import Derived.Lib.Walk
import Derived.WalkKit
import Derived.BigQuiet
import Derived.Deep.Draws
import Derived.Deep.QuietTactic
import Derived.Test.YtljmiiiidjeggaaGreatBda
import Derived.Sort.WalkB12
import Derived.Sort.WalkD1
import Derived.Sort.WalkD2
import Derived.Deep.RegionWith
import Derived.Sort.Walk7a
import Derived.Sort.Walk7
import Derived.Ground.So_math_bits_Len64
import Derived.Deep.Light
import Derived.Sort.Walk11
namespace Go.Proofs.YtljmiiiidjeggaaGreat.U32
set_option maxHeartbeats 32000000
open Go.RowKit Go.Sort
set_option linter.unusedVariables false
abbrev encE:Int→Value:=fun x=>Value.int .u32 x
theorem s_cmp_isNaN (x:Int) (w:World):Calls Tryz.prog 195 #[.int .u32 x] w fun e w'=>e = .returned (.bool false)∧w'=w:=by
 go_enter Tryz.func195,Tryz.ntmps195
 go_wp2
 go_ret
 exact⟨by simp,rfl⟩
theorem s_cmp_Less (x y:Int) (w:World):Calls Tryz.prog 157 #[.int .u32 x,.int .u32 y] w fun e w'=>e = .returned (.bool (Sort.ltInt x y))∧w'=w:=by
 go_enter Tryz.func157,Tryz.ntmps157
 go_wp2_with (go_at_call 195;refine (s_cmp_isNaN _ _).mono ?_;rintro e w' ⟨rfl,rfl⟩)
 go_ret
 exact⟨rfl,rfl⟩
set_option maxRecDepth 1000000 in
theorem s_insertionSort (blk off cap a b:Nat) (d:Array Int) (w:World) (hH:Holds (Value.int .u32) w blk off d) (hab:a≤b) (hb:b≤d.size) (hsz:d.size<4611686018427387904):
 Calls Tryz.prog 151 #[.slice (some ⟨blk,off,none⟩) d.size cap,.int .i64 a,.int .i64 b] w fun e w'=>
  e = .returned (.tuple #[])∧∃n,w'=putRow (Value.int .u32) (Sort.ahead w n) blk off (Sort.insertionSort ltInt d a b):=by
 go_enter Tryz.func151,Tryz.ntmps151
 go_wp2
 go_loopw [6] (fun vi wr=>∃(i n:Nat) (dk:Array Int),vi = .int .i64 i∧a<i∧i≤b+1∧dk.size=d.size∧wr=putRow (Value.int .u32) (Sort.ahead w n) blk off dk∧
  insOuter ltInt a b i dk=insOuter ltInt a b (a+1) d) (fun vi _=>b+1-(intOf vi).toNat)
 case atStart=>exact⟨a+1,0,d,by go_num,by omega,by omega,rfl,(putRow_self _ _ _ _ _ hH).symm,rfl⟩
 case round=>
  obtain⟨i,n,dk,rfl,hai,hib,hsk,hwr,hO⟩:=hrel
  have HO:Hid (insOuter ltInt a b i dk=insOuter ltInt a b (a+1) d):=hO
  clear hO
  go_wp2
  ·
   go_loopw [7] (fun vj wr2=>∃(j m:Nat) (dj:Array Int),vj = .int .i64 j∧a≤j∧j≤i∧dj.size=d.size∧wr2=putRow (Value.int .u32) (Sort.ahead w m) blk off dj∧
    insInner ltInt a j dj=insInner ltInt a i dk) (fun vj _=>(intOf vj).toNat)
   case atStart=>exact⟨i,n,dk,rfl,by omega,Nat.le_refl _,hsk,rfl,rfl⟩
   case round=>
    obtain⟨j,m,dj,rfl,haj,hji,hsj,hw2,hI⟩:=hrel
    have hlt:i<b:=by assumption
    obtain⟨G,hG⟩:∃G:Nat→Int,∀t,G t=dj[t]!:=⟨fun t=>dj[t]!,fun _=>rfl⟩
    have hcw:∀t,t<d.size→wr.cell? ⟨blk,off+t,none⟩=some (.int .u32 (G t)):=fun t ht=>by
     rw[hw2,hG];exact cell?_putRow _ _ _ _ d dj (holds_ahead _ _ _ _ _ _ hH) hsj t (by omega)
    have hfw:∀t,t<d.size→wr.frozen? ⟨blk,off+t,none⟩=false:=fun t ht=>by
     rw[hw2,frozen?_putRow];exact ((holds_ahead _ _ m _ _ _ hH) t ht).2
    have HW:Hid (wr=putRow (Value.int .u32) (Sort.ahead w m) blk off dj):=hw2
    have HG:Hid (∀t,G t=dj[t]!):=hG
    have HI:Hid (insInner ltInt a j dj=insInner ltInt a i dk):=hI
    clear hw2 hG hI hH
    have out:(j≤a∨ltInt dj[j]! dj[j-1]! = false)→∀q,∃i' n' dk',Value.int .i64 ((i:Int)+1) = .int .i64 (i':Nat)∧a<i'∧i'≤b+1∧dk'.size=d.size∧
     wr.drewN q=putRow (Value.int .u32) (Sort.ahead w n') blk off dk'∧insOuter ltInt a b i' dk'=insOuter ltInt a b (a+1) d:=fun hs q=>
     ⟨i+1,m+q,dj,by go_num,by omega,by omega,hsj,by rw[HW.out];exact putRow_drewN _ _ _ _ _ _ _,
      by rw[←HO.out,insOuter_go _ _ _ _ _ hlt,←HI.out,insInner_stop _ _ _ _ hs]⟩
    have OUT:Hid _:=out
    clear out
    go_wp2
    by_cases hja:a<j
    · go_quiet (first | (go_at_call 157;refine Calls.quiet_of_same (s_cmp_Less _ _ _)))
      go_wp2
      ·
       have hl:ltInt (G j) (G (j-1))=true:=by assumption
       go_region
       all_goals go_wp2
       go_roundw
       case rel=>
        refine⟨j-1,m+(nq+1),swp dj j (j-1),by congr 1;omega,by omega,by omega,by rw[size_swp];exact hsj,?_,?_⟩
        · rw[HW.out,HG.out,HG.out]
          exact swap_worldA _ w m (nq+1) blk off dj j (j-1) (by omega) (by omega)
        · rw[←HI.out,insInner_go ltInt a j dj hja (by rw[←HG.out,←HG.out];exact hl)]
       case measure=>simp[intOf];omega
      ·
       have hl:ltInt (G j) (G (j-1))=false:=by assumption
       go_roundw
       case rel=>exact OUT.out (Or.inr (by rw[←HG.out,←HG.out];exact hl)) nq
       case measure=>simp[intOf];omega
    · go_quiet (first | (go_at_call 157;refine Calls.quiet_of_same (s_cmp_Less _ _ _)))
      go_wp2
      go_roundw
      case rel=>exact OUT.out (Or.inl (by omega)) nq
      case measure=>simp[intOf];omega
  ·
   have hge:¬i<b:=by assumption
   go_end0
   exact⟨rfl,n,by unfold Sort.insertionSort;rw[←HO.out,insOuter_stop _ _ _ _ _ hge]⟩
theorem holds_asideE {w:World} {blk off sb so n t:Nat} {d:Array Int} (h:Holds (Value.int .u32) w blk off d) (hne:sb≠blk):Holds (Value.int .u32) (putRow (Value.int .i64) (Sort.ahead w n) sb so (one t)) blk off d:=fun j hj=>
 ⟨(cell?_putRow_other _ _ _ _ _ _ (Or.inl (Ne.symm hne))).trans (h j hj).1,(frozen?_putRow ..).trans (h j hj).2⟩
open Go.Sort Go.RowKit
set_option maxRecDepth 1000000 in
theorem s_reverseRange (blk off cap:Nat) (d:Array Int) (a b:Nat) (w:World) (hH:Holds encE w blk off d) (hab:a≤b) (hb:b≤d.size) (hsz:d.size<4611686018427387904):
 Calls Tryz.prog 155 #[.slice (some ⟨blk,off,none⟩) d.size cap,.int .i64 a,.int .i64 b] w fun e w'=>e = .returned (.tuple #[])∧∃n,w'=putRow encE (Sort.ahead w n) blk off (reverseRange d a b):=by
 go_enter Tryz.func155,Tryz.ntmps155
 go_wp2
 go_loopg [6,7] (b-a) (fun k s6 s7 wr=>∃(i jn:Nat) (jz:Int) (dk:Array Int) (n:Nat),s6 = .int .i64 i∧s7 = .int .i64 jz∧((i:Int)<jz→jz=jn∧jn<d.size)∧(¬(i:Int)<jz→¬i<jn)∧jn-i≤k∧
  dk.size=d.size∧wr=putRow encE (Sort.ahead w n) blk off dk∧reverseLoop i jn dk=reverseLoop a (b-1) d)
 case atStart=>exact⟨a,b-1,(b:Int)-1,d,0,rfl,rfl,fun h=>⟨by omega,by omega⟩,fun h=>by omega,by omega,rfl,(putRow_self encE w blk off d hH).symm,rfl⟩
 case round=>
  obtain⟨i,jn,jz,dk,n,rfl,rfl,h1,h2,hk,hds,hwr,heq⟩:=hrel
  by_cases hlt:(i:Int)<jz
  · obtain⟨rfl,hjn⟩:=h1 hlt
    have hij:i<jn:=by omega
    have hHk:Holds encE wr blk off dk:=by rw[hwr];exact holds_putRow encE _ blk off d dk (holds_ahead encE w n blk off d hH) hds
    obtain⟨ci,fi⟩:=hHk i (by omega)
    obtain⟨cj,fj⟩:=hHk jn (by omega)
    have A:Aside (wr=putRow encE (Sort.ahead w n) blk off dk):=hwr
    clear hwr hHk hH h1 h2
    go_wp2_with fail
    go_region
    go_wp2
    go_roundg (jn-1-(i+1))
    case measure=>omega
    case rel=>
     rw[reverseLoop,if_pos hij] at heq
     exact⟨i+1,jn-1,(jn:Int)-1,swp dk i jn,n+1,by simp,rfl,fun h=>⟨by omega,by omega⟩,fun h=>by omega,Nat.le_refl _,by rw[size_swp];exact hds,
      swap_world encE (by omega) (by omega) A.out (by simp[encE,getElem!_pos,show jn<dk.size by omega]) rfl,heq⟩
  · have hnot:=h2 hlt
    go_wp2
    go_end0
    refine⟨rfl,n,?_⟩
    rw[reverseLoop,if_neg hnot] at heq
    rw[reverseRange,←heq]
theorem s_order2 (d:Array Int) (len:Nat) (hlen:d.size=len) (blk off cap a b sb so s:Nat) (w:World) (hH:Holds (Value.int .u32) w blk off d) (ha:a<d.size) (hb:b<d.size)
 (hS:Holds (Value.int  .i64) w sb so (one s)) (hs:s<2 ^ 62):
 Calls Tryz.prog 210 #[.slice (some ⟨blk,off,none⟩) len cap,.int .i64 a,.int .i64 b,.pointer (some ⟨sb,so,none⟩)] w fun e w'=>
  e = .returned (.tuple #[.int .i64 (order2 ltInt d a b s).1,.int .i64 (order2 ltInt d a b s).2.1])∧∃n,w'=putRow (Value.int  .i64) (Sort.ahead w n) sb so (one (order2 ltInt d a b s).2.2):=by
 subst hlen
 replace hs:s<4611686018427387904:=by omega
 have ca:=(hH a ha).1
 have cb:=(hH b hb).1
 obtain⟨cs,fs⟩:=one_cell hS
 have ea:d[a]! = d[a]:=getElem!_pos d a ha
 have eb:d[b]! = d[b]:=getElem!_pos d b hb
 go_enter Tryz.func210,Tryz.ntmps210
 go_wp2
 go_region_with (go_at_call 157;refine (s_cmp_Less _ _ _).mono ?_;rintro e w' ⟨rfl,rfl⟩)
 all_goals (try go_wp2)
 all_goals first
  | (have hlt:ltInt d[b] d[a]=true:=by assumption
     have e2:order2 ltInt d a b s=(b,a,s+1):=by simp[order2,ea,eb,hlt]
     go_ret2
     rw[e2]
     refine⟨rfl,1,?_⟩
     rw[putRow_ahead,←one_set hS (s+1)]
     simp[drew_eq_ahead])
  | (have hlt:ltInt d[b] d[a]=false:=by assumption
     have e2:order2 ltInt d a b s=(a,b,s):=by simp[order2,ea,eb,hlt]
     go_ret2
     rw[e2]
     refine⟨rfl,1,?_⟩
     rw[putRow_ahead,putRow_self _ _ _ _ _ hS]
     rfl)
set_option maxRecDepth 100000 in
theorem s_median (d:Array Int) (len:Nat) (hlen:d.size=len) (blk off cap a b c sb so s:Nat) (w:World) (hH:Holds (Value.int .u32) w blk off d) (ha:a<d.size) (hb:b<d.size) (hc:c<d.size) (hne:sb≠blk)
 (hS:Holds (Value.int  .i64) w sb so (one s)) (hs:s+3<2 ^ 62):
 Calls Tryz.prog 194 #[.slice (some ⟨blk,off,none⟩) len cap,.int .i64 a,.int .i64 b,.int .i64 c,.pointer (some ⟨sb,so,none⟩)] w fun e w'=>
  e = .returned (.int .i64 (median ltInt d a b c s).1)∧∃n,w'=putRow (Value.int  .i64) (Sort.ahead w n) sb so (one (median ltInt d a b c s).2):=by
 subst hlen
 have l1:=order2_lt d s ha hb
 have s1:=order2_swaps d a b s
 have l2:=order2_lt d (order2 ltInt d a b s).2.2 l1.2 hc
 have s2:=order2_swaps d (order2 ltInt d a b s).2.1 c (order2 ltInt d a b s).2.2
 go_enter Tryz.func194,Tryz.ntmps194
 go_wp2_with (go_at_call_of 210 (Value.int .i64 (b:Int));refine (s_order2 d _ rfl blk off cap a b sb so s w hH ha hb hS (by omega)).mono ?_;rintro e w' ⟨rfl,n1,rfl⟩)
 go_wp2_with (go_at_call_of 210 (Value.int .i64 (c:Int));refine (s_order2 d _ rfl blk off cap (order2 ltInt d a b s).2.1 c sb so (order2 ltInt d a b s).2.2 _ (holds_asideE hH hne) l1.2 hc (holds_one hS) (by omega)).mono ?_;rintro e w' ⟨rfl,n2,rfl⟩)
 go_wp2_with (go_at_call_of 210 (Value.int .i64 ((order2 ltInt d a b s).1:Int));refine (s_order2 d _ rfl blk off cap (order2 ltInt d a b s).1 (order2 ltInt d (order2 ltInt d a b s).2.1 c (order2 ltInt d a b s).2.2).1 sb so (order2 ltInt d (order2 ltInt d a b s).2.1 c (order2 ltInt d a b s).2.2).2.2 _
  (holds_asideE (holds_asideE hH hne) hne) l1.1 l2.1 (holds_one (holds_one hS)) (by omega)).mono ?_;rintro e w' ⟨rfl,n3,rfl⟩)
 go_ret
 refine⟨rfl,n1+(n2+n3),?_⟩
 rw[one_one,one_one]
 rfl
set_option maxRecDepth 100000 in
theorem s_medianAdjacent (d:Array Int) (len:Nat) (hlen:d.size=len) (blk off cap a sb so s:Nat) (w:World) (hH:Holds (Value.int .u32) w blk off d) (ha0:1≤a) (ha:a+1<d.size) (hsz:d.size<2 ^ 62) (hne:sb≠blk)
 (hS:Holds (Value.int  .i64) w sb so (one s)) (hs:s+3<2 ^ 62):
 Calls Tryz.prog 193 #[.slice (some ⟨blk,off,none⟩) len cap,.int .i64 a,.pointer (some ⟨sb,so,none⟩)] w fun e w'=>
  e = .returned (.int .i64 (medianAdjacent ltInt d a s).1)∧∃n,w'=putRow (Value.int  .i64) (Sort.ahead w n) sb so (one (medianAdjacent ltInt d a s).2):=by
 subst hlen
 replace hsz:d.size<4611686018427387904:=by omega
 go_enter Tryz.func193,Tryz.ntmps193
 go_wp2_with (go_at_call 194;rw[show ((a:Int)-1)=((a-1:Nat):Int) by omega,show ((a:Int)+1)=((a+1:Nat):Int) by omega];refine (s_median d _ rfl blk off cap (a-1) a (a+1) sb so s w hH (by omega) (by omega) ha hne hS hs).mono ?_;rintro e w' ⟨rfl,n1,rfl⟩)
 go_ret
 exact⟨rfl,n1,rfl⟩
set_option maxRecDepth 100000 in
theorem len8tab_size:(Lib.len8tab.size:Int)=256:=by
 have:Lib.len8tab.size=256:=by decide
 omega
theorem wrap_add (k a b:Nat) (hk:k≤56) (ha:a≤8) (hb:b=k+a):RowKit.wrap64 ((k:Int)+RowKit.wrap64 (a:Int))=(b:Int):=by
 unfold RowKit.wrap64
 omega
theorem wrap_wrap (a:Nat) (ha:a≤8):RowKit.wrap64 (RowKit.wrap64 (a:Int))=(a:Int):=by
 unfold RowKit.wrap64
 omega
theorem len8_get (y:Int) (h:y.toNat<Lib.len8tab.size):((Lib.len8tab[y.toNat]'h).toNat:Int)=Lib.len8 y:=by
 unfold Lib.len8
 rw[getElem?_pos Lib.len8tab y.toNat h]
 rfl
set_option maxRecDepth 1000000 in
theorem s_bits_Len64 (x:Int) (w:World) (h0:0≤x) (h1:x≤18446744073709551615):
 Calls Tryz.prog 161 #[.int .u64 x] w fun e w'=>e = .returned (.int .i64 (Lib.bitLen x.toNat))∧w'=w:=by
 go_enter Tryz.func161,Tryz.ntmps161
 go_wp2
 all_goals first
  | (go_ret;refine⟨congrArg Ending.returned (congrArg (Value.int IntKind.i64) ?_),rfl⟩;go_light)
  | (exfalso
     go_light
     have hs:=len8tab_size
     omega)
 all_goals first
  | (rw[len8_get (x/4294967296/65536/256) _,Lib.len8_of (x/4294967296/65536/256) (by omega) (by omega)]
     have e:(x/4294967296/65536/256).toNat=x.toNat/72057594037927936:=by omega
     have l:=Lib.bitLen_le8' (x/4294967296/65536/256) (by omega) (by omega)
     have s:=Lib.bitLen_shift56 x.toNat (by omega) (by omega)
     rw[e] at l⊢
     exact wrap_add 56 _ _ (by decide) l s)
  | (rw[len8_get (x/4294967296/65536) _,Lib.len8_of (x/4294967296/65536) (by omega) (by omega)]
     have e:(x/4294967296/65536).toNat=x.toNat/281474976710656:=by omega
     have l:=Lib.bitLen_le8' (x/4294967296/65536) (by omega) (by omega)
     have s:=Lib.bitLen_shift48 x.toNat (by omega) (by omega)
     rw[e] at l⊢
     exact wrap_add 48 _ _ (by decide) l s)
  | (rw[len8_get (x/4294967296/256) _,Lib.len8_of (x/4294967296/256) (by omega) (by omega)]
     have e:(x/4294967296/256).toNat=x.toNat/1099511627776:=by omega
     have l:=Lib.bitLen_le8' (x/4294967296/256) (by omega) (by omega)
     have s:=Lib.bitLen_shift40 x.toNat (by omega) (by omega)
     rw[e] at l⊢
     exact wrap_add 40 _ _ (by decide) l s)
  | (rw[len8_get (x/4294967296) _,Lib.len8_of (x/4294967296) (by omega) (by omega)]
     have e:(x/4294967296).toNat=x.toNat/4294967296:=by omega
     have l:=Lib.bitLen_le8' (x/4294967296) (by omega) (by omega)
     have s:=Lib.bitLen_shift32 x.toNat (by omega) (by omega)
     rw[e] at l⊢
     exact wrap_add 32 _ _ (by decide) l s)
  | (rw[len8_get (x/65536/256) _,Lib.len8_of (x/65536/256) (by omega) (by omega)]
     have e:(x/65536/256).toNat=x.toNat/16777216:=by omega
     have l:=Lib.bitLen_le8' (x/65536/256) (by omega) (by omega)
     have s:=Lib.bitLen_shift24 x.toNat (by omega) (by omega)
     rw[e] at l⊢
     exact wrap_add 24 _ _ (by decide) l s)
  | (rw[len8_get (x/65536) _,Lib.len8_of (x/65536) (by omega) (by omega)]
     have e:(x/65536).toNat=x.toNat/65536:=by omega
     have l:=Lib.bitLen_le8' (x/65536) (by omega) (by omega)
     have s:=Lib.bitLen_shift16 x.toNat (by omega) (by omega)
     rw[e] at l⊢
     exact wrap_add 16 _ _ (by decide) l s)
  | (rw[len8_get (x/256) _,Lib.len8_of (x/256) (by omega) (by omega)]
     have e:(x/256).toNat=x.toNat/256:=by omega
     have l:=Lib.bitLen_le8' (x/256) (by omega) (by omega)
     have s:=Lib.bitLen_shift8 x.toNat (by omega) (by omega)
     rw[e] at l⊢
     exact wrap_add 8 _ _ (by decide) l s)
  | (rw[len8_get (x) _,Lib.len8_of (x) (by omega) (by omega)]
     have e:(x).toNat=x.toNat:=by omega
     have l:=Lib.bitLen_le8' (x) (by omega) (by omega)
     rw[e] at l⊢
     first | exact wrap_wrap _ l | exact wrap_add 0 _ _ (by decide) l (by omega) | exact wrap_one _ l)
set_option maxRecDepth 1000000 in
theorem s_bits_Len (x:Int) (w:World) (h0:0≤x) (h1:x≤18446744073709551615):
 Calls Tryz.prog 128 #[.int .u64 x] w fun e w'=>e = .returned (.int .i64 (Lib.bitLen x.toNat))∧w'=w:=by
 go_enter Tryz.func128,Tryz.ntmps128
 go_wp2_with (go_at_call 161;refine (s_bits_Len64 x _ h0 h1).mono ?_;rintro e w' ⟨rfl,rfl⟩)
 go_ret
 exact⟨rfl,rfl⟩
set_option maxRecDepth 1000000 in
theorem s_xorshift_Next (rb ro X:Nat) (hX:X<18446744073709551616) (w:World) (hc:w.cell? ⟨rb,ro,none⟩=some (.int .u64 X)) (hf:w.frozen? ⟨rb,ro,none⟩=false):
 Calls Tryz.prog 192 #[.pointer (some ⟨rb,ro,none⟩)] w fun e w'=>e = .returned (.int .u64 (xorNextN X:Nat))∧w'=(w.setCell ⟨rb,ro,none⟩ (.int .u64 (xorNextN X:Nat))).drewN 3:=by
 obtain⟨A,hA⟩:∃A:Nat,A=X ^^^ (X*8192%18446744073709551616):=⟨_,rfl⟩
 obtain⟨B,hB⟩:∃B:Nat,B=A ^^^ (A/128):=⟨_,rfl⟩
 obtain⟨C,hC⟩:∃C:Nat,C=B ^^^ (B*131072%18446744073709551616):=⟨_,rfl⟩
 have lA:A<18446744073709551616:=by rw[hA];exact Nat.xor_lt_two_pow (n:=64) (by omega) (by omega)
 have lB:B<18446744073709551616:=by rw[hB];exact Nat.xor_lt_two_pow (n:=64) (by omega) (by omega)
 have e1:bits .xor .u64 (X:Int) (IntKind.u64.wrap ((X:Int)*8192))=(A:Int):=by
  rw[IntKind.wrap_u64,show ((X:Int)*8192%18446744073709551616)=((X*8192%18446744073709551616:Nat):Int) by omega,bits_xor_u64_nat _ _ hX (by omega),hA]
 have e2:bits .xor .u64 (A:Int) ((A:Int)/128)=(B:Int):=by
  rw[show ((A:Int)/128)=((A/128:Nat):Int) by omega,bits_xor_u64_nat _ _ lA (by omega),hB]
 have e3:bits .xor .u64 (B:Int) (IntKind.u64.wrap ((B:Int)*131072))=(C:Int):=by
  rw[IntKind.wrap_u64,show ((B:Int)*131072%18446744073709551616)=((B*131072%18446744073709551616:Nat):Int) by omega,bits_xor_u64_nat _ _ lB (by omega),hC]
 have hv:xorNextN X=C:=by unfold xorNextN;simp only[];rw[←hA,←hB,←hC]
 rw[hv]
 clear hA hB hC hv
 have hss:∀v v',(w.setCell ⟨rb,ro,none⟩ v).setCell ⟨rb,ro,none⟩ v'=w.setCell ⟨rb,ro,none⟩ v':=setCell_setCell w rb ro
 go_enter Tryz.func192,Tryz.ntmps192
 go_wp2
 go_region
 all_goals go_wp2
 all_goals go_region
 all_goals go_wp2
 all_goals go_region
 all_goals go_wp2
 go_ret
 exact⟨rfl,rfl⟩
set_option maxRecDepth 1000000 in
theorem s_nextPowerOfTwo (n:Nat) (hn:n<4611686018427387904) (w:World):
 Calls Tryz.prog 191 #[.int .i64 n] w fun e w'=>e = .returned (.int .u64 ((1 <<< bitsLen n:Nat):Int))∧w'=w:=by
 have hLen:∀w,Calls Tryz.prog 128 #[.int .u64 (n:Int)] w fun e w'=>e = .returned (.int .i64 (bitsLen n:Nat))∧w'=w:=fun w=>by
  have h:=s_bits_Len (n:Int) w (by omega) (by omega)
  rwa [Int.toNat_natCast,bitLen_eq _ (by omega)] at h
 have hk:bitsLen n≤62:=(bitsLen_le_iff n 62).2 (by omega)
 have hp:=wrap_two_pow (bitsLen n) hk
 go_enter Tryz.func191,Tryz.ntmps191
 go_wp2_with (first | (go_at_call 128;refine (hLen _).mono ?_;rintro e w' ⟨rfl,rfl⟩))
 go_ret
 exact⟨rfl,rfl⟩
set_option maxRecDepth 1000000 in
theorem s_breakPatterns_go (blk off cap a L:Nat) (d:Array Int) (w:World) (hH:Holds (Value.int .u32) w blk off d) (hblk:blk<w.heap.size) (hb:a+L≤d.size) (hsz:d.size<4611686018427387904) (h8:8≤L):
 Calls Tryz.prog 153 #[.slice (some ⟨blk,off,none⟩) d.size cap,.int .i64 a,.int .i64 ((a+L:Nat):Int)] w fun e w'=>
  e = .returned (.tuple #[])∧∃n os,w'=grow (putRow (Value.int .u32) (Sort.ahead w n) blk off (breakPatterns d a (a+L))) os:=by
 rw[breakPatterns_eq d a L h8]
 obtain⟨M,hM⟩:∃M:Nat,M=1 <<< bitsLen L:=⟨_,rfl⟩
 have hM1:1≤M:=by rw[hM,Nat.one_shiftLeft];exact Nat.two_pow_pos _
 have hM2:M≤2*L:=by rw[hM,Nat.one_shiftLeft];exact two_pow_bitsLen_le (by omega)
 have hNP:∀w,Calls Tryz.prog 191 #[.int .i64 (L:Int)] w fun e w'=>e = .returned (.int .u64 (M:Int))∧w'=w:=by rw[hM];exact fun w=>s_nextPowerOfTwo L (by omega) w
 rw[←hM]
 clear hM
 have HH:Hid (Holds (Value.int .u32) w blk off d):=hH
 have HST:Hid (w.alloc (Obj.cells #[.int .u64 (L:Int)] 264)=grow (putRow (Value.int .u32) (Sort.ahead w 0) blk off d) #[Obj.cells #[.int .u64 ((UInt64.ofNat L).toNat:Int)] 264]):=by
  show _=_
  rw[show Sort.ahead w 0=w from rfl,putRow_self _ _ _ _ _ hH,alloc_eq_grow,show (UInt64.ofNat L).toNat=L from by simp;omega]
 clear hH
 go_enter Tryz.func153,Tryz.ntmps153
 go_wp2_with (first | (go_at_call 191;rw[show ((a:Int)+(L:Int)-(a:Int))=(L:Int) by omega];refine ((hNP _)).mono ?_;rintro e w' ⟨rfl,rfl⟩))
 go_loopw [9] (fun vi wr=>∃(t n:Nat) (r:UInt64) (dk:Array Int),vi = .int .i64 ((a+L/4*2-1+t:Nat):Int)∧t≤3∧dk.size=d.size∧
  wr=grow (putRow (Value.int .u32) (Sort.ahead w n) blk off dk) #[Obj.cells #[.int .u64 (r.toNat:Int)] 264]∧
  bpRest a L M (a+L/4*2-1) (3-t) t (r,dk)=bpRest a L M (a+L/4*2-1) 3 0 (UInt64.ofNat L,d)) (fun vi _=>a+L/4*2+3-(intOf vi).toNat)
 case atStart=>exact⟨0,0,UInt64.ofNat L,d,by congr 1;omega,by omega,rfl,HST.out,rfl⟩
 case round =>
  obtain⟨t,n,r,dk,rfl,ht,hsk,hw,hR⟩:=hrel
  obtain⟨R,hRr⟩:∃R:Nat,R=r.toNat:=⟨_,rfl⟩
  have lR:R<18446744073709551616:=by rw[hRr];exact r.toNat_lt
  obtain⟨R',hR'⟩:∃R':Nat,R'=xorNextN R:=⟨_,rfl⟩
  have lR':R'<18446744073709551616:=by rw[hR'];exact xorNextN_lt R lR
  obtain⟨O,hO⟩:∃O:Nat,O=R' &&& (M-1):=⟨_,rfl⟩
  have lO:O≤M-1:=by rw[hO];exact Nat.and_le_right
  have eAnd:bits .and .u64 (R':Int) ((M:Int)-1)=(O:Int):=by
   rw[show ((M:Int)-1)=((M-1:Nat):Int) by omega,bits_and_u64_nat _ _ lR' (by omega),hO]
  obtain⟨G,hG⟩:∃G:Nat→Int,∀x,G x=dk[x]!:=⟨fun x=>dk[x]!,fun _=>rfl⟩
  have hz:(putRow (Value.int .u32) (Sort.ahead w n) blk off dk).heap.size=w.heap.size:=by simp
  have hcw:∀x,x<d.size→wr.cell? ⟨blk,off+x,none⟩=some (.int .u32 (G x)):=fun x hx=>by
   rw[hw,cell?_grow _ _ _ (by rw[hz];exact hblk),hG];exact cell?_putRow _ _ _ _ d dk (holds_ahead _ _ _ _ _ _ HH.out) hsk x (by omega)
  have hfw:∀x,x<d.size→wr.frozen? ⟨blk,off+x,none⟩=false:=fun x hx=>by
   rw[hw,frozen?_grow _ _ _ (by rw[hz];exact hblk),frozen?_putRow];exact ((holds_ahead _ _ n _ _ _ HH.out) x hx).2
  have hcB:wr.cell? ⟨w.heap.size,0,none⟩=some (.int .u64 (R:Int)):=by rw[hw,hRr,←hz];exact grow_one_cell _ _ _
  have hfB:wr.frozen? ⟨w.heap.size,0,none⟩=false:=by rw[hw,←hz];exact grow_one_frozen _ _ _
  have hNext:Calls Tryz.prog 192 #[.pointer (some ⟨w.heap.size,0,none⟩)] wr fun e w'=>e = .returned (.int .u64 (R':Int))∧w'=(wr.setCell ⟨w.heap.size,0,none⟩ (.int .u64 (R':Int))).drewN 3:=by
   rw[hR'];exact s_xorshift_Next _ _ R lR wr hcB hfB
  have HW:Hid (wr=grow (putRow (Value.int .u32) (Sort.ahead w n) blk off dk) #[Obj.cells #[.int .u64 (r.toNat:Int)] 264]):=hw
  have HG:Hid (∀x,G x=dk[x]!):=hG
  have HR:Hid (bpRest a L M (a+L/4*2-1) (3-t) t (r,dk)=bpRest a L M (a+L/4*2-1) 3 0 (UInt64.ofNat L,d)):=hR
  have HN:Hid (R'=(xorNext r).toNat∧O=(xorNext r).toNat &&& (M-1)):=by
   have e:R'=(xorNext r).toNat:=by rw[hR',hRr,xorNext_toNat]
   exact⟨e,by rw[hO,e]⟩
  clear hw hG hR hRr hR' hO
  go_wp2_with (first | (go_at_call 192;refine (hNext).mono ?_;rintro e w' ⟨rfl,rfl⟩))
  all_goals first
   | (have hLO:L≤O:=by omega
      by_cases hEq:a+L/4*2-1+t=a+(O-L)
      all_goals
       go_region
       all_goals go_wp2
       go_roundw
       case rel=>
        refine⟨t+1,n+4,xorNext r,swp dk (a+L/4*2-1+t) (a+(O-L)),by first | rfl | (congr 1 <;> omega),by omega,by rw[size_swp];exact hsk,?_,?_⟩
        · (try rw[hEq])
          rw[HW.out,HN.out.1]
          simp only[HG.out]
          exact step_world (Value.int .u32) w n 4 blk off dk _ _ hblk (by omega) (by omega) _ _ _
        · rw[←HR.out,bp_step a L M _ t r dk (O-L) (by omega) (by rw[←HN.out.2,if_pos (by omega)])]
       case measure=>simp[intOf];omega)
   | (have hLO:¬L≤O:=by omega
      by_cases hEq:a+L/4*2-1+t=a+O
      all_goals
       go_region
       all_goals go_wp2
       go_roundw
       case rel=>
        refine⟨t+1,n+4,xorNext r,swp dk (a+L/4*2-1+t) (a+O),by first | rfl | (congr 1 <;> omega),by omega,by rw[size_swp];exact hsk,?_,?_⟩
        · (try rw[hEq])
          rw[HW.out,HN.out.1]
          simp only[HG.out]
          exact step_world (Value.int .u32) w n 4 blk off dk _ _ hblk (by omega) (by omega) _ _ _
        · rw[←HR.out,bp_step a L M _ t r dk O (by omega) (by rw[←HN.out.2,if_neg (by omega)])]
       case measure=>simp[intOf];omega)
   | (obtain rfl:t=3:=by omega
      go_end0
      exact⟨rfl,n,_,by rw[←HR.out,HW.out];rfl⟩)
set_option maxRecDepth 1000000 in
theorem s_breakPatterns (blk off cap a b:Nat) (d:Array Int) (w:World) (hH:Holds (Value.int .u32) w blk off d) (hblk:blk<w.heap.size) (hab:a≤b) (hb:b≤d.size) (hsz:d.size<4611686018427387904):
 Calls Tryz.prog 153 #[.slice (some ⟨blk,off,none⟩) d.size cap,.int .i64 a,.int .i64 b] w fun e w'=>
  e = .returned (.tuple #[])∧∃n os,w'=grow (putRow (Value.int .u32) (Sort.ahead w n) blk off (breakPatterns d a b)) os:=by
 obtain⟨L,rfl⟩:∃L,b=a+L:=⟨b-a,by omega⟩
 by_cases h8:8≤L
 · exact s_breakPatterns_go blk off cap a L d w hH hblk hb hsz h8
 · have hv:breakPatterns d a (a+L)=d:=by unfold breakPatterns;simp only[Nat.add_sub_cancel_left];rw[if_neg h8]
   rw[hv]
   have HST:Hid (w=grow (putRow (Value.int .u32) (Sort.ahead w 0) blk off d) #[]):=by
    show _=_
    rw[grow_empty,show Sort.ahead w 0=w from rfl,putRow_self _ _ _ _ _ hH]
   clear hH
   go_enter Tryz.func153,Tryz.ntmps153
   go_wp2
   go_end0
   exact⟨rfl,0,#[],HST.out⟩
set_option maxRecDepth 1000000 in
theorem s_pivot_world (blk off cap:Nat) (d:Array Int) (w:World) (hH:Holds (Value.int .u32) w blk off d) (hblk:blk<w.heap.size) (hsz:d.size<4611686018427387904):
 ∃ Wc:Nat→Nat→World,
   w.alloc (.cells #[.int .i64 0] 3)=Wc 0 0∧
   (∀N S:Nat,(Wc N S).cell? ⟨w.heap.size,0,none⟩=some (.int .i64 (S:Int)))∧
   (∀N S:Nat,∃os,Wc N S=grow (Sort.ahead w N) os)∧
   (∀x s N:Nat,1≤x→x+1<d.size→s+3<4611686018427387904→Calls Tryz.prog 193 #[.slice (some ⟨blk,off,none⟩) d.size cap,.int .i64 (x:Int),.pointer (some ⟨w.heap.size,0,none⟩)] (Wc N s) fun e w'=>
     e = .returned (.int .i64 ((medianAdjacent ltInt d x s).1:Int))∧∃N',w'=Wc N' (medianAdjacent ltInt d x s).2)∧
   (∀x y z s N:Nat,x<d.size→y<d.size→z<d.size→s+3<4611686018427387904→Calls Tryz.prog 194 #[.slice (some ⟨blk,off,none⟩) d.size cap,.int .i64 (x:Int),.int .i64 (y:Int),.int .i64 (z:Int),.pointer (some ⟨w.heap.size,0,none⟩)] (Wc N s) fun e w'=>
     e = .returned (.int .i64 ((median ltInt d x y z s).1:Int))∧∃N',w'=Wc N' (median ltInt d x y z s).2):=by
 have hne:w.heap.size≠blk:=by omega
 have hH0:Holds (Value.int .u32) (w.alloc (.cells #[.int .i64 0] 3)) blk off d:=by rw[alloc_eq_grow];exact holds_grow _ _ _ _ _ _ hblk hH
 have hS0:Holds (Value.int  .i64) (w.alloc (.cells #[.int .i64 0] 3)) w.heap.size 0 (one 0):=fun j hj=>by
  obtain rfl:j=0:=by simpa using hj
  simp
 refine⟨fun N S=>putRow (Value.int  .i64) (Sort.ahead (w.alloc (.cells #[.int .i64 0] 3)) N) w.heap.size 0 (one S),(putRow_self _ _ _ _ _ hS0).symm,fun N S=>(one_cell (holds_one (n:=N) (t:=S) hS0)).1,fun N S=>counter_grow w N S,?_,?_⟩
 · intro x s N h1 h2 hs
   refine (s_medianAdjacent d _ rfl blk off cap x w.heap.size 0 s _ (holds_asideE hH0 hne) h1 h2 (by omega) hne (holds_one hS0) (by omega)).mono ?_
   rintro e w' ⟨he,n,hw⟩
   exact⟨he,N+n,by rw[hw,one_one]⟩
 · intro x y z s N h1 h2 h3 hs
   refine (s_median d _ rfl blk off cap x y z w.heap.size 0 s _ (holds_asideE hH0 hne) h1 h2 h3 hne (holds_one hS0) (by omega)).mono ?_
   rintro e w' ⟨he,n,hw⟩
   exact⟨he,N+n,by rw[hw,one_one]⟩
set_option maxRecDepth 1000000 in
theorem s_choosePivot (blk off cap a b:Nat) (d:Array Int) (w:World) (hH:Holds (Value.int .u32) w blk off d) (hblk:blk<w.heap.size) (hab:a<b) (hb:b≤d.size) (hsz:d.size<4611686018427387904):
 Calls Tryz.prog 154 #[.slice (some ⟨blk,off,none⟩) d.size cap,.int .i64 a,.int .i64 b] w fun e w'=>
  e = .returned (.tuple #[.int .i64 (choosePivot ltInt d a b).1,.int .i64 (hintCode (choosePivot ltInt d a b).2)])∧∃n os,w'=grow (Sort.ahead w n) os:=by
 obtain⟨Wc,hW0,cS,hG,MA,MD⟩:=s_pivot_world blk off cap d w hH hblk hsz
 clear hH
 rw[choosePivot_eq]
 obtain⟨I,hI⟩:∃I:Nat,I=a+(b-a)/4*1:=⟨_,rfl⟩
 obtain⟨J,hJ⟩:∃J:Nat,J=a+(b-a)/4*2:=⟨_,rfl⟩
 obtain⟨K,hK⟩:∃K:Nat,K=a+(b-a)/4*3:=⟨_,rfl⟩
 have eI:((a:Int)+((b:Int)-(a:Int))/4)=(I:Int):=by omega
 have eJ:((a:Int)+((b:Int)-(a:Int))/4*2)=(J:Int):=by omega
 have eK:((a:Int)+((b:Int)-(a:Int))/4*3)=(K:Int):=by omega
 by_cases h8:b-a≥8
 · by_cases h50:b-a≥50
   ·
    obtain⟨i1,s1,h1⟩:∃i1 s1,medianAdjacent ltInt d I 0=(i1,s1):=⟨_,_,rfl⟩
    obtain⟨j1,s2,h2⟩:∃j1 s2,medianAdjacent ltInt d J s1=(j1,s2):=⟨_,_,rfl⟩
    obtain⟨k1,s3,h3⟩:∃k1 s3,medianAdjacent ltInt d K s2=(k1,s3):=⟨_,_,rfl⟩
    obtain⟨p,s,h4⟩:∃p s,median ltInt d i1 j1 k1 s3=(p,s):=⟨_,_,rfl⟩
    have hraw:rawPivot ltInt d a b=(p,s):=by simp only[rawPivot,if_pos h8,if_pos h50,←hI,←hJ,←hK,h1,h2,h3,h4]
    have m1:=medianAdjacent_mem ltInt d I 0;rw[h1] at m1
    have m2:=medianAdjacent_mem ltInt d J s1;rw[h2] at m2
    have m3:=medianAdjacent_mem ltInt d K s2;rw[h3] at m3
    have n1:=medianAdjacent_count ltInt d I 0;rw[h1] at n1
    have n2:=medianAdjacent_count ltInt d J s1;rw[h2] at n2
    have n3:=medianAdjacent_count ltInt d K s2;rw[h3] at n3
    simp only[] at m1 m2 m3 n1 n2 n3
    have c1:Calls Tryz.prog 193 #[.slice (some ⟨blk,off,none⟩) d.size cap,.int .i64 (I:Int),.pointer (some ⟨w.heap.size,0,none⟩)] (Wc 0 0) fun e w'=>e = .returned (.int .i64 (i1:Int))∧∃N',w'=Wc N' s1:=by
     have h:=MA I 0 0 (by omega) (by omega) (by omega);rw[h1] at h;exact h
    have c2:∀N,Calls Tryz.prog 193 #[.slice (some ⟨blk,off,none⟩) d.size cap,.int .i64 (J:Int),.pointer (some ⟨w.heap.size,0,none⟩)] (Wc N s1) fun e w'=>e = .returned (.int .i64 (j1:Int))∧∃N',w'=Wc N' s2:=fun N=>by
     have h:=MA J s1 N (by omega) (by omega) (by omega);rw[h2] at h;exact h
    have c3:∀N,Calls Tryz.prog 193 #[.slice (some ⟨blk,off,none⟩) d.size cap,.int .i64 (K:Int),.pointer (some ⟨w.heap.size,0,none⟩)] (Wc N s2) fun e w'=>e = .returned (.int .i64 (k1:Int))∧∃N',w'=Wc N' s3:=fun N=>by
     have h:=MA K s2 N (by omega) (by omega) (by omega);rw[h3] at h;exact h
    have c4:∀N,Calls Tryz.prog 194 #[.slice (some ⟨blk,off,none⟩) d.size cap,.int .i64 (i1:Int),.int .i64 (j1:Int),.int .i64 (k1:Int),.pointer (some ⟨w.heap.size,0,none⟩)] (Wc N s3) fun e w'=>e = .returned (.int .i64 (p:Int))∧∃N',w'=Wc N' s:=fun N=>by
     have h:=MD i1 j1 k1 s3 N (by omega) (by omega) (by omega) (by omega);rw[h4] at h;exact h
    rw[hraw]
    obtain⟨Hc,hHc⟩:∃Hc:Int,Hc=hintCode (hintOf s):=⟨_,rfl⟩
    have hh0:s=0→Hc=1:=fun h=>by rw[hHc,h];rfl
    have hh12:s=12→Hc=2:=fun h=>by rw[hHc,h];rfl
    have hhx:s≠0→s≠12→Hc=0:=fun h1 h2=>by rw[hHc];unfold hintOf;rw[if_neg h1,if_neg h2];rfl
    show Calls Tryz.prog 154 _ w fun e w'=>e = .returned (.tuple #[.int .i64 (p:Int),.int .i64 (hintCode (hintOf s))])∧∃n os,w'=grow (Sort.ahead w n) os
    rw[←hHc]
    clear hHc hraw
    clear h1 h2 h3 h4 MA MD hI hJ hK m1 m2 m3
    go_enter Tryz.func154,Tryz.ntmps154
    go_wp2_with (first
     | (go_at_call_has 193 (Value.int .i64 (I:Int));refine (c1).mono ?_;rintro e w' ⟨rfl,N1,rfl⟩)
     | (go_at_call_has 193 (Value.int .i64 (J:Int));refine ((c2 _)).mono ?_;rintro e w' ⟨rfl,N2,rfl⟩)
     | (go_at_call_has 193 (Value.int .i64 (K:Int));refine ((c3 _)).mono ?_;rintro e w' ⟨rfl,N3,rfl⟩)
     | (go_at_call 194;refine ((c4 _)).mono ?_;rintro e w' ⟨rfl,N4,rfl⟩))
    all_goals
     go_ret2
     refine⟨?_,_,hG _ _⟩
     first
      | (have e0:(s:Int)=0:=of_beq_int (by assumption)
         rw[hh0 (by omega)];rfl)
      | (have e1:(s:Int)=12:=of_beq_int (by assumption)
         rw[hh12 (by omega)];rfl)
      | (have e0:(s:Int)≠0:=of_bne_int (by assumption)
         have e1:(s:Int)≠12:=of_bne_int (by assumption)
         rw[hhx (by omega) (by omega)];rfl)
      | (rw[hh0 (by omega)];rfl)
   ·
    obtain⟨p,s,h4⟩:∃p s,median ltInt d I J K 0=(p,s):=⟨_,_,rfl⟩
    have hraw:rawPivot ltInt d a b=(p,s):=by simp only[rawPivot,if_pos h8,if_neg h50,←hI,←hJ,←hK,h4]
    have c4:Calls Tryz.prog 194 #[.slice (some ⟨blk,off,none⟩) d.size cap,.int .i64 (I:Int),.int .i64 (J:Int),.int .i64 (K:Int),.pointer (some ⟨w.heap.size,0,none⟩)] (Wc 0 0) fun e w'=>e = .returned (.int .i64 (p:Int))∧∃N',w'=Wc N' s:=by
     have h:=MD I J K 0 0 (by omega) (by omega) (by omega) (by omega);rw[h4] at h;exact h
    rw[hraw]
    obtain⟨Hc,hHc⟩:∃Hc:Int,Hc=hintCode (hintOf s):=⟨_,rfl⟩
    have hh0:s=0→Hc=1:=fun h=>by rw[hHc,h];rfl
    have hh12:s=12→Hc=2:=fun h=>by rw[hHc,h];rfl
    have hhx:s≠0→s≠12→Hc=0:=fun h1 h2=>by rw[hHc];unfold hintOf;rw[if_neg h1,if_neg h2];rfl
    show Calls Tryz.prog 154 _ w fun e w'=>e = .returned (.tuple #[.int .i64 (p:Int),.int .i64 (hintCode (hintOf s))])∧∃n os,w'=grow (Sort.ahead w n) os
    rw[←hHc]
    clear hHc hraw
    clear h4 MA MD hI hJ hK
    go_enter Tryz.func154,Tryz.ntmps154
    go_wp2_with (first | (go_at_call 194;refine (c4).mono ?_;rintro e w' ⟨rfl,N4,rfl⟩))
    all_goals
     go_ret2
     refine⟨?_,_,hG _ _⟩
     first
      | (have e0:(s:Int)=0:=of_beq_int (by assumption)
         rw[hh0 (by omega)];rfl)
      | (have e1:(s:Int)=12:=of_beq_int (by assumption)
         rw[hh12 (by omega)];rfl)
      | (have e0:(s:Int)≠0:=of_bne_int (by assumption)
         have e1:(s:Int)≠12:=of_bne_int (by assumption)
         rw[hhx (by omega) (by omega)];rfl)
      | (rw[hh0 (by omega)];rfl)
 ·
  obtain⟨p,hp⟩:∃p:Nat,p=J:=⟨_,rfl⟩
  obtain⟨s,hs⟩:∃s:Nat,s=0:=⟨_,rfl⟩
  have hraw:rawPivot ltInt d a b=(p,s):=by simp only[rawPivot,if_neg h8,←hJ,hp,hs]
  rw[hraw]
  obtain⟨Hc,hHc⟩:∃Hc:Int,Hc=hintCode (hintOf s):=⟨_,rfl⟩
  have hh0:s=0→Hc=1:=fun h=>by rw[hHc,h];rfl
  have hh12:s=12→Hc=2:=fun h=>by rw[hHc,h];rfl
  have hhx:s≠0→s≠12→Hc=0:=fun h1 h2=>by rw[hHc];unfold hintOf;rw[if_neg h1,if_neg h2];rfl
  show Calls Tryz.prog 154 _ w fun e w'=>e = .returned (.tuple #[.int .i64 (p:Int),.int .i64 (hintCode (hintOf s))])∧∃n os,w'=grow (Sort.ahead w n) os
  rw[←hHc]
  clear hHc hraw
  subst hp
  clear MA MD hI hJ hK
  have hW0':w.alloc (.cells #[.int .i64 0] 3)=Wc 0 s:=by rw[hs];exact hW0
  clear hW0
  go_enter Tryz.func154,Tryz.ntmps154
  go_wp2
  all_goals
   go_ret2
   refine⟨?_,_,hG _ _⟩
   first
    | (have e0:(s:Int)=0:=of_beq_int (by assumption)
       rw[hh0 (by omega)];rfl)
    | (have e1:(s:Int)=12:=of_beq_int (by assumption)
       rw[hh12 (by omega)];rfl)
    | (have e0:(s:Int)≠0:=of_bne_int (by assumption)
       have e1:(s:Int)≠12:=of_bne_int (by assumption)
       rw[hhx (by omega) (by omega)];rfl)
    | (rw[hh0 (by omega)];rfl)
end Go.Proofs.YtljmiiiidjeggaaGreat.U32
