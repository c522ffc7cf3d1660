/-
  Parts of the proof, joined.
-/
import Derived.Sort.WalkA6
import Derived.Test.YtlbjdbaeffacgaaGreatBdn
import Derived.Sort.Walk13
import Derived.Sort.LotD6
import Derived.Sort.WalkA14
import Derived.Sort.LotD7
import Derived.Sort.AssemblyPlain
import Derived.Test.YtlbjdbaeffacgaaGreatBdo
import Derived.Test.YtlbjdbaeffacgaaGreatBdi
import Derived.Deep.LoopGhost
import Derived.Test.YtlbjdbaeffacgaaGreatBdg
import Derived.Test.YtlbjdbaeffacgaaGreatBdf
import Derived.Test.YtlbjdbaeffacgaaGreatBdj
import Derived.Lib.SmallJoins
import Derived.Test.YtlbjdbaeffacgaaGreatBdm
namespace Go.Proofs.YtlbjdbaeffacgaaGreat.U32
set_option maxHeartbeats 32000000
open Go.RowKit Go.Sort
set_option linter.unusedVariables false
set_option maxRecDepth 1000000 in
theorem s_partialInsertionSort (blk off cap a b : Nat) (d : Array Int) (w:World) (hH:Holds (Value.int .u32) w blk off d) (hab:a<b) (hb:b≤d.size) (hsz:d.size<4611686018427387904):
 Calls Tryz.prog 117 #[.slice (some ⟨blk,off,none⟩) d.size cap,.int .i64 a,.int .i64 b] w fun e w'=>
  e = .returned (.bool (Sort.partialInsertionSort ltInt d a b).2)∧∃n,w'=putRow (Value.int .u32) (Sort.ahead w n) blk off (Sort.partialInsertionSort ltInt d a b).1:=by
 have HH:Hid (Holds (Value.int .u32) w blk off d):=hH
 have HST:Hid (w=putRow (Value.int .u32) (Sort.ahead w 0) blk off d):=(putRow_self _ _ _ _ _ hH).symm
 clear hH
 go_enter Tryz.func117,Tryz.ntmps117
 go_wp2
 go_loopw [7,8] (fun vi vs wr=>∃(i s n:Nat) (dk:Array Int),vi = .int .i64 i∧vs = .int .i64 s∧s≤5∧a<i∧i≤b∧dk.size=d.size∧wr=putRow (Value.int .u32) (Sort.ahead w n) blk off dk∧
  partialIns ltInt a b (5-s) i dk=partialIns ltInt a b 5 (a+1) d) (fun _ vs _=>5-(intOf vs).toNat)
 case atStart=>exact⟨a+1,0,0,d,by go_num,rfl,by omega,by omega,by omega,rfl,HST.out,rfl⟩
 case round=>
  obtain⟨i,s,n,dk,rfl,rfl,hs5,hai,hib,hsk,hwr,hO⟩:=hrel
  have HO:Hid (partialIns ltInt a b (5-s) i dk=partialIns ltInt a b 5 (a+1) d):=hO
  clear hO
  go_wp2
  ·
   have hs:s<5:=by omega
   go_loopw [7] (fun vi wr2=>∃(k m:Nat),vi = .int .i64 k∧i≤k∧k≤b∧wr2=putRow (Value.int .u32) (Sort.ahead w m) blk off dk∧scanSorted ltInt dk b k=scanSorted ltInt dk b i) (fun vi _=>b-(intOf vi).toNat)
   case atStart=>exact⟨i,n,rfl,Nat.le_refl _,hib,rfl,rfl⟩
   case round =>
    obtain⟨k,m,rfl,hik,hkb,hw2,hS⟩:=hrel
    obtain⟨G,hG⟩:∃G:Nat→Int,∀t,G t=dk[t]!:=⟨fun t=>dk[t]!,fun _=>rfl⟩
    have hcw:∀t,t<d.size→wr.cell? ⟨blk,off+t,none⟩=some (.int .u32 (G t)):=fun t ht=>by
     rw[hw2,hG];exact cell?_putRow _ _ _ _ d dk (holds_ahead _ _ _ _ _ _ HH.out) hsk t (by omega)
    have hfw:∀t,t<d.size→wr.frozen? ⟨blk,off+t,none⟩=false:=fun t ht=>by
     rw[hw2,frozen?_putRow];exact ((holds_ahead _ _ m _ _ _ HH.out) t ht).2
    have HW:Hid (wr=putRow (Value.int .u32) (Sort.ahead w m) blk off dk):=hw2
    have HG:Hid (∀t,G t=dk[t]!):=hG
    have HS:Hid (scanSorted ltInt dk b k=scanSorted ltInt dk b i):=hS
    clear hw2 hG hS
    go_wp2
    by_cases hkb':k<b
    · go_quiet (first | (go_at_call 118;refine Calls.quiet_of_same (s_cmp_Less _ _ _)))
      go_wp2
      all_goals first
       | (at_end
          have hl:ltInt (G k) (G (k-1))=false:=by
           have h:(!ltInt (G k) (G (k-1)))=true:=by assumption
           simpa using h
          go_roundw
          case rel=>exact⟨k+1,m+nq,by go_num,by omega,by omega,by rw[HW.out];exact putRow_drewN _ _ _ _ _ _ _,by rw[←HS.out,scanSorted_go ltInt dk b k hkb' (by rw[←HG.out,←HG.out];exact hl)]⟩
          case measure=>simp[intOf];omega)
       | (have hl : ltInt (G k) (G (k - 1)) = true :=by
           have h:(!ltInt (G k) (G (k-1)))=false:=by assumption
           simpa using h
          have HK:Hid (scanSorted ltInt dk b i=k):=by
           show scanSorted ltInt dk b i=k
           rw[←HS.out,scanSorted_stop ltInt dk b k (Or.inr (by rw[←HG.out,←HG.out];exact hl))]
          first
           | (at_ret
              have hv:Sort.partialInsertionSort ltInt d a b=(dk,false):=by
               unfold Sort.partialInsertionSort
               rw[←HO.out,pi_short ltInt a b s i dk hs (by rw[HK.out];omega) (by omega)]
              rw[hv]
              go_ret
              exact⟨rfl,m+nq,by rw[HW.out];exact putRow_drewN _ _ _ _ _ _ _⟩)
           | (at_region 11
              have h50:¬b-a<50:=by omega
              go_region
              have hsw:((wr.drewN (nq+1)).setCell ⟨blk,off+k,none⟩ (.int .u32 (G (k-1)))).setCell ⟨blk,off+(k-1),none⟩ (.int .u32 (G k))=putRow (Value.int .u32) (Sort.ahead w (m+(nq+1))) blk off (swp dk k (k-1)):=by
               rw[HW.out,HG.out,HG.out]
               exact swap_worldA _ w m (nq+1) blk off dk k (k-1) (by omega) (by omega)
              have hs1:(swp dk k (k-1)).size=d.size:=by rw[size_swp];exact hsk
              go_wp2
              all_goals first
               | (at_loop
                  have hka:k-a≥2:=by omega
                  go_loopw [9] (fun vj wr2=>∃(j m2:Nat) (dj:Array Int),vj = .int .i64 j∧j≤k-1∧dj.size=d.size∧wr2=putRow (Value.int .u32) (Sort.ahead w m2) blk off dj∧
                   shiftDown ltInt j dj=shiftDown ltInt (k-1) (swp dk k (k-1))) (fun vj _=>(intOf vj).toNat)
                  case atStart=>exact⟨k-1,_,(swp dk k (k-1)),by congr 1;omega,Nat.le_refl _,hs1,rfl,rfl⟩
                  case round=>
                   obtain⟨j,m2,dj,rfl,hjk,hsj,hw2,hDn⟩:=hrel
                   obtain⟨G,hG⟩:∃G:Nat→Int,∀t,G t=dj[t]!:=⟨fun t=>dj[t]!,fun _=>rfl⟩
                   have hcw:∀t,t<d.size→wr.cell? ⟨blk,off+t,none⟩=some (.int .u32 (G t)):=fun t ht=>by
                    rw[hw2,hG];exact cell?_putRow _ _ _ _ d dj (holds_ahead _ _ _ _ _ _ HH.out) hsj t (by omega)
                   have hfw:∀t,t<d.size→wr.frozen? ⟨blk,off+t,none⟩=false:=fun t ht=>by
                    rw[hw2,frozen?_putRow];exact ((holds_ahead _ _ m2 _ _ _ HH.out) t ht).2
                   have HW:Hid (wr=putRow (Value.int .u32) (Sort.ahead w m2) blk off dj):=hw2
                   have HG:Hid (∀t,G t=dj[t]!):=hG
                   have HDn:Hid (shiftDown ltInt j dj=shiftDown ltInt (k-1) (swp dk k (k-1))):=hDn
                   clear hw2 hG hDn hsw
                   go_wp2
                   all_goals first
                    | (at_region 16
                       go_quiet (first | (go_at_call 118;refine Calls.quiet_of_same (s_cmp_Less _ _ _)))
                       go_wp2
                       all_goals first
                        | (at_region 17
                           have hl:ltInt (G j) (G (j-1))=true:=by
                            have h:(!ltInt (G j) (G (j-1)))=false:=by assumption
                            simpa using h
                           go_region
                           all_goals go_wp2
                           go_roundw
                           case rel=>
                            refine⟨j-1,m2+(nq+1),swp dj j (j-1),by congr 1;omega,by omega,by rw[size_swp];exact hsj,?_,?_⟩
                            · rw[HW.out,HG.out,HG.out]
                              exact swap_worldA _ w m2 (nq+1) blk off dj j (j-1) (by omega) (by omega)
                            · rw[←HDn.out,shiftDown_go ltInt j dj (by omega) (by rw[←HG.out,←HG.out];exact hl)]
                           case measure=>simp[intOf];omega)
                        | (
                           have hl:ltInt (G j) (G (j-1))=false:=by
                            have h:(!ltInt (G j) (G (j-1)))=true:=by assumption
                            simpa using h
                           have HD:Hid (fixDown ltInt a k (swp dk k (k-1))=dj):=by
                            show fixDown ltInt a k (swp dk k (k-1))=dj
                            unfold fixDown;rw[if_pos hka,←HDn.out,shiftDown_stop ltInt j dj (Or.inr (by rw[←HG.out,←HG.out];exact hl))]
                           first
                            | (at_end
                               go_roundw
                               case rel=>
                                refine⟨k,s+1,_,dj,rfl,by go_num,by omega,by omega,by omega,hsj,(by first | rfl | exact HW.out | (rw[HW.out];exact putRow_drewN _ _ _ _ _ _ _)),?_⟩
                                rw[←HO.out,pi_go ltInt a b s i k dk hs HK.out (by omega) (by omega),HD.out,show fixUp ltInt b k dj=dj from by unfold fixUp;rw[if_neg (by omega)]]
                               case measure=>simp[intOf];omega)
                            | (at_loop
                               go_loopw [10] (fun vj wr2=>∃(j m3:Nat) (du:Array Int),vj = .int .i64 j∧k+1≤j∧j≤b∧du.size=d.size∧wr2=putRow (Value.int .u32) (Sort.ahead w m3) blk off du∧
                                shiftUp ltInt b j du=shiftUp ltInt b (k+1) dj) (fun vj _=>b-(intOf vj).toNat)
                               case atStart=>exact⟨k+1,_,dj,by go_num,Nat.le_refl _,by omega,hsj,(by first | rfl | exact HW.out | (rw[HW.out];exact putRow_drewN _ _ _ _ _ _ _)),rfl⟩
                               case round=>
                                obtain⟨j,m3,du,rfl,hkj,hjb,hsu,hw3,hU⟩:=hrel
                                obtain⟨G,hG⟩:∃G:Nat→Int,∀t,G t=du[t]!:=⟨fun t=>du[t]!,fun _=>rfl⟩
                                have hcw:∀t,t<d.size→wr.cell? ⟨blk,off+t,none⟩=some (.int .u32 (G t)):=fun t ht=>by
                                 rw[hw3,hG];exact cell?_putRow _ _ _ _ d du (holds_ahead _ _ _ _ _ _ HH.out) hsu t (by omega)
                                have hfw:∀t,t<d.size→wr.frozen? ⟨blk,off+t,none⟩=false:=fun t ht=>by
                                 rw[hw3,frozen?_putRow];exact ((holds_ahead _ _ m3 _ _ _ HH.out) t ht).2
                                have HW:Hid (wr=putRow (Value.int .u32) (Sort.ahead w m3) blk off du):=hw3
                                have HG:Hid (∀t,G t=du[t]!):=hG
                                have HU:Hid (shiftUp ltInt b j du=shiftUp ltInt b (k+1) dj):=hU
                                clear hw3 hG hU
                                go_wp2
                                all_goals first
                                 | (at_region 22
                                    go_quiet (first | (go_at_call 118;refine Calls.quiet_of_same (s_cmp_Less _ _ _)))
                                    go_wp2
                                    all_goals first
                                     | (at_region 23
                                        have hl:ltInt (G j) (G (j-1))=true:=by
                                         have h:(!ltInt (G j) (G (j-1)))=false:=by assumption
                                         simpa using h
                                        go_region
                                        all_goals go_wp2
                                        go_roundw
                                        case rel=>
                                         refine⟨j+1,m3+(nq+1),swp du j (j-1),by go_num,by omega,by omega,by rw[size_swp];exact hsu,?_,?_⟩
                                         · rw[HW.out,HG.out,HG.out]
                                           exact swap_worldA _ w m3 (nq+1) blk off du j (j-1) (by omega) (by omega)
                                         · rw[←HU.out,shiftUp_go ltInt b j du (by omega) (by rw[←HG.out,←HG.out];exact hl)]
                                        case measure=>simp[intOf];omega)
                                     | (at_end
                                        have hl:ltInt (G j) (G (j-1))=false:=by
                                         have h:(!ltInt (G j) (G (j-1)))=true:=by assumption
                                         simpa using h
                                        go_roundw
                                        case rel=>
                                         refine⟨k,s+1,_,du,rfl,by go_num,by omega,by omega,by omega,hsu,(by first | rfl | exact HW.out | (rw[HW.out];exact putRow_drewN _ _ _ _ _ _ _)),?_⟩
                                         rw[←HO.out,pi_go ltInt a b s i k dk hs HK.out (by omega) (by omega),HD.out,show fixUp ltInt b k dj=du from by unfold fixUp;rw[if_pos (by omega),←HU.out,shiftUp_stop ltInt b j du (Or.inr (by rw[←HG.out,←HG.out];exact hl))]]
                                        case measure=>simp[intOf];omega))
                                 | (at_end
                                    go_roundw
                                    case rel=>
                                     refine⟨k,s+1,_,du,rfl,by go_num,by omega,by omega,by omega,hsu,(by first | rfl | exact HW.out | (rw[HW.out];exact putRow_drewN _ _ _ _ _ _ _)),?_⟩
                                     rw[←HO.out,pi_go ltInt a b s i k dk hs HK.out (by omega) (by omega),HD.out,show fixUp ltInt b k dj=du from by unfold fixUp;rw[if_pos (by omega),←HU.out,shiftUp_stop ltInt b j du (Or.inl (by omega))]]
                                    case measure=>simp[intOf];omega))))
                    | (
                       have HD:Hid (fixDown ltInt a k (swp dk k (k-1))=dj):=by
                        show fixDown ltInt a k (swp dk k (k-1))=dj
                        unfold fixDown;rw[if_pos hka,←HDn.out,shiftDown_stop ltInt j dj (Or.inl (by omega))]
                       first
                        | (at_end
                           go_roundw
                           case rel=>
                            refine⟨k,s+1,_,dj,rfl,by go_num,by omega,by omega,by omega,hsj,(by first | rfl | exact HW.out | (rw[HW.out];exact putRow_drewN _ _ _ _ _ _ _)),?_⟩
                            rw[←HO.out,pi_go ltInt a b s i k dk hs HK.out (by omega) (by omega),HD.out,show fixUp ltInt b k dj=dj from by unfold fixUp;rw[if_neg (by omega)]]
                           case measure=>simp[intOf];omega)
                        | (at_loop
                           go_loopw [10] (fun vj wr2=>∃(j m3:Nat) (du:Array Int),vj = .int .i64 j∧k+1≤j∧j≤b∧du.size=d.size∧wr2=putRow (Value.int .u32) (Sort.ahead w m3) blk off du∧
                            shiftUp ltInt b j du=shiftUp ltInt b (k+1) dj) (fun vj _=>b-(intOf vj).toNat)
                           case atStart=>exact⟨k+1,_,dj,by go_num,Nat.le_refl _,by omega,hsj,(by first | rfl | exact HW.out | (rw[HW.out];exact putRow_drewN _ _ _ _ _ _ _)),rfl⟩
                           case round=>
                            obtain⟨j,m3,du,rfl,hkj,hjb,hsu,hw3,hU⟩:=hrel
                            obtain⟨G,hG⟩:∃G:Nat→Int,∀t,G t=du[t]!:=⟨fun t=>du[t]!,fun _=>rfl⟩
                            have hcw:∀t,t<d.size→wr.cell? ⟨blk,off+t,none⟩=some (.int .u32 (G t)):=fun t ht=>by
                             rw[hw3,hG];exact cell?_putRow _ _ _ _ d du (holds_ahead _ _ _ _ _ _ HH.out) hsu t (by omega)
                            have hfw:∀t,t<d.size→wr.frozen? ⟨blk,off+t,none⟩=false:=fun t ht=>by
                             rw[hw3,frozen?_putRow];exact ((holds_ahead _ _ m3 _ _ _ HH.out) t ht).2
                            have HW:Hid (wr=putRow (Value.int .u32) (Sort.ahead w m3) blk off du):=hw3
                            have HG:Hid (∀t,G t=du[t]!):=hG
                            have HU:Hid (shiftUp ltInt b j du=shiftUp ltInt b (k+1) dj):=hU
                            clear hw3 hG hU
                            go_wp2
                            all_goals first
                             | (at_region 22
                                go_quiet (first | (go_at_call 118;refine Calls.quiet_of_same (s_cmp_Less _ _ _)))
                                go_wp2
                                all_goals first
                                 | (at_region 23
                                    have hl:ltInt (G j) (G (j-1))=true:=by
                                     have h:(!ltInt (G j) (G (j-1)))=false:=by assumption
                                     simpa using h
                                    go_region
                                    all_goals go_wp2
                                    go_roundw
                                    case rel=>
                                     refine⟨j+1,m3+(nq+1),swp du j (j-1),by go_num,by omega,by omega,by rw[size_swp];exact hsu,?_,?_⟩
                                     · rw[HW.out,HG.out,HG.out]
                                       exact swap_worldA _ w m3 (nq+1) blk off du j (j-1) (by omega) (by omega)
                                     · rw[←HU.out,shiftUp_go ltInt b j du (by omega) (by rw[←HG.out,←HG.out];exact hl)]
                                    case measure=>simp[intOf];omega)
                                 | (at_end
                                    have hl:ltInt (G j) (G (j-1))=false:=by
                                     have h:(!ltInt (G j) (G (j-1)))=true:=by assumption
                                     simpa using h
                                    go_roundw
                                    case rel=>
                                     refine⟨k,s+1,_,du,rfl,by go_num,by omega,by omega,by omega,hsu,(by first | rfl | exact HW.out | (rw[HW.out];exact putRow_drewN _ _ _ _ _ _ _)),?_⟩
                                     rw[←HO.out,pi_go ltInt a b s i k dk hs HK.out (by omega) (by omega),HD.out,show fixUp ltInt b k dj=du from by unfold fixUp;rw[if_pos (by omega),←HU.out,shiftUp_stop ltInt b j du (Or.inr (by rw[←HG.out,←HG.out];exact hl))]]
                                    case measure=>simp[intOf];omega))
                             | (at_end
                                go_roundw
                                case rel=>
                                 refine⟨k,s+1,_,du,rfl,by go_num,by omega,by omega,by omega,hsu,(by first | rfl | exact HW.out | (rw[HW.out];exact putRow_drewN _ _ _ _ _ _ _)),?_⟩
                                 rw[←HO.out,pi_go ltInt a b s i k dk hs HK.out (by omega) (by omega),HD.out,show fixUp ltInt b k dj=du from by unfold fixUp;rw[if_pos (by omega),←HU.out,shiftUp_stop ltInt b j du (Or.inl (by omega))]]
                                case measure=>simp[intOf];omega))))
               | (
                  have HD:Hid (fixDown ltInt a k (swp dk k (k-1))=(swp dk k (k-1))):=by
                   show fixDown ltInt a k (swp dk k (k-1))=(swp dk k (k-1))
                   unfold fixDown;rw[if_neg (by omega)]
                  first
                   | (at_end
                      go_roundw
                      case rel=>
                       refine⟨k,s+1,_,(swp dk k (k-1)),rfl,by go_num,by omega,by omega,by omega,hs1,(by first | rfl | exact HW.out | (rw[HW.out];exact putRow_drewN _ _ _ _ _ _ _)),?_⟩
                       rw[←HO.out,pi_go ltInt a b s i k dk hs HK.out (by omega) (by omega),HD.out,show fixUp ltInt b k (swp dk k (k-1))=(swp dk k (k-1)) from by unfold fixUp;rw[if_neg (by omega)]]
                      case measure=>simp[intOf];omega)
                   | (at_loop
                      go_loopw [10] (fun vj wr2=>∃(j m3:Nat) (du:Array Int),vj = .int .i64 j∧k+1≤j∧j≤b∧du.size=d.size∧wr2=putRow (Value.int .u32) (Sort.ahead w m3) blk off du∧
                       shiftUp ltInt b j du=shiftUp ltInt b (k+1) (swp dk k (k-1))) (fun vj _=>b-(intOf vj).toNat)
                      case atStart=>exact⟨k+1,_,(swp dk k (k-1)),by go_num,Nat.le_refl _,by omega,hs1,(by first | rfl | exact HW.out | (rw[HW.out];exact putRow_drewN _ _ _ _ _ _ _)),rfl⟩
                      case round=>
                       obtain⟨j,m3,du,rfl,hkj,hjb,hsu,hw3,hU⟩:=hrel
                       obtain⟨G,hG⟩:∃G:Nat→Int,∀t,G t=du[t]!:=⟨fun t=>du[t]!,fun _=>rfl⟩
                       have hcw:∀t,t<d.size→wr.cell? ⟨blk,off+t,none⟩=some (.int .u32 (G t)):=fun t ht=>by
                        rw[hw3,hG];exact cell?_putRow _ _ _ _ d du (holds_ahead _ _ _ _ _ _ HH.out) hsu t (by omega)
                       have hfw:∀t,t<d.size→wr.frozen? ⟨blk,off+t,none⟩=false:=fun t ht=>by
                        rw[hw3,frozen?_putRow];exact ((holds_ahead _ _ m3 _ _ _ HH.out) t ht).2
                       have HW:Hid (wr=putRow (Value.int .u32) (Sort.ahead w m3) blk off du):=hw3
                       have HG:Hid (∀t,G t=du[t]!):=hG
                       have HU:Hid (shiftUp ltInt b j du=shiftUp ltInt b (k+1) (swp dk k (k-1))):=hU
                       clear hw3 hG hU
                       go_wp2
                       all_goals first
                        | (at_region 22
                           go_quiet (first | (go_at_call 118;refine Calls.quiet_of_same (s_cmp_Less _ _ _)))
                           go_wp2
                           all_goals first
                            | (at_region 23
                               have hl:ltInt (G j) (G (j-1))=true:=by
                                have h:(!ltInt (G j) (G (j-1)))=false:=by assumption
                                simpa using h
                               go_region
                               all_goals go_wp2
                               go_roundw
                               case rel=>
                                refine⟨j+1,m3+(nq+1),swp du j (j-1),by go_num,by omega,by omega,by rw[size_swp];exact hsu,?_,?_⟩
                                · rw[HW.out,HG.out,HG.out]
                                  exact swap_worldA _ w m3 (nq+1) blk off du j (j-1) (by omega) (by omega)
                                · rw[←HU.out,shiftUp_go ltInt b j du (by omega) (by rw[←HG.out,←HG.out];exact hl)]
                               case measure=>simp[intOf];omega)
                            | (at_end
                               have hl:ltInt (G j) (G (j-1))=false:=by
                                have h:(!ltInt (G j) (G (j-1)))=true:=by assumption
                                simpa using h
                               go_roundw
                               case rel=>
                                refine⟨k,s+1,_,du,rfl,by go_num,by omega,by omega,by omega,hsu,(by first | rfl | exact HW.out | (rw[HW.out];exact putRow_drewN _ _ _ _ _ _ _)),?_⟩
                                rw[←HO.out,pi_go ltInt a b s i k dk hs HK.out (by omega) (by omega),HD.out,show fixUp ltInt b k (swp dk k (k-1))=du from by unfold fixUp;rw[if_pos (by omega),←HU.out,shiftUp_stop ltInt b j du (Or.inr (by rw[←HG.out,←HG.out];exact hl))]]
                               case measure=>simp[intOf];omega))
                        | (at_end
                           go_roundw
                           case rel=>
                            refine⟨k,s+1,_,du,rfl,by go_num,by omega,by omega,by omega,hsu,(by first | rfl | exact HW.out | (rw[HW.out];exact putRow_drewN _ _ _ _ _ _ _)),?_⟩
                            rw[←HO.out,pi_go ltInt a b s i k dk hs HK.out (by omega) (by omega),HD.out,show fixUp ltInt b k (swp dk k (k-1))=du from by unfold fixUp;rw[if_pos (by omega),←HU.out,shiftUp_stop ltInt b j du (Or.inl (by omega))]]
                           case measure=>simp[intOf];omega)))))
    ·
     go_quiet (first | (go_at_call 118;refine Calls.quiet_of_same (s_cmp_Less _ _ _)))
     go_wp2
     obtain rfl:k=b:=by omega
     have hv:Sort.partialInsertionSort ltInt d a k=(dk,true):=by
      unfold Sort.partialInsertionSort
      rw[←HO.out,pi_true ltInt a k s i dk hs (by rw[←HS.out,scanSorted_stop ltInt dk k k (Or.inl (by omega))])]
     rw[hv]
     go_ret
     exact⟨rfl,m+nq,by rw[HW.out];exact putRow_drewN _ _ _ _ _ _ _⟩
  ·
   obtain rfl:s=5:=by omega
   have hv:Sort.partialInsertionSort ltInt d a b=(dk,false):=by
    unfold Sort.partialInsertionSort
    rw[←HO.out,pi_end]
   rw[hv]
   go_ret
   exact⟨rfl,n,rfl⟩
open Go.Sort Go.RowKit
structure Callees13:Prop where
 heap:∀(blk off len cap:Nat) (d:Array Int) (_:d.size=len) (a b:Nat) (w:World),Holds encE w blk off d→a≤b→b≤d.size→d.size<4611686018427387904→
  Calls Tryz.prog 113 #[.slice (some ⟨blk,off,none⟩) len cap,.int .i64 a,.int .i64 b] w fun e w'=>e = .returned (.tuple #[])∧∃n,w'=putRow encE (Sort.ahead w n) blk off (heapSort ltInt d a b)
 rev:∀(blk off cap:Nat) (d:Array Int) (a b:Nat) (w:World),Holds encE w blk off d→a≤b→b≤d.size→d.size<4611686018427387904→
  Calls Tryz.prog 116 #[.slice (some ⟨blk,off,none⟩) d.size cap,.int .i64 a,.int .i64 b] w fun e w'=>e = .returned (.tuple #[])∧∃n,w'=putRow encE (Sort.ahead w n) blk off (reverseRange d a b)
 ins:∀(blk off cap a b:Nat) (d:Array Int) (w:World),Holds encE w blk off d→a≤b→b≤d.size→d.size<4611686018427387904→
  Calls Tryz.prog 112 #[.slice (some ⟨blk,off,none⟩) d.size cap,.int .i64 a,.int .i64 b] w fun e w'=>e = .returned (.tuple #[])∧∃n,w'=putRow encE (Sort.ahead w n) blk off (insertionSort ltInt d a b)
 brk:∀(blk off cap a b:Nat) (d:Array Int) (w:World),Holds encE w blk off d→blk<w.heap.size→a≤b→b≤d.size→d.size<4611686018427387904→
  Calls Tryz.prog 114 #[.slice (some ⟨blk,off,none⟩) d.size cap,.int .i64 a,.int .i64 b] w fun e w'=>e = .returned (.tuple #[])∧∃n os,w'=grow (putRow encE (Sort.ahead w n) blk off (breakPatterns d a b)) os
 piv:∀(blk off cap a b:Nat) (d:Array Int) (w:World),Holds encE w blk off d→blk<w.heap.size→a<b→b≤d.size→d.size<4611686018427387904→
  Calls Tryz.prog 115 #[.slice (some ⟨blk,off,none⟩) d.size cap,.int .i64 a,.int .i64 b] w fun e w'=>e = .returned (.tuple #[.int .i64 (choosePivot ltInt d a b).1,.int .i64 (hintCode (choosePivot ltInt d a b).2)])∧∃n os,w'=grow (Sort.ahead w n) os
 par:∀(blk off cap a b:Nat) (d:Array Int) (w:World),Holds encE w blk off d→a<b→b≤d.size→d.size<4611686018427387904→
  Calls Tryz.prog 117 #[.slice (some ⟨blk,off,none⟩) d.size cap,.int .i64 a,.int .i64 b] w fun e w'=>e = .returned (.bool (partialInsertionSort ltInt d a b).2)∧∃n,w'=putRow encE (Sort.ahead w n) blk off (partialInsertionSort ltInt d a b).1
 peq:∀(blk off cap a b pivot:Nat) (d:Array Int) (w:World),Holds encE w blk off d→a≤pivot→pivot<b→b≤d.size→d.size<4611686018427387904→
  Calls Tryz.prog 119 #[.slice (some ⟨blk,off,none⟩) d.size cap,.int .i64 a,.int .i64 b,.int .i64 pivot] w fun e w'=>e = .returned (.int .i64 (partitionEqual ltInt d a b pivot).1)∧∃n,w'=putRow encE (Sort.ahead w n) blk off (partitionEqual ltInt d a b pivot).2
 prt:∀(blk off cap a b pivot:Nat) (d:Array Int) (w:World),Holds encE w blk off d→a≤pivot→pivot<b→b≤d.size→d.size<4611686018427387904→
  Calls Tryz.prog 120 #[.slice (some ⟨blk,off,none⟩) d.size cap,.int .i64 a,.int .i64 b,.int .i64 pivot] w fun e w'=>e = .returned (.tuple #[.int .i64 (partition ltInt d a b pivot).1,.bool (partition ltInt d a b pivot).2.1])∧∃n,w'=putRow encE (Sort.ahead w n) blk off (partition ltInt d a b pivot).2.2
set_option maxRecDepth 1000000 in
theorem s_pdqsort (C:Callees13) (S:Plain13):∀(N rm blk off cap a b limit:Nat) (d:Array Int) (w:World),b-a<N→pdqDepth ltInt d a b limit true true+6≤rm→Holds encE w blk off d→blk<w.heap.size→a≤b→b≤d.size→d.size<4611686018427387904→limit<4611686018427387904→Below ltInt a b d→
 Calls Tryz.prog 100 #[.slice (some ⟨blk,off,none⟩) d.size cap,.int .i64 a,.int .i64 b,.int .i64 limit] w fun e w'=>e = .returned (.tuple #[])∧At encE w blk off (pdq ltInt d a b limit true true) w':=by
 intro N
 induction N with
 | zero=>intro _ _ _ _ _ _ _ _ _ h;exact absurd h (Nat.not_lt_zero _)
 | succ N ih =>
   intro rm blk off cap a b limit d w hN hrm hH hblk hab hb hsz hlimit hBel0
   have hrm1:1≤rm:=by omega
   go_enter Tryz.func100,Tryz.ntmps100
   go_wp2
   go_loopg [1,2,3,8,9] (b-a) (fun k s1 s2 s3 s8 s9 wr=>∃(a' b' lim:Nat) (wb wp:Bool) (dk:Array Int),s1 = .int .i64 a'∧s2 = .int .i64 b'∧s3 = .int .i64 lim∧s8 = .bool wb∧s9 = .bool wp∧
    a'≤b'∧b'≤d.size∧b'-a'≤k∧k≤b-a∧lim≤limit∧dk.size=d.size∧Below ltInt a' b' dk∧At encE w blk off dk wr∧pdq ltInt dk a' b' lim wb wp=pdq ltInt d a b limit true true∧pdqDepth ltInt dk a' b' lim wb wp+6≤rm)
   case atStart=>exact⟨a,b,limit,true,true,d,rfl,rfl,rfl,rfl,rfl,hab,hb,Nat.le_refl _,Nat.le_refl _,Nat.le_refl _,rfl,hBel0,At.refl hH,rfl,hrm⟩
   case round=>
    obtain⟨a',b',lim,wb,wp,dk,rfl,rfl,rfl,rfl,rfl,hab',hb',hk,hkN,hlim,hds,hBel,hAt,heq,hdp⟩:=hrel
    obtain⟨hHk,hblk'⟩:=hAt.holds hH hds hblk
    have A:Aside (pdq ltInt dk a' b' lim wb wp=pdq ltInt d a b limit true true):=heq
    clear heq
    by_cases h12:b'-a'≤12
    ·
     have h12z:(b':Int)-(a':Int)≤12:=by omega
     have hc:=(C.ins blk off cap a' b' dk wr hHk hab' (by omega) (by omega))
     rw[hds] at hc
     go_wp2_with (go_at_call 112;refine hc.mono ?_;rintro e w1 ⟨rfl,hw1⟩)
     (try simp only[Exit.inBlock,Exit.then]);refine bodyPost_ret (results_none rfl _ _ _) rfl ?_
     refine⟨rfl,?_⟩
     rw[←A.out,pdq_small h12]
     exact hAt.step hblk (S.ins S.swo dk a' b' hab' (by omega)).1.1 hw1
    · have h12z : ¬ ((b':Int)-(a':Int)≤12):=by omega
      by_cases hl0:lim=0
      ·
       subst hl0
       have hc:=(C.heap blk off d.size cap dk hds a' b' wr hHk hab' (by omega) (by omega))
       go_wp2_with (go_at_call 113;refine hc.mono ?_;rintro e w1 ⟨rfl,hw1⟩)
       (try simp only[Exit.inBlock,Exit.then]);refine bodyPost_ret (results_none rfl _ _ _) rfl ?_
       refine⟨rfl,?_⟩
       rw[←A.out,pdq_heap h12 rfl]
       exact hAt.step hblk (heapSort_holds S.swo dk a' b' hab' (by omega)).1.1 hw1
      · have hl0z : ¬ ((lim:Int)=0):=by omega
        obtain⟨s1,B1,hc1,s2,B2,hpv,s3,B3⟩:=rd_facts (limit:=lim) (wb:=wb) (wp:=wp) S.swo S.par reverseRange_holds (show a'<b' by omega) (show b'≤dk.size by omega) hBel
        go_upto_if 35 with fail
        go_cut [3] from 19 (fun s3 wc=>s3 = .int .i64 (rd ltInt dk a' b' lim wb wp).lim∧At encE w blk off (rd ltInt dk a' b' lim wb wp).d1 wc)
        case first=>
         cases wb
         · have hc:=(C.brk blk off cap a' b' dk wr hHk hblk' hab' (by omega) (by omega))
           rw[hds] at hc
           go_wp2_with (go_at_call 114;refine hc.mono ?_;rintro e w1 ⟨rfl,hw1⟩)
           go_meet
           case rel=>
            refine⟨?_,hAt.stepG hblk s1 hw1⟩
            show Value.int .i64 ((lim:Int)-1)=Value.int .i64 ((lim-1:Nat):Int)
            congr 1
            omega
         · go_wp2_with fail
           go_meet
           case rel=>exact⟨rfl,hAt⟩
        case rest =>
         obtain⟨rfl,hAt1⟩:=hcut
         obtain⟨hH1,hblk1⟩:=hAt1.holds hH (s1.trans hds) hblk
         have hc17:Calls Tryz.prog 115 #[.slice (some ⟨blk,off,none⟩) d.size cap,.int .i64 a',.int .i64 b'] wc fun e w'=>e = .returned (.tuple #[.int .i64 (rd ltInt dk a' b' lim wb wp).c.1,.int .i64 (hintCode (rd ltInt dk a' b' lim wb wp).c.2)])∧∃n os,w'=grow (Sort.ahead wc n) os:=by
          have:=(C.piv blk off cap a' b' (rd ltInt dk a' b' lim wb wp).d1 wc hH1 hblk1 (by omega) (by omega) (by omega))
          rw[s1,hds] at this
          exact this
         go_upto_if 50 with (go_at_call 115;refine hc17.mono ?_;rintro e w2 ⟨rfl,hw2⟩)
         have hAt2:At encE w blk off (rd ltInt dk a' b' lim wb wp).d1 w2:=hAt1.same hH (s1.trans hds) hblk hw2
         obtain⟨hH2,hblk2⟩:=hAt2.holds hH (s1.trans hds) hblk
         go_cut [11,12] from 19 (fun s11 s12 wc=>s11 = .int .i64 (rd ltInt dk a' b' lim wb wp).pivot∧s12 = .int .i64 (hintCode (rd ltInt dk a' b' lim wb wp).hint)∧At encE w blk off (rd ltInt dk a' b' lim wb wp).d2 wc)
         case first=>
          by_cases hh:(rd ltInt dk a' b' lim wb wp).c.2 = .decreasing
          · have hcode:hintCode (rd ltInt dk a' b' lim wb wp).c.2=2:=by rw[hh];rfl
            obtain⟨e2,epv,eht⟩:=rd_dec hh
            have hc18:=(C.rev blk off cap (rd ltInt dk a' b' lim wb wp).d1 a' b' w2 hH2 hab' (by omega) (by omega))
            rw[s1,hds] at hc18
            go_wp2_with (go_at_call 116;refine hc18.mono ?_;rintro e w3 ⟨rfl,hw3⟩)
            go_meet
            case rel=>
             refine⟨?_,by rw[eht];rfl,by rw[e2];exact hAt2.step hblk (by rw[←e2,s2,s1]) hw3⟩
             rw[epv]
             congr 1
             omega
          · have hcode:¬(hintCode (rd ltInt dk a' b' lim wb wp).c.2=2):=fun h=>hh (hintCode_two h)
            obtain⟨e2,epv,eht⟩:=rd_not hh
            go_wp2_with fail
            go_meet
            case rel=>exact⟨by rw[epv],by rw[eht],by rw[e2];exact hAt2⟩
         case rest =>
          obtain⟨rfl,rfl,hAt3⟩:=hcut
          obtain⟨hH3,hblk3⟩:=hAt3.holds hH (s2.trans hds) hblk
          go_upto_region 15 with fail
          go_cut [12,68] from 19 (fun s12 s68 wx=>s12 = .int .i64 (hintCode (rd ltInt dk a' b' lim wb wp).hint)∧s68 = .bool (wb&&wp&&decide ((rd ltInt dk a' b' lim wb wp).hint = .increasing))∧wx=wc)
          case first=>
           cases wb <;> cases wp <;> cases hh3:(rd ltInt dk a' b' lim _ _).hint <;>
            (have hcode3:=congrArg hintCode hh3
             simp only[hintCode] at hcode3
             go_wp2_with fail
             go_meet
             exact⟨by simp[hh3,hintCode],by simp[hh3,hintCode],rfl⟩)
          case rest =>
           obtain⟨rfl,rfl,rfl⟩:=hcut
           go_upto_if 68 with fail
           go_cut [] from 19 (fun wx=>(rd ltInt dk a' b' lim wb wp).pi.2=false∧At encE w blk off (rd ltInt dk a' b' lim wb wp).pi.1 wx)
           case first=>
            cases h68:(wb&&wp&&decide ((rd ltInt dk a' b' lim wb wp).hint = .increasing))
            · have epi:=rd_pi_no h68
              go_wp2_with fail
              go_meet
              case rel=>exact⟨by rw[epi],by rw[epi];exact hAt3⟩
            · have epi:=rd_pi_yes h68
              have hc19:=(C.par blk off cap a' b' (rd ltInt dk a' b' lim wb wp).d2 wc hH3 (by omega) (by omega) (by omega))
              rw[s2,hds,←epi] at hc19
              go_wp2_with (go_at_call 117;refine hc19.mono ?_;rintro e w4 ⟨rfl,hw4⟩)
              all_goals first
               | (have hp2:(rd ltInt dk a' b' lim wb wp).pi.2=false:=by rw[epi];assumption
                  go_meet
                  exact⟨hp2,hAt3.step hblk (by rw[s3,s2]) hw4⟩)
               | (have hp2:(rd ltInt dk a' b' lim wb wp).pi.2=true:=by rw[epi];assumption
                  (try simp only[Exit.inBlock,Exit.then]);refine bodyPost_ret (results_none rfl _ _ _) rfl ?_
                  refine⟨rfl,?_⟩
                  rw[←A.out,pdq_done h12 hl0 hp2]
                  exact hAt3.step hblk (by rw[s3,s2]) hw4)
           case rest =>
            obtain⟨hp2,hAt5⟩:=hcut
            obtain⟨hH5,hblk5⟩:=hAt5.holds hH (s3.trans hds) hblk
            have hcw:∀t,t<d.size→wc.cell? ⟨blk,off+t,none⟩=some (.int .u32 (rd ltInt dk a' b' lim wb wp).pi.1[t]!):=fun t ht=>(hH5 t (by omega)).1
            have hfw:∀t,t<d.size→wc.frozen? ⟨blk,off+t,none⟩=false:=fun t ht=>(hH5 t (by omega)).2
            go_upto_region 17 with fail
            go_cut [87] from 19 (fun s87 wx=>s87 = .bool (decide (a' > 0) && !ltInt (rd ltInt dk a' b' lim wb wp).pi.1[a'-1]! (rd ltInt dk a' b' lim wb wp).pi.1[(rd ltInt dk a' b' lim wb wp).pivot]!)∧At encE w blk off (rd ltInt dk a' b' lim wb wp).pi.1 wx)
            case first=>
             rcases Nat.eq_zero_or_pos a' with ha0 | ha0
             · have ha0z:decide ((a':Int) > 0)=false:=decide_eq_false (by omega)
               go_big_quiet (first | (go_at_call 118;refine Calls.quiet_of_same ((s_cmp_Less _ _ _))))
               go_wp2_with fail
               go_meet
               case rel=>exact⟨by simp[ha0],hAt5.ahead nq⟩
             · have ha0z:(a':Int) > 0:=by omega
               go_big_quiet (first | (go_at_call 118;refine Calls.quiet_of_same ((s_cmp_Less _ _ _))))
               go_wp2_with fail
               go_meet
               case rel=>exact⟨by simp[ha0],hAt5.ahead nq⟩
            case rest=>
             obtain⟨rfl,hAt6⟩:=hcut
             obtain⟨hH6,hblk6⟩:=hAt6.holds hH (s3.trans hds) hblk
             clear hcw hfw
             cases h87:(decide (a' > 0) && !ltInt (rd ltInt dk a' b' lim wb wp).pi.1[a'-1]! (rd ltInt dk a' b' lim wb wp).pi.1[(rd ltInt dk a' b' lim wb wp).pivot]!)
             ·
              obtain⟨mid,ap,d4,hx⟩:∃mid ap d4,partition ltInt (rd ltInt dk a' b' lim wb wp).pi.1 a' b' (rd ltInt dk a' b' lim wb wp).pivot=(mid,ap,d4):=⟨(partition ltInt (rd ltInt dk a' b' lim wb wp).pi.1 a' b' (rd ltInt dk a' b' lim wb wp).pivot).1,(partition ltInt (rd ltInt dk a' b' lim wb wp).pi.1 a' b' (rd ltInt dk a' b' lim wb wp).pivot).2.1,(partition ltInt (rd ltInt dk a' b' lim wb wp).pi.1 a' b' (rd ltInt dk a' b' lim wb wp).pivot).2.2,rfl⟩
              obtain⟨r1,r2,r3,r4,r5,r6,r7⟩:=round_part S.swo S.prt hpv.1 hpv.2 (show b'≤(rd ltInt dk a' b' lim wb wp).pi.1.size by omega) B3 hx
              have hc22:=(C.prt blk off cap a' b' (rd ltInt dk a' b' lim wb wp).pivot (rd ltInt dk a' b' lim wb wp).pi.1 wc hH6 hpv.1 hpv.2 (by omega) (by omega))
              rw[s3,hds,hx] at hc22
              have X:Aside (partition ltInt (rd ltInt dk a' b' lim wb wp).pi.1 a' b' (rd ltInt dk a' b' lim wb wp).pivot=(mid,ap,d4)):=hx
              clear hx
              go_upto_if 113 with (go_at_call 120;refine hc22.mono ?_;rintro e w7 ⟨rfl,hw7⟩)
              have hx:=X.out
              have hAt7:At encE w blk off d4 w7:=hAt6.step hblk r3 hw7
              obtain⟨hH7,hblk7⟩:=hAt7.holds hH (r3.trans (s3.trans hds)) hblk
              by_cases h4:mid-a'<b'-mid
              · have h4z:(mid:Int)-(a':Int)<(b':Int)-(mid:Int):=by omega
                have hdl:=pdqDepth_left h12 hl0 hp2 h87 (by rw[hx];exact⟨r1,r2⟩) (by rw[hx];exact h4)
                rw[hx] at hdl
                dsimp only at hdl
                have hih:=ih (rm-1) blk off cap a' mid (rd ltInt dk a' b' lim wb wp).lim d4 w7 (by omega) (by have:=hdl.1;omega) hH7 hblk7 (by omega) (by omega) (by omega) (Nat.lt_of_le_of_lt (Nat.le_trans rd_lim_le hlim) hlimit) r4
                rw[r3,s3,hds] at hih
                obtain⟨pL,sL⟩:=S.pdq S.swo d4 a' mid (rd ltInt dk a' b' lim wb wp).lim true true (by omega) (by omega) r4
                go_wp2_with (go_at_call 100;refine hih.mono ?_;rintro e w8 ⟨rfl,hw8⟩)
                go_roundg (b'-(mid+1))
                case measure=>omega
                case rel=>
                 refine⟨mid+1,b',(rd ltInt dk a' b' lim wb wp).lim,decide (mid-a'≥(b'-a')/8),ap,pdq ltInt d4 a' mid (rd ltInt dk a' b' lim wb wp).lim true true,by simp,rfl,rfl,?_,rfl,by omega,by omega,Nat.le_refl _,by omega,Nat.le_trans rd_lim_le hlim,by rw[pL.1,r3,s3,hds],(r6 _ pL sL).1,hAt7.stepG hblk pL.1 hw8,?_,by have:=hdl.2;omega⟩
                 · exact congrArg Value.bool (eighth (by omega) (by omega))
                 · rw[←A.out,pdq_left h12 hl0 hp2 h87 (by rw[hx];exact⟨r1,r2⟩) (by rw[hx];exact h4),hx]
              · have h4z:¬((mid:Int)-(a':Int)<(b':Int)-(mid:Int)):=by omega
                have hdl:=pdqDepth_right h12 hl0 hp2 h87 (by rw[hx];exact⟨r1,r2⟩) (by rw[hx];exact h4)
                rw[hx] at hdl
                dsimp only at hdl
                have hih:=ih (rm-1) blk off cap (mid+1) b' (rd ltInt dk a' b' lim wb wp).lim d4 w7 (by omega) (by have:=hdl.1;omega) hH7 hblk7 (by omega) (by omega) (by omega) (Nat.lt_of_le_of_lt (Nat.le_trans rd_lim_le hlim) hlimit) r5
                rw[r3,s3,hds] at hih
                obtain⟨pL,sL⟩:=S.pdq S.swo d4 (mid+1) b' (rd ltInt dk a' b' lim wb wp).lim true true (by omega) (by omega) r5
                go_wp2_with (go_at_call 100;refine hih.mono ?_;rintro e w8 ⟨rfl,hw8⟩)
                go_roundg (mid-a')
                case measure=>omega
                case rel=>
                 refine⟨a',mid,(rd ltInt dk a' b' lim wb wp).lim,decide (b'-mid≥(b'-a')/8),ap,pdq ltInt d4 (mid+1) b' (rd ltInt dk a' b' lim wb wp).lim true true,rfl,rfl,rfl,?_,rfl,by omega,by omega,Nat.le_refl _,by omega,Nat.le_trans rd_lim_le hlim,by rw[pL.1,r3,s3,hds],(r7 _ pL sL).1,hAt7.stepG hblk pL.1 hw8,?_,by have:=hdl.2;omega⟩
                 · exact congrArg Value.bool (eighth (by omega) (by omega))
                 · rw[←A.out,pdq_right h12 hl0 hp2 h87 (by rw[hx];exact⟨r1,r2⟩) (by rw[hx];exact h4),hx]
             ·
              have h87':=h87
              simp only[Bool.and_eq_true,decide_eq_true_eq,Bool.not_eq_true'] at h87'
              obtain⟨mid,d4,hx⟩:∃mid d4,partitionEqual ltInt (rd ltInt dk a' b' lim wb wp).pi.1 a' b' (rd ltInt dk a' b' lim wb wp).pivot=(mid,d4):=⟨(partitionEqual ltInt (rd ltInt dk a' b' lim wb wp).pi.1 a' b' (rd ltInt dk a' b' lim wb wp).pivot).1,(partitionEqual ltInt (rd ltInt dk a' b' lim wb wp).pi.1 a' b' (rd ltInt dk a' b' lim wb wp).pivot).2,rfl⟩
              obtain⟨r1,r2,r3,r4,_⟩:=round_eq S.swo S.peq h87'.1 hpv.1 hpv.2 (show b'≤(rd ltInt dk a' b' lim wb wp).pi.1.size by omega) B3 h87'.2 hx
              have hc21:=(C.peq blk off cap a' b' (rd ltInt dk a' b' lim wb wp).pivot (rd ltInt dk a' b' lim wb wp).pi.1 wc hH6 hpv.1 hpv.2 (by omega) (by omega))
              rw[s3,hds,hx] at hc21
              have X:Aside (partitionEqual ltInt (rd ltInt dk a' b' lim wb wp).pi.1 a' b' (rd ltInt dk a' b' lim wb wp).pivot=(mid,d4)):=hx
              clear hx
              go_wp2_with (go_at_call 119;refine hc21.mono ?_;rintro e w7 ⟨rfl,hw7⟩)
              go_roundg (b'-mid)
              case measure=>omega
              case rel=>
               have hx:=X.out
               exact⟨mid,b',(rd ltInt dk a' b' lim wb wp).lim,wb,wp,d4,rfl,rfl,rfl,rfl,rfl,r2,hb',Nat.le_refl _,by omega,Nat.le_trans rd_lim_le hlim,by rw[r3,s3,hds],r4,hAt6.step hblk r3 hw7,by rw[←A.out,pdq_eq h12 hl0 hp2 h87 (by rw[hx];exact⟨r1,r2⟩),hx],by have hde:=pdqDepth_eq h12 hl0 hp2 h87 (by rw[hx];exact⟨r1,r2⟩);rw[hx] at hde;dsimp only at hde;omega⟩
def s_pdqWalk:Prop:=∀(rm blk off cap a b limit:Nat) (d:Array Int) (w:World),pdqDepth ltInt d a b limit true true+6≤rm→Holds (Value.int .u32) w blk off d→blk<w.heap.size→a≤b→b≤d.size→d.size<4611686018427387904→limit<4611686018427387904→Below ltInt a b d→
 Calls Tryz.prog 100 #[.slice (some ⟨blk,off,none⟩) d.size cap,.int .i64 a,.int .i64 b,.int .i64 limit] w fun e w'=>
  e = .returned (.tuple #[])∧∃n os,w'=grow (putRow (Value.int .u32) (Sort.ahead w n) blk off (Sort.pdq ltInt d a b limit true true)) os
def s_lenWalk:Prop:=∀(n:Nat) (w:World),n<4611686018427387904→Calls Tryz.prog 101 #[.int .u64 (n:Int)] w fun e w'=>e = .returned (.int .i64 (bitsLen n:Nat))∧w'=w
set_option maxRecDepth 100000 in
theorem s_Sort (hpdq:s_pdqWalk) (hlen:s_lenWalk) (blk off cap:Nat) (d:Array Int) (w:World) (hH:Holds (Value.int .u32) w blk off d) (hblk:blk<w.heap.size) (hsz:d.size<4611686018427387904):
 Calls Tryz.prog 91 #[.slice (some ⟨blk,off,none⟩) d.size cap] w fun e w'=>e = .returned (.tuple #[])∧∃n os,w'=grow (putRow (Value.int .u32) (Sort.ahead w n) blk off (Sort.sort ltInt d)) os:=by
 have HH:Hid (Holds (Value.int .u32) w blk off d):=hH
 clear hH
 have hk:bitsLen d.size≤62:=(bitsLen_le_iff d.size 62).2 (by omega)
 have hdp:=pdqDepth_le_59 ltInt d 0 d.size (bitsLen d.size) true true (by omega)
 go_enter Tryz.func91,Tryz.ntmps91
 go_wp2_with (first
  | (go_at_call 101;refine ((hlen d.size _ hsz)).mono ?_;rintro e w' ⟨rfl,rfl⟩)
  | (go_at_call 100;refine (hpdq 65 blk off cap 0 d.size (bitsLen d.size) d _ (by omega) (by exact HH.out) (by exact hblk) (Nat.zero_le _) (Nat.le_refl _) hsz (by omega) (Or.inl rfl)).mono ?_;rintro e w' ⟨rfl,n,os,rfl⟩))
 go_end0
 exact⟨rfl,n,os,rfl⟩
theorem s_insertionSort_nil (p:Option Addr) (cap:Nat) (w:World):
 Calls Tryz.prog 112 #[.slice p 0 cap,.int .i64 0,.int .i64 0] w fun e w'=>e = .returned (.tuple #[])∧w'=w:=by
 go_enter Tryz.func112,Tryz.ntmps112
 go_wp2
 refine wp_loop_rounds 1 ?_
 rw[rounds_succ]
 go_wp2
 go_end0
 exact⟨rfl,rfl⟩
set_option maxRecDepth 100000 in
theorem s_pdqsort_nil (p:Option Addr) (cap:Nat) (w:World):
 Calls Tryz.prog 100 #[.slice p 0 cap,.int .i64 0,.int .i64 0,.int .i64 0] w fun e w'=>e = .returned (.tuple #[])∧w'=w:=by
 go_enter Tryz.func100,Tryz.ntmps100
 go_wp2
 refine wp_loop_rounds 1 ?_
 rw[rounds_succ]
 go_wp2_with (first | (go_at_call 112;refine (s_insertionSort_nil p cap _).mono ?_;rintro e w' ⟨rfl,rfl⟩))
 refine bodyPost_ret (results_none rfl _ _ _) rfl ?_
 exact⟨rfl,rfl⟩
set_option maxRecDepth 100000 in
theorem s_Sort_nil (p:Option Addr) (cap:Nat) (w:World):
 Calls Tryz.prog 91 #[.slice p 0 cap] w fun e w'=>e = .returned (.tuple #[])∧w'=w:=by
 have hLen:∀w,Calls Tryz.prog 101 #[.int .u64 0] w fun e w'=>e = .returned (.int .i64 0)∧w'=w:=fun w=>s_bits_Len 0 w (by omega) (by omega)
 go_enter Tryz.func91,Tryz.ntmps91
 go_wp2_with (first
  | (go_at_call 101;refine (hLen _).mono ?_;rintro e w' ⟨rfl,rfl⟩)
  | (go_at_call 100;refine (s_pdqsort_nil p cap _).mono ?_;rintro e w' ⟨rfl,rfl⟩))
 go_end0
 exact⟨rfl,rfl⟩
theorem callees13:Callees13 where
 heap:=s_heapSort
 rev:=s_reverseRange
 ins:=s_insertionSort
 brk:=s_breakPatterns
 piv:=s_choosePivot
 par:=s_partialInsertionSort
 peq:=s_partitionEqualOrdered
 prt:=s_partitionOrdered
theorem plain13D:Plain13 where
 swo:=swo_ltInt
 ins:=insertionSort_holds
 par:=partialInsertionSort_holds
 prt:=partition_holds _
 peq:=partitionEqual_holds _
 pdq:=pdq_sorts _
theorem pdqWalk:s_pdqWalk:=fun rm blk off cap a b limit d w hrm hH hb hab hbd hsz hl hB=>
 s_pdqsort callees13 plain13D (b-a+1) rm blk off cap a b limit d w (by omega) hrm hH hb hab hbd hsz hl hB
theorem lenWalk:s_lenWalk:=fun n w hn=>by
 have h:=s_bits_Len (n:Int) w (by omega) (by omega)
 rwa [Int.toNat_natCast,bitLen_eq _ (by omega)] at h
theorem sort_any (blk off cap:Nat) (zs:List Int) (w:World) (hH:Holds (Value.int .u32) w blk off zs.toArray) (hblk:blk<w.heap.size) (hsz:zs.length<4611686018427387904):
 Calls Tryz.prog 91 #[.slice (some ⟨blk,off,none⟩) zs.length cap] w fun e w'=>
  e = .returned (.tuple #[])∧∃n os,w'=grow (putRow (Value.int .u32) (Sort.ahead w n) blk off (zs.mergeSort fun x y=>decide (x≤y)).toArray) os:=by
 have h:=s_Sort pdqWalk lenWalk blk off cap zs.toArray w hH hblk (by simpa using hsz)
 rw[show Sort.sort ltInt zs.toArray=(zs.mergeSort fun x y=>decide (x≤y)).toArray by rw[←sortInt zs]] at h
 simpa using h
def nvs (l:List Nat):List Value:=l.map fun (n:Nat)=>Value.int .u32 (n:Int)
theorem nvs_len (l:List Nat):(nvs l).length=l.length:=List.length_map _
theorem infoN:(Tryz.prog.info? 40).map (fun i=>(i.zero,i.size,i.bytes))=some (some (.int .u32 0),1,4):=by kernel_rfl
def NsB (w:World) (B:Nat) (v:Value) (l:List Nat):Prop:=w.ownsRow B 40 1 v l.length (nvs l)
theorem NsB.nil (w:World) (B:Nat):NsB w B (.slice none 0 0) []:=World.ownsRow_nil _ _ _ _
theorem NsB.kept {w w':World} {B:Nat} {v:Value} {l:List Nat} {row:Option Nat} (h:NsB w B v l) (hg:w.grownBy w' row) (hne:v.ownBlock=none∨v.ownBlock≠row):NsB w' B v l:=World.ownsRow.kept h hg hne
theorem NsB.ab {w w':World} {B:Nat} {v:Value} {l:List Nat} (h:NsB w B v l) (hb:Below w.heap.size w w'):NsB w' B v l:=World.ownsRow.kept (row:=none) h (grown_of hb none) (by cases hv:v.ownBlock <;> simp)
theorem NsB.lt {w:World} {B g:Nat} {v:Value} {l:List Nat} (h:NsB w B v l) (hg:v.ownBlock=some g):g<w.heap.size:=by
 rcases h.2 with ⟨rfl,_⟩ | ⟨g',cap,cur,rfl,_,hb,_⟩
 · cases hg
 · cases hg
   exact (Array.getElem?_eq_some_iff.1 hb).1
theorem NsB.form {w:World} {B:Nat} {v:Value} {l:List Nat} (h:NsB w B v l):∃A c,v = .slice A l.length c∧∀i (hi:i<l.length),∃g,A=some ⟨g,0,none⟩∧w.cell? ⟨g,i,none⟩=some (.int .u32 ((l[i]:Nat):Int)):=by
 have h0:=h
 rcases h.2 with ⟨rfl,h1⟩ | ⟨g,cap,cur,rfl,_,hb,_⟩
 · exact⟨none,0,by rw[h1],fun i hi=>by omega⟩
 · refine⟨_,_,rfl,fun i hi=>⟨g,rfl,?_⟩⟩
   have h2:=World.ownsRow.cellAt h0 i (by omega)
   rw[h2]
   simp[nvs,hi]
theorem wpList_appN {rest:List Oper} {ops:Array Oper} {o:Oper} {a:Act} {w:World} {Q:Exit→Act→World→Prop} (hgd:o.guard=none) (s x:Operand)
 (ho:o.op = .call { callee:=.builtin .append,args:=#[s,x],argTypes:=#[23,23] })
 {B G:Nat} {v:Value} {ls:List Nat} (hown:NsB w B v ls) (hs:a.eval s=v) (n:Nat) (hx:a.eval x = .slice (some ⟨G,0,none⟩) 1 1) (hG:CbB w G 40 #[.int .u32 (n:Int)]) (hl:ls.length≤100000) (hB:B≤w.heap.size)
 (h:∀v' w',NsB w' B v' (ls++[n])→w.grownBy w' v.ownBlock→wpList Tryz.prog ops Q rest (a.put o.dst v') w'):wpList Tryz.prog ops Q (o::rest) a w:=by
 obtain⟨i0,hi0,hz0,hz1,hz2⟩:=info_parts infoN
 obtain⟨v1,W1,hrun,r1,r2,_⟩:=run_append_own (P:=Tryz.prog) w B 23 o.type 40 i0 _ 1 4 Tryz.underlying23 hi0 hz0 hz1 hz2 rfl (by decide) v ls.length (nvs ls) hown ⟨G,0,none⟩ 1 1 [.int .u32 (n:Int)] rfl (row_at hG) (by simp[Value.oneCell']) (by simp only[maxLen];omega) (by omega) hB
 refine wpList_plain hgd fun K hK=>?_
 unfold Oper.wp execOp
 simp only[ho,resolve,invoke,builtin,Sem.run_bind,Sem.run_pure,Result.andThen_ok,List.map_toArray,List.map_cons,List.map_nil,hs,hx,hrun]
 refine hK _ _ (h v1 W1 ?_ r2)
 unfold NsB nvs
 rw[List.map_append,List.length_append,List.length_singleton]
 exact r1
theorem holds_own {w:World} {g:Nat} {cur:Array Value} {e:TypeId} {l:List Nat} (hb:w.heap[g]? = some (.cells cur e (0,0))) (ht:cur.toList.take l.length=nvs l):Holds (Value.int .u32) w g 0 (l.map fun (n:Nat)=>(n:Int)).toArray:=by
 intro j hj
 have hj':j<l.length:=by simpa using hj
 refine⟨?_,by simp[World.frozen?,hb]⟩
 have h1:(cur.toList.take l.length)[j]? = (nvs l)[j]?:=by rw[ht]
 rw[List.getElem?_take_of_lt hj'] at h1
 simp only[World.cell?,hb,Nat.zero_add]
 simp only[Option.isSome_none,Bool.false_eq_true,if_false]
 rw[←Array.getElem?_toList,h1]
 simp[nvs,hj']
theorem heap_sorted {w:World} {g n:Nat} {os:Array Obj} {cur:Array Value} {e:TypeId} {fr:Nat×Nat} (d:Array Int) (hb:w.heap[g]? = some (.cells cur e fr)):
 (grow (putRow (Value.int .u32) (Sort.ahead w n) g 0 d) os).heap[g]? = some (.cells (putCells (Value.int .u32) 0 d cur) e fr):=by
 have hg:g<w.heap.size:=(Array.getElem?_eq_some_iff.1 hb).1
 rw[heap_grow_old _ _ (by simpa using hg)]
 simp[putRow,mapBlock,Sort.ahead,Array.getElem?_modify,hb,onCells]
theorem grownBy_sorted {w:World} {g n:Nat} {os:Array Obj} (d:Array Int):w.grownBy (grow (putRow (Value.int .u32) (Sort.ahead w n) g 0 d) os) (some g):=by
 refine⟨rfl,rfl,rfl,by simp,fun k hk hne=>?_⟩
 rw[heap_grow_old _ _ (by simpa using hk)]
 have:g≠k:=fun e=>hne (by rw[e])
 simp[putRow,mapBlock,Sort.ahead,Array.getElem?_modify,this]
theorem take_sorted (cur:Array Value) (ts:List Nat) (h:ts.length≤cur.size):(putCells (Value.int .u32) 0 (ts.map fun (n:Nat)=>(n:Int)).toArray cur).toList.take ts.length=nvs ts:=by
 apply List.ext_getElem?
 intro j
 by_cases hj:j<ts.length
 · rw[List.getElem?_take_of_lt hj,Array.getElem?_toList]
   simp[putCells,nvs,hj,show j<cur.size by omega]
 · rw[List.getElem?_take_eq_none (by omega),List.getElem?_eq_none (by simp[nvs];omega)]
theorem below_grownO {B:Nat} {a b c:World} {r:Option Nat} (h:Below B a b) (k:b.grownBy c r) (hr:∀g,r=some g→B≤g) (hs:B≤b.heap.size):Below B a c:=h.trans ⟨k.os,k.tape,k.output,k.size,fun i hi=>k.block i (by omega) (fun e=>by have:=hr i e.symm;omega)⟩
def srt (l:List Nat):List Nat:=l.mergeSort fun a b=>decide (a≤b)
theorem srt_len (l:List Nat):(srt l).length=l.length:=List.length_mergeSort _
theorem srt_mem {l:List Nat} {x:Nat}:x∈srt l↔x∈l:=List.mem_mergeSort
theorem srt_int (l:List Nat):(l.map fun (n:Nat)=>(n:Int)).mergeSort (fun x y=>decide (x≤y))=(srt l).map fun (n:Nat)=>(n:Int):=by
 unfold srt
 rw[List.map_mergeSort (s:=fun x y:Int=>decide (x≤y))]
 intro a _ b _
 simp
theorem srt_asc (l:List Nat) (hn:l.Nodup):(srt l).Pairwise (· < ·):=by
 have h1:(srt l).Pairwise fun a b=>(decide (a≤b))=true:=List.pairwise_mergeSort (fun a b c h1 h2=>by simp at h1 h2⊢;omega) (fun a b=>by simp;omega) l
 have h2:(srt l).Nodup:=(List.mergeSort_perm l _).nodup_iff.2 hn
 exact (h1.and h2).imp fun ⟨a,b⟩=>by simp at a;omega
theorem asc_eq:∀{a b:List Nat},a.Pairwise (· < ·)→b.Pairwise (· < ·)→(∀x,x∈a↔x∈b)→a=b
 | [],[],_,_,_=>rfl
 | [],y::_,_,_,h=>absurd ((h y).2 (by simp)) (by simp)
 | x::_,[],_,_,h=>absurd ((h x).1 (by simp)) (by simp)
 | x :: r,y::q,ha,hb,h=>by
   obtain⟨a1,a2⟩:=List.pairwise_cons.1 ha
   obtain⟨b1,b2⟩:=List.pairwise_cons.1 hb
   have hxy:x=y:=by
    rcases List.mem_cons.1 ((h x).1 (by simp)) with e | e
    · exact e
    · rcases List.mem_cons.1 ((h y).2 (by simp)) with e' | e'
      · exact e'.symm
      · have:=a1 _ e';have:=b1 _ e;omega
   subst hxy
   congr 1
   refine asc_eq a2 b2 fun z=>?_
   constructor
   · intro hz
     rcases List.mem_cons.1 ((h z).1 (by simp[hz])) with e | e
     · have:=a1 _ hz;omega
     · exact e
   · intro hz
     rcases List.mem_cons.1 ((h z).2 (by simp[hz])) with e | e
     · have:=b1 _ hz;omega
     · exact e
theorem sort_own (B:Nat) (v:Value) (l:List Nat) (w:World) (h:NsB w B v l) (hl:l.length≤100000):
 Calls Tryz.prog 91 #[v] w fun e w'=>e = .returned (.tuple #[])∧NsB w' B v (srt l)∧w.grownBy w' v.ownBlock:=by
 rcases h.2 with ⟨rfl,h1⟩ | ⟨g,cap,cur,rfl,hg,hb,hn,hc,hs,ht⟩
 · obtain rfl:=List.eq_nil_of_length_eq_zero h1
   refine (s_Sort_nil none 0 w).mono ?_
   rintro e w' ⟨rfl,rfl⟩
   exact⟨rfl,by rw[show srt []=[] by simp[srt]];exact NsB.nil _ _,World.grownBy.refl _ _⟩
 · rw[Nat.mul_one] at ht hs
   have h2:=sort_any g 0 cap (l.map fun (n:Nat)=>(n:Int)) w (holds_own hb ht) (Array.getElem?_eq_some_iff.1 hb).1 (by simp;omega)
   rw[srt_int,List.length_map] at h2
   refine h2.mono ?_
   rintro e w' ⟨rfl,n,os,rfl⟩
   refine⟨rfl,⟨by rw[nvs_len,Nat.mul_one],.inr ⟨g,cap,_,by rw[srt_len],hg,heap_sorted _ hb,by rw[srt_len];exact hn,hc,by simp[putCells,hs],?_⟩⟩,grownBy_sorted _⟩
   rw[Nat.mul_one]
   exact take_sorted cur _ (by rw[srt_len];omega)
end Go.Proofs.YtlbjdbaeffacgaaGreat.U32
namespace Go.Proofs.YtlbjdbaeffacgaaGreat
open Go.RowKit
set_option linter.unusedVariables false
set_option linter.unusedSimpArgs false
theorem nsb32_ne {w:World} {B r b:Nat} {v:Value} {l:List Nat} {vs d:List (Nat×Value)} (h:U32.NsB w B v l) (hr:RngB u32Vp u32Okp w b r vs d):v.ownBlock≠some r:=by
 obtain⟨es,clock,since,seen,c0,h1,h2,h3,h4,h5,_⟩:=hr
 rcases h.2 with ⟨rfl,_⟩ | ⟨g,cap,cur,rfl,_,hb,_⟩
 · simp[Value.ownBlock]
 · intro e
   simp only[Value.ownBlock,Option.some.injEq] at e
   subst e
   rw[hb] at h5
   cases h5
theorem nsb32_notMap {w:World} {B m:Nat} {v:Value} {l:List Nat} {vs:List (Nat×Value)} (h:U32.NsB w B v l) (hm:MapB u32Vp u32Okp w m vs):v.ownBlock≠some m:=by
 obtain⟨es,clock,h1,_⟩:=hm
 rcases h.2 with ⟨rfl,_⟩ | ⟨g,cap,cur,rfl,_,hb,_⟩
 · simp[Value.ownBlock]
 · intro e
   simp only[Value.ownBlock,Option.some.injEq] at e
   subst e
   rw[hb] at h1
   cases h1
theorem pages_one {a b:List Nat} (ha:a.Nodup) (hb:b.Nodup) (h:∀x,x∈a↔x∈b):U32.srt a=U32.srt b:=
 U32.asc_eq (U32.srt_asc _ ha) (U32.srt_asc _ hb) fun x=>by rw[U32.srt_mem,U32.srt_mem,h]
set_option maxRecDepth 100000 in
theorem rising_any (m:Nat) (l:List (Nat×Value)) (w:World) (h:MapB u32Vp u32Okp w m l) (hl:l.length≤100000):
 Calls Tryz.prog 68 #[.map (some m)] w fun e w'=>∃v,e = .returned v∧U32.NsB w' w.heap.size v (U32.srt (l.map (·.1)))∧Below w.heap.size w w':=by
 have VN:=Lib.hid hl
 have ND:=Lib.hid (h.nodup u32p_K)
 have M0:=Lib.hid h
 have ML:=Lib.hid h.lt
 clear h hl
 go_enter Tryz.func68,Tryz.ntmps68
 go_wp2_with (first
  | (refine wpList_mapRange rfl (.tmp 5) rfl Tryz.underlying98 rfl M0.out ?_
     intro w1 r1 b1 s1
     have R1:=Lib.hid r1
     have B1:=Lib.hid b1
     clear r1 b1 s1
     simp[Act.put]))
 go_loopg [3] (l.length) (fun k v wr=>∃d,l.length-d.length≤k∧RngB u32Vp u32Okp wr m w.heap.size l d∧U32.NsB wr w.heap.size v (d.map (·.1))∧Below w.heap.size w wr∧w.heap.size<wr.heap.size)
 case atStart=>exact⟨[],by simp,R1.out,U32.NsB.nil _ _,B1.out,R1.out.lt⟩
 case round=>
  obtain⟨d,hk,hr,hn,hb,hs⟩:=hrel
  have HK:=Lib.hid hk
  have N1:=Lib.hid hn
  have NB:=Lib.hid hb
  have NS:=Lib.hid hs
  have DL:Hid ((d.map (·.1)).length≤100000):=Lib.hid (by have h2:=hr.len_le;have h3:=VN.out;rw[List.length_map];omega)
  have RNE:=Lib.hid (nsb32_ne hn hr)
  rcases hr.next u32p_K 0 with ⟨hall,hrun⟩ | ⟨p,w2,hp,hd,hrun,hr2,hg2,hs2,hent,hbel⟩
  · have GO:Hid (U32.srt (d.map (·.1))=U32.srt (l.map (·.1))):=Lib.hid (by
     obtain⟨_,_,_,_,_,_,_,_,_,_,_,_,_,_,hsub,hnd⟩:=hr
     refine pages_one hnd ND.out fun x=>?_
     simp only[List.mem_map]
     constructor
     · rintro ⟨q,h1,h2⟩;exact⟨q,hsub q h1,h2⟩
     · rintro ⟨q,h1,h2⟩;exact⟨q,hall q h1,h2⟩)
    clear hk hr hn hb hs hall
    go_wp2_with (first
     | (go_at_call 91
        refine (U32.sort_own w.heap.size _ _ _ N1.out (by have:=DL.out;omega)).mono ?_
        rintro e w3 ⟨rfl,h3,g3⟩
        have N3:=Lib.hid h3
        have B3:=Lib.hid (U32.below_grownO NB.out g3 (own_ge9 N1.out) (Nat.le_of_lt NS.out))
        clear h3 g3))
    go_ret
    exact⟨_,rfl,by rw[←GO.out];exact N3.out,B3.out⟩
  · obtain⟨pg,pv⟩:=p
    simp only[u32Vp] at hrun hent
    have HN:=Lib.hid hr2
    have HM:Hid (d.length<l.length):=Lib.hid (by have:=hr2.len_le;simp at this;omega)
    have N2:Hid (U32.NsB w2 w.heap.size u3 (d.map (·.1))):=Lib.hid (hn.kept hg2 (.inr RNE.out))
    have B2:=Lib.hid (hbel _ _ hb (Nat.le_refl _))
    have S2:Hid (w.heap.size<w2.heap.size):=Lib.hid (by rw[hs2];exact hs)
    clear hk hr hn hb hs hp hd hr2 hg2 hs2 hbel
    have NX:Hid ((d++[(pg,pv)]).map (·.1)=d.map (·.1)++[pg]):=Lib.hid (by rw[List.map_append,List.map_cons,List.map_nil])
    have GC:Hid (CbB (w2.alloc (.cells #[.int .u32 (pg:Int)] 40)) w2.heap.size 40 #[.int .u32 (pg:Int)]):=Lib.hid (CbB.new _ _ _)
    go_wp2_with (first
     | (refine U32.wpList_appN rfl (.tmp 11) (.tmp 13) rfl (B:=w.heap.size) (N2.out.ab ((Below.refl _ _).alloc (Nat.le_refl _) _)) rfl pg rfl GC.out (by have:=DL.out;omega) (by have:=S2.out;simp;omega) ?_
        intro v5 w5 h5 g5
        have b3:Below w2.heap.size w2 (w2.alloc (.cells #[.int .u32 (pg:Int)] 40)):=(Below.refl _ _).alloc (Nat.le_refl _) _
        have N5:=Lib.hid h5
        have R5:=Lib.hid ((HN.out.ab b3).grown g5 (nsb32_notMap ((N2.out.ab b3)) (HN.out.ab b3).mapB) (nsb32_ne (N2.out.ab b3) (HN.out.ab b3)))
        have B5:=Lib.hid (U32.below_grownO (below_tr B2.out b3 (Nat.le_of_lt S2.out)) g5 (own_ge9 N2.out) (Nat.le_trans (Nat.le_of_lt S2.out) b3.size))
        have S5:Hid (w.heap.size<w5.heap.size):=Lib.hid (Nat.lt_of_lt_of_le S2.out (Nat.le_trans b3.size g5.size))
        clear h5 g5 b3))
    go_roundg (l.length-(d.length+1))
    case measure=>have:=HM.out;have:=HK.out;omega
    case rel=>exact⟨_,by simp,R5.out,by rw[NX.out];exact N5.out,B5.out,S5.out⟩
end Go.Proofs.YtlbjdbaeffacgaaGreat
