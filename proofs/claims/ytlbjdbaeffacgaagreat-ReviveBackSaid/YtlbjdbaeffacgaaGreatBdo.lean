/-
  Parts of the proof, joined.
-/
import Derived.Sort.WalkB2
import Derived.Sort.WalkB3
import Derived.Sort.WalkC
import Derived.Sort.WalkC4
import Derived.Test.YtlbjdbaeffacgaaGreatBdn
namespace Go.Proofs.YtlbjdbaeffacgaaGreat.U32
set_option maxHeartbeats 12800000
open Go.RowKit Go.Sort
set_option linter.unusedVariables false
open Go.Sort Go.RowKit
set_option maxRecDepth 1000000 in
theorem s_siftDown (blk off len cap:Nat) (d:Array Int) (hlen:d.size=len) (lo hi first:Nat) (w:World) (hH:Holds encE w blk off d) (hlo:lo≤hi) (hb:first+hi≤d.size) (hsz:d.size<4611686018427387904):
 Calls Tryz.prog 144 #[.slice (some ⟨blk,off,none⟩) len cap,.int .i64 lo,.int .i64 hi,.int .i64 first] w fun e w'=>e = .returned (.tuple #[])∧∃n,w'=putRow encE (Sort.ahead w n) blk off (siftDown ltInt hi first lo d):=by
 subst hlen
 go_enter Tryz.func144,Tryz.ntmps144
 go_wp2
 go_loopg [8] (hi-lo) (fun k s8 wr=>∃(root:Nat) (dk:Array Int) (n:Nat),s8 = .int .i64 root∧root≤hi∧hi-root≤k∧dk.size=d.size∧wr=putRow encE (Sort.ahead w n) blk off dk∧siftDown ltInt hi first root dk=siftDown ltInt hi first lo d)
 case atStart=>exact⟨lo,d,0,rfl,hlo,Nat.le_refl _,rfl,(putRow_self encE w blk off d hH).symm,rfl⟩
 case round=>
  obtain⟨root,dk,n,rfl,hr,hk,hds,hwr,heq⟩:=hrel
  have hHk:Holds encE wr blk off dk:=by rw[hwr];exact holds_putRow encE _ blk off d dk (holds_ahead encE w n blk off d hH) hds
  have hcw:∀t,t<d.size→wr.cell? ⟨blk,off+t,none⟩=some (.int .u32 dk[t]!):=fun t ht=>(hHk t (by omega)).1
  have hfw:∀t,t<d.size→wr.frozen? ⟨blk,off+t,none⟩=false:=fun t ht=>(hHk t (by omega)).2
  have A:Aside (wr=putRow encE (Sort.ahead w n) blk off dk):=hwr
  clear hwr hH hHk
  by_cases h0:hi≤2*root+1
  ·
   have h0z:(hi:Int)≤2*(root:Int)+1:=by omega
   go_wp2
   go_end0
   refine⟨rfl,n,?_⟩
   rw[A.out,←heq,sd_end ltInt dk h0]
  ·
   have h0z:¬((hi:Int)≤2*(root:Int)+1):=by omega
   by_cases h1:2*root+2<hi
   · have h1z:2*(root:Int)+1+1<(hi:Int):=by omega
     go_wp2_with fail
     go_big_quiet (first | (go_at_call 118;refine Calls.quiet_of_same (s_cmp_Less _ _ _)))
     go_wp2_with fail
     ·
      have hL:ltInt dk[first+2*root+1]! dk[first+2*root+2]! = true:=by assumption
      revert nq;intro nq1
      have hcw2:∀t,t<d.size→(wr.drewN nq1).cell? ⟨blk,off+t,none⟩=some (.int .u32 dk[t]!):=hcw
      have hfw2:∀t,t<d.size→(wr.drewN nq1).frozen? ⟨blk,off+t,none⟩=false:=hfw
      have A2:Aside (wr.drewN nq1=putRow encE (Sort.ahead w (n+nq1)) blk off dk):=drewN_world encE A.out nq1
      clear hcw hfw A
      generalize wr.drewN nq1=wr2 at hcw2 hfw2 A2⊢
      go_big_quiet (first | (go_at_call 118;refine Calls.quiet_of_same (s_cmp_Less _ _ _)))
      go_wp2_with fail
      ·
       have hS:ltInt dk[first+root]! dk[first+2*root+2]! = false:=by
        have:(!ltInt dk[first+root]! dk[first+2*root+2]!)=true:=by assumption
        simpa using this
       (try simp only[Exit.inBlock,Exit.then]);refine bodyPost_ret (results_none rfl _ _ _) rfl ?_
       refine⟨rfl,n+nq1+nq,?_⟩
       rw[drewN_world encE A2.out nq,←heq,sd_right_stop ltInt dk h1 hL hS]
      ·
       have hG:ltInt dk[first+root]! dk[first+2*root+2]! = true:=by
        have:(!ltInt dk[first+root]! dk[first+2*root+2]!)=false:=by assumption
        simpa using this
       have hcw3:∀t,t<d.size→(wr2.drewN nq).cell? ⟨blk,off+t,none⟩=some (.int .u32 dk[t]!):=hcw2
       have hfw3:∀t,t<d.size→(wr2.drewN nq).frozen? ⟨blk,off+t,none⟩=false:=hfw2
       have A3:Aside (wr2.drewN nq=putRow encE (Sort.ahead w (n+nq1+nq)) blk off dk):=drewN_world encE A2.out nq
       clear hcw2 hfw2 A2
       generalize wr2.drewN nq=wr3 at hcw3 hfw3 A3⊢
       go_region
       go_wp2
       go_roundg (hi-(2*root+2))
       case measure=>omega
       case rel=>
        refine⟨2*root+2,swp dk (first+root) (first+(2*root+1+1)),n+nq1+nq+1,by simp <;> omega,by omega,Nat.le_refl _,by rw[size_swp];exact hds,swap_world encE (by omega) (by omega) A3.out rfl rfl,?_⟩
        rw[←heq,sd_right_go ltInt dk h1 hL hG]
     ·
      have hL:ltInt dk[first+2*root+1]! dk[first+2*root+2]! = false:=by assumption
      revert nq;intro nq1
      have hcw2:∀t,t<d.size→(wr.drewN nq1).cell? ⟨blk,off+t,none⟩=some (.int .u32 dk[t]!):=hcw
      have hfw2:∀t,t<d.size→(wr.drewN nq1).frozen? ⟨blk,off+t,none⟩=false:=hfw
      have A2:Aside (wr.drewN nq1=putRow encE (Sort.ahead w (n+nq1)) blk off dk):=drewN_world encE A.out nq1
      clear hcw hfw A
      generalize wr.drewN nq1=wr2 at hcw2 hfw2 A2⊢
      go_big_quiet (first | (go_at_call 118;refine Calls.quiet_of_same (s_cmp_Less _ _ _)))
      go_wp2_with fail
      ·
       have hS:ltInt dk[first+root]! dk[first+2*root+1]! = false:=by
        have:(!ltInt dk[first+root]! dk[first+2*root+1]!)=true:=by assumption
        simpa using this
       (try simp only[Exit.inBlock,Exit.then]);refine bodyPost_ret (results_none rfl _ _ _) rfl ?_
       refine⟨rfl,n+nq1+nq,?_⟩
       rw[drewN_world encE A2.out nq,←heq,sd_left_stop ltInt dk (by omega) (fun _=>hL) hS]
      ·
       have hG:ltInt dk[first+root]! dk[first+2*root+1]! = true:=by
        have:(!ltInt dk[first+root]! dk[first+2*root+1]!)=false:=by assumption
        simpa using this
       have hcw3:∀t,t<d.size→(wr2.drewN nq).cell? ⟨blk,off+t,none⟩=some (.int .u32 dk[t]!):=hcw2
       have hfw3:∀t,t<d.size→(wr2.drewN nq).frozen? ⟨blk,off+t,none⟩=false:=hfw2
       have A3:Aside (wr2.drewN nq=putRow encE (Sort.ahead w (n+nq1+nq)) blk off dk):=drewN_world encE A2.out nq
       clear hcw2 hfw2 A2
       generalize wr2.drewN nq=wr3 at hcw3 hfw3 A3⊢
       go_region
       go_wp2
       go_roundg (hi-(2*root+1))
       case measure=>omega
       case rel=>
        refine⟨2*root+1,swp dk (first+root) (first+(2*root+1)),n+nq1+nq+1,by simp <;> omega,by omega,Nat.le_refl _,by rw[size_swp];exact hds,swap_world encE (by omega) (by omega) A3.out rfl rfl,?_⟩
        rw[←heq,sd_left_go ltInt dk (by omega) (fun _=>hL) hG]
   ·
    have h1z:decide (2*(root:Int)+1+1<(hi:Int))=false:=decide_eq_false (by omega)
    go_wp2_with fail
    go_big_quiet (first | (go_at_call 118;refine Calls.quiet_of_same (s_cmp_Less _ _ _)))
    go_wp2_with fail
    revert nq;intro nq1
    have hcw2:∀t,t<d.size→(wr.drewN nq1).cell? ⟨blk,off+t,none⟩=some (.int .u32 dk[t]!):=hcw
    have hfw2:∀t,t<d.size→(wr.drewN nq1).frozen? ⟨blk,off+t,none⟩=false:=hfw
    have A2:Aside (wr.drewN nq1=putRow encE (Sort.ahead w (n+nq1)) blk off dk):=drewN_world encE A.out nq1
    clear hcw hfw A
    generalize wr.drewN nq1=wr2 at hcw2 hfw2 A2⊢
    go_big_quiet (first | (go_at_call 118;refine Calls.quiet_of_same (s_cmp_Less _ _ _)))
    go_wp2_with fail
    ·
     have hS:ltInt dk[first+root]! dk[first+2*root+1]! = false:=by
      have:(!ltInt dk[first+root]! dk[first+2*root+1]!)=true:=by assumption
      simpa using this
     (try simp only[Exit.inBlock,Exit.then]);refine bodyPost_ret (results_none rfl _ _ _) rfl ?_
     refine⟨rfl,n+nq1+nq,?_⟩
     rw[drewN_world encE A2.out nq,←heq,sd_left_stop ltInt dk (by omega) (fun h=>absurd h h1) hS]
    ·
     have hG:ltInt dk[first+root]! dk[first+2*root+1]! = true:=by
      have:(!ltInt dk[first+root]! dk[first+2*root+1]!)=false:=by assumption
      simpa using this
     have hcw3:∀t,t<d.size→(wr2.drewN nq).cell? ⟨blk,off+t,none⟩=some (.int .u32 dk[t]!):=hcw2
     have hfw3:∀t,t<d.size→(wr2.drewN nq).frozen? ⟨blk,off+t,none⟩=false:=hfw2
     have A3:Aside (wr2.drewN nq=putRow encE (Sort.ahead w (n+nq1+nq)) blk off dk):=drewN_world encE A2.out nq
     clear hcw2 hfw2 A2
     generalize wr2.drewN nq=wr3 at hcw3 hfw3 A3⊢
     go_region
     go_wp2
     go_roundg (hi-(2*root+1))
     case measure=>omega
     case rel=>
      refine⟨2*root+1,swp dk (first+root) (first+(2*root+1)),n+nq1+nq+1,by simp <;> omega,by omega,Nat.le_refl _,by rw[size_swp];exact hds,swap_world encE (by omega) (by omega) A3.out rfl rfl,?_⟩
      rw[←heq,sd_left_go ltInt dk (by omega) (fun h=>absurd h h1) hG]
set_option maxRecDepth 1000000 in
theorem s_heapSort (blk off len cap:Nat) (d:Array Int) (hlen:d.size=len) (a b:Nat) (w:World) (hH:Holds encE w blk off d) (hab:a≤b) (hb:b≤d.size) (hsz:d.size<4611686018427387904):
 Calls Tryz.prog 113 #[.slice (some ⟨blk,off,none⟩) len cap,.int .i64 a,.int .i64 b] w fun e w'=>e = .returned (.tuple #[])∧∃n,w'=putRow encE (Sort.ahead w n) blk off (heapSort ltInt d a b):=by
 subst hlen
 have ecast:((b-a:Nat):Int)=(b:Int)-(a:Int):=by omega
 go_enter Tryz.func113,Tryz.ntmps113
 go_wp2
 go_loopg [9] ((b-a-1)/2+1) (fun k s9 wr=>s9 = .int .i64 ((k:Int)-1)∧k≤(b-a-1)/2+1∧∃(dk:Array Int) (n:Nat),dk.size=d.size∧wr=putRow encE (Sort.ahead w n) blk off dk∧
  heapBuild ltInt (b-a) a k dk=heapBuild ltInt (b-a) a ((b-a-1)/2+1) d)
 case atStart=>exact⟨by rw[half_start hab],Nat.le_refl _,d,0,rfl,(putRow_self encE w blk off d hH).symm,rfl⟩
 case round=>
  obtain⟨rfl,hkk,dk,n,hds,hwr,heq⟩:=hrel
  have hHk:Holds encE wr blk off dk:=by rw[hwr];exact holds_putRow encE _ blk off d dk (holds_ahead encE w n blk off d hH) hds
  have A:Aside (wr=putRow encE (Sort.ahead w n) blk off dk):=hwr
  clear hwr
  cases gk with
  | zero=>
    have hB:dk=heapBuild ltInt (b-a) a ((b-a-1)/2+1) d:=heq
    clear heq hHk hkk
    go_wp2
    go_loopg [10] (b-a) (fun k s10 wr2=>s10 = .int .i64 ((k:Int)-1)∧k≤b-a∧∃(dj:Array Int) (n2:Nat),dj.size=d.size∧wr2=putRow encE (Sort.ahead w n2) blk off dj∧heapPop ltInt a k dj=heapPop ltInt a (b-a) dk)
    case atStart=>exact⟨by rw[ecast],Nat.le_refl _,dk,n,hds,A.out,rfl⟩
    case round=>
     obtain⟨rfl,hkk,dj,n2,hdj,hwr2,heq2⟩:=hrel
     cases gk with
     | zero=>
       go_wp2
       go_end0
       refine⟨rfl,n2,?_⟩
       have e:dj=heapSort ltInt d a b:=by rw[heapSort,←hB,←heq2];rfl
       rw[←e]
     | succ k=>
       have hHj:Holds encE wr blk off dj:=by rw[hwr2];exact holds_putRow encE _ blk off d dj (holds_ahead encE w n2 blk off d hH) hdj
       have hcw:∀t,t<d.size→wr.cell? ⟨blk,off+t,none⟩=some (.int .u32 dj[t]!):=fun t ht=>(hHj t (by omega)).1
       have hfw:∀t,t<d.size→wr.frozen? ⟨blk,off+t,none⟩=false:=fun t ht=>(hHj t (by omega)).2
       have A2:Aside (wr=putRow encE (Sort.ahead w n2) blk off dj):=hwr2
       clear hwr2 hHj
       rcases Nat.eq_zero_or_pos k with hk0 | hkp
       · subst hk0
         go_wp2_with fail
         go_region
         go_wp2_with fail
         rw[swap_world encE (i:=a) (j:=a) (by omega) (by omega) A2.out rfl rfl]
         refine (s_siftDown blk off d.size cap (swp dj a (a)) (by rw[size_swp];exact hdj) 0 0 a _ (holds_putRow encE _ blk off d _ (holds_ahead encE w (n2+1) blk off d hH) (by rw[size_swp];exact hdj)) (Nat.zero_le _) (by rw[size_swp];omega) (by rw[size_swp];omega)).mono ?_
         rintro e w1 ⟨rfl,m,hw1⟩
         go_wp2
         go_roundg 0
         case measure=>omega
         case rel=>
          refine⟨by simp,by omega,siftDown ltInt 0 a 0 (swp dj a (a)),n2+1+m,by rw[size_siftDown ltInt _ _ _ _ _ (Nat.le_refl _),size_swp];exact hdj,?_,heq2⟩
          first
           | rw[hw1,putRow_ahead_putRow encE w (n2+1) m blk off _ _ (size_siftDown ltInt _ _ _ _ _ (Nat.le_refl _))]
           | rw[putRow_ahead_putRow encE w (n2+1) m blk off _ _ (size_siftDown ltInt _ _ _ _ _ (Nat.le_refl _))]
       · skip
         go_wp2_with fail
         go_region
         go_wp2_with fail
         rw[swap_world encE (i:=a) (j:=a+k) (by omega) (by omega) A2.out rfl rfl]
         refine (s_siftDown blk off d.size cap (swp dj a (a+k)) (by rw[size_swp];exact hdj) 0 k a _ (holds_putRow encE _ blk off d _ (holds_ahead encE w (n2+1) blk off d hH) (by rw[size_swp];exact hdj)) (Nat.zero_le _) (by rw[size_swp];omega) (by rw[size_swp];omega)).mono ?_
         rintro e w1 ⟨rfl,m,hw1⟩
         go_wp2
         go_roundg k
         case measure=>omega
         case rel=>
          refine⟨by simp,by omega,siftDown ltInt k a 0 (swp dj a (a+k)),n2+1+m,by rw[size_siftDown ltInt _ _ _ _ _ (Nat.le_refl _),size_swp];exact hdj,?_,heq2⟩
          first
           | rw[hw1,putRow_ahead_putRow encE w (n2+1) m blk off _ _ (size_siftDown ltInt _ _ _ _ _ (Nat.le_refl _))]
           | rw[putRow_ahead_putRow encE w (n2+1) m blk off _ _ (size_siftDown ltInt _ _ _ _ _ (Nat.le_refl _))]
  | succ k=>
    have hcall:=s_siftDown blk off d.size cap dk hds k (b-a) a wr hHk (by omega) (by omega) (by omega)
    rw[ecast] at hcall
    go_wp2_with (go_at_call 144;refine hcall.mono ?_;rintro e w1 ⟨rfl,m,hw1⟩)
    go_roundg k
    case measure=>omega
    case rel=>
     refine⟨by simp,by omega,siftDown ltInt (b-a) a k dk,n+m,by rw[size_siftDown ltInt _ _ _ _ _ (Nat.le_refl _)];exact hds,?_,heq⟩
     rw[A.out,putRow_ahead_putRow encE w n m blk off dk _ (size_siftDown ltInt _ _ _ _ _ (Nat.le_refl _))]
set_option maxRecDepth 100000 in
theorem s_partitionEqual (blk off cap a b pivot:Nat) (d:Array Int) (w:World) (hH:Holds (Value.int .u32) w blk off d) (hap:a≤pivot) (hpb:pivot<b) (hb:b≤d.size) (hsz:d.size<4611686018427387904):
 Calls Tryz.prog 119 #[.slice (some ⟨blk,off,none⟩) d.size cap,.int .i64 a,.int .i64 b,.int .i64 pivot] w fun e w'=>
  e = .returned (.int .i64 (Sort.partitionEqual Sort.ltInt d a b pivot).1)∧∃n,w'=(putRow (Value.int .u32) w blk off (Sort.partitionEqual Sort.ltInt d a b pivot).2).drewN n:=by
 have hla:a<d.size:=by omega
 have hlp:pivot<d.size:=by omega
 obtain⟨G,hG⟩:∃G:Nat→Int,∀j,G j=d[j]!:=⟨fun j=>d[j]!,fun _=>rfl⟩
 have ca:w.cell? ⟨blk,off+a,none⟩=some (.int .u32 (G a)):=by rw[hG];exact (hH a hla).1
 have fa:=(hH a hla).2
 have cp:w.cell? ⟨blk,off+pivot,none⟩=some (.int .u32 (G pivot)):=by rw[hG];exact (hH pivot hlp).1
 have fp:=(hH pivot hlp).2
 obtain⟨v',hy'⟩:=cell?_setCell_some (w:=w) (p:=⟨blk,off+a,none⟩) (x:=.int .u32 (G pivot)) (q:=⟨blk,off+pivot,none⟩) cp
 have AG:Hid (∀j,G j=d[j]!):=hG
 have AH:Hid (Holds (Value.int .u32) w blk off d):=hH
 clear hG hH
 go_enter Tryz.func119,Tryz.ntmps119
 go_wp2
 go_region
 go_wp2
 go_loopw [9,10] (fun vi vj wr=>∃(i j n:Nat) (dk:Array Int),vi = .int .i64 i∧vj = .int .i64 j∧a<i∧i≤j+1∧j<b∧dk.size=d.size∧wr=(putRow (Value.int .u32) w blk off dk).drewN n∧
  Sort.partEqLoop Sort.ltInt a i j dk=Sort.partEqLoop Sort.ltInt a (a+1) (b-1) (Sort.swp d a pivot))
  (fun vi vj _=>(intOf vj).toNat+1-(intOf vi).toNat)
 case atStart=>
  refine⟨a+1,b-1,1,Sort.swp d a pivot,by go_num,by go_num,by omega,by omega,by omega,size_swp _ _ _,?_,rfl⟩
  have e:=swap_worldC (Value.int .u32) w blk off d 0 a pivot hla hlp
  rw[putRow_self _ w blk off d AH.out] at e
  rw[AG.out a,AG.out pivot]
  exact e
 case round=>
  obtain⟨i,j,n,dk,rfl,rfl,hai,hij,hjb,hs,hw,heq⟩:=hrel
  clear ca fa cp fp hy' v' AG
  rename World=>W1
  have hHk:Holds (Value.int .u32) W1 blk off dk:=by
   rw[hw]
   exact holds_putRow (Value.int .u32) w blk off d dk AH.out hs
  obtain⟨Gk,hG⟩:∃Gk:Nat→Int,∀t,Gk t=dk[t]!:=⟨fun t=>dk[t]!,fun _=>rfl⟩
  have hc:∀t,t<d.size→W1.cell? ⟨blk,off+t,none⟩=some (.int .u32 (Gk t)):=fun t ht=>by rw[hG];exact (hHk t (by omega)).1
  have hf:∀t,t<d.size→W1.frozen? ⟨blk,off+t,none⟩=false:=fun t ht=>(hHk t (by omega)).2
  have AG:Hid (∀t,Gk t=dk[t]!):=hG
  have AW:Hid (W1=(putRow (Value.int .u32) w blk off dk).drewN n):=hw
  have AE:Hid (Sort.partEqLoop Sort.ltInt a i j dk=Sort.partEqLoop Sort.ltInt a (a+1) (b-1) (Sort.swp d a pivot)):=heq
  clear hG hw heq hHk
  go_wp2
  go_loopw [9] (fun vi w1=>∃(i' n1:Nat),vi = .int .i64 i'∧i≤i'∧i'≤j+1∧w1=W1.drewN n1∧
   Hid (Sort.scanUp (fun x=>!Sort.ltInt dk[a]! x) dk j i'=Sort.scanUp (fun x=>!Sort.ltInt dk[a]! x) dk j i))
   (fun vi _=>j+1-(intOf vi).toNat)
  case atStart=>exact⟨i,0,rfl,Nat.le_refl _,hij,rfl,rfl⟩
  case round=>
   obtain⟨i',n1,rfl,hii,hij',hw1,hsc⟩:=hrel
   have hcw:∀t,t<d.size→wr.cell? ⟨blk,off+t,none⟩=some (.int .u32 (Gk t)):=fun t ht=>by rw[hw1];exact hc t ht
   have HW1:Hid (wr=W1.drewN n1):=hw1
   clear hw1
   by_cases hle:i'≤j
   · go_wp2_with fail
     go_big_quiet (first | (go_at_call 118;refine Calls.quiet_of_same (s_cmp_Less _ _ _)))
     go_wp2
     ·
      have ht:(!Sort.ltInt (Gk a) (Gk i'))=true:=by assumption
      go_roundw
      case rel=>exact⟨i'+1,n1+nq,by go_num,by omega,by omega,by rw[HW1.out,World.drewN_drewN],(scanUp_go (fun x=>!Sort.ltInt dk[a]! x) dk j i' hle (by rw[←AG.out a,←AG.out i'];exact ht)).symm.trans hsc.out⟩
      case measure=>simp[intOf];omega
     ·
      have ht:(!Sort.ltInt (Gk a) (Gk i'))=false:=by assumption
      have hi2:Hid (i'=Sort.scanUp (fun x=>!Sort.ltInt dk[a]! x) dk j i):=(scanUp_end (fun x=>!Sort.ltInt dk[a]! x) dk j i' (Or.inr (by rw[←AG.out a,←AG.out i'];exact ht))).symm.trans hsc.out
      clear ht
      have hw2:wr.drewN nq=W1.drewN (n1+nq):=by rw[HW1.out,World.drewN_drewN]
      clear hcw HW1 hsc
      go_loopw [10] (fun vj w2=>∃(j' n2:Nat),vj = .int .i64 j'∧j'≤j∧i'≤j'+1∧w2=W1.drewN n2∧
       Hid (Sort.scanDown (fun x=>Sort.ltInt dk[a]! x) dk i' j'=Sort.scanDown (fun x=>Sort.ltInt dk[a]! x) dk i' j))
       (fun vj _=>(intOf vj).toNat)
      case atStart=>exact⟨j,n1+nq,rfl,Nat.le_refl _,hij',hw2,rfl⟩
      case round=>
       clear hw2
       obtain⟨j',n2,rfl,hjj,hij2,hw2,hsd⟩:=hrel
       have hcw:∀t,t<d.size→wr.cell? ⟨blk,off+t,none⟩=some (.int .u32 (Gk t)):=fun t ht=>by rw[hw2];exact hc t ht
       have HW2:Hid (wr=W1.drewN n2):=hw2
       clear hw2
       by_cases hle2:i'≤j'
       · go_wp2_with fail
         go_big_quiet (first | (go_at_call 118;refine Calls.quiet_of_same (s_cmp_Less _ _ _)))
         go_wp2
         ·
          have ht:Sort.ltInt (Gk a) (Gk j')=true:=by assumption
          go_roundw
          case rel=>exact⟨j'-1,n2+nq,by go_num,by omega,by omega,by rw[HW2.out,World.drewN_drewN],(scanDown_go (fun x=>Sort.ltInt dk[a]! x) dk i' j' hle2 (by omega) (by rw[←AG.out a,←AG.out j'];exact ht)).symm.trans hsd.out⟩
          case measure=>simp[intOf];omega
         ·
          have ht:Sort.ltInt (Gk a) (Gk j')=false:=by assumption
          have hj2:Hid (j'=Sort.scanDown (fun x=>Sort.ltInt dk[a]! x) dk i' j):=(scanDown_end (fun x=>Sort.ltInt dk[a]! x) dk i' j' (Or.inr (by rw[←AG.out a,←AG.out j'];exact ht))).symm.trans hsd.out
          clear hcw hsd ht
          have hw3:wr.drewN nq=W1.drewN (n2+nq):=by rw[HW2.out,World.drewN_drewN]
          generalize wr.drewN nq=W3 at hw3⊢
          have hc3:∀t,t<d.size→W3.cell? ⟨blk,off+t,none⟩=some (.int .u32 (Gk t)):=fun t ht=>by rw[hw3];exact hc t ht
          have hf3:∀t,t<d.size→W3.frozen? ⟨blk,off+t,none⟩=false:=fun t ht=>by rw[hw3];exact hf t ht
          have HW3:Hid (W3=W1.drewN (n2+nq)):=hw3
          clear hw3
          obtain⟨v3,hy3⟩:=cell?_setCell_some (w:=W3) (p:=⟨blk,off+i',none⟩) (x:=.int .u32 (Gk j')) (q:=⟨blk,off+j',none⟩) (hc3 j' (by omega))
          have hlt3:=scans_lt Sort.ltInt a i j dk (by omega) hi2.out hj2.out hle2
          go_wp2
          go_region
          all_goals go_wp2
          all_goals go_roundw
          case rel=>
           refine⟨i'+1,j'-1,n+(n2+nq)+1,Sort.swp dk i' j',by go_num,by go_num,by omega,by omega,by omega,by rw[size_swp];exact hs,?_,?_⟩
           · rw[HW3.out,AW.out,World.drewN_drewN,AG.out i',AG.out j']
             exact swap_worldC (Value.int .u32) w blk off dk _ i' j' (by omega) (by omega)
           · rw[←AE.out];exact (partEq_go Sort.ltInt a i j dk hi2.out hj2.out (by omega)).symm
          case measure=>simp[intOf];omega
       · go_wp2_with fail
         go_big_quiet (first | (go_at_call 118;refine Calls.quiet_of_same (s_cmp_Less _ _ _)))
         have hj2:Hid (j'=Sort.scanDown (fun x=>Sort.ltInt dk[a]! x) dk i' j):=(scanDown_end (fun x=>Sort.ltInt dk[a]! x) dk i' j' (Or.inl hle2)).symm.trans hsd.out
         clear hcw hsd
         have hw3:wr.drewN nq=W1.drewN (n2+nq):=by rw[HW2.out,World.drewN_drewN]
         generalize wr.drewN nq=W3 at hw3⊢
         have hc3:∀t,t<d.size→W3.cell? ⟨blk,off+t,none⟩=some (.int .u32 (Gk t)):=fun t ht=>by rw[hw3];exact hc t ht
         have hf3:∀t,t<d.size→W3.frozen? ⟨blk,off+t,none⟩=false:=fun t ht=>by rw[hw3];exact hf t ht
         have HW3:Hid (W3=W1.drewN (n2+nq)):=hw3
         clear hw3
         go_wp2
         go_ret
         have e:=partEq_break Sort.ltInt a i j dk hi2.out hj2.out (by omega)
         refine⟨?_,n+(n2+nq),?_⟩
         · unfold Sort.partitionEqual;rw[←AE.out,e];rfl
         · unfold Sort.partitionEqual;rw[←AE.out,e,HW3.out,AW.out,World.drewN_drewN]
   · go_wp2_with fail
     go_big_quiet (first | (go_at_call 118;refine Calls.quiet_of_same (s_cmp_Less _ _ _)))
     go_wp2
     have hi2:Hid (i'=Sort.scanUp (fun x=>!Sort.ltInt dk[a]! x) dk j i):=(scanUp_end (fun x=>!Sort.ltInt dk[a]! x) dk j i' (Or.inl hle)).symm.trans hsc.out
     have hw2:wr.drewN nq=W1.drewN (n1+nq):=by rw[HW1.out,World.drewN_drewN]
     clear hcw HW1 hsc
     go_loopw [10] (fun vj w2=>∃(j' n2:Nat),vj = .int .i64 j'∧j'≤j∧i'≤j'+1∧w2=W1.drewN n2∧
      Hid (Sort.scanDown (fun x=>Sort.ltInt dk[a]! x) dk i' j'=Sort.scanDown (fun x=>Sort.ltInt dk[a]! x) dk i' j))
      (fun vj _=>(intOf vj).toNat)
     case atStart=>exact⟨j,n1+nq,rfl,Nat.le_refl _,hij',hw2,rfl⟩
     case round=>
      clear hw2
      obtain⟨j',n2,rfl,hjj,hij2,hw2,hsd⟩:=hrel
      have hcw:∀t,t<d.size→wr.cell? ⟨blk,off+t,none⟩=some (.int .u32 (Gk t)):=fun t ht=>by rw[hw2];exact hc t ht
      have HW2:Hid (wr=W1.drewN n2):=hw2
      clear hw2
      by_cases hle2:i'≤j'
      · exfalso;omega
      · go_wp2_with fail
        go_big_quiet (first | (go_at_call 118;refine Calls.quiet_of_same (s_cmp_Less _ _ _)))
        have hj2:Hid (j'=Sort.scanDown (fun x=>Sort.ltInt dk[a]! x) dk i' j):=(scanDown_end (fun x=>Sort.ltInt dk[a]! x) dk i' j' (Or.inl hle2)).symm.trans hsd.out
        clear hcw hsd
        have hw3:wr.drewN nq=W1.drewN (n2+nq):=by rw[HW2.out,World.drewN_drewN]
        generalize wr.drewN nq=W3 at hw3⊢
        have hc3:∀t,t<d.size→W3.cell? ⟨blk,off+t,none⟩=some (.int .u32 (Gk t)):=fun t ht=>by rw[hw3];exact hc t ht
        have hf3:∀t,t<d.size→W3.frozen? ⟨blk,off+t,none⟩=false:=fun t ht=>by rw[hw3];exact hf t ht
        have HW3:Hid (W3=W1.drewN (n2+nq)):=hw3
        clear hw3
        go_wp2
        go_ret
        have e:=partEq_break Sort.ltInt a i j dk hi2.out hj2.out (by omega)
        refine⟨?_,n+(n2+nq),?_⟩
        · unfold Sort.partitionEqual;rw[←AE.out,e];rfl
        · unfold Sort.partitionEqual;rw[←AE.out,e,HW3.out,AW.out,World.drewN_drewN]
theorem s_partitionEqualOrdered (blk off cap a b pivot:Nat) (d:Array Int) (w:World) (hH:Holds (Value.int .u32) w blk off d) (hap:a≤pivot) (hpb:pivot<b) (hb:b≤d.size) (hsz:d.size<4611686018427387904):
 Calls Tryz.prog 119 #[.slice (some ⟨blk,off,none⟩) d.size cap,.int .i64 a,.int .i64 b,.int .i64 pivot] w fun e w'=>
  e = .returned (.int .i64 (Sort.partitionEqual Sort.ltInt d a b pivot).1)∧∃n,w'=putRow (Value.int .u32) (Sort.ahead w n) blk off (Sort.partitionEqual Sort.ltInt d a b pivot).2:=
 (s_partitionEqual blk off cap a b pivot d w hH hap hpb hb hsz).mono fun _ _ ⟨he,n,hw⟩=>⟨he,n,hw⟩
set_option maxRecDepth 100000 in
theorem s_partition (blk off cap a b pivot:Nat) (d:Array Int) (w:World) (hH:Holds (Value.int .u32) w blk off d) (hap:a≤pivot) (hpb:pivot<b) (hb:b≤d.size) (hsz:d.size<4611686018427387904):
 Calls Tryz.prog 120 #[.slice (some ⟨blk,off,none⟩) d.size cap,.int .i64 a,.int .i64 b,.int .i64 pivot] w fun e w'=>
  e = .returned (.tuple #[.int .i64 (Sort.partition Sort.ltInt d a b pivot).1,.bool (Sort.partition Sort.ltInt d a b pivot).2.1])∧∃n,w'=(putRow (Value.int .u32) w blk off (Sort.partition Sort.ltInt d a b pivot).2.2).drewN n:=by
 have hla:a<d.size:=by omega
 have hlp:pivot<d.size:=by omega
 obtain⟨G,hG⟩:∃G:Nat→Int,∀j,G j=d[j]!:=⟨fun j=>d[j]!,fun _=>rfl⟩
 have ca:w.cell? ⟨blk,off+a,none⟩=some (.int .u32 (G a)):=by rw[hG];exact (hH a hla).1
 have fa:=(hH a hla).2
 have cp:w.cell? ⟨blk,off+pivot,none⟩=some (.int .u32 (G pivot)):=by rw[hG];exact (hH pivot hlp).1
 have fp:=(hH pivot hlp).2
 obtain⟨v',hy'⟩:=cell?_setCell_some (w:=w) (p:=⟨blk,off+a,none⟩) (x:=.int .u32 (G pivot)) (q:=⟨blk,off+pivot,none⟩) cp
 have hw:((w.setCell ⟨blk,off+a,none⟩ (.int .u32 (G pivot))).setCell ⟨blk,off+pivot,none⟩ (.int .u32 (G a))).drew=(putRow (Value.int .u32) w blk off (Sort.swp d a pivot)).drewN 1:=by
  have e:=swap_worldC (Value.int .u32) w blk off d 0 a pivot hla hlp
  rw[putRow_self _ w blk off d hH] at e
  rw[hG a,hG pivot]
  exact e
 have AH:Hid (Holds (Value.int .u32) w blk off d):=hH
 have HW0:=Hid.mk' hw
 clear hG hH hw
 go_enter Tryz.func120,Tryz.ntmps120
 go_wp2
 go_region
 go_wp2
 clear ca fa cp fp hy' v'
 have hw:=HW0.out
 clear HW0
 generalize ((w.setCell ⟨blk,off+a,none⟩ (.int .u32 (G pivot))).setCell ⟨blk,off+pivot,none⟩ (.int .u32 (G a))).drew=W1 at hw⊢
 obtain⟨dk,hdk⟩:∃dk,dk=Sort.swp d a pivot:=⟨_,rfl⟩
 obtain⟨n,hn⟩:∃n:Nat,n=1:=⟨_,rfl⟩
 rw[←hdk,←hn] at hw
 clear hn
 have hs:dk.size=d.size:=by rw[hdk,size_swp]
 have e1:((a:Int)+1)=((a+1:Nat):Int):=by omega
 have e2:((b:Int)-1)=((b-1:Nat):Int):=by omega
 rw[e1,e2]
 clear e1 e2
 obtain⟨i,hi⟩:∃i,i=a+1:=⟨_,rfl⟩
 obtain⟨j,hj⟩:∃j,j=b-1:=⟨_,rfl⟩
 rw[←hi,←hj]
 have hai:a<i:=by omega
 have hij:i≤j+1:=by omega
 have hjb:j<b:=by omega
 have HI:=Hid.mk' hi
 have HJ:=Hid.mk' hj
 have HDK:=Hid.mk' hdk
 clear hi hj hdk
 have hHk:Holds (Value.int .u32) W1 blk off dk:=by
  rw[hw]
  exact holds_putRow (Value.int .u32) w blk off d dk AH.out hs
 obtain⟨Gk,hG⟩:∃Gk:Nat→Int,∀t,Gk t=dk[t]!:=⟨fun t=>dk[t]!,fun _=>rfl⟩
 have hc:∀t,t<d.size→W1.cell? ⟨blk,off+t,none⟩=some (.int .u32 (Gk t)):=fun t ht=>by rw[hG];exact (hHk t (by omega)).1
 have hf:∀t,t<d.size→W1.frozen? ⟨blk,off+t,none⟩=false:=fun t ht=>(hHk t (by omega)).2
 have AG:Hid (∀t,Gk t=dk[t]!):=hG
 have AW:Hid (W1=(putRow (Value.int .u32) w blk off dk).drewN n):=hw
 clear hG hw hHk
 go_loopw [10] (fun vi w1=>∃(i' n1:Nat),vi = .int .i64 i'∧i≤i'∧i'≤j+1∧w1=W1.drewN n1∧
  Hid (Sort.scanUp (fun x=>Sort.ltInt x dk[a]!) dk j i'=Sort.scanUp (fun x=>Sort.ltInt x dk[a]!) dk j i))
  (fun vi _=>j+1-(intOf vi).toNat)
 case atStart=>exact⟨i,0,rfl,Nat.le_refl _,hij,rfl,rfl⟩
 case round=>
  obtain⟨i',n1,rfl,hii,hij',hw1,hsc⟩:=hrel
  have hcw:∀t,t<d.size→wr.cell? ⟨blk,off+t,none⟩=some (.int .u32 (Gk t)):=fun t ht=>by rw[hw1];exact hc t ht
  have HW1:Hid (wr=W1.drewN n1):=hw1
  clear hw1
  by_cases hle:i'≤j
  · go_wp2_with fail
    go_big_quiet (first | (go_at_call 118;refine Calls.quiet_of_same (s_cmp_Less _ _ _)))
    go_wp2
    ·
     have ht:Sort.ltInt (Gk i') (Gk a)=true:=by assumption
     go_roundw
     case rel=>exact⟨i'+1,n1+nq,by go_num,by omega,by omega,by rw[HW1.out,World.drewN_drewN],(scanUp_go (fun x=>Sort.ltInt x dk[a]!) dk j i' hle (by rw[←AG.out a,←AG.out i'];exact ht)).symm.trans hsc.out⟩
     case measure=>simp[intOf];omega
    ·
     have ht:Sort.ltInt (Gk i') (Gk a)=false:=by assumption
     have hi2:Hid (i'=Sort.scanUp (fun x=>Sort.ltInt x dk[a]!) dk j i):=(scanUp_end (fun x=>Sort.ltInt x dk[a]!) dk j i' (Or.inr (by rw[←AG.out a,←AG.out i'];exact ht))).symm.trans hsc.out
     clear ht
     have hw2:wr.drewN nq=W1.drewN (n1+nq):=by rw[HW1.out,World.drewN_drewN]
     clear hcw HW1 hsc
     go_loopw [11] (fun vj w2=>∃(j' n2:Nat),vj = .int .i64 j'∧j'≤j∧i'≤j'+1∧w2=W1.drewN n2∧
      Hid (Sort.scanDown (fun x=>!Sort.ltInt x dk[a]!) dk i' j'=Sort.scanDown (fun x=>!Sort.ltInt x dk[a]!) dk i' j))
      (fun vj _=>(intOf vj).toNat)
     case atStart=>exact⟨j,n1+nq,rfl,Nat.le_refl _,hij',hw2,rfl⟩
     case round=>
      clear hw2
      obtain⟨j',n2,rfl,hjj,hij2,hw2,hsd⟩:=hrel
      have hcw:∀t,t<d.size→wr.cell? ⟨blk,off+t,none⟩=some (.int .u32 (Gk t)):=fun t ht=>by rw[hw2];exact hc t ht
      have HW2:Hid (wr=W1.drewN n2):=hw2
      clear hw2
      by_cases hle2:i'≤j'
      · go_wp2_with fail
        go_big_quiet (first | (go_at_call 118;refine Calls.quiet_of_same (s_cmp_Less _ _ _)))
        go_wp2
        ·
         have ht:(!Sort.ltInt (Gk j') (Gk a))=true:=by assumption
         go_roundw
         case rel=>exact⟨j'-1,n2+nq,by go_num,by omega,by omega,by rw[HW2.out,World.drewN_drewN],(scanDown_go (fun x=>!Sort.ltInt x dk[a]!) dk i' j' hle2 (by omega) (by rw[←AG.out a,←AG.out j'];exact ht)).symm.trans hsd.out⟩
         case measure=>simp[intOf];omega
        ·
         have ht:(!Sort.ltInt (Gk j') (Gk a))=false:=by assumption
         have hj2:Hid (j'=Sort.scanDown (fun x=>!Sort.ltInt x dk[a]!) dk i' j):=(scanDown_end (fun x=>!Sort.ltInt x dk[a]!) dk i' j' (Or.inr (by rw[←AG.out a,←AG.out j'];exact ht))).symm.trans hsd.out
         clear hcw hsd ht
         have hw3:wr.drewN nq=W1.drewN (n2+nq):=by rw[HW2.out,World.drewN_drewN]
         generalize wr.drewN nq=W3 at hw3⊢
         have hc3:∀t,t<d.size→W3.cell? ⟨blk,off+t,none⟩=some (.int .u32 (Gk t)):=fun t ht=>by rw[hw3];exact hc t ht
         have hf3:∀t,t<d.size→W3.frozen? ⟨blk,off+t,none⟩=false:=fun t ht=>by rw[hw3];exact hf t ht
         have HW3:Hid (W3=W1.drewN (n2+nq)):=hw3
         clear hw3
         obtain⟨v3,hy3⟩:=cell?_setCell_some (w:=W3) (p:=⟨blk,off+i',none⟩) (x:=.int .u32 (Gk j')) (q:=⟨blk,off+j',none⟩) (hc3 j' (by omega))
         have hlt3:=part_scans_lt Sort.ltInt a i j dk (by omega) hi2.out hj2.out hle2
         go_wp2
         go_region
         all_goals go_wp2
         obtain⟨R,hR⟩:∃R,R=Sort.partLoop Sort.ltInt a (i'+1) (j'-1) (Sort.swp dk i' j'):=⟨_,rfl⟩
         have HP:Hid (Sort.partition Sort.ltInt d a b pivot=(R.1,false,Sort.swp R.2 R.1 a)):=by rw[hR];exact part_first_go Sort.ltInt d a b pivot HI.out HJ.out HDK.out hi2.out hj2.out (by omega)
         have hw0:((W3.setCell ⟨blk,off+i',none⟩ (.int .u32 (Gk j'))).setCell ⟨blk,off+j',none⟩ (.int .u32 (Gk i'))).drew=(putRow (Value.int .u32) w blk off (Sort.swp dk i' j')).drewN (n+(n2+nq)+1):=by
          rw[HW3.out,AW.out,World.drewN_drewN,AG.out i',AG.out j']
          exact swap_worldC (Value.int .u32) w blk off dk _ i' j' (by omega) (by omega)
         have HR:Hid (R=Sort.partLoop Sort.ltInt a (i'+1) (j'-1) (Sort.swp dk i' j')):=hR
         clear hR hc hf hc3 hf3 hy3 HW3 AW AG hi2 hj2
         go_loopw [10,11] (fun vi vj wr=>∃(i j n:Nat) (dk:Array Int),vi = .int .i64 i∧vj = .int .i64 j∧a<i∧i≤j+1∧j<b∧dk.size=d.size∧wr=(putRow (Value.int .u32) w blk off dk).drewN n∧
          Sort.partLoop Sort.ltInt a i j dk=R)
          (fun vi vj _=>(intOf vj).toNat+1-(intOf vi).toNat)
         case atStart=>exact⟨i'+1,j'-1,_,Sort.swp dk i' j',by go_num,by go_num,by omega,by omega,by omega,by rw[size_swp];exact hs,hw0,HR.out.symm⟩
         case round=>
          clear hw0 HR
          obtain⟨i,j,n,dk,rfl,rfl,hai,hij,hjb,hs,hw,heq⟩:=hrel
          rename World=>W1
          have AE:Hid (Sort.partLoop Sort.ltInt a i j dk=R):=heq
          clear heq
          have hHk:Holds (Value.int .u32) W1 blk off dk:=by
           rw[hw]
           exact holds_putRow (Value.int .u32) w blk off d dk AH.out hs
          obtain⟨Gk,hG⟩:∃Gk:Nat→Int,∀t,Gk t=dk[t]!:=⟨fun t=>dk[t]!,fun _=>rfl⟩
          have hc:∀t,t<d.size→W1.cell? ⟨blk,off+t,none⟩=some (.int .u32 (Gk t)):=fun t ht=>by rw[hG];exact (hHk t (by omega)).1
          have hf:∀t,t<d.size→W1.frozen? ⟨blk,off+t,none⟩=false:=fun t ht=>(hHk t (by omega)).2
          have AG:Hid (∀t,Gk t=dk[t]!):=hG
          have AW:Hid (W1=(putRow (Value.int .u32) w blk off dk).drewN n):=hw
          clear hG hw hHk
          go_wp2
          go_loopw [10] (fun vi w1=>∃(i' n1:Nat),vi = .int .i64 i'∧i≤i'∧i'≤j+1∧w1=W1.drewN n1∧
           Hid (Sort.scanUp (fun x=>Sort.ltInt x dk[a]!) dk j i'=Sort.scanUp (fun x=>Sort.ltInt x dk[a]!) dk j i))
           (fun vi _=>j+1-(intOf vi).toNat)
          case atStart=>exact⟨i,0,rfl,Nat.le_refl _,hij,rfl,rfl⟩
          case round=>
           obtain⟨i',n1,rfl,hii,hij',hw1,hsc⟩:=hrel
           have hcw:∀t,t<d.size→wr.cell? ⟨blk,off+t,none⟩=some (.int .u32 (Gk t)):=fun t ht=>by rw[hw1];exact hc t ht
           have HW1:Hid (wr=W1.drewN n1):=hw1
           clear hw1
           by_cases hle:i'≤j
           · go_wp2_with fail
             go_big_quiet (first | (go_at_call 118;refine Calls.quiet_of_same (s_cmp_Less _ _ _)))
             go_wp2
             ·
              have ht:Sort.ltInt (Gk i') (Gk a)=true:=by assumption
              go_roundw
              case rel=>exact⟨i'+1,n1+nq,by go_num,by omega,by omega,by rw[HW1.out,World.drewN_drewN],(scanUp_go (fun x=>Sort.ltInt x dk[a]!) dk j i' hle (by rw[←AG.out a,←AG.out i'];exact ht)).symm.trans hsc.out⟩
              case measure=>simp[intOf];omega
             ·
              have ht:Sort.ltInt (Gk i') (Gk a)=false:=by assumption
              have hi2:Hid (i'=Sort.scanUp (fun x=>Sort.ltInt x dk[a]!) dk j i):=(scanUp_end (fun x=>Sort.ltInt x dk[a]!) dk j i' (Or.inr (by rw[←AG.out a,←AG.out i'];exact ht))).symm.trans hsc.out
              clear ht
              have hw2:wr.drewN nq=W1.drewN (n1+nq):=by rw[HW1.out,World.drewN_drewN]
              clear hcw HW1 hsc
              go_loopw [11] (fun vj w2=>∃(j' n2:Nat),vj = .int .i64 j'∧j'≤j∧i'≤j'+1∧w2=W1.drewN n2∧
               Hid (Sort.scanDown (fun x=>!Sort.ltInt x dk[a]!) dk i' j'=Sort.scanDown (fun x=>!Sort.ltInt x dk[a]!) dk i' j))
               (fun vj _=>(intOf vj).toNat)
              case atStart=>exact⟨j,n1+nq,rfl,Nat.le_refl _,hij',hw2,rfl⟩
              case round=>
               clear hw2
               obtain⟨j',n2,rfl,hjj,hij2,hw2,hsd⟩:=hrel
               have hcw:∀t,t<d.size→wr.cell? ⟨blk,off+t,none⟩=some (.int .u32 (Gk t)):=fun t ht=>by rw[hw2];exact hc t ht
               have HW2:Hid (wr=W1.drewN n2):=hw2
               clear hw2
               by_cases hle2:i'≤j'
               · go_wp2_with fail
                 go_big_quiet (first | (go_at_call 118;refine Calls.quiet_of_same (s_cmp_Less _ _ _)))
                 go_wp2
                 ·
                  have ht:(!Sort.ltInt (Gk j') (Gk a))=true:=by assumption
                  go_roundw
                  case rel=>exact⟨j'-1,n2+nq,by go_num,by omega,by omega,by rw[HW2.out,World.drewN_drewN],(scanDown_go (fun x=>!Sort.ltInt x dk[a]!) dk i' j' hle2 (by omega) (by rw[←AG.out a,←AG.out j'];exact ht)).symm.trans hsd.out⟩
                  case measure=>simp[intOf];omega
                 ·
                  have ht:(!Sort.ltInt (Gk j') (Gk a))=false:=by assumption
                  have hj2:Hid (j'=Sort.scanDown (fun x=>!Sort.ltInt x dk[a]!) dk i' j):=(scanDown_end (fun x=>!Sort.ltInt x dk[a]!) dk i' j' (Or.inr (by rw[←AG.out a,←AG.out j'];exact ht))).symm.trans hsd.out
                  clear hcw hsd ht
                  have hw3:wr.drewN nq=W1.drewN (n2+nq):=by rw[HW2.out,World.drewN_drewN]
                  generalize wr.drewN nq=W3 at hw3⊢
                  have hc3:∀t,t<d.size→W3.cell? ⟨blk,off+t,none⟩=some (.int .u32 (Gk t)):=fun t ht=>by rw[hw3];exact hc t ht
                  have hf3:∀t,t<d.size→W3.frozen? ⟨blk,off+t,none⟩=false:=fun t ht=>by rw[hw3];exact hf t ht
                  have HW3:Hid (W3=W1.drewN (n2+nq)):=hw3
                  clear hw3
                  obtain⟨v3,hy3⟩:=cell?_setCell_some (w:=W3) (p:=⟨blk,off+i',none⟩) (x:=.int .u32 (Gk j')) (q:=⟨blk,off+j',none⟩) (hc3 j' (by omega))
                  have hlt3:=part_scans_lt Sort.ltInt a i j dk (by omega) hi2.out hj2.out hle2
                  go_wp2
                  go_region
                  all_goals go_wp2
                  all_goals go_roundw
                  case rel=>
                   refine⟨i'+1,j'-1,n+(n2+nq)+1,Sort.swp dk i' j',by go_num,by go_num,by omega,by omega,by omega,by rw[size_swp];exact hs,?_,?_⟩
                   · rw[HW3.out,AW.out,World.drewN_drewN,AG.out i',AG.out j']
                     exact swap_worldC (Value.int .u32) w blk off dk _ i' j' (by omega) (by omega)
                   · exact (part_go Sort.ltInt a i j dk hi2.out hj2.out (by omega)).symm.trans AE.out
                  case measure=>simp[intOf];omega
               · go_wp2_with fail
                 go_big_quiet (first | (go_at_call 118;refine Calls.quiet_of_same (s_cmp_Less _ _ _)))
                 have hj2:Hid (j'=Sort.scanDown (fun x=>!Sort.ltInt x dk[a]!) dk i' j):=(scanDown_end (fun x=>!Sort.ltInt x dk[a]!) dk i' j' (Or.inl hle2)).symm.trans hsd.out
                 clear hcw hsd
                 have hw3:wr.drewN nq=W1.drewN (n2+nq):=by rw[HW2.out,World.drewN_drewN]
                 generalize wr.drewN nq=W3 at hw3⊢
                 have hc3:∀t,t<d.size→W3.cell? ⟨blk,off+t,none⟩=some (.int .u32 (Gk t)):=fun t ht=>by rw[hw3];exact hc t ht
                 have hf3:∀t,t<d.size→W3.frozen? ⟨blk,off+t,none⟩=false:=fun t ht=>by rw[hw3];exact hf t ht
                 have HW3:Hid (W3=W1.drewN (n2+nq)):=hw3
                 clear hw3
                 obtain⟨v3,hy3⟩:=cell?_setCell_some (w:=W3) (p:=⟨blk,off+j',none⟩) (x:=.int .u32 (Gk a)) (q:=⟨blk,off+a,none⟩) (hc3 a (by omega))
                 have hlj:j'<d.size:=by omega
                 go_wp2
                 go_region
                 all_goals go_wp2
                 all_goals go_ret2
                 have e:Sort.partition Sort.ltInt d a b pivot=(j',false,Sort.swp dk j' a):=by
                  have e0:=(part_break Sort.ltInt a i j dk hi2.out hj2.out (by omega)).symm.trans AE.out
                  rw[HP.out,←e0]
                 refine⟨?_,n+(n2+nq)+1,?_⟩
                 · rw[e];rfl
                 · rw[e,HW3.out,AW.out,World.drewN_drewN,AG.out a,AG.out j']
                   exact swap_worldC (Value.int .u32) w blk off dk _ j' a (by omega) (by omega)
           · go_wp2_with fail
             go_big_quiet (first | (go_at_call 118;refine Calls.quiet_of_same (s_cmp_Less _ _ _)))
             go_wp2
             have hi2:Hid (i'=Sort.scanUp (fun x=>Sort.ltInt x dk[a]!) dk j i):=(scanUp_end (fun x=>Sort.ltInt x dk[a]!) dk j i' (Or.inl hle)).symm.trans hsc.out
             have hw2:wr.drewN nq=W1.drewN (n1+nq):=by rw[HW1.out,World.drewN_drewN]
             clear hcw HW1 hsc
             go_loopw [11] (fun vj w2=>∃(j' n2:Nat),vj = .int .i64 j'∧j'≤j∧i'≤j'+1∧w2=W1.drewN n2∧
              Hid (Sort.scanDown (fun x=>!Sort.ltInt x dk[a]!) dk i' j'=Sort.scanDown (fun x=>!Sort.ltInt x dk[a]!) dk i' j))
              (fun vj _=>(intOf vj).toNat)
             case atStart=>exact⟨j,n1+nq,rfl,Nat.le_refl _,hij',hw2,rfl⟩
             case round=>
              clear hw2
              obtain⟨j',n2,rfl,hjj,hij2,hw2,hsd⟩:=hrel
              have hcw:∀t,t<d.size→wr.cell? ⟨blk,off+t,none⟩=some (.int .u32 (Gk t)):=fun t ht=>by rw[hw2];exact hc t ht
              have HW2:Hid (wr=W1.drewN n2):=hw2
              clear hw2
              by_cases hle2:i'≤j'
              · exfalso;omega
              · go_wp2_with fail
                go_big_quiet (first | (go_at_call 118;refine Calls.quiet_of_same (s_cmp_Less _ _ _)))
                have hj2:Hid (j'=Sort.scanDown (fun x=>!Sort.ltInt x dk[a]!) dk i' j):=(scanDown_end (fun x=>!Sort.ltInt x dk[a]!) dk i' j' (Or.inl hle2)).symm.trans hsd.out
                clear hcw hsd
                have hw3:wr.drewN nq=W1.drewN (n2+nq):=by rw[HW2.out,World.drewN_drewN]
                generalize wr.drewN nq=W3 at hw3⊢
                have hc3:∀t,t<d.size→W3.cell? ⟨blk,off+t,none⟩=some (.int .u32 (Gk t)):=fun t ht=>by rw[hw3];exact hc t ht
                have hf3:∀t,t<d.size→W3.frozen? ⟨blk,off+t,none⟩=false:=fun t ht=>by rw[hw3];exact hf t ht
                have HW3:Hid (W3=W1.drewN (n2+nq)):=hw3
                clear hw3
                obtain⟨v3,hy3⟩:=cell?_setCell_some (w:=W3) (p:=⟨blk,off+j',none⟩) (x:=.int .u32 (Gk a)) (q:=⟨blk,off+a,none⟩) (hc3 a (by omega))
                have hlj:j'<d.size:=by omega
                go_wp2
                go_region
                all_goals go_wp2
                all_goals go_ret2
                have e:Sort.partition Sort.ltInt d a b pivot=(j',false,Sort.swp dk j' a):=by
                 have e0:=(part_break Sort.ltInt a i j dk hi2.out hj2.out (by omega)).symm.trans AE.out
                 rw[HP.out,←e0]
                refine⟨?_,n+(n2+nq)+1,?_⟩
                · rw[e];rfl
                · rw[e,HW3.out,AW.out,World.drewN_drewN,AG.out a,AG.out j']
                  exact swap_worldC (Value.int .u32) w blk off dk _ j' a (by omega) (by omega)
      · go_wp2_with fail
        go_big_quiet (first | (go_at_call 118;refine Calls.quiet_of_same (s_cmp_Less _ _ _)))
        have hj2:Hid (j'=Sort.scanDown (fun x=>!Sort.ltInt x dk[a]!) dk i' j):=(scanDown_end (fun x=>!Sort.ltInt x dk[a]!) dk i' j' (Or.inl hle2)).symm.trans hsd.out
        clear hcw hsd
        have hw3:wr.drewN nq=W1.drewN (n2+nq):=by rw[HW2.out,World.drewN_drewN]
        generalize wr.drewN nq=W3 at hw3⊢
        have hc3:∀t,t<d.size→W3.cell? ⟨blk,off+t,none⟩=some (.int .u32 (Gk t)):=fun t ht=>by rw[hw3];exact hc t ht
        have hf3:∀t,t<d.size→W3.frozen? ⟨blk,off+t,none⟩=false:=fun t ht=>by rw[hw3];exact hf t ht
        have HW3:Hid (W3=W1.drewN (n2+nq)):=hw3
        clear hw3
        obtain⟨v3,hy3⟩:=cell?_setCell_some (w:=W3) (p:=⟨blk,off+j',none⟩) (x:=.int .u32 (Gk a)) (q:=⟨blk,off+a,none⟩) (hc3 a (by omega))
        have hlj:j'<d.size:=by omega
        go_wp2
        go_region
        all_goals go_wp2
        all_goals go_ret2
        have e:Sort.partition Sort.ltInt d a b pivot=(j',true,Sort.swp dk j' a):=part_first_break Sort.ltInt d a b pivot HI.out HJ.out HDK.out hi2.out hj2.out (by omega)
        refine⟨?_,n+(n2+nq)+1,?_⟩
        · rw[e];rfl
        · rw[e,HW3.out,AW.out,World.drewN_drewN,AG.out a,AG.out j']
          exact swap_worldC (Value.int .u32) w blk off dk _ j' a (by omega) (by omega)
  · go_wp2_with fail
    go_big_quiet (first | (go_at_call 118;refine Calls.quiet_of_same (s_cmp_Less _ _ _)))
    go_wp2
    have hi2:Hid (i'=Sort.scanUp (fun x=>Sort.ltInt x dk[a]!) dk j i):=(scanUp_end (fun x=>Sort.ltInt x dk[a]!) dk j i' (Or.inl hle)).symm.trans hsc.out
    have hw2:wr.drewN nq=W1.drewN (n1+nq):=by rw[HW1.out,World.drewN_drewN]
    clear hcw HW1 hsc
    go_loopw [11] (fun vj w2=>∃(j' n2:Nat),vj = .int .i64 j'∧j'≤j∧i'≤j'+1∧w2=W1.drewN n2∧
     Hid (Sort.scanDown (fun x=>!Sort.ltInt x dk[a]!) dk i' j'=Sort.scanDown (fun x=>!Sort.ltInt x dk[a]!) dk i' j))
     (fun vj _=>(intOf vj).toNat)
    case atStart=>exact⟨j,n1+nq,rfl,Nat.le_refl _,hij',hw2,rfl⟩
    case round=>
     clear hw2
     obtain⟨j',n2,rfl,hjj,hij2,hw2,hsd⟩:=hrel
     have hcw:∀t,t<d.size→wr.cell? ⟨blk,off+t,none⟩=some (.int .u32 (Gk t)):=fun t ht=>by rw[hw2];exact hc t ht
     have HW2:Hid (wr=W1.drewN n2):=hw2
     clear hw2
     by_cases hle2:i'≤j'
     · exfalso;omega
     · go_wp2_with fail
       go_big_quiet (first | (go_at_call 118;refine Calls.quiet_of_same (s_cmp_Less _ _ _)))
       have hj2:Hid (j'=Sort.scanDown (fun x=>!Sort.ltInt x dk[a]!) dk i' j):=(scanDown_end (fun x=>!Sort.ltInt x dk[a]!) dk i' j' (Or.inl hle2)).symm.trans hsd.out
       clear hcw hsd
       have hw3:wr.drewN nq=W1.drewN (n2+nq):=by rw[HW2.out,World.drewN_drewN]
       generalize wr.drewN nq=W3 at hw3⊢
       have hc3:∀t,t<d.size→W3.cell? ⟨blk,off+t,none⟩=some (.int .u32 (Gk t)):=fun t ht=>by rw[hw3];exact hc t ht
       have hf3:∀t,t<d.size→W3.frozen? ⟨blk,off+t,none⟩=false:=fun t ht=>by rw[hw3];exact hf t ht
       have HW3:Hid (W3=W1.drewN (n2+nq)):=hw3
       clear hw3
       obtain⟨v3,hy3⟩:=cell?_setCell_some (w:=W3) (p:=⟨blk,off+j',none⟩) (x:=.int .u32 (Gk a)) (q:=⟨blk,off+a,none⟩) (hc3 a (by omega))
       have hlj:j'<d.size:=by omega
       go_wp2
       go_region
       all_goals go_wp2
       all_goals go_ret2
       have e:Sort.partition Sort.ltInt d a b pivot=(j',true,Sort.swp dk j' a):=part_first_break Sort.ltInt d a b pivot HI.out HJ.out HDK.out hi2.out hj2.out (by omega)
       refine⟨?_,n+(n2+nq)+1,?_⟩
       · rw[e];rfl
       · rw[e,HW3.out,AW.out,World.drewN_drewN,AG.out a,AG.out j']
         exact swap_worldC (Value.int .u32) w blk off dk _ j' a (by omega) (by omega)
theorem s_partitionOrdered (blk off cap a b pivot:Nat) (d:Array Int) (w:World) (hH:Holds (Value.int .u32) w blk off d) (hap:a≤pivot) (hpb:pivot<b) (hb:b≤d.size) (hsz:d.size<4611686018427387904):
 Calls Tryz.prog 120 #[.slice (some ⟨blk,off,none⟩) d.size cap,.int .i64 a,.int .i64 b,.int .i64 pivot] w fun e w'=>
  e = .returned (.tuple #[.int .i64 (Sort.partition Sort.ltInt d a b pivot).1,.bool (Sort.partition Sort.ltInt d a b pivot).2.1])∧∃n,w'=putRow (Value.int .u32) (Sort.ahead w n) blk off (Sort.partition Sort.ltInt d a b pivot).2.2:=
 (s_partition blk off cap a b pivot d w hH hap hpb hb hsz).mono fun _ _ ⟨he,n,hw⟩=>⟨he,n,hw⟩
end Go.Proofs.YtlbjdbaeffacgaaGreat.U32
