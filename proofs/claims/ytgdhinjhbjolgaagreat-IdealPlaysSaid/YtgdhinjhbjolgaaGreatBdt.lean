/-
  Parts of the proof, joined.
-/
import Derived.Test.YtgdhinjhbjolgaaGreatBds
namespace Go.Proofs.YtgdhinjhbjolgaaGreat
set_option maxHeartbeats 4000000
open Go.RowKit
set_option linter.unusedVariables false
set_option linter.unusedSimpArgs false
set_option maxRecDepth 100000 in
theorem rerr_any (e:Int) (w:World):Calls Tryz.prog 29 #[.int .i64 e] w fun r w'=>r = .returned (.agg (ansE e))∧Below w.heap.size w w':=by
 go_enter Tryz.func29,Tryz.ntmps29
 go_wp2_with fail
 exact bodyPost_ret (ans_results Tryz.results29 _ _ w.heap.size (ansE e) rfl (CbB.new _ _ _) rfl) rfl ⟨rfl,alB⟩
def needP (k:Int):Nat:=if k=11 then 2 else if k=14 then 4 else if k=15 then 4 else if k=12 then 1 else if k=13 then 1 else if k=16 then 1 else 0
set_option maxRecDepth 100000 in
theorem rneed_any (k:Int) (w:World):Calls Tryz.prog 59 #[.int .i64 k] w fun r w'=>r = .returned (.int .u8 (needP k:Int))∧w=w':=by
 unfold needP
 by_cases e1:k=11
 · have b1:(k==11)=true:=by simpa using e1
   rw[if_pos e1]
   clear e1
   go_enter Tryz.func59,Tryz.ntmps59
   go_wp2_with fail
   go_ret
   exact⟨rfl,rfl⟩
 rw[if_neg e1]
 have b1:(k==11)=false:=by simpa using e1
 by_cases e2:k=14
 · have b2:(k==14)=true:=by simpa using e2
   rw[if_pos e2]
   clear e1 e2
   go_enter Tryz.func59,Tryz.ntmps59
   go_wp2_with fail
   go_ret
   exact⟨rfl,rfl⟩
 rw[if_neg e2]
 have b2:(k==14)=false:=by simpa using e2
 by_cases e3:k=15
 · have b3:(k==15)=true:=by simpa using e3
   rw[if_pos e3]
   clear e1 e2 e3
   go_enter Tryz.func59,Tryz.ntmps59
   go_wp2_with fail
   go_ret
   exact⟨rfl,rfl⟩
 rw[if_neg e3]
 have b3:(k==15)=false:=by simpa using e3
 by_cases e4:k=12
 · have b4:(k==12)=true:=by simpa using e4
   rw[if_pos e4]
   clear e1 e2 e3 e4
   go_enter Tryz.func59,Tryz.ntmps59
   go_wp2_with fail
   go_ret
   exact⟨rfl,rfl⟩
 rw[if_neg e4]
 have b4:(k==12)=false:=by simpa using e4
 by_cases e5:k=13
 · have b5:(k==13)=true:=by simpa using e5
   rw[if_pos e5]
   clear e1 e2 e3 e4 e5
   go_enter Tryz.func59,Tryz.ntmps59
   go_wp2_with fail
   go_ret
   exact⟨rfl,rfl⟩
 rw[if_neg e5]
 have b5:(k==13)=false:=by simpa using e5
 by_cases e6:k=16
 · have b6:(k==16)=true:=by simpa using e6
   rw[if_pos e6]
   clear e1 e2 e3 e4 e5 e6
   go_enter Tryz.func59,Tryz.ntmps59
   go_wp2_with fail
   go_ret
   exact⟨rfl,rfl⟩
 rw[if_neg e6]
 have b6:(k==16)=false:=by simpa using e6
 clear e1 e2 e3 e4 e5 e6
 go_enter Tryz.func59,Tryz.ntmps59
 go_wp2_with fail
 go_ret
 exact⟨rfl,rfl⟩
section
variable {w:World} {O:Tg} {r blocks:Nat} {T:List TnP} {av:Value} {bs:List (Nat×TnP)}
theorem RfM.row_at (h:RfM w O r blocks T av bs):∃A c,av = .slice A bs.length c∧∀(i:Nat) (x:Nat×TnP),bs[i]? = some x→∃g,A=some ⟨g,0,none⟩∧w.cell? ⟨g,i,none⟩=some (.pointer (some ⟨x.1,0,none⟩))∧w.cell? ⟨x.1,0,none⟩=some (.int .u32 (x.2.n:Int))∧w.cell? ⟨x.1,2,none⟩=some (.int .i64 (x.2.q:Int)):=by
 obtain⟨A,c,rfl⟩:=row_shape h.row
 refine⟨A,c,rfl,fun i x hx=>?_⟩
 have hi:=(List.getElem?_eq_some_iff.1 hx).1
 obtain⟨g,rfl,hc⟩:=row_cells h.row (by omega)
 obtain⟨mv,l,cc,cv,sv,ht⟩:=h.all x (List.mem_of_getElem? hx)
 exact⟨g,rfl,hc i _ (by simp[hx,ptrV]),ht.box.cell (k:=0) rfl,ht.box.cell (k:=2) rfl⟩
theorem fnd_atR {n:Nat} {x:Nat×TnP}:∀{bs:List (Nat×TnP)} {i:Nat},(∀(j:Nat) (y:Nat×TnP),j<i→bs[j]? = some y→y.2.n≠n)→bs[i]? = some x→x.2.n=n→fnd bs n=some x
 | [],i,_,h,_=>by simp at h
 | y::r,0,_,h,e=>by
   simp only[List.getElem?_cons_zero,Option.some.injEq] at h
   subst h
   unfold fnd
   rw[List.find?_cons_of_pos (by simpa using e)]
 | y::r,i+1,hj,h,e=>by
   have h0:=hj 0 y (Nat.succ_pos _) rfl
   unfold fnd
   rw[List.find?_cons_of_neg (by simpa using h0)]
   exact fnd_atR (i:=i) (fun j z hji hz=>hj (j+1) z (by omega) (by simpa using hz)) (by simpa using h) e
theorem fnd_noR {n:Nat} {bs:List (Nat×TnP)} (h:∀(j:Nat) (y:Nat×TnP),bs[j]? = some y→y.2.n≠n):fnd bs n=none:=by
 unfold fnd
 rw[List.find?_eq_none]
 intro x hx
 obtain⟨j,hj⟩:=List.getElem?_of_mem hx
 simpa using h j x hj
set_option maxRecDepth 100000 in
theorem rfind_any (n:Nat) (h:RfM w O r blocks T av bs) (hl:bs.length≤100000):
 Calls Tryz.prog 34 #[.pointer (some ⟨r,0,none⟩),.int .u32 (n:Int)] w fun e w'=>e = .returned (.pointer ((fnd bs n).map fun x=>⟨x.1,0,none⟩))∧w=w':=by
 obtain⟨A,c,rfl,hc⟩:=h.row_at
 obtain⟨m,hm⟩:∃m,bs.length=m:=⟨_,rfl⟩
 have c1:w.cell? ⟨r,1,none⟩=some (.slice A m c):=by rw[←hm];exact h.box.cell (k:=1) rfl
 have HC:=zz hc
 have HM:=zz hm
 have m0:(m:Int)≤100000:=by omega
 clear h hc hl hm
 go_enter Tryz.func34,Tryz.ntmps34
 go_wp2_with fail
 go_loopw [5] (fun z wr=>∃i:Nat,i≤m∧z = .int .i64 (i:Int)∧(∀(j:Nat) (y:Nat×TnP),j<i→bs[j]? = some y→y.2.n≠n)∧wr=w) (fun z _=>m-(intOf z).toNat)
 case atStart=>exact⟨0,Nat.zero_le _,rfl,fun j y hj=>absurd hj (Nat.not_lt_zero j),rfl⟩
 case round=>
  obtain⟨i,hi,rfl,hall,hwr⟩:=hrel
  subst hwr
  have AL:=zz hall
  by_cases hlt:i<m
  · obtain⟨x,hx⟩:∃x,bs[i]? = some x:=⟨_,List.getElem?_eq_getElem (by rw[HM.out];exact hlt)⟩
    obtain⟨g,rfl,a1,a2,_⟩:=HC.out i x hx
    have hlti:(i:Int)<(m:Int):=by omega
    have hi0:(0:Int)≤(i:Int):=by omega
    have KL:=zz hlt
    have HX:=zz hx
    by_cases hn:x.2.n=n
    · have t0:((x.2.n:Int)==(n:Int))=true:=by rw[hn];simp
      have FX:=zz (fnd_atR hall hx hn)
      clear hi hlt hall hx hn
      go_wp2_with fail
      go_ret
      exact⟨by rw[FX.out];rfl,rfl⟩
    · have t0:((x.2.n:Int)==(n:Int))=false:=by simp;omega
      have AN:Hid (∀(j:Nat) (y:Nat×TnP),j<i+1→bs[j]? = some y→y.2.n≠n):=zz fun j y hj hy=>by
       rcases Nat.lt_or_ge j i with h1 | h1
       · exact hall j y h1 hy
       · obtain rfl:j=i:=by omega
         rw[hx] at hy
         injection hy with hy
         rw[←hy]
         exact hn
      clear hi hlt hall hx hn
      go_wp2_with fail
      go_roundw
      case rel=>exact⟨i+1,KL.out,by go_num,AN.out,trivial⟩
      case measure=>simp[intOf];have:=KL.out;omega
  · obtain rfl:i=m:=by omega
    have FX:Hid (fnd bs n=none):=zz (fnd_noR fun j y hy=>hall j y (by have:=(List.getElem?_eq_some_iff.1 hy).1;rw[HM.out] at this;exact this) hy)
    clear hi hlt hall
    go_wp2_with fail
    go_ret
    exact⟨by rw[FX.out];rfl,rfl⟩
set_option maxRecDepth 100000 in
theorem rmap_none (n:Nat) (h:RfM w O r blocks T av bs) (hl:bs.length≤100000) (hf:fnd bs n=none):
 Calls Tryz.prog 18 #[.pointer (some ⟨r,0,none⟩),.int .u32 (n:Int)] w fun e w'=>e = .returned (.tuple #[.slice none 0 0,.int .i64 7])∧w=w':=by
 have HF:=zz (rfind_any n h hl)
 rw[hf] at HF
 clear h hf hl
 go_enter Tryz.func18,Tryz.ntmps18
 go_wp2_with fail
 refine HF.out.mono ?_
 rintro e w1 ⟨rfl,rfl⟩
 simp only[Option.map_none]
 go_wp2_with fail
 go_ret2
 exact⟨rfl,rfl⟩
set_option maxRecDepth 100000 in
theorem rmap_some (n:Nat) (h:RfM w O r blocks T av bs) (hl:bs.length≤100000) (x:Nat×TnP) (hf:fnd bs n=some x) {mv cv sv:Value} {l:Bk2} {c:Nat} (ht:RtM w O r x.1 x.2 mv l c cv sv):
 Calls Tryz.prog 18 #[.pointer (some ⟨r,0,none⟩),.int .u32 (n:Int)] w fun e w'=>e = .returned (.tuple #[mv,.int .i64 0])∧w=w':=by
 have HF:=zz (rfind_any n h hl)
 rw[hf] at HF
 have c3:w.cell? ⟨x.1,3,none⟩=some mv:=ht.box.cell (k:=3) rfl
 clear h hf hl ht
 go_enter Tryz.func18,Tryz.ntmps18
 go_wp2_with fail
 refine HF.out.mono ?_
 rintro e w1 ⟨rfl,rfl⟩
 simp only[Option.map_some]
 go_wp2_with fail
 go_ret2
 exact⟨rfl,rfl⟩
end
theorem row_ne2 {w:World} {B B' n s n' s':Nat} {e e':TypeId} {v u:Value} {xs ys:List Value} (h:w.ownsRow B e s v n xs) (h2:w.ownsRow B' e' s' u n' ys) (hT:e≠e'):∀g,u.ownBlock=some g→v.ownBlock≠some g:=fun g hg hv=>by
 rcases h.2 with ⟨rfl,_⟩ | ⟨g1,cap,cur,rfl,_,h3,_⟩
 · cases hv
 · rcases h2.2 with ⟨rfl,_⟩ | ⟨g2,cap2,cur2,rfl,_,h4,_⟩
   · cases hg
   · simp only[Value.ownBlock,Option.some.injEq] at hg hv
     subst hg
     subst hv
     rw[h3] at h4
     injection h4 with h4
     injection h4 with _ h4
     exact hT h4
theorem row_open {w:World} {B n s:Nat} {e:TypeId} {v:Value} {xs:List Value} (h:w.ownsRow B e s v n xs):(v = .slice none 0 0∧n=0∧xs=[])∨∃g cap,v = .slice (some ⟨g,0,none⟩) n cap∧n≤cap∧cap≤maxLen∧g<w.heap.size∧∀j u,xs[j]? = some u→w.cell? ⟨g,j,none⟩=some u:=by
 rcases h.2 with ⟨rfl,h0⟩ | ⟨g,cap,cur,rfl,_,hg,h3,h4,h5,h6⟩
 · exact .inl ⟨rfl,h0,List.eq_nil_of_length_eq_zero (by rw[h.1,h0,Nat.zero_mul])⟩
 · refine .inr ⟨g,cap,rfl,h3,h4,lt_of_block hg,fun j u hj=>?_⟩
   have hjl:j<n*s:=by have:=(List.getElem?_eq_some_iff.1 hj).1;rw[h.1] at this;exact this
   have h7:(cur.toList.take (n*s))[j]? = some u:=by rw[h6];exact hj
   rw[List.getElem?_take_of_lt hjl] at h7
   rw[cell_of_row w g j _ _ (0,0) hg]
   simpa using h7
def dropG (A:Option Addr) (c m sz:Nat):Option Addr:=if c=m then A else A.map (·.add (m*sz))
theorem pair_elem:Tryz.prog.underlying 41=some (.slice (Tryz.prog.elem 41)):=by kernel_rfl
theorem pair_size (W:World):(sizeOf (Tryz.prog.elem 41)).run Tryz.prog W = .ok 2 W:=by
 have h:(Tryz.prog.info? (Tryz.prog.elem 41)).map (·.size)=some 2:=by kernel_rfl
 cases hq:Tryz.prog.info? (Tryz.prog.elem 41) with
 | none=>rw[hq] at h;cases h
 | some i=>rw[hq] at h;simp only[Option.map_some,Option.some.injEq] at h;simp[sizeOf,typeInfo,hq,h]
theorem ten_elem:Tryz.prog.underlying 62=some (.slice (Tryz.prog.elem 62)):=by kernel_rfl
theorem ten_size (W:World):(sizeOf (Tryz.prog.elem 62)).run Tryz.prog W = .ok 1 W:=by
 have h:(Tryz.prog.info? (Tryz.prog.elem 62)).map (·.size)=some 1:=by kernel_rfl
 cases hq:Tryz.prog.info? (Tryz.prog.elem 62) with
 | none=>rw[hq] at h;cases h
 | some i=>rw[hq] at h;simp only[Option.map_some,Option.some.injEq] at h;simp[sizeOf,typeInfo,hq,h]
theorem sl_fromG {T:TypeId} {sz:Nat} (he:Tryz.prog.underlying T=some (.slice (Tryz.prog.elem T))) (hs:∀W,(sizeOf (Tryz.prog.elem T)).run Tryz.prog W = .ok sz W) (W:World) (A:Option Addr) (n c m:Nat) (hm:m≤n):(Instr.sliceAt T (.slice A n c) (some (.int .i64 (m:Int))) none none).run Tryz.prog W = .ok (.slice (dropG A c m sz) (n-m) (c-m)) W:=by
 rw[run_sliceAt_slice W _ _ _ _ _ he,run_slice_l W _ _ _ _ he .i64 (m:Int) (by omega) (by omega),hs]
 simp only[Result.andThen_ok,sliced,Int.toNat_natCast]
 unfold dropG
 rfl
theorem sl_uptoG {T:TypeId} {sz:Nat} (he:Tryz.prog.underlying T=some (.slice (Tryz.prog.elem T))) (hs:∀W,(sizeOf (Tryz.prog.elem T)).run Tryz.prog W = .ok sz W) (W:World) (A:Option Addr) (n c m:Nat) (hm:m≤c):(Instr.sliceAt T (.slice A n c) none (some (.int .i64 (m:Int))) none).run Tryz.prog W = .ok (.slice A m c) W:=by
 rw[run_sliceAt_slice W _ _ _ _ _ he,run_slice_h W _ _ _ _ he .i64 (m:Int) (by omega) (by omega),hs]
 simp only[Result.andThen_ok,sliced,Nat.zero_mul,Int.toNat_natCast,Nat.sub_zero,add_zero',ite_self]
section
variable {w:World} {B n s:Nat} {e:TypeId} {A:Option Addr} {m c:Nat} {xs:List Value}
theorem row_upto (h:w.ownsRow B e s (.slice A m c) n xs) {i:Nat} (hi:i≤n):m=n∧i≤c∧(A=none→i=0∧c=0)∧(xs.take (i*s)).length=i*s∧∀y,A=some y→∀j u,(xs.take (i*s))[j]? = some u→w.cell? (y.add j)=some u:=by
 have hx:=h.1
 rcases row_open h with ⟨e1,h0,rfl⟩ | ⟨g,cap,e1,h1,h2,h3,h4⟩
 · simp only[Value.slice.injEq] at e1
   obtain⟨rfl,rfl,rfl⟩:=e1
   subst h0
   obtain rfl:i=0:=by omega
   exact⟨rfl,Nat.le_refl _,fun _=>⟨rfl,rfl⟩,by simp,fun y hy=>by cases hy⟩
 · simp only[Value.slice.injEq] at e1
   obtain⟨rfl,rfl,rfl⟩:=e1
   refine⟨rfl,Nat.le_trans hi h1,fun hn=>(by cases hn),?_,fun y hy j u hj=>?_⟩
   · rw[List.length_take,hx]
     exact Nat.min_eq_left (Nat.mul_le_mul_right s hi)
   · injection hy with hy
     subst hy
     rw[Addr.add_mid,Nat.zero_add]
     refine h4 j u ?_
     have hj2:=(List.getElem?_eq_some_iff.1 hj).1
     rw[List.length_take] at hj2
     rw[←hj,List.getElem?_take_of_lt (by omega)]
theorem row_from (h:w.ownsRow B e s (.slice A m c) n xs) {i:Nat} (hi:i≤n):m=n∧i≤c∧(dropG A c i s=none→n-i=0∧c-i=0)∧(xs.drop (i*s)).length=(n-i)*s∧∀y,dropG A c i s=some y→∀j u,(xs.drop (i*s))[j]? = some u→w.cell? (y.add j)=some u:=by
 have hx:=h.1
 have hl:(xs.drop (i*s)).length=(n-i)*s:=by rw[List.length_drop,hx,Nat.sub_mul]
 rcases row_open h with ⟨e1,h0,rfl⟩ | ⟨g,cap,e1,h1,h2,h3,h4⟩
 · simp only[Value.slice.injEq] at e1
   obtain⟨rfl,rfl,rfl⟩:=e1
   subst h0
   obtain rfl:i=0:=by omega
   exact⟨rfl,Nat.le_refl _,fun _=>⟨rfl,rfl⟩,by simp,fun y hy j u hj=>by simp at hj⟩
 · simp only[Value.slice.injEq] at e1
   obtain⟨rfl,em,rfl⟩:=e1
   refine⟨em,Nat.le_trans hi h1,fun hn=>?_,hl,fun y hy j u hj=>?_⟩
   · unfold dropG at hn
     split at hn
     · cases hn
     · cases hn
   · unfold dropG at hy
     split at hy
     · next hc=>
       have:=(List.getElem?_eq_some_iff.1 hj).1
       rw[hl,show n-i=0 by omega,Nat.zero_mul] at this
       omega
     · simp only[Option.map_some,Option.some.injEq] at hy
       subst hy
       rw[Addr.add_mid,Nat.zero_add,Addr.add_mid]
       refine h4 _ u ?_
       rw[←hj,List.getElem?_drop]
end
section
variable {w w':World} {O:Tg} {C:Nat} {v v':Value} {l m:Bk2}
theorem RyB.gr {z:Value} {u:List Nat} {n:Nat} {xs:List Value} (h:RyB w O z u) (hr:w.ownsRow C 87 2 v n xs) (hg:w.grownBy w' v.ownBlock):RyB w' O z u:=
 ⟨h.own.fr (Fr.grown hg) fun g h1 e=>row_ne2 h.own.own hr (by decide) g e h1,h.tag,h.le⟩
theorem flat_len (vs:List (Value×Value)):(vs.flatMap fun p=>[p.1,p.2]).length=vs.length*2:=by
 induction vs with
 | nil=>rfl
 | cons p r ih=>rw[List.flatMap_cons,List.length_append,ih];simp;omega
theorem flat_take:∀(vs:List (Value×Value)) (i:Nat),(vs.flatMap fun p=>[p.1,p.2]).take (i*2)=(vs.take i).flatMap fun p=>[p.1,p.2]
 | [],i=>by simp
 | p::r,0=>by simp
 | p::r,i+1=>by
   rw[List.flatMap_cons,List.take_succ_cons,List.flatMap_cons,←flat_take r i,show (i+1)*2=i*2+1+1 by omega]
   rfl
theorem flat_drop:∀(vs:List (Value×Value)) (i:Nat),(vs.flatMap fun p=>[p.1,p.2]).drop (i*2)=(vs.drop i).flatMap fun p=>[p.1,p.2]
 | [],i=>by simp
 | p::r,0=>by simp
 | p::r,i+1=>by
   rw[List.flatMap_cons,List.drop_succ_cons,←flat_drop r i,show (i+1)*2=i*2+1+1 by omega]
   rfl
theorem flat_one (vs:List (Value×Value)) (h:∀p∈vs,p.1.oneCell'=true∧p.2.oneCell'=true):∀u∈(vs.flatMap fun p=>[p.1,p.2]),u.oneCell'=true:=by
 intro u hu
 obtain⟨p,hp,hu⟩:=List.mem_flatMap.1 hu
 simp only[List.mem_cons,List.not_mem_nil,or_false] at hu
 rcases hu with rfl | rfl
 · exact (h p hp).1
 · exact (h p hp).2
def PrV (w:World) (O:Tg) (vs:List (Value×Value)) (l:Bk2):Prop:=vs.length=l.length∧∀(i:Nat) (p:Value×Value) (q:Ky×List Nat),vs[i]? = some p→l[i]? = some q→(∃k,RyB w O p.1 k∧k8 k=q.1)∧RyB w O p.2 q.2
theorem RyB.one {z:Value} {u:List Nat} (h:RyB w O z u):z.oneCell'=true:=by
 obtain⟨A,c,rfl,_⟩:=h.sl
 rfl
theorem PrV.one {vs:List (Value×Value)} (h:PrV w O vs l):∀u∈(vs.flatMap fun p=>[p.1,p.2]),u.oneCell'=true:=by
 refine flat_one vs fun p hp=>?_
 obtain⟨i,hi⟩:=List.getElem?_of_mem hp
 obtain⟨q,hq⟩:∃q,l[i]? = some q:=⟨_,List.getElem?_eq_getElem (by have:=(List.getElem?_eq_some_iff.1 hi).1;rw[h.1] at this;exact this)⟩
 obtain⟨⟨k,k1,_⟩,k2⟩:=h.2 i p q hi hq
 exact⟨k1.one,k2.one⟩
theorem PrV.take {vs:List (Value×Value)} (h:PrV w O vs l) (i:Nat):PrV w O (vs.take i) (l.take i):=by
 refine⟨by simp[h.1],fun j p q hp hq=>?_⟩
 have hj:=(List.getElem?_eq_some_iff.1 hp).1
 rw[List.length_take] at hj
 rw[List.getElem?_take_of_lt (by omega)] at hp hq
 exact h.2 j p q hp hq
theorem PrV.drop {vs:List (Value×Value)} (h:PrV w O vs l) (i:Nat):PrV w O (vs.drop i) (l.drop i):=by
 refine⟨by simp[h.1],fun j p q hp hq=>?_⟩
 rw[List.getElem?_drop] at hp hq
 exact h.2 _ p q hp hq
theorem PrO.app {vs us:List (Value×Value)} (hrow:w.ownsRow C 87 2 v l.length (vs.flatMap fun p=>[p.1,p.2])) (hv:PrV w O vs l) (hu:PrV w O us m) (hg:w.grownBy w' v.ownBlock)
 (h2:w'.ownsRow C 87 2 v' (l.length+m.length) ((vs.flatMap fun p=>[p.1,p.2])++us.flatMap fun p=>[p.1,p.2])):PrO w' C O v' (l++m):=by
 refine⟨vs++us,?_,by rw[List.length_append,List.length_append,hv.1,hu.1],fun i p q hp hq=>?_⟩
 · rw[List.length_append,List.flatMap_append]
   exact h2
 · rcases Nat.lt_or_ge i vs.length with h | h
   · rw[List.getElem?_append_left h] at hp
     rw[List.getElem?_append_left (by rw[←hv.1];exact h)] at hq
     obtain⟨⟨k,k1,k2⟩,k3⟩:=hv.2 i p q hp hq
     exact⟨⟨k,k1.gr hrow hg,k2⟩,k3.gr hrow hg⟩
   · rw[List.getElem?_append_right h] at hp
     rw[List.getElem?_append_right (by rw[←hv.1];exact h),←hv.1] at hq
     obtain⟨⟨k,k1,k2⟩,k3⟩:=hu.2 _ p q hp hq
     exact⟨⟨k,k1.gr hrow hg,k2⟩,k3.gr hrow hg⟩
theorem PrO.at {A:Option Addr} {n c i:Nat} {q:Ky×List Nat} (h:PrO w C O (.slice A n c) l) (hi:l[i]? = some q):∃g kA kn kc vA vn vc kl,A=some ⟨g,0,none⟩∧w.cell? ⟨g,i*2,none⟩=some (.slice kA kn kc)∧w.cell? ⟨g,i*2+1,none⟩=some (.slice vA vn vc)∧RyB w O (.slice kA kn kc) kl∧k8 kl=q.1∧RyB w O (.slice vA vn vc) q.2:=by
 obtain⟨vs,h1,h3,h4⟩:=h
 have hil:=(List.getElem?_eq_some_iff.1 hi).1
 obtain⟨g,hA,hc⟩:=row_cells h1 (by omega)
 obtain⟨p,hp⟩:∃p,vs[i]? = some p:=⟨_,List.getElem?_eq_getElem (by omega)⟩
 obtain⟨⟨kl,k1,k2⟩,k3⟩:=h4 i p q hp hi
 obtain⟨f1,f2⟩:=flat_at vs i p hp
 obtain⟨kA,kc,e1,_⟩:=k1.sl
 obtain⟨vA,vc,e2,_⟩:=k3.sl
 exact⟨g,kA,_,kc,vA,_,vc,kl,hA,by rw[←e1];exact hc _ _ f1,by rw[←e2];exact hc _ _ f2,by rw[←e1];exact k1,k2,by rw[←e2];exact k3⟩
theorem PrO.ab (h:PrO w C O v l) (hb:Below w.heap.size w w'):PrO w' C O v l:=by
 obtain⟨vs,h1,h2,h3⟩:=h
 have st:Stp (fun _=>False) w O w' O:=Stp.of hb _ fun _ _=>rfl
 refine⟨vs,row_fr h1 (Fr.of hb (fun _=>False)) (fun _ _ e=>e),h2,fun i p q hp hq=>?_⟩
 obtain⟨⟨k,k1,k2⟩,k3⟩:=h3 i p q hp hq
 exact⟨⟨k,k1.stp st,k2⟩,k3.stp st⟩
theorem RyB.ab {z:Value} {u:List Nat} (h:RyB w O z u) (hb:Below w.heap.size w w'):RyB w' O z u:=h.stp (Stp.of hb (fun _=>False) fun _ _=>rfl)
theorem PrO.len {A:Option Addr} {n c:Nat} (h:PrO w C O (.slice A n c) l):n=l.length:=by
 obtain⟨A',c',e⟩:=h.sl
 simp only[Value.slice.injEq] at e
 exact e.2.1
end
theorem less_str (a b:List Nat):Op.bytesLess (strOf a).toList (strOf b).toList=decide (k8 a<k8 b):=by rw[strOf_toListK,strOf_toListK,bytesLess_eq]
theorem eq_str (a b:List Nat):((strOf a).toList==(strOf b).toList)=decide (k8 a=k8 b):=by
 rw[strOf_toListK,strOf_toListK]
 by_cases h:k8 a=k8 b
 · rw[decide_eq_true h,beq_iff_eq];exact h
 · rw[decide_eq_false h,beq_eq_false_iff_ne];exact h
section
variable {w:World} {O:Tg} {C:Nat} {A kA:Option Addr} {n c kn kc:Nat} {l:Bk2} {key:List Nat}
set_option maxRecDepth 100000 in
theorem rplace_any (h:PrO w C O (.slice A n c) l) (hn:n≤100000) (ik:IsB w kA kn kc key):
 Calls Tryz.prog 118 #[.slice A n c,.slice kA kn kc] w fun e w'=>e = .returned (.int .i64 (plcL l (k8 key):Int))∧Below w.heap.size w w':=by
 have H:=zz h
 have HL:=zz h.len
 have IK:=zz ik
 have n0:(n:Int)≤100000:=by omega
 clear h hn ik
 go_enter Tryz.func118,Tryz.ntmps118
 go_wp2_with fail
 go_loopw [5] (fun z wr=>∃i:Nat,i≤plcL l (k8 key)∧z = .int .i64 (i:Int)∧∃q,wr=w.drewN q) (fun z _=>n-(intOf z).toNat)
 case atStart=>exact⟨0,Nat.zero_le _,rfl,0,rfl⟩
 case round=>
  obtain⟨i,hi,rfl,q0,rfl⟩:=hrel
  have hile:i≤n:=by have:=plcL_le l (k8 key);have:=HL.out;omega
  by_cases hlt:i<n
  · obtain⟨q,hq⟩:∃q,l[i]? = some q:=⟨_,List.getElem?_eq_getElem (by rw[←HL.out];exact hlt)⟩
    obtain⟨g,aA,an,ac,vA,vn,vc,kl,rfl,a1,a2,a3,a4,a5⟩:=H.out.at hq
    have s1:=fun r=>run_str (a3.isB.drewN r) 32 5 9 Tryz.underlying32 Tryz.underlying5 Tryz.underlying9
    have s2:=fun r=>run_str (IK.out.drewN r) 32 5 9 Tryz.underlying32 Tryz.underlying5 Tryz.underlying9
    have e1:=less_str kl key
    rw[a4] at e1
    have hlti:(i:Int)<(n:Int):=by omega
    have hi0:(0:Int)≤(i:Int):=by omega
    have KL:=zz hlt
    obtain⟨st1,st2⟩:=plcL_step (k:=k8 key) hi hq
    by_cases hk:q.1<k8 key
    · rw[decide_eq_true hk] at e1
      have ST:=zz (st1 hk)
      clear a2 a3 a4 a5 hq hi hlt hile hk st1 st2
      go_wp2_with fail
      go_quiet (fail)
      go_wp2_with fail
      go_roundw
      case rel=>exact⟨i+1,ST.out,by go_num,_,rfl⟩
      case measure=>simp[intOf];have:=KL.out;omega
    · rw[decide_eq_false hk] at e1
      have ST:=zz (st2 hk)
      clear a2 a3 a4 a5 hq hi hlt hile hk st1 st2
      go_wp2_with fail
      go_quiet (fail)
      go_wp2_with fail
      go_ret
      exact⟨by rw[ST.out];rfl,bel_drewN (bel_drewN (Below.refl _ _) _) _⟩
  · have ST:Hid (plcL l (k8 key)=i):=zz (by have:=plcL_le l (k8 key);have:=HL.out;omega)
    have d0:decide (i<n)=false:=decide_eq_false (by omega)
    clear hi hlt hile
    go_wp2_with fail
    go_quiet (fail)
    go_wp2_with fail
    go_ret
    exact⟨by rw[ST.out];rfl,bel_drewN (bel_drewN (Below.refl _ _) _) _⟩
def GetR (w:World) (O:Tg) (l:Bk2) (k:Ky) (e:Ending):Prop:=(getK k l=none∧e = .returned (.tuple #[.slice none 0 0,.int .i64 7]))∨∃A n c u,getK k l=some u∧RyB w O (.slice A n c) u∧e = .returned (.tuple #[.slice A n c,.int .i64 0])
set_option maxRecDepth 100000 in
theorem rget_any (h:PrO w C O (.slice A n c) l) (ha:AscB l) (hn:n≤100000) (ik:IsB w kA kn kc key):
 Calls Tryz.prog 95 #[.slice A n c,.slice kA kn kc] w fun e w'=>GetR w O l (k8 key) e∧Below w.heap.size w w':=by
 have HP:=zz (rplace_any h hn ik)
 have HL:=zz h.len
 have H:=zz h
 have IK:=zz ik
 have AT:=zz (at_plc (k8 key) ha)
 obtain⟨m,hm⟩:∃m,plcL l (k8 key)=m:=⟨_,rfl⟩
 have hle:=plcL_le l (k8 key)
 rw[hm] at HP AT hle
 have n0:(n:Int)≤100000:=by omega
 have n1:(m:Int)≤(n:Int):=by have:=HL.out;omega
 clear h ha hn ik hm
 go_enter Tryz.func95,Tryz.ntmps95
 go_wp2_with fail
 refine HP.out.mono ?_
 rintro e w1 ⟨rfl,hb⟩
 have BB:=zz hb
 clear HP
 by_cases hlt:m<n
 · obtain⟨q,hq⟩:∃q,l[m]? = some q:=⟨_,List.getElem?_eq_getElem (by rw[←HL.out];exact hlt)⟩
   obtain⟨g,aA,an,ac,vA,vn,vc,kl,rfl,z1,z2,a3,a4,a5⟩:=H.out.at hq
   have a1:=(World.cell?_of_block (hb.block g (cell_lt z1))).trans z1
   have a2:=(World.cell?_of_block (hb.block g (cell_lt z2))).trans z2
   have s1:=fun r=>run_str ((a3.isB.ab hb).drewN r) 32 5 9 Tryz.underlying32 Tryz.underlying5 Tryz.underlying9
   have s2:=fun r=>run_str ((IK.out.ab hb).drewN r) 32 5 9 Tryz.underlying32 Tryz.underlying5 Tryz.underlying9
   have e1:=eq_str kl key
   rw[a4] at e1
   have hlti:(m:Int)<(n:Int):=by omega
   have hi0:(0:Int)≤(m:Int):=by omega
   by_cases hk:q.1=k8 key
   · rw[decide_eq_true hk] at e1
     have GR:Hid (GetR w O l (k8 key) (.returned (.tuple #[.slice vA vn vc,.int .i64 0]))):=zz (by
      rcases AT.out with ⟨v,h1,h2⟩ | ⟨h1,_⟩
      · rw[hq] at h1
        injection h1 with h1
        rw[h1] at a5
        exact .inr ⟨_,_,_,_,h2,a5,rfl⟩
      · exact absurd hk (h1 q hq))
     clear z1 z2 a3 a4 a5 hq hlt hle hk hb
     go_wp2_with fail
     go_quiet (fail)
     go_wp2_with fail
     go_ret2
     exact⟨GR.out,bel_drewN BB.out _⟩
   · rw[decide_eq_false hk] at e1
     have GR:Hid (GetR w O l (k8 key) (.returned (.tuple #[.slice none 0 0,.int .i64 7]))):=zz (by
      rcases AT.out with ⟨v,h1,h2⟩ | ⟨_,h2⟩
      · rw[hq] at h1
        injection h1 with h1
        exact absurd (by rw[h1]) hk
      · exact .inl ⟨h2,rfl⟩)
     clear z1 z2 a2 a3 a4 a5 hq hlt hle hk hb
     go_wp2_with fail
     go_quiet (fail)
     go_wp2_with fail
     go_ret2
     exact⟨GR.out,bel_drewN BB.out _⟩
 · have d0:decide (m<n)=false:=decide_eq_false (by omega)
   have GR:Hid (GetR w O l (k8 key) (.returned (.tuple #[.slice none 0 0,.int .i64 7]))):=zz (by
    rcases AT.out with ⟨v,h1,h2⟩ | ⟨_,h2⟩
    · have:=(List.getElem?_eq_some_iff.1 h1).1
      have:=HL.out
      omega
    · exact .inl ⟨h2,rfl⟩)
   clear hlt hle hb
   go_wp2_with fail
   go_quiet (fail)
   go_wp2_with fail
   go_ret2
   exact⟨GR.out,bel_drewN BB.out _⟩
end
def EmO (B:Nat) (v:Value) (W:World):Prop:=∃g,v = .slice (some ⟨g,0,none⟩) 0 0∧OwB W B v []
theorem EmO.mono (B:Nat):Mono (EmO B):=fun v W W' ⟨g,h1,h2⟩ hb=>⟨g,h1,h2.ab hb⟩
theorem own_empty (W:World) (B:Nat) (hB:B≤W.heap.size):OwB (W.alloc (.cells #[] 5)) B (.slice (some ⟨W.heap.size,0,none⟩) 0 0) []:=
 ⟨World.ownsRow_lit W #[] 0 hB (Nat.zero_le _) (by simp),fun x hx=>by cases hx⟩
theorem yields_emO {o:Oper} {a:Act} {W:World} {B:Nat} (ho:o.op = .buildSlice 32 0 #[]) (hB:B≤W.heap.size):Yields Tryz.prog o a W false (EmO B):=by
 refine .inl ⟨.slice (some ⟨W.heap.size,0,none⟩) 0 0,W.alloc (.cells #[] 5),?_,⟨_,rfl,own_empty W B hB⟩,alB,fresh_no _ _ _⟩
 unfold execOp
 simp only[ho]
 go_simp
theorem yields_appE {o:Oper} {a:Act} {W:World} {B:Nat} (s x:Operand) (ho:o.op = .call { callee:=.builtin .append,args:=#[s,x],argTypes:=#[32,32] })
 (hs:EmO B (a.eval s) W) {A:Option Addr} {m d:Nat} {lx:List Nat} (hx:IsB W A m d lx) (he:a.eval x = .slice A m d) (hm:m≤100000) (hB:B≤W.heap.size):Yields Tryz.prog o a W false (OwR B lx):=by
 obtain⟨g,h1,h2⟩:=hs
 rw[h1] at h2
 have hl:=hx.len
 by_cases h0:m=0
 · subst h0
   obtain rfl:lx=[]:=List.eq_nil_of_length_eq_zero hl
   obtain⟨i0,hi0,hz0,hz1,hz2⟩:=info_parts infoU8
   refine .inl ⟨.slice (some ⟨g,0,none⟩) 0 0,W,?_,h2,Below.refl _ _,fresh_no _ _ _⟩
   have hrun:(Builtin.append_ #[32,32] o.type #[.slice (some ⟨g,0,none⟩) 0 0,.slice A 0 d]).run Tryz.prog W = .ok (.slice (some ⟨g,0,none⟩) 0 0) W:=by
    cases A <;> simp[Builtin.append_,run_underlying Tryz.underlying32,sizeOf,typeInfo,hi0,Builtin.lenOf,Builtin.firstCells,storeCells,loadCells,loadCellsFrom]
   unfold execOp
   simp only[ho,resolve,invoke,builtin,Sem.run_bind,Sem.run_pure,Result.andThen_ok,List.map_toArray,List.map_cons,List.map_nil,h1,he,hrun]
 · obtain⟨X,e,_⟩:=hx.cell (by omega)
   subst e
   refine yields_appG s x ho (isB_empty W ⟨g,0,none⟩) h1 hx he (by omega) (by omega) fun v' W' hv hb=>?_
   exact hv.lower hB
def PaR (B:Nat) (k u:List Nat) (v:Value) (W:World):Prop:=∃z y,v = .agg #[z,y]∧OwB W B z k∧OwB W B y u
theorem PaR.mono (B:Nat) (k u:List Nat):Mono (PaR B k u):=fun v W W' ⟨z,y,h1,h2,h3⟩ hb=>⟨z,y,h1,h2.ab hb,h3.ab hb⟩
def Pa1 (B:Nat) (k u:List Nat) (v:Value) (W:World):Prop:=∃G z y,v = .slice (some ⟨G,0,none⟩) 1 1∧CbB W G 87 #[z,y]∧OwB W B z k∧OwB W B y u
theorem Pa1.mono (B:Nat) (k u:List Nat):Mono (Pa1 B k u):=fun v W W' ⟨G,z,y,h1,h2,h3,h4⟩ hb=>⟨G,z,y,h1,h2.ab hb,h3.ab hb,h4.ab hb⟩
theorem OwB.ry {w:World} {O:Tg} {B:Nat} {v:Value} {l:List Nat} (h:OwB w B v l) (hO:∀k,B≤k→O k=none) (hl:l.length≤100000):RyB w O v l:=⟨h.lower (Nat.zero_le _),fun g hg=>hO g (h.lt g hg).1,hl⟩
theorem pair_empty (W:World) (C:Nat) (O:Tg) (hC:C≤W.heap.size):(W.alloc (.cells #[] 87)).ownsRow C 87 2 (.slice (some ⟨W.heap.size,0,none⟩) 0 0) 0 []:=World.ownsRow_lit W #[] 0 hC (Nat.zero_le _) (by simp)
section
variable {w w':World} {O:Tg} {C:Nat} {v:Value} {l:Bk2}
theorem PrO.empty (W:World) (C:Nat) (O:Tg) (hC:C≤W.heap.size):PrO (W.alloc (.cells #[] 87)) C O (.slice (some ⟨W.heap.size,0,none⟩) 0 0) []:=⟨[],pair_empty W C O hC,rfl,fun i p q hi=>(by simp at hi)⟩
theorem PrO.upto {A:Option Addr} {n c i:Nat} (h:PrO w C O (.slice A n c) l) (hi:i≤n):∃us,PrV w O us (l.take i)∧us.length=i∧(A=none→i=0∧c=0)∧i≤c∧∀y,A=some y→∀(j:Nat) (u:Value),(us.flatMap fun p=>[p.1,p.2])[j]? = some u→w.cell? (y.add j)=some u:=by
 have hn:=h.len
 obtain⟨vs,h1,h2,h3⟩:=h
 obtain⟨_,a2,a3,a4,a5⟩:=row_upto h1 (i:=i) (by omega)
 refine⟨vs.take i,PrV.take ⟨h2,h3⟩ i,by rw[List.length_take];omega,a3,a2,fun y hy j u hj=>a5 y hy j u (by rw[flat_take];exact hj)⟩
theorem PrO.from_ {A:Option Addr} {n c i:Nat} (h:PrO w C O (.slice A n c) l) (hi:i≤n):∃us,PrV w O us (l.drop i)∧us.length=n-i∧(dropG A c i 2=none→n-i=0∧c-i=0)∧∀y,dropG A c i 2=some y→∀(j:Nat) (u:Value),(us.flatMap fun p=>[p.1,p.2])[j]? = some u→w.cell? (y.add j)=some u:=by
 have hn:=h.len
 obtain⟨vs,h1,h2,h3⟩:=h
 rw[←hn] at h1
 obtain⟨_,a2,a3,a4,a5⟩:=row_from h1 (i:=i) hi
 refine⟨vs.drop i,PrV.drop ⟨h2,h3⟩ i,by rw[List.length_drop];omega,a3,fun y hy j u hj=>a5 y hy j u (by rw[flat_drop];exact hj)⟩
set_option maxRecDepth 100000 in
theorem wpList_appPr {rest:List Oper} {ops:Array Oper} {o:Oper} {a:Act} {Q:Exit→Act→World→Prop} (hgd:o.guard=none) (s x:Operand)
 (ho:o.op = .call { callee:=.builtin .append,args:=#[s,x],argTypes:=#[41,41] })
 (hown:PrO w C O v l) (hs:a.eval s=v) {A:Option Addr} {m c:Nat} (hx:a.eval x = .slice A m c) {us:List (Value×Value)} {k:Bk2} (hu:PrV w O us k) (hl:us.length=m)
 (hA:A=none→m=0∧c=0) (hc:∀y,A=some y→∀(j:Nat) (u:Value),(us.flatMap fun p=>[p.1,p.2])[j]? = some u→w.cell? (y.add j)=some u) (hb:l.length+m≤1000000) (hB:C≤w.heap.size)
 (h:∀v' w',PrO w' C O v' (l++k)→Below C w w'→wpList Tryz.prog ops Q rest (a.put o.dst v') w'):wpList Tryz.prog ops Q (o::rest) a w:=by
 obtain⟨vs,h1,h2,h3⟩:=hown
 refine wpList_appRow hgd s x ho Tryz.underlying41 infoPair rfl (by decide) h1 hs hx hA (by rw[flat_len,hl]) hc hu.one hb (by decide) hB fun v' w' r1 r2 _=>?_
 refine h v' w' (PrO.app h1 ⟨h2,h3⟩ hu r2 (by rw[←hu.1,hl];exact r1)) ((Below.refl C w).grown r2 hB (own_ge9 h1))
end
def WithR (w:World) (C:Nat) (O:Tg) (l:Bk2) (e:Ending) (w':World):Prop:=∃v,e = .returned v∧PrO w' C O v l∧Below w.heap.size w w'
section
variable {w:World} {O:Tg} {C:Nat} {A kA vA:Option Addr} {n c kn kc vn vc:Nat} {l:Bk2} {key val:List Nat}
set_option maxRecDepth 100000 in
theorem rwith_any (d:Bool) (h:PrO w C O (.slice A n c) l) (ha:AscB l) (hn:n≤100000) (ik:IsB w kA kn kc key) (iv:IsB w vA vn vc val) (hk:kn≤100000) (hv:vn≤100000) (hO:∀k,w.heap.size≤k→O k=none):
 Calls Tryz.prog 115 #[.slice A n c,.agg #[.slice kA kn kc,.slice vA vn vc,.bool d]] w (WithR w w.heap.size O (withL l (k8 key) val d)):=by
 have hAl:Below w.heap.size w (w.alloc (.cells #[.slice kA kn kc,.slice vA vn vc,.bool d] 61)):=alB
 have HA:=zz hAl
 have HP:=zz (rplace_any (h.ab hAl) hn (ik.ab hAl))
 have HL:=zz h.len
 have H:=zz h
 have IK:=zz ik
 have IV:=zz iv
 have HO:=zz hO
 have HK:=zz hk
 have HV:=zz hv
 have AT:=zz (at_plc (k8 key) ha)
 obtain⟨m,hm⟩:∃m,plcL l (k8 key)=m:=⟨_,rfl⟩
 have hle:=plcL_le l (k8 key)
 rw[hm] at HP AT hle
 have MM:=zz hm
 have MN:Hid (m≤n):=zz (by rw[HL.out];exact hle)
 have NN:=zz hn
 have n0:(n:Int)≤100000:=by omega
 have n1:(m:Int)≤(n:Int):=by have:=MN.out;omega
 have hmc:m≤c:=by obtain⟨us0,_,_,_,hmc,_⟩:=h.upto MN.out;exact hmc
 have hsu:=fun W=>sl_uptoG pair_elem pair_size W A n c m hmc
 clear ha hn ik iv hk hv hO hm hle h
 go_enter Tryz.func115,Tryz.ntmps115
 go_upto_region 1 with (fail)
 obtain⟨w0,hw0⟩:∃w0,w.alloc (.cells #[.slice kA kn kc,.slice vA vn vc,.bool d] 61)=w0:=⟨_,rfl⟩
 have hob:CbB w0 w.heap.size 61 #[.slice kA kn kc,.slice vA vn vc,.bool d]:=by rw[←hw0];exact CbB.new w _ _
 rw[hw0] at HP HA hAl⊢
 clear hw0
 have c0:=hob.cell (k:=0) rfl
 go_wp2_with fail
 refine HP.out.mono ?_
 rintro e w1 ⟨rfl,hb⟩
 have B1:=zz (below_tr hAl hb hAl.size)
 have OB1:=zz (hob.ab hb)
 have BX:Hid (Below w1.heap.size w1 (w1.alloc (.cells #[] 87))):=zz (alB)
 have BA:Hid (Below w.heap.size w (w1.alloc (.cells #[] 87))):=zz (B1.out.alloc B1.out.size _)
 have R0:Hid (PrO (w1.alloc (.cells #[] 87)) w1.heap.size O (.slice (some ⟨w1.heap.size,0,none⟩) 0 0) []):=zz (PrO.empty w1 w1.heap.size O (Nat.le_refl _))
 obtain⟨us,hu1,hu2,hu3,_,hu5⟩:=(H.out.ab BA.out).upto MN.out
 have U1:=zz hu1
 have U2:=zz hu2
 have U3:=zz hu3
 have U5:=zz hu5
 have LT1:=zz (hob.ab hb).lt
 clear HP hb hob c0 hAl hu1 hu2 hu3 hu5
 go_upto_region 3 with (first
  | (refine wpList_appPr rfl (.tmp 11) (.tmp 14) rfl R0.out rfl (A:=A) (m:=m) (c:=c) rfl U1.out U2.out U3.out U5.out (by have:=NN.out;have:=MN.out;simp;omega) BX.out.size ?_
     intro v6 w6 hp6 hb6
     have P6:Hid (PrO w6 w1.heap.size O v6 (l.take m)):=zz hp6
     have B6:=zz (BX.out.trans hb6)
     clear hp6 hb6
     obtain⟨A6,c6,hv6⟩:=P6.out.sl
     rw[show (l.take m).length=m by rw[List.length_take];have:=HL.out;have:=MN.out;omega] at hv6
     subst hv6))
 have OB6:=zz (OB1.out.low B6.out LT1.out)
 have O0:w6.cell? ⟨w.heap.size,0,none⟩=some (.slice kA kn kc):=OB6.out.cell (k:=0) rfl
 have O1:w6.cell? ⟨w.heap.size,1,none⟩=some (.slice vA vn vc):=OB6.out.cell (k:=1) rfl
 have O2:w6.cell? ⟨w.heap.size,2,none⟩=some (.bool d):=OB6.out.cell (k:=2) rfl
 clear U1 U2 U3 U5 R0 BA BX
 have LT:Hid ((l.take m).length=m):=zz (by rw[List.length_take];have:=HL.out;have:=MN.out;omega)
 have BW6:Hid (Below w.heap.size w w6):=zz (B1.out.trans (B6.out.mono B1.out.size))
 have IK6:=zz (IK.out.ab BW6.out)
 have IV6:=zz (IV.out.ab BW6.out)
 have HO6:Hid (∀k,w1.heap.size≤k→O k=none):=zz fun k hk=>HO.out k (Nat.le_trans B1.out.size hk)
 cases d
 · go_upto_region 4 with (fail)
   refine wp_wide3 [⟨19,IsR (.slice A6 m c6),[],false⟩,⟨20,EmO w6.heap.size,[],false⟩,⟨21,IsR (.pointer (some ⟨w.heap.size,0,none⟩)),[],false⟩,⟨22,IsR (.slice kA kn kc),[2],false⟩,⟨23,OwR w6.heap.size key,[1,3],false⟩,⟨24,EmO w6.heap.size,[],false⟩,⟨25,IsR (.pointer (some ⟨w.heap.size,1,none⟩)),[],false⟩,⟨26,IsR (.slice vA vn vc),[6],false⟩,⟨27,OwR w6.heap.size val,[5,7],false⟩,⟨28,PaR w6.heap.size key val,[4,8],false⟩,⟨29,Pa1 w6.heap.size key val,[9],false⟩] (by kernel_rfl) (by kernel_rfl) rfl rfl rfl ⟨?_,?_,?_,?_,?_,?_,?_,?_,?_,?_,?_,trivial⟩ ?_
   · refine okA rfl rfl fun a W hA hb hd=>?_
     have h6:a.tmps[6]?.getD undef = .slice A6 m c6:=gt' hA (by simp) rfl
     go_simp
   · refine⟨rfl,EmO.mono _,fun a W hA hb hd=>takes_plain rfl ?_⟩
     exact yields_emO rfl hb.size
   · refine okA rfl rfl fun a W hA hb hd=>?_
     have h3:a.tmps[3]?.getD undef = .pointer (some ⟨w.heap.size,0,none⟩):=gt' hA (by simp) rfl
     go_simp
   · refine okA rfl rfl fun a W hA hb hd=>?_
     have h21:a.tmps[21]?.getD undef = .pointer (some ⟨w.heap.size,0,none⟩):=gh (hd 2 (by simp) _ rfl)
     have hc:W.cell? ⟨w.heap.size,0,none⟩=some (.slice kA kn kc):=(OB6.out.ab hb).cell (k:=0) rfl
     go_simp
   · refine⟨rfl,OwR.mono _ _,fun a W hA hb hd=>takes_plain rfl ?_⟩
     exact yields_appE (.tmp 20) (.tmp 22) rfl (hd 1 (by simp) _ rfl) (IK6.out.ab hb) (hd 3 (by simp) _ rfl) HK.out hb.size
   · refine⟨rfl,EmO.mono _,fun a W hA hb hd=>takes_plain rfl ?_⟩
     exact yields_emO rfl hb.size
   · refine okA rfl rfl fun a W hA hb hd=>?_
     have h3:a.tmps[3]?.getD undef = .pointer (some ⟨w.heap.size,0,none⟩):=gt' hA (by simp) rfl
     go_simp
   · refine okA rfl rfl fun a W hA hb hd=>?_
     have h25:a.tmps[25]?.getD undef = .pointer (some ⟨w.heap.size,1,none⟩):=gh (hd 6 (by simp) _ rfl)
     have hc:W.cell? ⟨w.heap.size,1,none⟩=some (.slice vA vn vc):=(OB6.out.ab hb).cell (k:=1) rfl
     go_simp
   · refine⟨rfl,OwR.mono _ _,fun a W hA hb hd=>takes_plain rfl ?_⟩
     exact yields_appE (.tmp 24) (.tmp 26) rfl (hd 5 (by simp) _ rfl) (IV6.out.ab hb) (hd 7 (by simp) _ rfl) HV.out hb.size
   · refine⟨rfl,PaR.mono _ _ _,fun a W hA hb hd=>takes_plain rfl ?_⟩
     have h4:OwB W w6.heap.size (a.eval (.tmp 23)) key:=hd 4 (by simp) _ rfl
     have h8:OwB W w6.heap.size (a.eval (.tmp 27)) val:=hd 8 (by simp) _ rfl
     refine yields_value (.agg #[a.eval (.tmp 23),a.eval (.tmp 27)]) ?_ ⟨_,_,rfl,h4,h8⟩
     obtain⟨z4,c4,e4,_⟩:=h4.shape
     obtain⟨z8,c8,e8,_⟩:=h8.shape
     rw[e4,e8]
     have h23:a.tmps[23]?.getD undef = .slice z4 key.length c4:=(eval_get a 23).trans e4
     have h27:a.tmps[27]?.getD undef = .slice z8 val.length c8:=(eval_get a 27).trans e8
     go_simp
   · refine⟨rfl,Pa1.mono _ _ _,fun a W hA hb hd=>takes_plain rfl ?_⟩
     obtain⟨z,y,e9,hz,hy⟩:=hd 9 (by simp) _ rfl
     obtain⟨z4,c4,e4,_⟩:=hz.shape
     obtain⟨z8,c8,e8,_⟩:=hy.shape
     subst e4 e8
     have h28:a.tmps[28]?.getD undef = .agg #[.slice z4 key.length c4,.slice z8 val.length c8]:=(eval_get a 28).trans e9
     have hal:Below W.heap.size W (W.alloc (.cells #[.slice z4 key.length c4,.slice z8 val.length c8] 87)):=alB
     refine .inl ⟨.slice (some ⟨W.heap.size,0,none⟩) 1 1,W.alloc (.cells #[.slice z4 key.length c4,.slice z8 val.length c8] 87),?_,⟨_,_,_,rfl,CbB.new _ _ _,hz.ab hal,hy.ab hal⟩,hal,fresh_no _ _ _⟩
     go_simp
   intro vs w9 hR hF hb
   obtain⟨G,z,y,e29,hG,hz,hy⟩:Pa1 w6.heap.size key val (vs 29) w9:=hR 10 _ rfl
   have e19:vs 19 = .slice A6 m c6:=hR 0 _ rfl
   have e21:vs 21 = .pointer (some ⟨w.heap.size,0,none⟩):=hR 2 _ rfl
   have e22:vs 22 = .slice kA kn kc:=hR 3 _ rfl
   have e25:vs 25 = .pointer (some ⟨w.heap.size,1,none⟩):=hR 6 _ rfl
   have e26:vs 26 = .slice vA vn vc:=hR 7 _ rfl
   simp only[List.map_cons,List.map_nil,List.foldl_cons,List.foldl_nil,List.length_cons,List.length_nil,List.drop_succ_cons,List.drop_zero,Act.put,List.setIfInBounds_toArray,List.set_cons_zero,List.set_cons_succ,e19,e21,e22,e25,e26,e29]
   generalize vs 20=q20 at *
   generalize vs 23=q23 at *
   generalize vs 24=q24 at *
   generalize vs 27=q27 at *
   generalize vs 28=q28 at *
   have P9:=zz (P6.out.ab hb)
   have B9:=zz hb
   have NS:Hid (w1.heap.size≤w9.heap.size):=zz (Nat.le_trans B6.out.size hb.size)
   have US:Hid (PrV w9 O [(z,y)] [(k8 key,val)]):=zz ⟨rfl,fun i p q hp hq=>by
    have hi:i=0:=by have:=(List.getElem?_eq_some_iff.1 hp).1;simpa using this
    subst hi
    simp only[List.getElem?_cons_zero,Option.some.injEq] at hp hq
    subst hp
    subst hq
    have hO9:∀k,w6.heap.size≤k→O k=none:=fun k hk=>HO6.out k (Nat.le_trans B6.out.size hk)
    exact⟨⟨key,hz.ry hO9 (by have:=IK.out.len;have:=HK.out;omega),rfl⟩,hy.ry hO9 (by have:=IV.out.len;have:=HV.out;omega)⟩⟩
   have UC:Hid (∀x:Addr,(some ⟨G,0,none⟩:Option Addr)=some x→∀(j:Nat) (u:Value),([(z,y)].flatMap fun p=>[p.1,p.2])[j]? = some u→w9.cell? (x.add j)=some u):=zz fun x hx j u hj=>by
    injection hx with hx
    subst hx
    exact row_at (cs:=[z,y]) hG j u hj
   clear hR hF hb hG hz hy e19 e21 e22 e25 e26 e29
   refine wpList_appPr rfl (.tmp 19) (.tmp 29) rfl P9.out rfl (A:=some ⟨G,0,none⟩) (m:=1) (c:=1) rfl US.out rfl (fun e=>by cases e) UC.out (by rw[LT.out];have:=NN.out;have:=MN.out;omega) NS.out ?_
   intro v7 w7 hp7 hb7
   have P7:=zz hp7
   have B7:Hid (Below w1.heap.size w1 w7):=zz ((B6.out.trans (B9.out.mono B6.out.size)).trans hb7)
   clear hp7 hb7
   obtain⟨A7,c7,hv7⟩:=P7.out.sl
   rw[show (l.take m++[(k8 key,val)]).length=m+1 by rw[List.length_append,LT.out];rfl] at hv7
   subst hv7
   simp only[Act.put,List.setIfInBounds_toArray,List.set_cons_zero,List.set_cons_succ]
   go_upto_region 5 with (fail)
   have Bw7:Hid (Below w.heap.size w w7):=zz (B1.out.trans (B7.out.mono B1.out.size))
   have OB7:=zz (OB1.out.low B7.out LT1.out)
   have X0:w7.cell? ⟨w.heap.size,0,none⟩=some (.slice kA kn kc):=OB7.out.cell (k:=0) rfl
   have NX:Hid (w1.heap.size≤w7.heap.size):=zz B7.out.size
   have LXL:Hid (((l.take m++[(k8 key,val)])).length=m+1):=zz (by simp[LT.out])
   by_cases hlt:m<n
   · obtain ⟨q,hq⟩:∃q,l[m]? = some q:=⟨_,List.getElem?_eq_getElem (by rw[←HL.out];exact hlt)⟩
     obtain⟨g,aA,an,ac,uA,un,uc,kl,rfl,z1,z2,a3,a4,a5⟩:=H.out.at hq
     have a1:=(World.cell?_of_block (Bw7.out.block g (cell_lt z1))).trans z1
     have s1:=fun r=>run_str ((a3.isB.ab Bw7.out).drewN r) 32 5 9 Tryz.underlying32 Tryz.underlying5 Tryz.underlying9
     have s2:=fun r=>run_str ((IK.out.ab Bw7.out).drewN r) 32 5 9 Tryz.underlying32 Tryz.underlying5 Tryz.underlying9
     have e1:=eq_str kl key
     rw[a4] at e1
     have hlti:(m:Int)<(n:Int):=by omega
     have hi0:(0:Int)≤(m:Int):=by omega
     by_cases hk:q.1=k8 key
     · rw[decide_eq_true hk] at e1
       have GK:Hid ((getK (k8 key) l).isSome=true):=zz (by
        rcases AT.out with ⟨v,h1,h2⟩ | ⟨h1,_⟩
        · rw[h2];rfl
        · exact absurd hk (h1 q hq))
       have MN1:Hid (m+1≤n):=zz hlt
       have hsf:∀W,(Instr.sliceAt 41 (.slice (some ⟨g,0,none⟩) n c) (some (.int .i64 ((m:Int)+1))) none none).run Tryz.prog W = .ok (.slice (dropG (some ⟨g,0,none⟩) c (m+1) 2) (n-(m+1)) (c-(m+1))) W:=fun W=>sl_fromG pair_elem pair_size W (some ⟨g,0,none⟩) n c (m+1) hlt
       have ST:∀W,Below w7.heap.size w7 W→∃us,PrV W O us (l.drop (m+1))∧us.length=n-(m+1)∧(dropG (some ⟨g,0,none⟩) c (m+1) 2=none→n-(m+1)=0∧c-(m+1)=0)∧∀y,dropG (some ⟨g,0,none⟩) c (m+1) 2=some y→∀(j:Nat) (u:Value),(us.flatMap fun p=>[p.1,p.2])[j]? = some u→W.cell? (y.add j)=some u:=fun W hb=>(H.out.ab (below_tr Bw7.out hb Bw7.out.size)).from_ MN1.out
       have FIN:Hid ((l.take m++[(k8 key,val)])++l.drop (m+1)=withL l (k8 key) val false):=zz (by unfold withL;rw[MM.out,GK.out];simp)
       obtain⟨D,hD⟩:∃D,dropG (some ⟨g,0,none⟩) c (m+1) 2=D:=⟨_,rfl⟩
       obtain⟨nn,hnn⟩:∃nn,n-(m+1)=nn:=⟨_,rfl⟩
       obtain⟨cc,hcc⟩:∃cc,c-(m+1)=cc:=⟨_,rfl⟩
       rw[hD,hnn,hcc] at hsf
       simp only[hD,hnn,hcc] at ST
       have NNX:Hid (nn≤n):=zz (by omega)
       have SST:=zz ST
       clear  z1 z2 a3 a4 a5 hq hk hlt hD hnn hcc ST hsu hmc O0 O1 O2
       go_wp2_with fail
       go_quiet (fail)
       have hbq:Below w7.heap.size w7 (w7.drewN nq):=bel_drewN (Below.refl _ _) nq
       have PQ:=zz (P7.out.ab hbq)
       have BQ:Hid (Below w1.heap.size w1 (w7.drewN nq)):=zz (B7.out.trans (hbq.mono NX.out))
       obtain⟨us,hu1,hu2,hu3,hu4⟩:=SST.out _ hbq
       have U1:=zz hu1
       have U2:=zz hu2
       have U3:=zz hu3
       have U4:=zz hu4
       clear hbq hu1 hu2 hu3 hu4 X0
       go_wp2_with (first
        | (refine wpList_appPr rfl (.tmp 49) (.tmp 52) rfl PQ.out rfl (A:=D) (m:=nn) (c:=cc) rfl U1.out U2.out U3.out U4.out (by rw[LXL.out];have:=NNX.out;have:=NN.out;have:=MN.out;omega) BQ.out.size ?_
           intro v8 w8 hp8 hb8
           have P8:=zz hp8
           have B8:Hid (Below w1.heap.size w1 w8):=zz (BQ.out.trans hb8)
           clear hp8 hb8))
       go_ret
       rw[FIN.out] at P8
       exact⟨_,rfl,P8.out.low B1.out.size,B1.out.trans (B8.out.mono B1.out.size)⟩
     · rw[decide_eq_false hk] at e1
       have GK:Hid ((getK (k8 key) l).isSome=false):=zz (by
        rcases AT.out with ⟨v,h1,h2⟩ | ⟨_,h2⟩
        · rw[hq] at h1
          injection h1 with h1
          exact absurd (by rw[h1]) hk
        · rw[h2];rfl)
       have hsf:∀W,(Instr.sliceAt 41 (.slice (some ⟨g,0,none⟩) n c) (some (.int .i64 (m:Int))) none none).run Tryz.prog W = .ok (.slice (dropG (some ⟨g,0,none⟩) c m 2) (n-m) (c-m)) W:=fun W=>sl_fromG pair_elem pair_size W (some ⟨g,0,none⟩) n c m MN.out
       have ST:∀W,Below w7.heap.size w7 W→∃us,PrV W O us (l.drop m)∧us.length=n-m∧(dropG (some ⟨g,0,none⟩) c m 2=none→n-m=0∧c-m=0)∧∀y,dropG (some ⟨g,0,none⟩) c m 2=some y→∀(j:Nat) (u:Value),(us.flatMap fun p=>[p.1,p.2])[j]? = some u→W.cell? (y.add j)=some u:=fun W hb=>(H.out.ab (below_tr Bw7.out hb Bw7.out.size)).from_ MN.out
       have FIN:Hid ((l.take m++[(k8 key,val)])++l.drop m=withL l (k8 key) val false):=zz (by unfold withL;rw[MM.out,GK.out];simp)
       obtain⟨D,hD⟩:∃D,dropG (some ⟨g,0,none⟩) c m 2=D:=⟨_,rfl⟩
       obtain⟨nn,hnn⟩:∃nn,n-m=nn:=⟨_,rfl⟩
       obtain⟨cc,hcc⟩:∃cc,c-m=cc:=⟨_,rfl⟩
       rw[hD,hnn,hcc] at hsf
       simp only[hD,hnn,hcc] at ST
       have NNX:Hid (nn≤n):=zz (by omega)
       have SST:=zz ST
       clear  z1 z2 a3 a4 a5 hq hk hlt hD hnn hcc ST hsu hmc O0 O1 O2
       go_wp2_with fail
       go_quiet (fail)
       have hbq:Below w7.heap.size w7 (w7.drewN nq):=bel_drewN (Below.refl _ _) nq
       have PQ:=zz (P7.out.ab hbq)
       have BQ:Hid (Below w1.heap.size w1 (w7.drewN nq)):=zz (B7.out.trans (hbq.mono NX.out))
       obtain⟨us,hu1,hu2,hu3,hu4⟩:=SST.out _ hbq
       have U1:=zz hu1
       have U2:=zz hu2
       have U3:=zz hu3
       have U4:=zz hu4
       clear hbq hu1 hu2 hu3 hu4 X0
       go_wp2_with (first
        | (refine wpList_appPr rfl (.tmp 49) (.tmp 52) rfl PQ.out rfl (A:=D) (m:=nn) (c:=cc) rfl U1.out U2.out U3.out U4.out (by rw[LXL.out];have:=NNX.out;have:=NN.out;have:=MN.out;omega) BQ.out.size ?_
           intro v8 w8 hp8 hb8
           have P8:=zz hp8
           have B8:Hid (Below w1.heap.size w1 w8):=zz (BQ.out.trans hb8)
           clear hp8 hb8))
       go_ret
       rw[FIN.out] at P8
       exact⟨_,rfl,P8.out.low B1.out.size,B1.out.trans (B8.out.mono B1.out.size)⟩
   · have d0:decide (m<n)=false:=decide_eq_false hlt
     have GK:Hid ((getK (k8 key) l).isSome=false):=zz (by
      rcases AT.out with ⟨v,h1,h2⟩ | ⟨_,h2⟩
      · have:=(List.getElem?_eq_some_iff.1 h1).1
        have:=HL.out
        omega
      · rw[h2];rfl)
     have hsf:∀W,(Instr.sliceAt 41 (.slice A n c) (some (.int .i64 (m:Int))) none none).run Tryz.prog W = .ok (.slice (dropG A c m 2) (n-m) (c-m)) W:=fun W=>sl_fromG pair_elem pair_size W A n c m MN.out
     have ST:∀W,Below w7.heap.size w7 W→∃us,PrV W O us (l.drop m)∧us.length=n-m∧(dropG A c m 2=none→n-m=0∧c-m=0)∧∀y,dropG A c m 2=some y→∀(j:Nat) (u:Value),(us.flatMap fun p=>[p.1,p.2])[j]? = some u→W.cell? (y.add j)=some u:=fun W hb=>(H.out.ab (below_tr Bw7.out hb Bw7.out.size)).from_ MN.out
     have FIN:Hid ((l.take m++[(k8 key,val)])++l.drop m=withL l (k8 key) val false):=zz (by unfold withL;rw[MM.out,GK.out];simp)
     obtain⟨D,hD⟩:∃D,dropG A c m 2=D:=⟨_,rfl⟩
     obtain⟨nn,hnn⟩:∃nn,n-m=nn:=⟨_,rfl⟩
     obtain⟨cc,hcc⟩:∃cc,c-m=cc:=⟨_,rfl⟩
     rw[hD,hnn,hcc] at hsf
     simp only[hD,hnn,hcc] at ST
     have NNX:Hid (nn≤n):=zz (by omega)
     have SST:=zz ST
     clear  hlt hD hnn hcc ST hsu hmc O0 O1 O2
     go_wp2_with fail
     go_quiet (fail)
     have hbq:Below w7.heap.size w7 (w7.drewN nq):=bel_drewN (Below.refl _ _) nq
     have PQ:=zz (P7.out.ab hbq)
     have BQ:Hid (Below w1.heap.size w1 (w7.drewN nq)):=zz (B7.out.trans (hbq.mono NX.out))
     obtain⟨us,hu1,hu2,hu3,hu4⟩:=SST.out _ hbq
     have U1:=zz hu1
     have U2:=zz hu2
     have U3:=zz hu3
     have U4:=zz hu4
     clear hbq hu1 hu2 hu3 hu4 X0
     go_wp2_with (first
      | (refine wpList_appPr rfl (.tmp 49) (.tmp 52) rfl PQ.out rfl (A:=D) (m:=nn) (c:=cc) rfl U1.out U2.out U3.out U4.out (by rw[LXL.out];have:=NNX.out;have:=NN.out;have:=MN.out;omega) BQ.out.size ?_
         intro v8 w8 hp8 hb8
         have P8:=zz hp8
         have B8:Hid (Below w1.heap.size w1 w8):=zz (BQ.out.trans hb8)
         clear hp8 hb8))
     go_ret
     rw[FIN.out] at P8
     exact⟨_,rfl,P8.out.low B1.out.size,B1.out.trans (B8.out.mono B1.out.size)⟩
 · go_upto_region 5 with (fail)
   have Bw6:Hid (Below w.heap.size w w6):=zz (B1.out.trans (B6.out.mono B1.out.size))
   have OB6:=zz (OB1.out.low B6.out LT1.out)
   have X0:w6.cell? ⟨w.heap.size,0,none⟩=some (.slice kA kn kc):=OB6.out.cell (k:=0) rfl
   have NX:Hid (w1.heap.size≤w6.heap.size):=zz B6.out.size
   have LXL:Hid (((l.take m)).length=m):=zz (by simp[LT.out])
   by_cases hlt:m<n
   · obtain ⟨q,hq⟩:∃q,l[m]? = some q:=⟨_,List.getElem?_eq_getElem (by rw[←HL.out];exact hlt)⟩
     obtain⟨g,aA,an,ac,uA,un,uc,kl,rfl,z1,z2,a3,a4,a5⟩:=H.out.at hq
     have a1:=(World.cell?_of_block (Bw6.out.block g (cell_lt z1))).trans z1
     have s1:=fun r=>run_str ((a3.isB.ab Bw6.out).drewN r) 32 5 9 Tryz.underlying32 Tryz.underlying5 Tryz.underlying9
     have s2:=fun r=>run_str ((IK.out.ab Bw6.out).drewN r) 32 5 9 Tryz.underlying32 Tryz.underlying5 Tryz.underlying9
     have e1:=eq_str kl key
     rw[a4] at e1
     have hlti:(m:Int)<(n:Int):=by omega
     have hi0:(0:Int)≤(m:Int):=by omega
     by_cases hk:q.1=k8 key
     · rw[decide_eq_true hk] at e1
       have GK:Hid ((getK (k8 key) l).isSome=true):=zz (by
        rcases AT.out with ⟨v,h1,h2⟩ | ⟨h1,_⟩
        · rw[h2];rfl
        · exact absurd hk (h1 q hq))
       have MN1:Hid (m+1≤n):=zz hlt
       have hsf:∀W,(Instr.sliceAt 41 (.slice (some ⟨g,0,none⟩) n c) (some (.int .i64 ((m:Int)+1))) none none).run Tryz.prog W = .ok (.slice (dropG (some ⟨g,0,none⟩) c (m+1) 2) (n-(m+1)) (c-(m+1))) W:=fun W=>sl_fromG pair_elem pair_size W (some ⟨g,0,none⟩) n c (m+1) hlt
       have ST:∀W,Below w6.heap.size w6 W→∃us,PrV W O us (l.drop (m+1))∧us.length=n-(m+1)∧(dropG (some ⟨g,0,none⟩) c (m+1) 2=none→n-(m+1)=0∧c-(m+1)=0)∧∀y,dropG (some ⟨g,0,none⟩) c (m+1) 2=some y→∀(j:Nat) (u:Value),(us.flatMap fun p=>[p.1,p.2])[j]? = some u→W.cell? (y.add j)=some u:=fun W hb=>(H.out.ab (below_tr Bw6.out hb Bw6.out.size)).from_ MN1.out
       have FIN:Hid ((l.take m)++l.drop (m+1)=withL l (k8 key) val true):=zz (by unfold withL;rw[MM.out,GK.out];simp)
       obtain⟨D,hD⟩:∃D,dropG (some ⟨g,0,none⟩) c (m+1) 2=D:=⟨_,rfl⟩
       obtain⟨nn,hnn⟩:∃nn,n-(m+1)=nn:=⟨_,rfl⟩
       obtain⟨cc,hcc⟩:∃cc,c-(m+1)=cc:=⟨_,rfl⟩
       rw[hD,hnn,hcc] at hsf
       simp only[hD,hnn,hcc] at ST
       have NNX:Hid (nn≤n):=zz (by omega)
       have SST:=zz ST
       clear  z1 z2 a3 a4 a5 hq hk hlt hD hnn hcc ST hsu hmc O0 O1 O2
       go_wp2_with fail
       go_quiet (fail)
       have hbq:Below w6.heap.size w6 (w6.drewN nq):=bel_drewN (Below.refl _ _) nq
       have PQ:=zz (P6.out.ab hbq)
       have BQ:Hid (Below w1.heap.size w1 (w6.drewN nq)):=zz (B6.out.trans (hbq.mono NX.out))
       obtain⟨us,hu1,hu2,hu3,hu4⟩:=SST.out _ hbq
       have U1:=zz hu1
       have U2:=zz hu2
       have U3:=zz hu3
       have U4:=zz hu4
       clear hbq hu1 hu2 hu3 hu4 X0
       go_wp2_with (first
        | (refine wpList_appPr rfl (.tmp 49) (.tmp 52) rfl PQ.out rfl (A:=D) (m:=nn) (c:=cc) rfl U1.out U2.out U3.out U4.out (by rw[LXL.out];have:=NNX.out;have:=NN.out;have:=MN.out;omega) BQ.out.size ?_
           intro v8 w8 hp8 hb8
           have P8:=zz hp8
           have B8:Hid (Below w1.heap.size w1 w8):=zz (BQ.out.trans hb8)
           clear hp8 hb8))
       go_ret
       rw[FIN.out] at P8
       exact⟨_,rfl,P8.out.low B1.out.size,B1.out.trans (B8.out.mono B1.out.size)⟩
     · rw[decide_eq_false hk] at e1
       have GK:Hid ((getK (k8 key) l).isSome=false):=zz (by
        rcases AT.out with ⟨v,h1,h2⟩ | ⟨_,h2⟩
        · rw[hq] at h1
          injection h1 with h1
          exact absurd (by rw[h1]) hk
        · rw[h2];rfl)
       have hsf:∀W,(Instr.sliceAt 41 (.slice (some ⟨g,0,none⟩) n c) (some (.int .i64 (m:Int))) none none).run Tryz.prog W = .ok (.slice (dropG (some ⟨g,0,none⟩) c m 2) (n-m) (c-m)) W:=fun W=>sl_fromG pair_elem pair_size W (some ⟨g,0,none⟩) n c m MN.out
       have ST:∀W,Below w6.heap.size w6 W→∃us,PrV W O us (l.drop m)∧us.length=n-m∧(dropG (some ⟨g,0,none⟩) c m 2=none→n-m=0∧c-m=0)∧∀y,dropG (some ⟨g,0,none⟩) c m 2=some y→∀(j:Nat) (u:Value),(us.flatMap fun p=>[p.1,p.2])[j]? = some u→W.cell? (y.add j)=some u:=fun W hb=>(H.out.ab (below_tr Bw6.out hb Bw6.out.size)).from_ MN.out
       have FIN:Hid ((l.take m)++l.drop m=withL l (k8 key) val true):=zz (by unfold withL;rw[MM.out,GK.out];simp)
       obtain⟨D,hD⟩:∃D,dropG (some ⟨g,0,none⟩) c m 2=D:=⟨_,rfl⟩
       obtain⟨nn,hnn⟩:∃nn,n-m=nn:=⟨_,rfl⟩
       obtain⟨cc,hcc⟩:∃cc,c-m=cc:=⟨_,rfl⟩
       rw[hD,hnn,hcc] at hsf
       simp only[hD,hnn,hcc] at ST
       have NNX:Hid (nn≤n):=zz (by omega)
       have SST:=zz ST
       clear  z1 z2 a3 a4 a5 hq hk hlt hD hnn hcc ST hsu hmc O0 O1 O2
       go_wp2_with fail
       go_quiet (fail)
       have hbq:Below w6.heap.size w6 (w6.drewN nq):=bel_drewN (Below.refl _ _) nq
       have PQ:=zz (P6.out.ab hbq)
       have BQ:Hid (Below w1.heap.size w1 (w6.drewN nq)):=zz (B6.out.trans (hbq.mono NX.out))
       obtain⟨us,hu1,hu2,hu3,hu4⟩:=SST.out _ hbq
       have U1:=zz hu1
       have U2:=zz hu2
       have U3:=zz hu3
       have U4:=zz hu4
       clear hbq hu1 hu2 hu3 hu4 X0
       go_wp2_with (first
        | (refine wpList_appPr rfl (.tmp 49) (.tmp 52) rfl PQ.out rfl (A:=D) (m:=nn) (c:=cc) rfl U1.out U2.out U3.out U4.out (by rw[LXL.out];have:=NNX.out;have:=NN.out;have:=MN.out;omega) BQ.out.size ?_
           intro v8 w8 hp8 hb8
           have P8:=zz hp8
           have B8:Hid (Below w1.heap.size w1 w8):=zz (BQ.out.trans hb8)
           clear hp8 hb8))
       go_ret
       rw[FIN.out] at P8
       exact⟨_,rfl,P8.out.low B1.out.size,B1.out.trans (B8.out.mono B1.out.size)⟩
   · have d0:decide (m<n)=false:=decide_eq_false hlt
     have GK:Hid ((getK (k8 key) l).isSome=false):=zz (by
      rcases AT.out with ⟨v,h1,h2⟩ | ⟨_,h2⟩
      · have:=(List.getElem?_eq_some_iff.1 h1).1
        have:=HL.out
        omega
      · rw[h2];rfl)
     have hsf:∀W,(Instr.sliceAt 41 (.slice A n c) (some (.int .i64 (m:Int))) none none).run Tryz.prog W = .ok (.slice (dropG A c m 2) (n-m) (c-m)) W:=fun W=>sl_fromG pair_elem pair_size W A n c m MN.out
     have ST:∀W,Below w6.heap.size w6 W→∃us,PrV W O us (l.drop m)∧us.length=n-m∧(dropG A c m 2=none→n-m=0∧c-m=0)∧∀y,dropG A c m 2=some y→∀(j:Nat) (u:Value),(us.flatMap fun p=>[p.1,p.2])[j]? = some u→W.cell? (y.add j)=some u:=fun W hb=>(H.out.ab (below_tr Bw6.out hb Bw6.out.size)).from_ MN.out
     have FIN:Hid ((l.take m)++l.drop m=withL l (k8 key) val true):=zz (by unfold withL;rw[MM.out,GK.out];simp)
     obtain⟨D,hD⟩:∃D,dropG A c m 2=D:=⟨_,rfl⟩
     obtain⟨nn,hnn⟩:∃nn,n-m=nn:=⟨_,rfl⟩
     obtain⟨cc,hcc⟩:∃cc,c-m=cc:=⟨_,rfl⟩
     rw[hD,hnn,hcc] at hsf
     simp only[hD,hnn,hcc] at ST
     have NNX:Hid (nn≤n):=zz (by omega)
     have SST:=zz ST
     clear  hlt hD hnn hcc ST hsu hmc O0 O1 O2
     go_wp2_with fail
     go_quiet (fail)
     have hbq:Below w6.heap.size w6 (w6.drewN nq):=bel_drewN (Below.refl _ _) nq
     have PQ:=zz (P6.out.ab hbq)
     have BQ:Hid (Below w1.heap.size w1 (w6.drewN nq)):=zz (B6.out.trans (hbq.mono NX.out))
     obtain⟨us,hu1,hu2,hu3,hu4⟩:=SST.out _ hbq
     have U1:=zz hu1
     have U2:=zz hu2
     have U3:=zz hu3
     have U4:=zz hu4
     clear hbq hu1 hu2 hu3 hu4 X0
     go_wp2_with (first
      | (refine wpList_appPr rfl (.tmp 49) (.tmp 52) rfl PQ.out rfl (A:=D) (m:=nn) (c:=cc) rfl U1.out U2.out U3.out U4.out (by rw[LXL.out];have:=NNX.out;have:=NN.out;have:=MN.out;omega) BQ.out.size ?_
         intro v8 w8 hp8 hb8
         have P8:=zz hp8
         have B8:Hid (Below w1.heap.size w1 w8):=zz (BQ.out.trans hb8)
         clear hp8 hb8))
     go_ret
     rw[FIN.out] at P8
     exact⟨_,rfl,P8.out.low B1.out.size,B1.out.trans (B8.out.mono B1.out.size)⟩
end
end Go.Proofs.YtgdhinjhbjolgaaGreat
