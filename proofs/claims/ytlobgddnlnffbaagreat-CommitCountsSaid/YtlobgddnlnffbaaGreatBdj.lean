/-
  Parts of the proof, joined.
-/
import Derived.Test.YtlobgddnlnffbaaGreatBdi
import Derived.Maps.AppendAt
import Derived.Laws.OwnMore
import Derived.BigQuiet
import Derived.Test.YtlobgddnlnffbaaGreatBda
import Derived.Deep.Slices
import Derived.OpenShut
import Derived.Test.YtlobgddnlnffbaaGreatBdd
import Derived.ChangeSame
import Derived.ChangeSlices
namespace Go.Proofs.YtlobgddnlnffbaaGreat
set_option maxHeartbeats 4000000
open Go.RowKit
set_option linter.unusedVariables false
def keyCs:List ((Nat×Nat)×Value)→List Value
 | []=>[]
 | p::r=>[.int .u32 (p.1.1:Int),.int .u16 (p.1.2:Int),p.2]++keyCs r
theorem keyCs_snoc (vs:List ((Nat×Nat)×Value)) (p:(Nat×Nat)×Value):keyCs (vs++[p])=keyCs vs++[.int .u32 (p.1.1:Int),.int .u16 (p.1.2:Int),p.2]:=by
 induction vs with
 | nil=>rfl
 | cons q r ih=>rw[List.cons_append,keyCs,ih,keyCs,List.append_assoc]
theorem keyCs_at:∀(vs:List ((Nat×Nat)×Value)) (i:Nat) (p:(Nat×Nat)×Value),vs[i]? = some p→(keyCs vs)[i*3]? = some (.int .u32 (p.1.1:Int))∧(keyCs vs)[i*3+1]? = some (.int .u16 (p.1.2:Int))∧(keyCs vs)[i*3+2]? = some p.2
 | [],i,p,h=>by simp at h
 | q::vs,0,p,h=>by
   simp only[List.getElem?_cons_zero,Option.some.injEq] at h
   subst h
   exact⟨rfl,rfl,rfl⟩
 | q::vs,i+1,p,h=>by
   have:=keyCs_at vs i p (by simpa using h)
   rw[show (i+1)*3=i*3+1+1+1 by omega]
   exact this
theorem RgV.at {w:World} {B:Nat}:∀{vs:List ((Nat×Nat)×Value)} {l:RgL},RgV w B vs l→∀{i:Nat} {q:(Nat×Nat)×List Nat},l[i]? = some q→∃v,vs[i]? = some (q.1,v)∧OwB w B v q.2
 | [],[],_,i,q,hq=>by simp at hq
 | p::ps,q0::qs,h,0,q,hq=>by
   simp only[List.getElem?_cons_zero,Option.some.injEq] at hq
   subst hq
   exact⟨p.2,by rw[←h.1.1];rfl,h.1.2⟩
 | p::ps,q0::qs,h,i+1,q,hq=>by
   obtain⟨v,h1,h2⟩:=RgV.at h.2 (i:=i) (q:=q) (by simpa using hq)
   exact⟨v,by simpa using h1,h2⟩
 | [],_::_,h,_,_,_=>h.elim
 | _::_,[],h,_,_,_=>h.elim
structure RkB (w:World) (B g:Nat) (v:Value) (vs:List ((Nat×Nat)×Value)) (l:RgL):Prop where
 box:CbB w g 122 #[v]
 own:w.ownsRow B 199 3 v l.length (keyCs vs)
 vals:RgV w B vs l
 low:B≤w.heap.size
 ne:∀p∈l,KeyOk p.2
section
variable {w w':World} {B g:Nat} {v:Value} {vs:List ((Nat×Nat)×Value)} {l:RgL}
theorem RkB.ab (h:RkB w B g v vs l) (hb:Below w.heap.size w w'):RkB w' B g v vs l:=
 ⟨h.box.ab hb,h.own.kept (row:=none) (grown_of hb none) (by cases hv:v.ownBlock <;> simp),h.vals.ab hb,Nat.le_trans h.low hb.size,h.ne⟩
theorem RkB.form (h:RkB w B g v vs l) (hl:0<l.length):∃gb cap,v = .slice (some ⟨gb,0,none⟩) l.length cap∧B≤gb∧gb<w.heap.size∧l.length≤cap∧cap≤9223372036854775807∧∀(i:Nat) (q:(Nat×Nat)×List Nat),l[i]? = some q→∃u,w.cell? ⟨gb,i*3,none⟩=some (.int .u32 (q.1.1:Int))∧w.cell? ⟨gb,i*3+1,none⟩=some (.int .u16 (q.1.2:Int))∧w.cell? ⟨gb,i*3+2,none⟩=some u∧OwB w B u q.2:=by
 rcases h.own.2 with ⟨_,h0⟩ | ⟨gb,cap,cur,rfl,hg,hh,hnc,hcm,hcs,ht⟩
 · omega
 · refine⟨gb,cap,rfl,hg,?_,hnc,hcm,fun i q hq=>?_⟩
   · rcases Nat.lt_or_ge gb w.heap.size with h' | h'
     · exact h'
     · rw[Array.getElem?_eq_none h'] at hh;cases hh
   · obtain⟨u,hu,ho⟩:=h.vals.at hq
     obtain⟨k0,k1,k2⟩:=keyCs_at vs i _ hu
     have hcell:∀j x,(keyCs vs)[j]? = some x→w.cell? ⟨gb,j,none⟩=some x:=fun j x hx=>by
      have:=h.own.cells (g:=gb) rfl j x hx
      rwa [Addr.add_mid,Nat.zero_add] at this
     exact⟨u,hcell _ _ k0,hcell _ _ k1,hcell _ _ k2,ho⟩
end
theorem getR_none {x:Nat×Nat} {l:RgL}:getR x l=none↔∀p∈l,p.1≠x:=by
 unfold getR
 rw[Option.map_eq_none_iff,List.find?_eq_none]
 simp
theorem getR_idx {x:Nat×Nat}:∀{l:RgL} {k:List Nat},getR x l=some k→∃i,l[i]? = some (x,k)∧∀(j:Nat) (q:(Nat×Nat)×List Nat),j<i→l[j]? = some q→q.1≠x
 | [],k,h=>by cases h
 | p :: r,k,h=>by
   by_cases hx:p.1=x
   · have:k=p.2:=by
      unfold getR at h
      rw[List.find?_cons_of_pos (by simpa using hx)] at h
      injection h with h
      exact h.symm
     refine⟨0,by rw[this,←hx];rfl,fun j q hj=>absurd hj (Nat.not_lt_zero j)⟩
   · have h2:getR x r=some k:=by
      unfold getR at h⊢
      rwa [List.find?_cons_of_neg (by simpa using hx)] at h
     obtain⟨i,h3,h4⟩:=getR_idx h2
     refine⟨i+1,by simpa using h3,fun j q hj hq=>?_⟩
     cases j with
     | zero=>
       simp only[List.getElem?_cons_zero,Option.some.injEq] at hq
       subst hq
       exact hx
     | succ j=>exact h4 j q (by omega) (by simpa using hq)
set_option maxRecDepth 100000 in
theorem rat_any (B g t gn:Nat) (v:Value) (vs:List ((Nat×Nat)×Value)) (l:RgL) (w:World) (h:RkB w B g v vs l) (ht:t<4294967296) (hg:gn<65536) (h200:l.length≤1000) (idx:Int)
 (hx:(idx = -1∧getR (t,gn) l=none)∨∃(i:Nat) (k:List Nat),idx=(i:Int)∧l[i]? = some ((t,gn),k)∧∀(j:Nat) (q:(Nat×Nat)×List Nat),j<i→l[j]? = some q→q.1≠(t,gn)):
 Calls Tryz.prog 100 #[.pointer (some ⟨g,0,none⟩),.int .u32 (t:Int),.int .u16 (gn:Int)] w fun e w'=>e = .returned (.int .i64 idx)∧w=w':=by
 have hc:w.cell? ⟨g,0,none⟩=some v:=h.box.cell (k:=0) rfl
 have HF:=Lib.hid h.form
 obtain⟨A,cap,rfl⟩:=row_shape h.own
 have HX:=Lib.hid hx
 obtain⟨n,hn⟩:∃n,n=l.length:=⟨_,rfl⟩
 rw[←hn] at HF hc h200
 have HN:=Lib.hid hn
 have hnb:(n:Int)≤1000:=by omega
 clear h hx hn ht hg h200
 go_enter Tryz.func100,Tryz.ntmps100
 go_wp2_with fail
 go_loop [7] (fun z=>∃i:Nat,i≤n∧z = .int .i64 (i:Int)∧∀(j:Nat) (q:(Nat×Nat)×List Nat),j<i→l[j]? = some q→q.1≠(t,gn)) (fun z=>n-(intOf z).toNat)
 case atStart=>exact⟨0,Nat.zero_le _,rfl,fun j q hj=>absurd hj (Nat.not_lt_zero j)⟩
 case round=>
  obtain⟨i,hi,rfl,hno⟩:=hrel
  have HNO:=Lib.hid hno
  clear hno
  by_cases hlt:i<n
  · obtain ⟨q,hq⟩:∃q,l[i]? = some q:=⟨_,List.getElem?_eq_getElem (by rw[←HN.out];exact hlt)⟩
    obtain⟨gb,cap',he,_,_,hnc,hcm,hcell⟩:=HF.out (by omega)
    injection he with he1 _ he3
    subst he1 he3
    obtain⟨u,c0,c1,_,_⟩:=hcell i q hq
    have HQ:=Lib.hid hq
    have HLT:=Lib.hid hlt
    have hlti:(i:Int)<(n:Int):=by omega
    obtain⟨⟨qt,qg⟩,qk⟩:=q
    simp only at c0 c1
    clear hq hcell hlt hnc hcm
    by_cases e1:qt=t
    · have d1:((qt:Int)==(t:Int))=true:=by simp[e1]
      by_cases e2:qg=gn
      · have d2:((qg:Int)==(gn:Int))=true:=by simp[e2]
        have hidx:Hid (idx=(i:Int)):=Lib.hid (by
         rcases HX.out with ⟨_,h2⟩ | ⟨i',k,h2,h3,h4⟩
         · exact absurd (by rw[e1,e2]) (getR_none.1 h2 _ (List.mem_of_getElem? HQ.out))
         · rw[h2]
           have h5:¬i'<i:=fun hlt'=>HNO.out i' _ hlt' h3 rfl
           have h6:¬i<i':=fun hlt'=>h4 i _ hlt' HQ.out (by rw[e1,e2])
           have:i'=i:=by omega
           rw[this])
        clear e1 e2
        go_wp2_with fail
        go_ret
        exact⟨by rw[hidx.out];rfl,rfl⟩
      · have d2:((qg:Int)==(gn:Int))=false:=by simp;omega
        have hstep:Hid (∀(j:Nat) (q:(Nat×Nat)×List Nat),j<i+1→l[j]? = some q→q.1≠(t,gn)):=Lib.hid fun j q hj hq=>by
         by_cases hji:j=i
         · subst hji
           rw[HQ.out] at hq
           injection hq with hq
           subst hq
           exact fun e=>e2 (congrArg Prod.snd e)
         · exact HNO.out j q (by omega) hq
        clear e1 e2
        go_wp2_with fail
        go_round
        case rel=>exact⟨i+1,HLT.out,by go_num,hstep.out⟩
        case measure=>simp[intOf];have:=HLT.out;omega
    · have d1:((qt:Int)==(t:Int))=false:=by simp;omega
      have hstep:Hid (∀(j:Nat) (q:(Nat×Nat)×List Nat),j<i+1→l[j]? = some q→q.1≠(t,gn)):=Lib.hid fun j q hj hq=>by
       by_cases hji:j=i
       · subst hji
         rw[HQ.out] at hq
         injection hq with hq
         subst hq
         exact fun e=>e1 (congrArg Prod.fst e)
       · exact HNO.out j q (by omega) hq
      clear e1
      go_wp2_with fail
      go_round
      case rel=>exact⟨i+1,HLT.out,by go_num,hstep.out⟩
      case measure=>simp[intOf];have:=HLT.out;omega
  · obtain rfl:i=n:=by omega
    have hidx:Hid (idx = -1):=Lib.hid (by
     rcases HX.out with ⟨h1,_⟩ | ⟨i',k,h2,h3,h4⟩
     · exact h1
     · exact absurd rfl (HNO.out i' _ (by rw[HN.out];exact (List.getElem?_eq_some_iff.1 h3).1) h3))
    clear hlt hi
    go_wp2_with fail
    go_ret
    exact⟨by rw[hidx.out];rfl,rfl⟩
section
variable {w w':World} {F:Nat→Prop}
theorem CbB.fr {g:Nat} {T:TypeId} {cs:Array Value} (h:CbB w g T cs) (hf:Fr w w' F) (hn:¬F g):CbB w' g T cs:=(hf.block g h.lt hn).trans h
theorem IsB.fr {A:Option Addr} {n c:Nat} {l:List Nat} (h:IsB w A n c l) (hf:Fr w w' F) (hn:∀x,A=Option.some x→¬F x.block):IsB w' A n c l:=
 ⟨h.1.keep hf.size fun x i e hi=>World.cell?_of_block (by
  rw[add_block]
  obtain⟨y,e',hy,_⟩:=h.1.at (by omega)
  rw[e] at e'
  injection e' with e'
  exact hf.block _ (by rw[e'];exact hy) (hn x e)),h.2⟩
theorem OwB.fr {B:Nat} {v:Value} {l:List Nat} (h:OwB w B v l) (hf:Fr w w' F) (hn:∀g,v.ownBlock=some g→¬F g):OwB w' B v l:=by
 refine⟨⟨h.own.1,?_⟩,h.byt⟩
 rcases h.own.2 with hx | ⟨g,cap,cur,rfl,hb,hh,rest⟩
 · exact .inl hx
 · have hg:g<w.heap.size:=(Array.getElem?_eq_some_iff.1 hh).1
   exact .inr ⟨g,cap,cur,rfl,hb,(hf.block g hg (hn g rfl)).trans hh,rest⟩
theorem row_fr {B n s:Nat} {e:TypeId} {v:Value} {xs:List Value} (h:w.ownsRow B e s v n xs) (hf:Fr w w' F) (hn:∀g,v.ownBlock=some g→¬F g):w'.ownsRow B e s v n xs:=by
 refine⟨h.1,?_⟩
 rcases h.2 with hx | ⟨g,cap,cur,rfl,hb,hh,rest⟩
 · exact .inl hx
 · have hg:g<w.heap.size:=(Array.getElem?_eq_some_iff.1 hh).1
   exact .inr ⟨g,cap,cur,rfl,hb,(hf.block g hg (hn g rfl)).trans hh,rest⟩
theorem row_ne {B n s g:Nat} {e T:TypeId} {v:Value} {xs:List Value} {cs:Array Value} (h:w.ownsRow B e s v n xs) (hc:CbB w g T cs) (hT:T≠e):v.ownBlock≠some g:=by
 intro he
 rcases h.2 with ⟨rfl,_⟩ | ⟨g',cap,cur,rfl,_,hh,_⟩
 · cases he
 · have:g'=g:=by injection he
   subst this
   unfold CbB at hc
   rw[hc] at hh
   injection hh with hh
   injection hh with h1 h2
   exact hT h2
theorem row_own_ne {B B' n s:Nat} {e:TypeId} {v u:Value} {xs:List Value} {k:List Nat} (h:w.ownsRow B e s v n xs) (ho:OwB w B' u k) (hT:e≠5):∀g,u.ownBlock=some g→v.ownBlock≠some g:=by
 intro g hg he
 rcases h.2 with ⟨rfl,_⟩ | ⟨g',cap,cur,rfl,_,hh,_⟩
 · cases he
 · have e1:g'=g:=by injection he
   rcases ho.own.2 with ⟨rfl,_⟩ | ⟨g2,cap2,cur2,rfl,_,hh2,_⟩
   · cases hg
   · have e2:g2=g:=by injection hg
     subst e1
     subst e2
     rw[hh2] at hh
     injection hh with hh
     injection hh with h1 h2
     exact hT h2.symm
end
theorem own_ne' {w:World} {B lg:Nat} {T:TypeId} {cs:Array Value} {v:Value} {k:List Nat} (hT:T≠5) (hl:CbB w lg T cs) (ho:OwB w B v k):v.ownBlock≠some lg:=by
 intro e
 rcases ho.own.2 with ⟨rfl,_⟩ | ⟨g,cap,cur,rfl,_,hh,_⟩
 · cases e
 · have:g=lg:=by injection e
   subst this
   unfold CbB at hl
   rw[hl] at hh
   injection hh with hh
   injection hh with h1 h2
   exact hT h2
def CpyR (S kn:Nat) (key:List Nat) (v:Value) (W:World):Prop:=∃G,v = .slice (some ⟨G,0,none⟩) kn (kn+3)∧S≤G∧OwB W S v key
theorem CpyR.fr {S kn : Nat} {key : List Nat} {v : Value} {W W':World} {F:Nat→Prop} (h:CpyR S kn key v W) (hf:Fr W W' F) (hF:∀k,F k→k<S):CpyR S kn key v W':=by
 obtain⟨G,rfl,h1,h2⟩:=h
 exact ⟨G, rfl, h1, h2.fr hf fun g hg hfg => by have:=hF g hfg;have:G=g:=by injection hg
                                                omega⟩
theorem infoKey:(Tryz.prog.info? 199).map (fun i=>(i.zero,i.size,i.bytes))=some (some (.agg #[.int .u32 0,.int .u16 0,.slice none 0 0]),3,32):=by kernel_rfl
set_option maxRecDepth 100000 in
theorem rkAdd_arg (g:Nat) (x y:Value) (kA:Option Addr) (kn kc:Nat) (w:World) (hk:¬(kn=16∨kn=32)):
 Calls Tryz.prog 45 #[.pointer (some ⟨g,0,none⟩),x,y,.slice kA kn kc] w fun e w'=>e = .returned (.int .i64 2)∧w=w':=by
 have HM:=Lib.hid (may_no kA kn kc w (by omega) (by omega))
 clear hk
 go_enter Tryz.func45,Tryz.ntmps45
 go_wp2_with fail
 refine HM.out.mono ?_
 rintro e w' ⟨rfl,rfl⟩
 go_wp2_with fail
 go_ret
 exact⟨rfl,rfl⟩
set_option maxRecDepth 100000 in
theorem rkAdd_twice (B g t gn:Nat) (v:Value) (vs:List ((Nat×Nat)×Value)) (l:RgL) (kA:Option Addr) (kn kc:Nat) (w:World) (h:RkB w B g v vs l) (ht:t<4294967296) (hg:gn<65536) (h200:l.length≤1000) (hk:kn=16∨kn=32) {k:List Nat} (hs:getR (t,gn) l=some k):
 Calls Tryz.prog 45 #[.pointer (some ⟨g,0,none⟩),.int .u32 (t:Int),.int .u16 (gn:Int),.slice kA kn kc] w fun e w'=>e = .returned (.int .i64 8)∧w=w':=by
 have HM:=Lib.hid (may_yes kA kn kc w hk)
 obtain⟨i,h1,h2⟩:=getR_idx hs
 have HA:=Lib.hid (rat_any B g t gn v vs l w h ht hg h200 (i:Int) (.inr ⟨i,k,rfl,h1,h2⟩))
 clear h ht hg h200 hk hs h1 h2
 go_enter Tryz.func45,Tryz.ntmps45
 go_wp2_with fail
 refine HM.out.mono ?_
 rintro e w' ⟨rfl,rfl⟩
 go_wp2_with fail
 refine HA.out.mono ?_
 rintro e w' ⟨rfl,rfl⟩
 go_wp2_with fail
 go_ret
 exact⟨rfl,rfl⟩
set_option maxRecDepth 100000 in
theorem rkAdd_yes (B g t gn:Nat) (v:Value) (vs:List ((Nat×Nat)×Value)) (l:RgL) (kA:Option Addr) (kn kc:Nat) (key:List Nat) (w:World) (h:RkB w B g v vs l) (ht:t<4294967296) (hg:gn<65536) (h200:l.length≤1000) (ik:IsB w kA kn kc key) (hkA:∀x,kA=some x→v.ownBlock≠some x.block) (hk:KeyOk key) (hs:getR (t,gn) l=none):
 Calls Tryz.prog 45 #[.pointer (some ⟨g,0,none⟩),.int .u32 (t:Int),.int .u16 (gn:Int),.slice kA kn kc] w fun e w'=>∃v' u,e = .returned (.int .i64 0)∧RkB w' B g v' (vs++[((t,gn),u)]) (l++[((t,gn),key)])∧Fr w w' (fun k=>k=g∨v.ownBlock=some k):=by
 obtain⟨i0,hi0,hz0,hz1,hz2⟩:=info_parts infoKey
 have lk:=ik.len
 have hk2:kn=16∨kn=32:=by unfold KeyOk at hk;omega
 have HM:=Lib.hid (may_yes kA kn kc w hk2)
 have HA:=Lib.hid (rat_any B g t gn v vs l w h ht hg h200 (-1) (.inl ⟨rfl,hs⟩))
 have HR:=Lib.hid h
 have IK:=Lib.hid ik
 have KA:=Lib.hid hkA
 have HK:=Lib.hid hk
 have LK:=Lib.hid lk
 have HN:=Lib.hid hk2
 have H2:=Lib.hid h200
 have NG:Hid (v.ownBlock≠some g):=Lib.hid (row_ne h.own h.box (by decide))
 have GL:=Lib.hid h.box.lt
 have VL:Hid (∀k,v.ownBlock=some k→k<w.heap.size):=Lib.hid fun k hk=>by
  rcases h.own.2 with ⟨rfl,_⟩ | ⟨g',cap,cur,rfl,_,hh,_⟩
  · cases hk
  · have:g'=k:=by injection hk
    subst this
    exact (Array.getElem?_eq_some_iff.1 hh).1
 clear h ht hg h200 ik hkA hk hk2 hs lk
 go_enter Tryz.func45,Tryz.ntmps45
 go_wp2_with fail
 refine HM.out.mono ?_
 rintro e w' ⟨rfl,rfl⟩
 go_wp2_with fail
 refine HA.out.mono ?_
 rintro e w' ⟨rfl,rfl⟩
 go_wp2_with fail
 refine wp_wide5 (fun i k=>i=11∧v.ownBlock=some k) [⟨17,IsR (.pointer (some ⟨g,0,none⟩)),[],false⟩,⟨18,IsR (.pointer (some ⟨g,0,none⟩)),[],false⟩,⟨19,IsR (.pointer (some ⟨g,0,none⟩)),[1],false⟩,⟨20,IsR (.pointer (some ⟨g,0,none⟩)),[2],false⟩,⟨21,IsR (v),[3],false⟩,⟨22,IsR (.int .u32 (t:Int)),[],false⟩,⟨23,IsR (.int .u16 (gn:Int)),[],false⟩,⟨24,IsR (.slice kA kn kc),[],false⟩,⟨25,CpyR w.heap.size kn key,[7],false⟩,⟨26,(fun z W=>∃u,z = .agg #[.int .u32 (t:Int),.int .u16 (gn:Int),u]∧CpyR w.heap.size kn key u W),[5,6,8],false⟩,⟨27,(fun z W=>∃G u,z = .slice (some ⟨G,0,none⟩) 1 1∧CbB W G 199 #[.int .u32 (t:Int),.int .u16 (gn:Int),u]∧w.heap.size≤G∧CpyR w.heap.size kn key u W),[9],false⟩,⟨28,(fun z W=>∃u,CpyR w.heap.size kn key u W∧W.ownsRow B 199 3 z (l.length+1) (keyCs vs++[.int .u32 (t:Int),.int .u16 (gn:Int),u])),[4,10],false⟩,⟨29,IsR (.pointer (some ⟨g,0,none⟩)),[0],false⟩,⟨30,IsR (.pointer (some ⟨g,0,none⟩)),[12],false⟩] (by kernel_rfl) (by kernel_rfl) rfl rfl rfl ⟨?_,?_,?_,?_,?_,?_,?_,?_,?_,?_,?_,?_,?_,?_,trivial⟩ ?_
 · refine⟨rfl,IsR.monoF _ _,fun a W hA hb hd=>Takes.to5 (takes_plain rfl (yields_value _ ?_ rfl)) _⟩
   have h0:a.tmps[0]?.getD undef = .pointer (some ⟨g,0,none⟩):=(eval_get a 0).trans ((hA.eval (by simp)).trans rfl)
   go_simp
 · refine⟨rfl,IsR.monoF _ _,fun a W hA hb hd=>Takes.to5 (takes_plain rfl (yields_value _ ?_ rfl)) _⟩
   have h0:a.tmps[0]?.getD undef = .pointer (some ⟨g,0,none⟩):=(eval_get a 0).trans ((hA.eval (by simp)).trans rfl)
   go_simp
 · refine⟨rfl,IsR.monoF _ _,fun a W hA hb hd=>Takes.to5 (takes_plain rfl (yields_value _ ?_ rfl)) _⟩
   have h18:a.tmps[18]?.getD undef = .pointer (some ⟨g,0,none⟩):=(eval_get a 18).trans (hd 1 (by simp) _ rfl)
   go_simp
 · refine⟨rfl,IsR.monoF _ _,fun a W hA hb hd=>Takes.to5 (takes_plain rfl (yields_value _ ?_ rfl)) _⟩
   have h19:a.tmps[19]?.getD undef = .pointer (some ⟨g,0,none⟩):=(eval_get a 19).trans (hd 2 (by simp) _ rfl)
   go_simp
 · refine⟨rfl,IsR.monoF _ _,fun a W hA hb hd=>Takes.to5 (takes_plain rfl (yields_value _ ?_ rfl)) _⟩
   have h20:a.tmps[20]?.getD undef = .pointer (some ⟨g,0,none⟩):=(eval_get a 20).trans (hd 3 (by simp) _ rfl)
   have hc:W.cell? ⟨g,0,none⟩=some v:=(HR.out.box.fr hb (fun ⟨j,_,_,hj⟩=>NG.out hj)).cell (k:=0) rfl
   obtain⟨A,cp,hv⟩:=row_shape HR.out.own
   subst hv
   go_simp
 · refine⟨rfl,IsR.monoF _ _,fun a W hA hb hd=>Takes.to5 (takes_plain rfl (yields_value _ ?_ rfl)) _⟩
   have h1:a.tmps[1]?.getD undef = .int .u32 (t:Int):=(eval_get a 1).trans ((hA.eval (by simp)).trans rfl)
   go_simp
 · refine⟨rfl,IsR.monoF _ _,fun a W hA hb hd=>Takes.to5 (takes_plain rfl (yields_value _ ?_ rfl)) _⟩
   have h2:a.tmps[2]?.getD undef = .int .u16 (gn:Int):=(eval_get a 2).trans ((hA.eval (by simp)).trans rfl)
   go_simp
 · refine⟨rfl,IsR.monoF _ _,fun a W hA hb hd=>Takes.to5 (takes_plain rfl (yields_value _ ?_ rfl)) _⟩
   have h3:a.tmps[3]?.getD undef = .slice kA kn kc:=(eval_get a 3).trans ((hA.eval (by simp)).trans rfl)
   go_simp
 · refine⟨rfl,fun z W W1 h1 hf=>h1.fr hf (fun k ⟨j,_,_,hj⟩=>VL.out k hj),fun a W hA hb hd=>takes5_plain rfl ?_⟩
   have h24:a.tmps[24]?.getD undef = .slice kA kn kc:=(eval_get a 24).trans (hd 7 (by simp) _ rfl)
   refine Yields.to5 (yields_call 101 #[.slice kA kn kc] (by go_simp) ((copy_any kA kn kc key W (IK.out.fr hb (fun x hx ⟨j,_,_,hj⟩=>KA.out x hx hj)) (by have:=HN.out;omega)).mono ?_)) _
   rintro e W1 ⟨rfl,hk1,hb1⟩
   exact⟨_,rfl,⟨_,rfl,hb.size,(OwB.ofBk hk1 (Nat.le_refl _) LK.out (by omega) (by rw[List.length_append,LK.out,zeros_len]) (by have:=HN.out;omega) (by rw[List.take_append_of_le_length (by rw[LK.out];exact Nat.le_refl _),List.take_of_length_le (by rw[LK.out];exact Nat.le_refl _)]) IK.out.2).lower hb.size⟩,hb1⟩
 · refine⟨rfl,fun z W W1 ⟨u,h1,h2⟩ hf=>⟨u,h1,h2.fr hf (fun k ⟨j,_,_,hj⟩=>VL.out k hj)⟩,fun a W hA hb hd=>takes5_plain rfl ?_⟩
   have h22:a.tmps[22]?.getD undef = .int .u32 (t:Int):=(eval_get a 22).trans (hd 5 (by simp) _ rfl)
   have h23:a.tmps[23]?.getD undef = .int .u16 (gn:Int):=(eval_get a 23).trans (hd 6 (by simp) _ rfl)
   obtain⟨Gc,hGe,hG1,hG2⟩:=hd 8 (by simp) _ rfl
   have h25:a.tmps[25]?.getD undef = .slice (some ⟨Gc,0,none⟩) kn (kn+3):=(eval_get a 25).trans hGe
   rw[hGe] at hG2
   refine Yields.to5 (yields_value (.agg #[.int .u32 (t:Int),.int .u16 (gn:Int),.slice (some ⟨Gc,0,none⟩) kn (kn+3)]) ?_ ⟨_,rfl,Gc,rfl,hG1,hG2⟩) _
   go_simp
 · refine⟨rfl,fun z W W1 ⟨G1,u,h1,h2,h3,h4⟩ hf=>⟨G1,u,h1,h2.fr hf (fun ⟨j,_,_,hj⟩=>by have:=VL.out _ hj;omega),h3,h4.fr hf (fun k ⟨j,_,_,hj⟩=>VL.out k hj)⟩,fun a W hA hb hd=>takes5_plain rfl ?_⟩
   obtain⟨u,hu,Gc,rfl,hG1,hG2⟩:=hd 9 (by simp) _ rfl
   have h26:a.tmps[26]?.getD undef = .agg #[.int .u32 (t:Int),.int .u16 (gn:Int),.slice (some ⟨Gc,0,none⟩) kn (kn+3)]:=(eval_get a 26).trans hu
   refine .inl ⟨.slice (some ⟨W.heap.size,0,none⟩) 1 1,W.alloc (.cells #[.int .u32 (t:Int),.int .u16 (gn:Int),.slice (some ⟨Gc,0,none⟩) kn (kn+3)] 199),?_,⟨_,_,rfl,CbB.new _ _ _,hb.size,Gc,rfl,hG1,hG2.alloc _⟩,Fr.of ((Below.refl _ _).alloc (Nat.le_refl _) _) _⟩
   go_simp
 · refine⟨rfl,fun z W W1 ⟨u,h1,h2⟩ hf=>⟨u,h1.fr hf (fun k ⟨j,hj,hj2,_⟩=>absurd hj2 hj),row_fr h2 hf (fun k hk ⟨j,hj,hj2,_⟩=>hj hj2)⟩,fun a W hA hb hd=>takes5_plain rfl ?_⟩
   have hs:a.eval (.tmp 21)=v:=hd 4 (by simp) _ rfl
   obtain⟨Gs,u,he,hcb,hGs,hcu⟩:=hd 10 (by simp) _ rfl
   have hx:a.eval (.tmp 27) = .slice (some ⟨Gs,0,none⟩) 1 1:=he
   have hown:=row_fr HR.out.own hb (fun k hk ⟨j,hj,hj2,_⟩=>hj hj2)
   obtain⟨Gc,rfl,hG1,hG2⟩:=hcu
   obtain⟨v1,W1,hrun,r1,r2,_⟩:=run_append_own (P:=Tryz.prog) W B 120 120 199 i0 _ 3 32 Tryz.underlying120 hi0 hz0 hz1 hz2 rfl (by decide) v l.length (keyCs vs) hown ⟨Gs,0,none⟩ 1 1 [.int .u32 (t:Int),.int .u16 (gn:Int),.slice (some ⟨Gc,0,none⟩) kn (kn+3)] rfl (row_at hcb) (by simp[Value.oneCell']) (by have:=H2.out;simp only[maxLen];omega) (by have:=H2.out;omega) (Nat.le_trans HR.out.low hb.size)
   refine .inl ⟨v1,W1,?_,⟨_,(show CpyR w.heap.size kn key (.slice (some ⟨Gc,0,none⟩) kn (kn+3)) W from⟨Gc,rfl,hG1,hG2⟩).fr (Fr.grown r2) (fun k hk=>VL.out k hk),r1⟩,(Fr.grown r2).imp fun k hk=>⟨rfl,hk⟩⟩
   unfold execOp
   simp only[resolve,invoke,builtin,Sem.run_bind,Sem.run_pure,Result.andThen_ok,List.map_toArray,List.map_cons,List.map_nil,hs,hx,hrun]
 · refine⟨rfl,IsR.monoF _ _,fun a W hA hb hd=>Takes.to5 (takes_plain rfl (yields_value _ ?_ rfl)) _⟩
   have h17:a.tmps[17]?.getD undef = .pointer (some ⟨g,0,none⟩):=(eval_get a 17).trans (hd 0 (by simp) _ rfl)
   go_simp
 · refine⟨rfl,IsR.monoF _ _,fun a W hA hb hd=>Takes.to5 (takes_plain rfl (yields_value _ ?_ rfl)) _⟩
   have h29:a.tmps[29]?.getD undef = .pointer (some ⟨g,0,none⟩):=(eval_get a 29).trans (hd 12 (by simp) _ rfl)
   go_simp
 intro vs2 w2 hR hb
 obtain⟨u,hcu,hrow⟩:(∃u,CpyR w.heap.size kn key u w2∧w2.ownsRow B 199 3 (vs2 28) (l.length+1) (keyCs vs++[.int .u32 (t:Int),.int .u16 (gn:Int),u])):=hR 11 _ rfl
 have e17:vs2 17 = .pointer (some ⟨g,0,none⟩):=hR 0 _ rfl
 have e18:vs2 18 = .pointer (some ⟨g,0,none⟩):=hR 1 _ rfl
 have e19:vs2 19 = .pointer (some ⟨g,0,none⟩):=hR 2 _ rfl
 have e20:vs2 20 = .pointer (some ⟨g,0,none⟩):=hR 3 _ rfl
 have e21:vs2 21=v:=hR 4 _ rfl
 have e22:vs2 22 = .int .u32 (t:Int):=hR 5 _ rfl
 have e23:vs2 23 = .int .u16 (gn:Int):=hR 6 _ rfl
 have e24:vs2 24 = .slice kA kn kc:=hR 7 _ rfl
 have e29:vs2 29 = .pointer (some ⟨g,0,none⟩):=hR 12 _ rfl
 have e30:vs2 30 = .pointer (some ⟨g,0,none⟩):=hR 13 _ rfl
 simp only[List.map_cons,List.map_nil,List.foldl_cons,List.foldl_nil,List.length_cons,List.length_nil,List.drop_succ_cons,List.drop_zero,Act.put,List.setIfInBounds_toArray,List.set_cons_zero,List.set_cons_succ,e17,e18,e19,e20,e21,e22,e23,e24,e29,e30]
 have FR:Hid (Fr w w2 (fun k=>v.ownBlock=some k)):=Lib.hid (hb.imp fun k ⟨j,_,hj⟩=>hj)
 have CU:=Lib.hid hcu
 have RW:=Lib.hid hrow
 clear hR hb hcu hrow e17 e18 e19 e20 e21 e22 e23 e24 e29 e30
 generalize vs2 25=q25 at *
 generalize vs2 26=q26 at *
 generalize vs2 27=q27 at *
 generalize vs2 28=q28 at *
 have G2:=Lib.hid (HR.out.box.fr FR.out NG.out)
 have hc:w2.cell? ⟨g,0,none⟩=some v:=G2.out.cell (k:=0) rfl
 have hf:=G2.out.free 0
 obtain⟨A7,c7,rfl⟩:=row_shape RW.out
 obtain⟨Av,cv,rfl⟩:=row_shape HR.out.own
 go_wp2_with fail
 go_ret
 have hgc:=grown_cell w2 g 0 (.slice A7 (l.length+1) c7)
 have hfg:=Fr.grown hgc
 have nq:∀k,(Value.slice A7 (l.length+1) c7).ownBlock=some k→¬(some g=some k):=fun k hk e=>by
  injection e with e
  subst e
  exact row_ne RW.out G2.out (by decide) hk
 have hvals:RgV w2 B vs l:=HR.out.vals.imp fun z k hz=>hz.fr FR.out (row_own_ne HR.out.own hz (by decide))
 obtain⟨Gc,rfl,hG1,hG2⟩:=CU.out
 have fvals:∀z k,OwB w2 B z k→OwB (w2.setCell ⟨g,0,none⟩ (.slice A7 (l.length+1) c7)) B z k:=fun z k hz=>hz.fr hfg (fun q hq e=>by
  injection e with e
  subst e
  exact own_ne' (by decide) G2.out hz hq)
 refine⟨_,.slice (some ⟨Gc,0,none⟩) kn (kn+3),rfl,⟨G2.out.set 0 _,?_,?_,?_,?_⟩,?_⟩
 · rw[keyCs_snoc,List.length_append,List.length_singleton]
   exact row_fr RW.out hfg nq
 · exact RgV.snoc (fvals _ _ (hG2.lower HR.out.low)) (hvals.imp fvals)
 · exact Nat.le_trans HR.out.low (Nat.le_trans FR.out.size (by simp))
 · intro p hp
   rcases List.mem_append.1 hp with hp | hp
   · exact HR.out.ne p hp
   · rw[List.mem_singleton] at hp
     subst hp
     exact HK.out
 · exact (FR.out.imp fun k hk=>.inr hk).tr (hfg.imp fun k hk=>.inl (by injection hk with hk;exact hk.symm))
theorem rkAdd_any (B g t gn:Nat) (v:Value) (vs:List ((Nat×Nat)×Value)) (l:RgL) (kA:Option Addr) (kn kc:Nat) (key:List Nat) (w:World) (h:RkB w B g v vs l) (ht:t<4294967296) (hg:gn<65536) (h200:l.length≤1000) (ik:IsB w kA kn kc key) (hkA:∀x,kA=some x→v.ownBlock≠some x.block):
 Calls Tryz.prog 45 #[.pointer (some ⟨g,0,none⟩),.int .u32 (t:Int),.int .u16 (gn:Int),.slice kA kn kc] w fun e w'=>∃v' vs',e = .returned (.int .i64 ((addP (t,gn) key l).1:Int))∧RkB w' B g v' vs' (addP (t,gn) key l).2∧Fr w w' (fun k=>k=g∨v.ownBlock=some k):=by
 have lk:=ik.len
 unfold addP
 by_cases hk:key.length=16∨key.length=32
 · rw[if_pos hk]
   cases hs:getR (t,gn) l with
   | some k=>
     rw[Option.isSome_some,if_pos rfl]
     refine (rkAdd_twice B g t gn v vs l kA kn kc w h ht hg h200 (by omega) hs).mono ?_
     rintro e w' ⟨rfl,rfl⟩
     exact⟨v,vs,rfl,h,Fr.of (Below.refl _ _) _⟩
   | none=>
     rw[Option.isSome_none,if_neg Bool.false_ne_true]
     refine (rkAdd_yes B g t gn v vs l kA kn kc key w h ht hg h200 ik hkA hk hs).mono ?_
     rintro e w' ⟨v',u,rfl,h1,h2⟩
     exact⟨v',_,rfl,h1,h2⟩
 · rw[if_neg hk]
   refine (rkAdd_arg g _ _ kA kn kc w (by omega)).mono ?_
   rintro e w' ⟨rfl,rfl⟩
   exact⟨v,vs,rfl,h,Fr.of (Below.refl _ _) _⟩
section
variable {P:Program} {Q:Exit→Act→World→Prop}
theorem Fr.trW {w w1 w2:World} {F:Nat→Prop} (h:Fr w w1 F) (k:Fr w1 w2 F):Fr w w2 F:=⟨k.os.trans h.os,k.tape.trans h.tape,k.output.trans h.output,Nat.le_trans h.size k.size,fun i hi hn=>(k.block i (Nat.lt_of_lt_of_le hi h.size) hn).trans (h.block i hi hn)⟩
end
set_option linter.unusedSimpArgs false
structure DvS where
 n:Nat
 now:List Nat
 firm:List Nat
 ws:List (Nat×List Nat)
 st:Nat
 fail:Nat
 cut:Int
 down:Bool
def wrV (x:Nat×List Nat):List Value:=.int .i64 (x.1:Int)::(bts x.2).toList
structure DvS.Ok (D:DvS):Prop where
 n8:8≤D.n
 n4:D.n≤4096
 now:D.now.length=D.n*256
 firm:D.firm.length=D.n*256
 bnow:Byt D.now
 bfirm:Byt D.firm
 ws:∀x∈D.ws,x.1<D.n∧x.2.length=256∧Byt x.2
 cut:-1≤D.cut∧D.cut≤9223372036854775807
 fail:D.fail≤9223372036854775807
def DvS.cells (D:DvS) (g1 g2:Nat) (wv:Value):Array Value:=#[.slice (some ⟨g1,0,none⟩) D.n D.n,.slice (some ⟨g2,0,none⟩) D.n D.n,wv,.int .u64 (D.st:Int),.int .i64 (D.fail:Int),.int .i64 D.cut,.bool D.down]
structure DsB (w:World) (B d g1 g2:Nat) (wv:Value) (D:DvS):Prop where
 box:CbB w d 141 (D.cells g1 g2 wv)
 now:Bk w g1 148 D.now
 firm:Bk w g2 148 D.firm
 row:w.ownsRow B 174 257 wv D.ws.length (D.ws.flatMap wrV)
 ne:g1≠g2
 low:B≤d∧B≤g1∧B≤g2
theorem bk_ne {w:World} {d g:Nat} {T T':TypeId} {cs:Array Value} {L:List Nat} (h:CbB w d T cs) (k:Bk w g T' L) (hT:T≠T'):d≠g:=fun e=>by
 unfold CbB at h
 unfold Bk at k
 rw[←e,h] at k
 injection k with k
 injection k with _ k
 exact hT k
theorem bk_fr {w w':World} {g:Nat} {T:TypeId} {l:List Nat} {F:Nat→Prop} (h:Bk w g T l) (hf:Fr w w' F) (hn:¬F g):Bk w' g T l:=(hf.block g h.lt hn).trans h
section
variable {w w':World} {B d g1 g2:Nat} {wv:Value} {D D':DvS}
theorem DsB.lt (h:DsB w B d g1 g2 wv D):d<w.heap.size∧g1<w.heap.size∧g2<w.heap.size:=⟨h.box.lt,h.now.lt,h.firm.lt⟩
theorem DsB.fr {F:Nat→Prop} (h:DsB w B d g1 g2 wv D) (hf:Fr w w' F) (hn:∀k,F k→k≠d∧k≠g1∧k≠g2∧wv.ownBlock≠some k):DsB w' B d g1 g2 wv D:=
 ⟨h.box.fr hf (fun e=>(hn _ e).1 rfl),bk_fr h.now hf (fun e=>(hn _ e).2.1 rfl),bk_fr h.firm hf (fun e=>(hn _ e).2.2.1 rfl),row_fr h.row hf (fun g hg e=>(hn _ e).2.2.2 hg),h.ne,h.low⟩
theorem DsB.ab (h:DsB w B d g1 g2 wv D) (hb:Below w.heap.size w w'):DsB w' B d g1 g2 wv D:=h.fr (Fr.of hb (fun _=>False)) fun k hk=>hk.elim
theorem DsB.upd (h:DsB w B d g1 g2 wv D) (hf:Fr w w' (fun q=>q=d)) (hb:CbB w' d 141 (D'.cells g1 g2 wv)) (e1:D'.now=D.now) (e2:D'.firm=D.firm) (e3:D'.ws=D.ws):DsB w' B d g1 g2 wv D':=
 ⟨hb,by rw[e1];exact bk_fr h.now hf (bk_ne h.box h.now (by decide)).symm,by rw[e2];exact bk_fr h.firm hf (bk_ne h.box h.firm (by decide)).symm,by rw[e3];exact row_fr h.row hf (fun g hg e=>row_ne h.row h.box (by decide) (by rw[hg,e])),h.ne,h.low⟩
def stepD (D:DvS):Nat×DvS:=
 bif D.down then (81,D) else
 bif decide (D.cut=0) then (81,{ D with down:=true }) else
 bif decide (0<D.fail) then (bif decide (D.fail=1) then 80 else 0,{ D with cut:=bif decide (0<D.cut) then D.cut-1 else D.cut,st:=D.st+1,fail:=D.fail-1 })
 else (0,{ D with cut:=bif decide (0<D.cut) then D.cut-1 else D.cut,st:=D.st+1 })
set_option maxRecDepth 100000 in
theorem blocks_any (h:DsB w B d g1 g2 wv D):Calls Tryz.prog 128 #[.pointer (some ⟨d,0,none⟩)] w fun e w'=>e = .returned (.int .i64 (D.n:Int))∧w=w':=by
 have c0:w.cell? ⟨d,0,none⟩=some (.slice (some ⟨g1,0,none⟩) D.n D.n):=h.box.cell (k:=0) rfl
 clear h
 go_enter Tryz.func128,Tryz.ntmps128
 go_wp2_with fail
 go_ret
 exact⟨rfl,rfl⟩
set_option maxRecDepth 100000 in
theorem has_yes (i:Nat) (hi:i<D.n) (h:DsB w B d g1 g2 wv D):
 Calls Tryz.prog 60 #[.pointer (some ⟨d,0,none⟩),.int .i64 (i:Int)] w fun e w'=>e = .returned (.bool true)∧w=w':=by
 have c0:w.cell? ⟨d,0,none⟩=some (.slice (some ⟨g1,0,none⟩) D.n D.n):=h.box.cell (k:=0) rfl
 have h0:(0:Int)≤(i:Int):=by omega
 have h1:(i:Int)<(D.n:Int):=by omega
 clear h hi
 go_enter Tryz.func60,Tryz.ntmps60
 go_wp2_with fail
 go_ret
 exact⟨rfl,rfl⟩
theorem fr_setD (w:World) (g k:Nat) (v:Value):Fr w (w.setCell ⟨g,k,none⟩ v) (fun q=>q=g):=(Fr.grown (grown_cell w g k v)).imp fun q hq=>by injection hq with hq;exact hq.symm
set_option maxRecDepth 100000 in
theorem step_any (h:DsB w B d g1 g2 wv D) (ok:D.Ok) (hst:D.st≤1000000000):
 Calls Tryz.prog 156 #[.pointer (some ⟨d,0,none⟩)] w fun e w'=>e = .returned (.int .i64 ((stepD D).1:Int))∧DsB w' B d g1 g2 wv (stepD D).2∧Fr w w' (fun q=>q=d):=by
 have HB:=Lib.hid h
 have c3:w.cell? ⟨d,3,none⟩=some (.int .u64 (D.st:Int)):=h.box.cell (k:=3) rfl
 have c4:w.cell? ⟨d,4,none⟩=some (.int .i64 (D.fail:Int)):=h.box.cell (k:=4) rfl
 have c5:w.cell? ⟨d,5,none⟩=some (.int .i64 D.cut):=h.box.cell (k:=5) rfl
 have c6:w.cell? ⟨d,6,none⟩=some (.bool D.down):=h.box.cell (k:=6) rfl
 have F3:=h.box.free 3
 have F4:=h.box.free 4
 have F5:=h.box.free 5
 have F6:=h.box.free 6
 have b0:=ok.cut.1
 have b1:=ok.cut.2
 have b2:(D.fail:Int)≤9223372036854775807:=by have:=ok.fail;omega
 have b3:(D.st:Int)≤1000000000:=by omega
 have b4:(0:Int)≤(D.st:Int):=by omega
 have b5:(0:Int)≤(D.fail:Int):=by omega
 obtain⟨n,now,firm,ws,st,fail,cut,down⟩:=D
 simp only at c3 c4 c5 c6 b0 b1 b2 b3 b4 b5
 clear h ok hst
 cases down with
 | true=>
   go_enter Tryz.func156,Tryz.ntmps156
   go_wp2_with fail
   go_ret
   exact⟨rfl,HB.out,Fr.of (Below.refl _ _) _⟩
 | false =>
   by_cases q0:cut=0
   · subst q0
     go_enter Tryz.func156,Tryz.ntmps156
     go_wp2_with fail
     have k6:(w.setCell ⟨d,6,none⟩ (.bool true)).cell? ⟨d,6,none⟩=some (.bool true):=(HB.out.box.set 6 (.bool true)).cell (k:=6) rfl
     go_wp2_with fail
     go_ret
     exact⟨rfl,HB.out.upd (fr_setD _ _ _ _) (HB.out.box.set 6 (.bool true)) rfl rfl rfl,fr_setD _ _ _ _⟩
   · by_cases q1:0<cut
     · have e1:decide (cut=0)=false:=by simp;omega
       have e2:decide (0<cut)=true:=by simp;omega
       by_cases q2:fail=0
       · have q3:¬(0:Int)<(fail:Int):=by omega
         have e3:decide (0<fail)=false:=by simp;omega
         clear q2
         have X1:=HB.out.box.set 5 (.int .i64 (cut-1))
         have c31:(w.setCell ⟨d,5,none⟩ (.int .i64 (cut-1))).cell? ⟨d,3,none⟩=some (.int .u64 (st:Int)):=X1.cell (k:=3) rfl
         have f31:=X1.free 3
         have X2:=X1.set 3 (.int .u64 ((st:Int)+1))
         have c42:((w.setCell ⟨d,5,none⟩ (.int .i64 (cut-1))).setCell ⟨d,3,none⟩ (.int .u64 ((st:Int)+1))).cell? ⟨d,4,none⟩=some (.int .i64 (fail:Int)):=X2.cell (k:=4) rfl
         have f42:=X2.free 4
         have XL:=Lib.hid X2
         clear X1 X2
         go_enter Tryz.func156,Tryz.ntmps156
         go_wp2_with fail
         go_ret
         have ED:stepD ⟨n,now,firm,ws,st,fail,cut,false⟩=(0,⟨n,now,firm,ws,st+1,fail,cut-1,false⟩):=by unfold stepD;simp[e1,e2,e3]
         rw[ED]
         have FF:=((fr_setD w d 5 (.int .i64 (cut-1))).trW (fr_setD _ d 3 (.int .u64 ((st:Int)+1))))
         exact⟨rfl,HB.out.upd FF (by have:=XL.out;exact this) rfl rfl rfl,FF⟩
       · have q3:(0:Int)<(fail:Int):=by omega
         have e3:decide (0<fail)=true:=by simp;omega
         by_cases q4:fail=1
         · have q5:(fail:Int)-1=0:=by omega
           have e4:decide (fail=1)=true:=by simp;omega
           have q6:(((fail:Int)-1)==0)=true:=by simp;omega
           have q7:decide ((fail:Int)-1=0)=true:=by simp;omega
           clear q4 q5
           have X1:=HB.out.box.set 5 (.int .i64 (cut-1))
           have c31:(w.setCell ⟨d,5,none⟩ (.int .i64 (cut-1))).cell? ⟨d,3,none⟩=some (.int .u64 (st:Int)):=X1.cell (k:=3) rfl
           have f31:=X1.free 3
           have X2:=X1.set 3 (.int .u64 ((st:Int)+1))
           have c42:((w.setCell ⟨d,5,none⟩ (.int .i64 (cut-1))).setCell ⟨d,3,none⟩ (.int .u64 ((st:Int)+1))).cell? ⟨d,4,none⟩=some (.int .i64 (fail:Int)):=X2.cell (k:=4) rfl
           have f42:=X2.free 4
           have X3:=X2.set 4 (.int .i64 ((fail:Int)-1))
           have c43:(((w.setCell ⟨d,5,none⟩ (.int .i64 (cut-1))).setCell ⟨d,3,none⟩ (.int .u64 ((st:Int)+1))).setCell ⟨d,4,none⟩ (.int .i64 ((fail:Int)-1))).cell? ⟨d,4,none⟩=some (.int .i64 ((fail:Int)-1)):=X3.cell (k:=4) rfl
           have XL:=Lib.hid X3
           clear X1 X2 X3
           go_enter Tryz.func156,Tryz.ntmps156
           go_wp2_with fail
           go_ret
           have ED:stepD ⟨n,now,firm,ws,st,fail,cut,false⟩=(80,⟨n,now,firm,ws,st+1,fail-1,cut-1,false⟩):=by unfold stepD;simp[e1,e2,e3,e4]
           rw[ED]
           have FF:=(((fr_setD w d 5 (.int .i64 (cut-1))).trW (fr_setD _ d 3 (.int .u64 ((st:Int)+1)))).trW (fr_setD _ d 4 (.int .i64 ((fail:Int)-1))))
           exact⟨rfl,HB.out.upd FF (by have:=XL.out;have e:((fail-1:Nat):Int)=(fail:Int)-1:=(by omega);simp only[DvS.cells,e];exact this) rfl rfl rfl,FF⟩
         · have q5:¬(fail:Int)-1=0:=by omega
           have e4:decide (fail=1)=false:=by simp;omega
           have X1:=HB.out.box.set 5 (.int .i64 (cut-1))
           have c31:(w.setCell ⟨d,5,none⟩ (.int .i64 (cut-1))).cell? ⟨d,3,none⟩=some (.int .u64 (st:Int)):=X1.cell (k:=3) rfl
           have f31:=X1.free 3
           have X2:=X1.set 3 (.int .u64 ((st:Int)+1))
           have c42:((w.setCell ⟨d,5,none⟩ (.int .i64 (cut-1))).setCell ⟨d,3,none⟩ (.int .u64 ((st:Int)+1))).cell? ⟨d,4,none⟩=some (.int .i64 (fail:Int)):=X2.cell (k:=4) rfl
           have f42:=X2.free 4
           have X3:=X2.set 4 (.int .i64 ((fail:Int)-1))
           have c43:(((w.setCell ⟨d,5,none⟩ (.int .i64 (cut-1))).setCell ⟨d,3,none⟩ (.int .u64 ((st:Int)+1))).setCell ⟨d,4,none⟩ (.int .i64 ((fail:Int)-1))).cell? ⟨d,4,none⟩=some (.int .i64 ((fail:Int)-1)):=X3.cell (k:=4) rfl
           have XL:=Lib.hid X3
           clear X1 X2 X3
           go_enter Tryz.func156,Tryz.ntmps156
           go_wp2_with fail
           go_ret
           have ED:stepD ⟨n,now,firm,ws,st,fail,cut,false⟩=(0,⟨n,now,firm,ws,st+1,fail-1,cut-1,false⟩):=by unfold stepD;simp[e1,e2,e3,e4]
           rw[ED]
           have FF:=(((fr_setD w d 5 (.int .i64 (cut-1))).trW (fr_setD _ d 3 (.int .u64 ((st:Int)+1)))).trW (fr_setD _ d 4 (.int .i64 ((fail:Int)-1))))
           exact⟨rfl,HB.out.upd FF (by have:=XL.out;have e:((fail-1:Nat):Int)=(fail:Int)-1:=(by omega);simp only[DvS.cells,e];exact this) rfl rfl rfl,FF⟩
     · have e1:decide (cut=0)=false:=by simp;omega
       have e2:decide (0<cut)=false:=by simp;omega
       by_cases q2:fail=0
       · have q3:¬(0:Int)<(fail:Int):=by omega
         have e3:decide (0<fail)=false:=by simp;omega
         clear q2
         have X2:=HB.out.box.set 3 (.int .u64 ((st:Int)+1))
         have c42:(w.setCell ⟨d,3,none⟩ (.int .u64 ((st:Int)+1))).cell? ⟨d,4,none⟩=some (.int .i64 (fail:Int)):=X2.cell (k:=4) rfl
         have f42:=X2.free 4
         have XL:=Lib.hid X2
         clear X2
         go_enter Tryz.func156,Tryz.ntmps156
         go_wp2_with fail
         go_ret
         have ED:stepD ⟨n,now,firm,ws,st,fail,cut,false⟩=(0,⟨n,now,firm,ws,st+1,fail,cut,false⟩):=by unfold stepD;simp[e1,e2,e3]
         rw[ED]
         have FF:=(fr_setD w d 3 (.int .u64 ((st:Int)+1)))
         exact⟨rfl,HB.out.upd FF (by have:=XL.out;exact this) rfl rfl rfl,FF⟩
       · have q3:(0:Int)<(fail:Int):=by omega
         have e3:decide (0<fail)=true:=by simp;omega
         by_cases q4:fail=1
         · have q5:(fail:Int)-1=0:=by omega
           have e4:decide (fail=1)=true:=by simp;omega
           have q6:(((fail:Int)-1)==0)=true:=by simp;omega
           have q7:decide ((fail:Int)-1=0)=true:=by simp;omega
           clear q4 q5
           have X2:=HB.out.box.set 3 (.int .u64 ((st:Int)+1))
           have c42:(w.setCell ⟨d,3,none⟩ (.int .u64 ((st:Int)+1))).cell? ⟨d,4,none⟩=some (.int .i64 (fail:Int)):=X2.cell (k:=4) rfl
           have f42:=X2.free 4
           have X3:=X2.set 4 (.int .i64 ((fail:Int)-1))
           have c43:((w.setCell ⟨d,3,none⟩ (.int .u64 ((st:Int)+1))).setCell ⟨d,4,none⟩ (.int .i64 ((fail:Int)-1))).cell? ⟨d,4,none⟩=some (.int .i64 ((fail:Int)-1)):=X3.cell (k:=4) rfl
           have XL:=Lib.hid X3
           clear X2 X3
           go_enter Tryz.func156,Tryz.ntmps156
           go_wp2_with fail
           go_ret
           have ED:stepD ⟨n,now,firm,ws,st,fail,cut,false⟩=(80,⟨n,now,firm,ws,st+1,fail-1,cut,false⟩):=by unfold stepD;simp[e1,e2,e3,e4]
           rw[ED]
           have FF:=((fr_setD w d 3 (.int .u64 ((st:Int)+1))).trW (fr_setD _ d 4 (.int .i64 ((fail:Int)-1))))
           exact⟨rfl,HB.out.upd FF (by have:=XL.out;have e:((fail-1:Nat):Int)=(fail:Int)-1:=(by omega);simp only[DvS.cells,e];exact this) rfl rfl rfl,FF⟩
         · have q5:¬(fail:Int)-1=0:=by omega
           have e4:decide (fail=1)=false:=by simp;omega
           have X2:=HB.out.box.set 3 (.int .u64 ((st:Int)+1))
           have c42:(w.setCell ⟨d,3,none⟩ (.int .u64 ((st:Int)+1))).cell? ⟨d,4,none⟩=some (.int .i64 (fail:Int)):=X2.cell (k:=4) rfl
           have f42:=X2.free 4
           have X3:=X2.set 4 (.int .i64 ((fail:Int)-1))
           have c43:((w.setCell ⟨d,3,none⟩ (.int .u64 ((st:Int)+1))).setCell ⟨d,4,none⟩ (.int .i64 ((fail:Int)-1))).cell? ⟨d,4,none⟩=some (.int .i64 ((fail:Int)-1)):=X3.cell (k:=4) rfl
           have XL:=Lib.hid X3
           clear X2 X3
           go_enter Tryz.func156,Tryz.ntmps156
           go_wp2_with fail
           go_ret
           have ED:stepD ⟨n,now,firm,ws,st,fail,cut,false⟩=(0,⟨n,now,firm,ws,st+1,fail-1,cut,false⟩):=by unfold stepD;simp[e1,e2,e3,e4]
           rw[ED]
           have FF:=((fr_setD w d 3 (.int .u64 ((st:Int)+1))).trW (fr_setD _ d 4 (.int .i64 ((fail:Int)-1))))
           exact⟨rfl,HB.out.upd FF (by have:=XL.out;have e:((fail-1:Nat):Int)=(fail:Int)-1:=(by omega);simp only[DvS.cells,e];exact this) rfl rfl rfl,FF⟩
end
theorem below_grownR {B:Nat} {a b c:World} {r:Option Nat} (h:Below B a b) (k:b.grownBy c r) (hr:∀g,r=some g→B≤g) (hs:B≤b.heap.size):Below B a c:=h.trans ⟨k.os,k.tape,k.output,k.size,fun i hi=>k.block i (by omega) (fun e=>by have:=hr i e.symm;omega)⟩
abbrev RnL:=List (Nat×Nat)
def runVs:RnL→List Value
 | []=>[]
 | r::l=>.int .u32 (r.1:Int) :: .int .u32 (r.2:Int)::runVs l
theorem runVs_len:∀l,(runVs l).length=l.length*2
 | []=>rfl
 | r::l=>by simp only[runVs,List.length_cons,runVs_len l];omega
theorem runVs_app:∀a b,runVs (a++b)=runVs a++runVs b
 | [],b=>rfl
 | r::l,b=>by simp[runVs,runVs_app l b]
theorem runVs_at:∀(l:RnL) (i:Nat) (r:Nat×Nat),l[i]? = some r→(runVs l)[i*2]? = some (.int .u32 (r.1:Int))∧(runVs l)[i*2+1]? = some (.int .u32 (r.2:Int))
 | [],i,r,h=>by simp at h
 | t::l,0,r,h=>by
   simp only[List.getElem?_cons_zero,Option.some.injEq] at h
   subst h
   exact⟨rfl,rfl⟩
 | t::l,i+1,r,h=>by
   have:=runVs_at l i r (by simpa using h)
   rw[show (i+1)*2=i*2+1+1 by omega]
   simpa[runVs] using this
theorem runVs_take:∀(l:RnL) (m:Nat),(runVs l).take (m*2)=runVs (l.take m)
 | [],m=>by simp[runVs]
 | r::l,0=>by simp[runVs]
 | r::l,m+1=>by
   rw[show (m+1)*2=m*2+1+1 by omega]
   simp[runVs,runVs_take l m]
theorem runVs_drop:∀(l:RnL) (m:Nat),(runVs l).drop (m*2)=runVs (l.drop m)
 | [],m=>by simp[runVs]
 | r::l,0=>by simp[runVs]
 | r::l,m+1=>by
   rw[show (m+1)*2=m*2+1+1 by omega]
   simp[runVs,runVs_drop l m]
theorem runVs_one (l:RnL):∀u∈runVs l,u.oneCell'=true:=by
 induction l with
 | nil=>intro u hu;cases hu
 | cons r l ih=>
   intro u hu
   simp only[runVs,List.mem_cons] at hu
   rcases hu with rfl | rfl | hu
   · rfl
   · rfl
   · exact ih u hu
theorem addr_zero (x:Addr):x.add 0=x:=by
 have h:=add_zero' (some x)
 simpa using h
structure RnB (w:World) (A:Option Addr) (n c:Nat) (l:RnL):Prop where
 len:l.length=n
 cap:n≤c
 max:c≤maxLen
 cel:0<n→∃x,A=some x∧x.block<w.heap.size∧∀(j:Nat) (u:Value),(runVs l)[j]? = some u→w.cell? (x.add j)=some u
 nil:A=none→c=0
section
variable {w w':World} {A:Option Addr} {n c:Nat} {l:RnL}
theorem RnB.ab (h:RnB w A n c l) (hb:Below w.heap.size w w'):RnB w' A n c l:=
 ⟨h.len,h.cap,h.max,fun h0=>by
  obtain⟨x,h1,h2,h3⟩:=h.cel h0
  exact⟨x,h1,Nat.lt_of_lt_of_le h2 hb.size,fun j u hu=>by rw[←h3 j u hu];exact World.cell?_of_block (hb.block _ (by rw[add_block];exact h2))⟩,h.nil⟩
theorem RnB.fr {F:Nat→Prop} (h:RnB w A n c l) (hf:Fr w w' F) (hn:∀x,A=some x→¬F x.block):RnB w' A n c l:=
 ⟨h.len,h.cap,h.max,fun h0=>by
  obtain⟨x,h1,h2,h3⟩:=h.cel h0
  exact⟨x,h1,Nat.lt_of_lt_of_le h2 hf.size,fun j u hu=>by rw[←h3 j u hu];exact World.cell?_of_block (hf.block _ (by rw[add_block];exact h2) (by rw[add_block];exact hn x h1))⟩,h.nil⟩
def dropR2 (A:Option Addr) (c m:Nat):Option Addr:=if c=m then A else A.map (·.add (m*2))
theorem RnB.drop (h:RnB w A n c l) {m:Nat} (hm:m≤n):RnB w (dropR2 A c m) (n-m) (c-m) (l.drop m):=by
 have hc:=h.cap
 refine⟨by have:=h.len;rw[List.length_drop];omega,by omega,by have:=h.max;omega,fun h0=>?_,fun hA=>?_⟩
 · obtain⟨x,rfl,h2,h3⟩:=h.cel (by omega)
   unfold dropR2
   rw[if_neg (by omega)]
   refine⟨x.add (m*2),rfl,by rw[add_block];exact h2,fun j u hu=>?_⟩
   rw[←runVs_drop,List.getElem?_drop] at hu
   rw[Go.Deep.add_add]
   exact h3 _ _ hu
 · unfold dropR2 at hA
   split at hA
   · omega
   · cases A with
     | none=>have:=h.nil rfl;omega
     | some x=>cases hA
theorem RnB.nilB (w:World):RnB w none 0 0 []:=⟨rfl,Nat.le_refl _,Nat.zero_le _,fun h=>absurd h (Nat.lt_irrefl 0),fun _=>rfl⟩
theorem RnB.at (h:RnB w A n c l) {i:Nat} {r:Nat×Nat} (hr:l[i]? = some r):∃x,A=some x∧x.block<w.heap.size∧∀W,Below w.heap.size w W→W.cell? (x.add (i*2))=some (.int .u32 (r.1:Int))∧W.cell? ⟨(x.add (i*2)).block,(x.add (i*2)).off+1,none⟩=some (.int .u32 (r.2:Int)):=by
 have hi:=(List.getElem?_eq_some_iff.1 hr).1
 have hlen:=h.len
 obtain⟨x,h1,h2,_⟩:=h.cel (by omega)
 refine⟨x,h1,h2,fun W hW=>?_⟩
 obtain⟨x',h1',_,h3⟩:=(h.ab hW).cel (by omega)
 rw[h1] at h1'
 injection h1' with h1'
 subst h1'
 obtain⟨a,b⟩:=runVs_at l i r hr
 refine⟨h3 _ _ a,?_⟩
 have:=h3 _ _ b
 rw[←Go.Deep.add_add] at this
 exact this
end
def RuB (w:World) (B:Nat) (v:Value) (l:RnL):Prop:=w.ownsRow B 118 2 v l.length (runVs l)
theorem RuB.rn {w:World} {B:Nat} {v:Value} {l:RnL} (h:RuB w B v l):∃A c,v = .slice A l.length c∧RnB w A l.length c l∧(∀x,A=some x→B≤x.block∧v.ownBlock=some x.block):=by
 rcases h.2 with ⟨rfl,h0⟩ | ⟨g,cap,cur,rfl,hg,hh,hnc,hcm,hcs,htk⟩
 · have hl:l=[]:=List.eq_nil_of_length_eq_zero h0
   subst hl
   exact⟨none,0,rfl,RnB.nilB w,fun x hx=>by cases hx⟩
 · refine⟨_,cap,rfl,⟨rfl,hnc,hcm,fun _=>⟨_,rfl,(Array.getElem?_eq_some_iff.1 hh).1,fun j u hu=>World.ownsRow.cells h (g:=g) rfl j u hu⟩,fun hx=>(by cases hx)⟩,fun x hx=>?_⟩
   injection hx with hx
   subst hx
   exact⟨hg,rfl⟩
theorem RuB.ab {w w':World} {B:Nat} {v:Value} {l:RnL} (h:RuB w B v l) (hb:Below w.heap.size w w'):RuB w' B v l:=World.ownsRow.kept (row:=none) h (grown_of hb none) (by cases hv:v.ownBlock <;> simp)
theorem RuB.nil (w:World) (B:Nat):RuB w B (.slice none 0 0) []:=World.ownsRow_nil _ _ _ _
theorem RuB.lower {w:World} {B B':Nat} {v:Value} {l:RnL} (h:RuB w B v l) (hB:B'≤B):RuB w B' v l:=row_low h hB
theorem infoRun:(Tryz.prog.info? 118).map (fun i=>(i.zero,i.size,i.bytes))=some (some (.agg #[.int .u32 0,.int .u32 0]),2,8):=by kernel_rfl
theorem runR_elem:Tryz.prog.underlying 70=some (.slice (Tryz.prog.elem 70)):=by kernel_rfl
theorem runR_size (W:World):(sizeOf (Tryz.prog.elem 70)).run Tryz.prog W = .ok 2 W:=by
 have h:(Tryz.prog.info? (Tryz.prog.elem 70)).map (·.size)=some 2:=by kernel_rfl
 cases hq:Tryz.prog.info? (Tryz.prog.elem 70) with
 | none=>rw[hq] at h;cases h
 | some i=>rw[hq] at h;simp only[Option.map_some,Option.some.injEq] at h;simp[sizeOf,typeInfo,hq,h]
set_option maxRecDepth 100000 in
theorem sl_fromR (W:World) (A:Option Addr) (n c m:Nat) (hm:m≤n):(Instr.sliceAt 70 (.slice A n c) (some (.int .i64 (m:Int))) none none).run Tryz.prog W = .ok (.slice (dropR2 A c m) (n-m) (c-m)) W:=by
 rw[run_sliceAt_slice W _ _ _ _ _ runR_elem,run_slice_l W _ _ _ _ runR_elem .i64 (m:Int) (by omega) (by omega),runR_size]
 simp only[Result.andThen_ok,sliced,Int.toNat_natCast]
 unfold dropR2
 rfl
set_option maxRecDepth 100000 in
theorem wpList_appR {rest:List Oper} {ops:Array Oper} {o:Oper} {a:Act} {w:World} {Q:Exit→Act→World→Prop} (hgd:o.guard=none) (s x:Operand)
 (ho:o.op = .call { callee:=.builtin .append,args:=#[s,x],argTypes:=#[70,70] })
 {B:Nat} {v:Value} {l m:RnL} (hown:RuB w B v l) (hs:a.eval s=v) {A:Option Addr} {n c:Nat} (hx:a.eval x = .slice A n c) (hr:RnB w A n c m) (hl:l.length+n≤1000000) (hB:B≤w.heap.size)
 (h:∀v' w',RuB w' B v' (l++m)→w.grownBy w' v.ownBlock→wpList Tryz.prog ops Q rest (a.put o.dst v') w'):wpList Tryz.prog ops Q (o::rest) a w:=by
 obtain⟨i0,hi0,hz0,hz1,hz2⟩:=info_parts infoRun
 have hlen:=hr.len
 have hap:∃v' w',(Builtin.append_ #[70,70] o.type #[v,.slice A n c]).run Tryz.prog w = .ok v' w'∧RuB w' B v' (l++m)∧w.grownBy w' v.ownBlock:=by
  cases A with
  | none=>
    have hc:=hr.nil rfl
    have hcap:=hr.cap
    have hn0:n=0:=by omega
    have hm0:m=[]:=List.eq_nil_of_length_eq_zero (by omega)
    subst hc hn0 hm0
    exact⟨v,w,run_append_owned_none (P:=Tryz.prog) w B 70 o.type 118 i0 2 Tryz.underlying70 hi0 v _ _ hown,by simpa using hown,World.grownBy.refl w _⟩
  | some y=>
    have hcells:∀j u,(runVs m)[j]? = some u→w.cell? (y.add j)=some u:=fun j u hu=>by
     have hj:=(List.getElem?_eq_some_iff.1 hu).1
     rw[runVs_len] at hj
     obtain⟨x,h1,_,h3⟩:=hr.cel (by omega)
     injection h1 with h1
     subst h1
     exact h3 j u hu
    obtain⟨v1,W1,hrun,r1,r2,_⟩:=run_append_own_at (P:=Tryz.prog) w B 70 o.type 118 i0 _ 2 8 Tryz.underlying70 hi0 hz0 hz1 hz2 rfl (by decide) v l.length (runVs l) hown y n c (runVs m) (by rw[runVs_len,hlen]) hcells (runVs_one m) (by simp only[maxLen];omega) (by omega) hB
    refine⟨v1,W1,hrun,?_,r2⟩
    unfold RuB
    rw[runVs_app,List.length_append,hlen]
    exact r1
 obtain⟨v',w',hrun,h1,h2⟩:=hap
 refine wpList_plain hgd fun K hK=>?_
 unfold Oper.wp execOp
 simp only[ho,resolve,invoke,builtin,Sem.run_bind,Sem.run_pure,Result.andThen_ok,List.map_toArray,List.map_cons,List.map_nil,hs,hx,hrun]
 exact hK _ _ (h v' w' h1 h2)
set_option maxRecDepth 100000 in
theorem RuB.one (w:World) (a b:Nat):RuB (w.alloc (.cells #[.int .u32 (a:Int),.int .u32 (b:Int)] 118)) w.heap.size (.slice (some ⟨w.heap.size,0,none⟩) 1 1) [(a,b)]:=by
 refine⟨by simp[runVs],.inr ⟨w.heap.size,1,#[.int .u32 (a:Int),.int .u32 (b:Int)],rfl,Nat.le_refl _,heap_alloc_new w _,Nat.le_refl _,by decide,rfl,rfl⟩⟩
def mkR (a b:Nat):RnL:=if a<b then [(a,b)] else []
def rightI (l:RnL) (i:Nat):Bool:=decide ((l.getD i (0,0)).1<(l.getD i (0,0)).2)&&(decide (i=0)||decide ((l.getD (i-1) (0,0)).2<(l.getD i (0,0)).1))
def rightR (l:RnL):Bool:=(List.range l.length).all (rightI l)
def placeR (l:RnL) (p:Nat):Nat:=l.findIdx fun r=>decide (p<r.2)
set_option maxRecDepth 100000 in
theorem make_any (a b:Nat) (w:World):Calls Tryz.prog 132 #[.int .u32 (a:Int),.int .u32 (b:Int)] w fun e w'=>∃v,e = .returned v∧RuB w' w.heap.size v (mkR a b)∧Below w.heap.size w w':=by
 unfold mkR
 by_cases h:a<b
 · have h1:¬(b:Int)≤(a:Int):=by omega
   rw[if_pos h]
   clear h
   go_enter Tryz.func132,Tryz.ntmps132
   go_wp2_with fail
   go_ret
   exact⟨_,rfl,RuB.one w a b,(Below.refl _ _).alloc (Nat.le_refl _) _⟩
 · have h1:(b:Int)≤(a:Int):=by omega
   rw[if_neg h]
   clear h
   go_enter Tryz.func132,Tryz.ntmps132
   go_wp2_with fail
   go_ret
   exact⟨_,rfl,RuB.nil w _,Below.refl _ _⟩
theorem all_snoc {l:RnL} {i:Nat} (h:(List.range i).all (rightI l)=true) (h2:rightI l i=true):(List.range (i+1)).all (rightI l)=true:=by
 rw[List.range_succ,List.all_append,h]
 simp[h2]
theorem all_not {l:RnL} {i:Nat} (hi:i<l.length) (h2:rightI l i=false):rightR l=false:=by
 unfold rightR
 rw[List.all_eq_false]
 exact⟨i,List.mem_range.2 hi,by rw[h2];decide⟩
set_option maxRecDepth 100000 in
theorem right_any' (A:Option Addr) (n c:Nat) (l:RnL) (w:World) (h:RnB w A n c l):
 Calls Tryz.prog 97 #[.slice A n c] w fun e w'=>e = .returned (.bool (rightR l))∧Below w.heap.size w w':=by
 have hn:(n:Int)≤9223372036854775807:=by have:=h.cap;have:=h.max;unfold maxLen at this;omega
 have HR:=Lib.hid h
 clear h
 go_enter Tryz.func97,Tryz.ntmps97
 go_wp2_with fail
 go_loopw [7] (fun z wx=>∃i:Nat,i≤n∧z = .int .i64 (i:Int)∧(List.range i).all (rightI l)=true∧Below w.heap.size w wx) (fun z _=>n-(intOf z).toNat)
 case atStart=>exact⟨0,Nat.zero_le _,rfl,rfl,Below.refl _ _⟩
 case round=>
  obtain⟨i,hi,rfl,hal,hb⟩:=hrel
  have HB:=Lib.hid hb
  have HA:=Lib.hid hal
  clear hb hal
  by_cases hlt:i<n
  · obtain⟨r,hr⟩:∃r,l[i]? = some r:=⟨_,List.getElem?_eq_getElem (by rw[HR.out.len];exact hlt)⟩
    obtain⟨x,rfl,hxl,hcel⟩:=HR.out.at hr
    have hlti:(i:Int)<(n:Int):=by omega
    have HLT:=Lib.hid hlt
    have HL:Hid (i<l.length):=Lib.hid (by rw[HR.out.len];exact hlt)
    have hgd:l.getD i (0,0)=r:=by rw[List.getD_eq_getElem?_getD,hr];rfl
    have KC:=Lib.hid hcel
    have BA:Hid (Below w.heap.size w (wr.alloc (.cells #[.int .u32 (r.1:Int),.int .u32 (r.2:Int)] 118))):=Lib.hid (HB.out.alloc HB.out.size _)
    have hq:rightI l i=(decide (r.1<r.2)&&(decide (i=0)||decide ((l.getD (i-1) (0,0)).2<r.1))):=by unfold rightI;rw[hgd]
    have HQ:=Lib.hid hq
    have HRI:=Lib.hid hr
    have r0:wr.cell? (x.add (i*2))=some (.int .u32 (r.1:Int)):=(KC.out _ HB.out).1
    have r1:wr.cell? ⟨(x.add (i*2)).block,(x.add (i*2)).off+1,none⟩=some (.int .u32 (r.2:Int)):=(KC.out _ HB.out).2
    clear hlt hi hr hxl hcel hgd hq
    by_cases h1:r.1<r.2
    · have e1:decide (r.2≤r.1)=false:=decide_eq_false (by omega)
      have E1:=Lib.hid h1
      clear h1
      by_cases h0:i=0
      · subst h0
        simp only[Nat.zero_mul,addr_zero] at r0 r1
        have hs:Hid ((List.range (0+1)).all (rightI l)=true):=Lib.hid (all_snoc HA.out (by rw[HQ.out];simp[E1.out]))
        go_wp2_with fail
        go_quiet (fail)
        go_wp2_with fail
        go_roundw
        case rel=>exact⟨0+1,HLT.out,by go_num,hs.out,below_dn BA.out _⟩
        case measure=>simp[intOf];have:=HLT.out;omega
      · obtain⟨j,rfl⟩:∃j,i=j+1:=⟨i-1,by omega⟩
        have hi0:(0:Int)<(j:Int)+1:=by omega
        have hi1:decide ((0:Int)<(j:Int)+1)=true:=decide_eq_true hi0
        have hsub:(j:Int)+1-1=(j:Int):=by omega
        have hjw:IntKind.i64.wrap (j:Int)=(j:Int):=by rw[IntWalk.i64_in _ (by omega)]
        have hjn:(j:Int)<(n:Int):=by omega
        obtain⟨q,hq⟩:∃q,l[j]? = some q:=⟨_,List.getElem?_eq_getElem (by have:=HL.out;omega)⟩
        obtain⟨x',hx',_,hcq⟩:=HR.out.at hq
        injection hx' with hx'
        subst hx'
        have hg2:l.getD j (0,0)=q:=by rw[List.getD_eq_getElem?_getD,hq];rfl
        have HQ2:Hid (rightI l (j+1)=decide (q.2<r.1)):=Lib.hid (by rw[HQ.out,Nat.add_sub_cancel,hg2];simp[E1.out])
        have q1:(wr.alloc (.cells #[.int .u32 (r.1:Int),.int .u32 (r.2:Int)] 118)).cell? ⟨(x.add (j*2)).block,(x.add (j*2)).off+1,none⟩=some (.int .u32 (q.2:Int)):=(hcq _ BA.out).2
        clear h0 hq hcq hg2
        by_cases h2:q.2<r.1
        · have e2:decide (r.1≤q.2)=false:=decide_eq_false (by omega)
          have hs:Hid ((List.range (j+1+1)).all (rightI l)=true):=Lib.hid (all_snoc HA.out (by rw[HQ2.out];simp[h2]))
          clear h2
          go_wp2_with fail
          go_quiet (fail)
          go_wp2_with fail
          go_roundw
          case rel=>exact⟨j+1+1,HLT.out,by go_num,hs.out,below_dn BA.out _⟩
          case measure=>simp[intOf];have:=HLT.out;omega
        · have e2:decide (r.1≤q.2)=true:=decide_eq_true (by omega)
          have hs:Hid (rightR l=false):=Lib.hid (all_not HL.out (by rw[HQ2.out];simp[h2]))
          clear h2
          go_wp2_with fail
          go_quiet (fail)
          go_wp2_with fail
          go_ret
          exact⟨by rw[hs.out];rfl,below_dn BA.out _⟩
    · have e1:decide (r.2≤r.1)=true:=decide_eq_true (by omega)
      have hs:Hid (rightR l=false):=Lib.hid (all_not HL.out (by rw[HQ.out];simp[h1]))
      clear h1
      go_wp2_with fail
      go_quiet (fail)
      go_wp2_with fail
      go_ret
      exact⟨by rw[hs.out];rfl,below_dn BA.out _⟩
  · obtain rfl:i=n:=by omega
    have hs:Hid (rightR l=true):=Lib.hid (by unfold rightR;rw[HR.out.len];exact HA.out)
    clear hlt hi
    go_wp2_with fail
    go_ret
    exact⟨by rw[hs.out];rfl,HB.out⟩
set_option maxRecDepth 100000 in
theorem place_any (A:Option Addr) (n c p:Nat) (l:RnL) (w:World) (h:RnB w A n c l):
 Calls Tryz.prog 162 #[.slice A n c,.int .u32 (p:Int)] w fun e w'=>e = .returned (.int .i64 (placeR l p:Int))∧Below w.heap.size w w':=by
 have hn:(n:Int)≤9223372036854775807:=by have:=h.cap;have:=h.max;unfold maxLen at this;omega
 have HR:=Lib.hid h
 clear h
 go_enter Tryz.func162,Tryz.ntmps162
 go_wp2_with fail
 go_loopw [9] (fun z wx=>∃i:Nat,i≤n∧z = .int .i64 (i:Int)∧(∀j r,j<i→l[j]? = some r→¬p<r.2)∧Below w.heap.size w wx) (fun z _=>n-(intOf z).toNat)
 case atStart=>exact⟨0,Nat.zero_le _,rfl,fun j r hj=>absurd hj (Nat.not_lt_zero j),Below.refl _ _⟩
 case round=>
  obtain⟨i,hi,rfl,hal,hb⟩:=hrel
  have HB:=Lib.hid hb
  have HA:=Lib.hid hal
  clear hb hal
  by_cases hlt:i<n
  · obtain⟨r,hr⟩:∃r,l[i]? = some r:=⟨_,List.getElem?_eq_getElem (by rw[HR.out.len];exact hlt)⟩
    obtain⟨x,rfl,hxl,hcel⟩:=HR.out.at hr
    have hlti:(i:Int)<(n:Int):=by omega
    have HLT:=Lib.hid hlt
    have HRI:=Lib.hid hr
    have BA:Hid (Below w.heap.size w (wr.alloc (.cells #[.int .u32 (r.1:Int),.int .u32 (r.2:Int)] 118))):=Lib.hid (HB.out.alloc HB.out.size _)
    have r0:wr.cell? (x.add (i*2))=some (.int .u32 (r.1:Int)):=(hcel _ HB.out).1
    have r1:wr.cell? ⟨(x.add (i*2)).block,(x.add (i*2)).off+1,none⟩=some (.int .u32 (r.2:Int)):=(hcel _ HB.out).2
    clear hlt hi hr hxl hcel
    by_cases h1:p<r.2
    · have e1:(p:Int)<(r.2:Int):=by omega
      have hs:Hid (placeR l p=i):=Lib.hid (by
       have hil:=(List.getElem?_eq_some_iff.1 HRI.out).1
       have hie:=(List.getElem?_eq_some_iff.1 HRI.out).2
       unfold placeR
       rw[List.findIdx_eq hil]
       refine⟨by rw[hie];exact decide_eq_true h1,fun j hj=>?_⟩
       exact decide_eq_false (HA.out j _ hj (List.getElem?_eq_getElem (by omega))))
      clear h1
      go_wp2_with fail
      go_ret
      exact⟨by rw[hs.out];rfl,BA.out⟩
    · have e1:¬(p:Int)<(r.2:Int):=by omega
      have hs:Hid (∀j r,j<i+1→l[j]? = some r→¬p<r.2):=Lib.hid fun j r' hj hr'=>by
       by_cases hji:j=i
       · subst hji
         rw[HRI.out] at hr'
         injection hr' with hr'
         subst hr'
         exact h1
       · exact HA.out j r' (by omega) hr'
      clear h1
      go_wp2_with fail
      go_roundw
      case rel=>exact⟨i+1,HLT.out,by go_num,hs.out,BA.out⟩
      case measure=>simp[intOf];have:=HLT.out;omega
  · obtain rfl:i=n:=by omega
    have hs:Hid (placeR l p=i):=Lib.hid (by
     unfold placeR
     rw[←HR.out.len]
     refine List.findIdx_eq_length.2 fun r hr=>?_
     obtain⟨j,hj,he⟩:=List.getElem_of_mem hr
     exact decide_eq_false (HA.out j r (by have:=HR.out.len;omega) (by rw[List.getElem?_eq_getElem hj,he])))
    clear hlt hi
    go_wp2_with fail
    go_ret
    exact⟨by rw[hs.out];rfl,HB.out⟩
def hasR (l:RnL) (p:Nat):Bool:=decide (placeR l p<l.length)&&decide ((l.getD (placeR l p) (0,0)).1≤p)
theorem placeR_le (l:RnL) (p:Nat):placeR l p≤l.length:=List.findIdx_le_length
set_option maxRecDepth 100000 in
theorem has_any' (A:Option Addr) (n c p:Nat) (l:RnL) (w:World) (h:RnB w A n c l) (hr:rightR l=true):
 Calls Tryz.prog 129 #[.slice A n c,.int .u32 (p:Int)] w fun e w'=>e = .returned (.tuple #[.bool (hasR l p),.int .i64 0])∧Below w.heap.size w w':=by
 have HL:=Lib.hid h.len
 have H0:=Lib.hid h
 have H1:=Lib.hid (right_any' A n c l w h)
 rw[hr] at H1
 have H2:=Lib.hid fun W hW=>place_any A n c p l W hW
 have hple:=placeR_le l p
 have hd:Hid (hasR l p=(decide (placeR l p<n)&&decide ((l.getD (placeR l p) (0,0)).1≤p))):=Lib.hid (by unfold hasR;rw[h.len])
 have hget:placeR l p<n→∃r,l[placeR l p]? = some r∧l.getD (placeR l p) (0,0)=r:=fun hlt=>by
  obtain⟨r,hr⟩:∃r,l[placeR l p]? = some r:=⟨_,List.getElem?_eq_getElem (by rw[HL.out];exact hlt)⟩
  exact⟨r,hr,by rw[List.getD_eq_getElem?_getD,hr];rfl⟩
 generalize placeR l p=i at *
 rw[HL.out] at hple
 by_cases hlt:i<n
 · obtain⟨r,hri,hgd⟩:=hget hlt
   rw[hgd,decide_eq_true hlt,Bool.true_and] at hd
   obtain⟨x,rfl,hxl,hcel⟩:=h.at hri
   have KC:=Lib.hid hcel
   have hlti:(i:Int)<(n:Int):=by omega
   have HD:=hd
   clear h hr hple hget hgd hri hlt hcel hxl
   go_enter Tryz.func129,Tryz.ntmps129
   go_wp2_with fail
   refine H1.out.mono ?_
   rintro e w1 ⟨rfl,hb1⟩
   have B1:=Lib.hid hb1
   clear hb1
   go_wp2_with fail
   refine (H2.out _ (H0.out.ab B1.out)).mono ?_
   rintro e w2 ⟨rfl,hb2⟩
   have B2:=Lib.hid (below_tr B1.out hb2 B1.out.size)
   clear hb2 H1 H2
   have r0:=(KC.out _ B2.out).1
   go_wp2_with fail
   go_ret2
   exact⟨by rw[HD.out];simp,B2.out⟩
 · obtain rfl:i=n:=by omega
   have HD:Hid (hasR l p=false):=Lib.hid (by rw[hd.out];simp)
   clear h hr hple hget hd hlt
   go_enter Tryz.func129,Tryz.ntmps129
   go_wp2_with fail
   refine H1.out.mono ?_
   rintro e w1 ⟨rfl,hb1⟩
   have B1:=Lib.hid hb1
   clear hb1
   go_wp2_with fail
   refine (H2.out _ (H0.out.ab B1.out)).mono ?_
   rintro e w2 ⟨rfl,hb2⟩
   have B2:=Lib.hid (below_tr B1.out hb2 B1.out.size)
   clear hb2 H1 H2
   go_wp2_with fail
   go_ret2
   exact⟨by rw[HD.out];rfl,B2.out⟩
theorem mkR_le (a b:Nat):(mkR a b).length≤1:=by unfold mkR;split <;> simp
def Rgt (l:RnL):Prop:=l.Pairwise (fun r s=>r.2<s.1)∧∀r∈l,r.1<r.2
theorem Rgt.right {l:RnL} (h:Rgt l):rightR l=true:=by
 unfold rightR
 rw[List.all_eq_true]
 intro i hi
 rw[List.mem_range] at hi
 unfold rightI
 have hg:∀j (hj:j<l.length),l.getD j (0,0)=l[j]:=fun j hj=>by rw[List.getD_eq_getElem?_getD,List.getElem?_eq_getElem hj];rfl
 rw[hg i hi,Bool.and_eq_true]
 refine⟨decide_eq_true (h.2 _ (List.getElem_mem hi)),?_⟩
 by_cases h0:i=0
 · simp[h0]
 · rw[hg (i-1) (by omega),Bool.or_eq_true]
   exact .inr (decide_eq_true (List.pairwise_iff_getElem.1 h.1 (i-1) i (by omega) hi (by omega)))
theorem Rgt.nil:Rgt []:=⟨List.Pairwise.nil,fun r hr=>by cases hr⟩
theorem Rgt.mk (a b:Nat):Rgt (mkR a b):=by
 unfold mkR
 split
 · exact⟨List.pairwise_singleton _ _,fun r hr=>by rw[List.mem_singleton] at hr;subst hr;assumption⟩
 · exact Rgt.nil
theorem mkR_mem {a b:Nat} {r:Nat×Nat} (h:r∈mkR a b):r=(a,b)∧a<b:=by
 unfold mkR at h
 split at h
 · rw[List.mem_singleton] at h
   exact⟨h,by assumption⟩
 · cases h
open Go.RowKit Go.ChangeShapes
section
variable {H:Type} {enc:TypeId×Value→H} {P:Program} {W:World}
theorem isB_trod {t e:TypeId} {fuel:Nat} {cs:List Value} {x:DataW H×List MemPlace} (ht:P.underlying t=some (.slice e)) (he:P.underlying e=some (.int .u8)) (hc:P.cellsOf e=1)
 (h:DataW.trod enc P W 0 (fun _=>true) true fuel t cs=some x) (hlt:∀q∈x.2,q.block<W.heap.size):∃A n c l,cs=[.slice A n c]∧IsB W A n c l:=by
 rcases open_ints ht he hc h with ⟨rfl,rfl⟩ | ⟨a,len,cap,zs,rfl,_,hl,hm,hz,rfl,hcell,hwz⟩
 · exact⟨none,0,0,[],rfl,⟨rfl,Nat.le_refl _,Nat.zero_le _,fun z hz=>by simp at hz,.inl ⟨rfl,rfl⟩⟩,fun x hx=>by cases hx⟩
 · have hz':zs.length=cap:=by simpa using hz
   have hrow:IsRow .u8 W (some a) len cap (zs.take len):=⟨by simp[hz'];omega,hl,hm,fun z hzm=>hwz z (List.mem_of_mem_take hzm),.inr ⟨a,rfl,fun h0=>by
    have h1:MemPlace.cell a.block a.off∈MemPlace.row a zs.length:=by
     rw[hz']
     exact List.mem_map.2 ⟨0,List.mem_range.2 h0,by simp⟩
    exact hlt _ h1,fun i hi=>by
     rw[hcell i (by omega)]
     simp[List.getD_eq_getElem?_getD,hi]⟩⟩
   obtain⟨l,e,hb⟩:=byt_of_row hrow
   rw[e] at hrow
   exact⟨some a,len,cap,l,rfl,hrow,hb⟩
end
end Go.Proofs.YtlobgddnlnffbaaGreat
