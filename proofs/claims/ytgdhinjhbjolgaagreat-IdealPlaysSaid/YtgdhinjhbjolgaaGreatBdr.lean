/-
  Parts of the proof, joined.
-/
import Derived.Test.YtgdhinjhbjolgaaGreatBdn
import Derived.Test.YtgdhinjhbjolgaaGreatBdo
import Derived.Test.YtgdhinjhbjolgaaGreatBdp
import Derived.Test.YtgdhinjhbjolgaaGreatBdq
import Derived.Test.YtgdhinjhbjolgaaGreatBda
import Derived.ChangeSame
import Derived.ChangeSlices
import Derived.Deep.Slices
import Derived.OpenShut
import Derived.Test.YtgdhinjhbjolgaaGreatBdl
namespace Go.Proofs.YtgdhinjhbjolgaaGreat
set_option maxHeartbeats 4000000
open Go.RowKit
set_option linter.unusedVariables false
set_option linter.unusedSimpArgs false
def fndT (T:List TnP) (n:Nat):Option TnP:=T.find? fun t=>decide (t.n=n)
theorem fndT_of:∀{T:List TnP} {t:TnP},(T.map (·.n)).Nodup→t∈T→fndT T t.n=some t
 | p :: r,t,hn,hx=>by
   rw[List.map_cons,List.nodup_cons] at hn
   unfold fndT
   rcases List.mem_cons.1 hx with rfl | h'
   · simp
   · have hne:p.n≠t.n:=fun e1=>hn.1 (by rw[e1];exact List.mem_map.2 ⟨_,h',rfl⟩)
     rw[List.find?_cons_of_neg (by simpa using hne)]
     exact fndT_of hn.2 h'
theorem fndT_mem {T:List TnP} {n:Nat} {t:TnP} (h:fndT T n=some t):t∈T∧t.n=n:=⟨List.mem_of_find?_eq_some h,by simpa using List.find?_some h⟩
def turP (t:TnP) (_:CallP):AnsP×TnP:=match t.tu with | true=>(errA 263,t) | false=>(errA 0,setTu t true)
def stpP (t:TnP) (c:CallP):AnsP×TnP:=match decide (c.n<1),decide ((100:Int)<c.n),t.tu with | true,_,_=>(errA 2,t) | false,true,_=>(errA 2,t) | false,false,false=>(errA 264,t) | false,false,true=>(errA 0,t)
def finP (t:TnP) (_:CallP):AnsP×TnP:=match t.tu,decide (liveC t.sn=[]) with | false,_=>(errA 264,t) | true,false=>(errA 263,t) | true,true=>(errA 0,setTu t false)
def attP (t:TnP) (c:CallP):AnsP×TnP:=match decide (c.sec.l=t.sec),decide (64≤(aliveH t.A).length) with | false,_=>(errA 260,t) | true,true=>(errA 9,attT t) | true,false=>(hdA (c.ten*4294967296+(t.A.length+1)),attT t)
def givP (t:TnP) (c:CallP):AnsP×TnP:=match (giveH t.A (c.hd%4294967296) c.rt).1 with | (g,0)=>(hdA (c.hd/4294967296*4294967296+g),setA t (giveH t.A (c.hd%4294967296) c.rt).2) | (_,er+1)=>(errA ((er+1:Nat):Int),setA t (giveH t.A (c.hd%4294967296) c.rt).2)
def revP (t:TnP) (c:CallP):AnsP×TnP:=match decide (c.oth/4294967296=c.hd/4294967296) with | false=>(errA 7,t) | true=>(errA ((revokeH t.A (c.hd%4294967296) (c.oth%4294967296)).1:Int),setA t (revokeH t.A (c.hd%4294967296) (c.oth%4294967296)).2)
def batP (t:TnP) (c:CallP):AnsP×TnP:=match decide (100<c.oN),c.ops.all opOk with | true,_=>(errA 2,t) | false,false=>(errA 2,t) | false,true=>(batA t c.ops,batQ t c.ops)
def getP (t:TnP) (c:CallP):AnsP×TnP:=match decide (c.key.n=0),decide (32<c.key.n),seenP t c.sn with
 | true,_,_=>(errA 2,t)
 | false,true,_=>(errA 2,t)
 | false,false,none=>(errA 262,t)
 | false,false,some S=>match getK (k8 c.key.l) S with | none=>(errA 7,t) | some u=>(valA u,t)
def scnP (t:TnP) (c:CallP):AnsP×TnP:=match decide (c.n<0),decide ((100:Int)<c.n),seenP t c.sn with
 | true,_,_=>(errA 2,t)
 | false,true,_=>(errA 2,t)
 | false,false,none=>(errA 262,t)
 | false,false,some S=>(prsA (prsK S (scanK c S)),t)
def snpP (t:TnP) (_:CallP):AnsP×TnP:=(snapA t,snapQ t)
def relP (t:TnP) (c:CallP):AnsP×TnP:=match snP t c.sn with | none=>(errA 262,t) | some _=>(errA 0,setSn t (relL t.sn c.sn))
def useP (t:TnP) (_:CallP):AnsP×TnP:=(cntA (chg t.now+sumS (liveC t.sn)),t)
def tenC1 (T:List TnP) (c:CallP) (f:TnP→CallP→AnsP×TnP):AnsP×List TnP:=match fndT T c.ten with | none=>(errA 7,T) | some t=>((f t c).1,updT c.ten (f t c).2 T)
def tenH1 (T:List TnP) (c:CallP) (nd:Nat) (f:TnP→CallP→AnsP×TnP):AnsP×List TnP:=match fndT T (c.hd/4294967296) with
 | none=>(errA 7,T)
 | some t=>match checkH t.A (c.hd%4294967296) nd with | 0=>((f t c).1,updT (c.hd/4294967296) (f t c).2 T) | er+1=>(errA ((er+1:Nat):Int),T)
def creP (blocks:Nat) (T:List TnP) (c:CallP):AnsP×List TnP:=
 match ((c.ten:Int)==0),((c.sec.n:Int) != 16),decide (c.quota<1),decide ((1000:Int)<c.quota) with
 | true,_,_,_=>(errA 2,T)
 | false,true,_,_=>(errA 2,T)
 | false,false,true,_=>(errA 2,T)
 | false,false,false,true=>(errA 2,T)
 | false,false,false,false=>match fndT T c.ten with
   | some _=>(errA 8,T)
   | none=>(bif fitsQ blocks (c.quota::T.map fun t=>(t.q:Int)) then errA 0 else errA 9,bif fitsQ blocks (c.quota::T.map fun t=>(t.q:Int)) then T++[newT c] else T)
def remP (T:List TnP) (c:CallP):AnsP×List TnP:=match fndT T c.ten with | none=>(errA 7,T) | some _=>(errA 0,T.filter fun t=>!decide (t.n=c.ten))
def stepP (blocks:Nat) (T:List TnP) (c:CallP):AnsP×List TnP:=
 if c.kind=1 then creP blocks T c else if c.kind=2 then remP T c else if c.kind=3 then tenC1 T c turP else if c.kind=4 then tenC1 T c stpP else if c.kind=5 then tenC1 T c finP
 else if c.kind=6 then (errA 0,T) else if c.kind=7 then (lstA (U32.srt (T.map (·.n))),T) else if c.kind=8 then tenC1 T c attP else if c.kind=9 then tenH1 T c 0 givP else if c.kind=10 then tenH1 T c 0 revP
 else if c.kind=11 then tenH1 T c 2 batP else if c.kind=12 then tenH1 T c 1 getP else if c.kind=13 then tenH1 T c 1 scnP else if c.kind=14 then tenH1 T c 4 snpP else if c.kind=15 then tenH1 T c 4 relP
 else if c.kind=16 then tenH1 T c 1 useP else (errA 2,T)
structure LimK (k:Nat) (t:TnP):Prop where
 now:t.now.length≤100*k
 sn:t.sn.length≤k
 sns:∀p∈t.sn,p.1.length≤100*k
 A:t.A.length≤k
theorem LimK.lim {k:Nat} {t:TnP} (h:LimK k t) (hk:k≤800):LimT t:=⟨by have:=h.now;omega,fun p hp=>by have:=h.sns p hp;omega,by have:=h.sn;omega⟩
structure CallP.B (w:World) (c:CallP):Prop where
 ok:c.Ok
 sec:IsB w c.sec.A c.sec.n c.sec.c c.sec.l
 key:IsB w c.key.A c.key.n c.key.c c.key.l
 frm:IsB w c.frm.A c.frm.n c.frm.c c.frm.l
 upto:IsB w c.upto.A c.upto.n c.upto.c c.upto.l
 ops:OpsB w c.oA c.oN c.oC c.ops
theorem CallP.B.ab {w w':World} {c:CallP} (h:c.B w) (hb:Below w.heap.size w w'):c.B w':=⟨h.ok,h.sec.ab hb,h.key.ab hb,h.frm.ab hb,h.upto.ab hb,h.ops.ab hb⟩
section
variable {w:World} {O:Tg} {s blocks m:Nat} {T:List TnP} {bs:List (Nat×TnP)} {c:CallP}
theorem IdM.nodupT (h:IdM w O s blocks T m bs):(T.map (·.n)).Nodup:=by
 have h1:=(h.prm.map (·.n)).nodup_iff.1 (by rw[List.map_map];exact h.nodup)
 exact h1
theorem fnd_T (h:IdM w O s blocks T m bs) (n:Nat):fndT T n=(fnd bs n).map (·.2):=by
 cases hf:fnd bs n with
 | some x=>
   obtain⟨h1,h2⟩:=fnd_mem hf
   have:x.2∈T:=h.prm.mem_iff.1 (List.mem_map.2 ⟨x,h1,rfl⟩)
   rw[←h2]
   exact fndT_of h.nodupT this
 | none=>
   cases hg:fndT T n with
   | none=>rfl
   | some t=>
     obtain⟨h1,h2⟩:=fndT_mem hg
     obtain⟨x,hx,hxt⟩:=List.mem_map.1 (h.prm.mem_iff.2 h1)
     have:=fnd_of h.nodup hx
     rw[hxt,h2] at this
     rw[hf] at this
     cases this
theorem lim_of (h:IdM w O s blocks T m bs) (hl:∀t∈T,LimK 800 t) {n:Nat} {x:Nat×TnP} (hf:fnd bs n=some x):LimK 800 x.2:=hl _ (h.prm.mem_iff.1 (List.mem_map.2 ⟨x,(fnd_mem hf).1,rfl⟩))
theorem giveH_lt {A:HL} {hh rt g:Nat} (he:(giveH A hh rt).1=(g,0)) (hA:A.length<1000000):g<4294967296:=by
 unfold giveH at he
 cases ha:atH A hh with
 | none=>rw[ha] at he;simp at he
 | some y=>
   rw[ha] at he
   simp only at he
   cases hb:(noGive y.r||overR rt y.r) with
   | true=>rw[hb] at he;simp at he
   | false=>
     rw[hb] at he
     simp only[cond_false] at he
     unfold putH at he
     split at he
     · simp at he
     · simp at he;omega
theorem seenP_len {t:TnP} {sn:Nat} {S:Bk2} (hk:LimK 800 t) (hs:seenP t sn=some S):S.length≤100000:=by
 unfold seenP at hs
 split at hs
 · injection hs with hs;subst hs;have:=hk.now;omega
 · split at hs
   · next S' h1=>
     injection hs with hs
     subst hs
     have:=hk.sns _ (List.mem_of_getElem? h1)
     simp only at this
     omega
   · cases hs
theorem P_turn (h:IdM w O s blocks T m bs) (hb:c.B w) (hl:∀t∈T,LimK 800 t):Calls Tryz.prog 39 #[.pointer (some ⟨s,0,none⟩),.agg c.cs] w (DoR s blocks w O (tenC1 T c turP).1 (tenC1 T c turP).2):=by
 have hc:=hb.ok
 have hT:=fnd_T h c.ten
 unfold tenC1
 rw[hT]
 cases hf:fnd bs c.ten with
 | none=>exact id_turn_none h hc hf
 | some x=>
   have hu:=updT_self h hf
   have hk:=lim_of h hl hf
   simp only[Option.map_some]
   unfold turP
   cases ht:x.2.tu with
   | true=>simp only;rw[hu];exact id_turn_busy x h hc hf ht
   | false=>exact id_turn_ok x h hc hf ht
theorem P_step (h:IdM w O s blocks T m bs) (hb:c.B w) (hl:∀t∈T,LimK 800 t):Calls Tryz.prog 40 #[.pointer (some ⟨s,0,none⟩),.agg c.cs] w (DoR s blocks w O (tenC1 T c stpP).1 (tenC1 T c stpP).2):=by
 have hc:=hb.ok
 have hT:=fnd_T h c.ten
 unfold tenC1
 rw[hT]
 cases hf:fnd bs c.ten with
 | none=>exact id_step_none h hc hf
 | some x=>
   have hu:=updT_self h hf
   have hk:=lim_of h hl hf
   simp only[Option.map_some]
   unfold stpP
   cases n0:decide (c.n<1) with
   | true=>simp only;rw[hu];exact id_step_low x h hc hf n0
   | false=>
     cases n1:decide ((100:Int)<c.n) with
     | true=>simp only;rw[hu];exact id_step_high x h hc hf n0 n1
     | false=>
       cases ht:x.2.tu with
       | true=>simp only;rw[hu];exact id_step_ok x h hc hf n0 n1 ht
       | false=>simp only;rw[hu];exact id_step_state x h hc hf n0 n1 ht
theorem P_finish (h:IdM w O s blocks T m bs) (hb:c.B w) (hl:∀t∈T,LimK 800 t):Calls Tryz.prog 41 #[.pointer (some ⟨s,0,none⟩),.agg c.cs] w (DoR s blocks w O (tenC1 T c finP).1 (tenC1 T c finP).2):=by
 have hc:=hb.ok
 have hT:=fnd_T h c.ten
 unfold tenC1
 rw[hT]
 cases hf:fnd bs c.ten with
 | none=>exact id_finish_none h hc hf
 | some x=>
   have hu:=updT_self h hf
   have hk:=lim_of h hl hf
   simp only[Option.map_some]
   unfold finP
   cases ht:x.2.tu with
   | false=>simp only;rw[hu];exact id_finish_state x h hc hf ht
   | true=>
     by_cases hv:liveC x.2.sn=[]
     · rw[decide_eq_true hv];exact id_finish_ok x h hc hf ht hv
     · rw[decide_eq_false hv];simp only;rw[hu];exact id_finish_busy x h hc hf ht hv
theorem P_attach (h:IdM w O s blocks T m bs) (hb:c.B w) (hl:∀t∈T,LimK 800 t):Calls Tryz.prog 44 #[.pointer (some ⟨s,0,none⟩),.agg c.cs] w (DoR s blocks w O (tenC1 T c attP).1 (tenC1 T c attP).2):=by
 have hc:=hb.ok
 have hT:=fnd_T h c.ten
 unfold tenC1
 rw[hT]
 cases hf:fnd bs c.ten with
 | none=>exact attach_none h hc hf
 | some x=>
   have hu:=updT_self h hf
   have hk:=lim_of h hl hf
   simp only[Option.map_some]
   unfold attP
   have hA:x.2.A.length<1000000:=by have:=hk.A;omega
   by_cases he:c.sec.l=x.2.sec
   · rw[decide_eq_true he]
     by_cases hf2:64≤(aliveH x.2.A).length
     · rw[decide_eq_true hf2]
       exact attach_full x h hc hf hb.sec he hA (by unfold putH;rw[if_pos hf2])
     · rw[decide_eq_false hf2]
       exact attach_yes x h hc hf hb.sec he hA (by unfold putH;rw[if_neg hf2])
   · rw[decide_eq_false he]
     simp only
     rw[hu]
     exact attach_sec x h hc hf hb.sec he
theorem P_give (h:IdM w O s blocks T m bs) (hb:c.B w) (hl:∀t∈T,LimK 800 t):Calls Tryz.prog 45 #[.pointer (some ⟨s,0,none⟩),.agg c.cs] w (DoR s blocks w O (tenH1 T c 0 givP).1 (tenH1 T c 0 givP).2):=by
 have hc:=hb.ok
 have hT:=fnd_T h (c.hd/4294967296)
 unfold tenH1
 rw[hT]
 cases hf:fnd bs (c.hd/4294967296) with
 | none=>exact id_give_none h hc hf
 | some x=>
   have hu:=updT_self h hf
   have hk:=lim_of h hl hf
   simp only[Option.map_some]
   cases hck:checkH x.2.A (c.hd%4294967296) 0 with
   | succ er=>exact id_give_deny x h hc hf (er+1) hck (Nat.succ_pos _)
   | zero=>
     simp only
     have hA:x.2.A.length<1000000:=by have:=hk.A;omega
     obtain⟨g,er,he⟩:∃g er,(giveH x.2.A (c.hd%4294967296) c.rt).1=(g,er):=⟨_,_,rfl⟩
     unfold givP
     rw[he]
     cases er with
     | zero=>exact id_give_yes x h hc hf hck _ _ rfl rfl hA g he (giveH_lt he hA)
     | succ er=>exact id_give_no x h hc hf hck _ _ rfl rfl hA g (er+1) he (Nat.succ_pos _)
theorem P_revoke (h:IdM w O s blocks T m bs) (hb:c.B w) (hl:∀t∈T,LimK 800 t):Calls Tryz.prog 46 #[.pointer (some ⟨s,0,none⟩),.agg c.cs] w (DoR s blocks w O (tenH1 T c 0 revP).1 (tenH1 T c 0 revP).2):=by
 have hc:=hb.ok
 have hT:=fnd_T h (c.hd/4294967296)
 unfold tenH1
 rw[hT]
 cases hf:fnd bs (c.hd/4294967296) with
 | none=>exact id_revoke_none h hc hf
 | some x=>
   have hu:=updT_self h hf
   have hk:=lim_of h hl hf
   simp only[Option.map_some]
   cases hck:checkH x.2.A (c.hd%4294967296) 0 with
   | succ er=>exact id_revoke_deny x h hc hf (er+1) hck (Nat.succ_pos _)
   | zero=>
     simp only
     have hA:x.2.A.length<1000000:=by have:=hk.A;omega
     unfold revP
     by_cases he:c.oth/4294967296=c.hd/4294967296
     · rw[decide_eq_true he]
       exact id_revoke_any x h hc hf hck _ _ rfl rfl hA _ _ rfl rfl he
     · rw[decide_eq_false he]
       simp only
       rw[hu]
       exact id_revoke_far x h hc hf hck _ _ rfl rfl hA _ _ rfl rfl he
theorem P_batch (h:IdM w O s blocks T m bs) (hb:c.B w) (hl:∀t∈T,LimK 800 t):Calls Tryz.prog 47 #[.pointer (some ⟨s,0,none⟩),.agg c.cs] w (DoR s blocks w O (tenH1 T c 2 batP).1 (tenH1 T c 2 batP).2):=by
 have hc:=hb.ok
 have hT:=fnd_T h (c.hd/4294967296)
 unfold tenH1
 rw[hT]
 cases hf:fnd bs (c.hd/4294967296) with
 | none=>exact id_batch_none h hc hf
 | some x=>
   have hu:=updT_self h hf
   have hk:=lim_of h hl hf
   simp only[Option.map_some]
   cases hck:checkH x.2.A (c.hd%4294967296) 2 with
   | succ er=>exact id_batch_deny x h hc hf (er+1) hck (Nat.succ_pos _)
   | zero=>
     simp only
     unfold batP
     by_cases hn:100<c.oN
     · rw[decide_eq_true hn];simp only;rw[hu];exact id_batch_many x h hc hf hck hn
     · rw[decide_eq_false hn]
       cases ha:c.ops.all opOk with
       | false=>simp only;rw[hu];exact id_batch_bad x h hc hf hck (by omega) hb.ops ha
       | true=>exact id_batch_ok x h hc hf hck (by omega) hb.ops ha (hk.lim (Nat.le_refl _))
theorem P_get (h:IdM w O s blocks T m bs) (hb:c.B w) (hl:∀t∈T,LimK 800 t):Calls Tryz.prog 48 #[.pointer (some ⟨s,0,none⟩),.agg c.cs] w (DoR s blocks w O (tenH1 T c 1 getP).1 (tenH1 T c 1 getP).2):=by
 have hc:=hb.ok
 have hT:=fnd_T h (c.hd/4294967296)
 unfold tenH1
 rw[hT]
 cases hf:fnd bs (c.hd/4294967296) with
 | none=>exact id_get_none h hc hf
 | some x=>
   have hu:=updT_self h hf
   have hk:=lim_of h hl hf
   simp only[Option.map_some]
   cases hck:checkH x.2.A (c.hd%4294967296) 1 with
   | succ er=>exact id_get_deny x h hc hf (er+1) hck (Nat.succ_pos _)
   | zero=>
     simp only
     unfold getP
     by_cases h0:c.key.n=0
     · rw[decide_eq_true h0];simp only;rw[hu];exact id_get_short x h hc hf hck h0
     · rw[decide_eq_false h0]
       by_cases h1:32<c.key.n
       · rw[decide_eq_true h1];simp only;rw[hu];exact id_get_long x h hc hf hck h1
       · rw[decide_eq_false h1]
         cases hs:seenP x.2 c.sn with
         | none=>simp only;rw[hu];exact id_get_snap x h hc hf hck ⟨by omega,by omega⟩ hs
         | some S=>
           simp only
           cases hg:getK (k8 c.key.l) S with
           | none=>simp only;rw[hu];exact id_get_miss x h hc hf hck ⟨by omega,by omega⟩ hb.key S hs hg
           | some u=>simp only;rw[hu];exact id_get_hit x h hc hf hck ⟨by omega,by omega⟩ hb.key S hs u hg
theorem P_scan (h:IdM w O s blocks T m bs) (hb:c.B w) (hl:∀t∈T,LimK 800 t):Calls Tryz.prog 49 #[.pointer (some ⟨s,0,none⟩),.agg c.cs] w (DoR s blocks w O (tenH1 T c 1 scnP).1 (tenH1 T c 1 scnP).2):=by
 have hc:=hb.ok
 have hT:=fnd_T h (c.hd/4294967296)
 unfold tenH1
 rw[hT]
 cases hf:fnd bs (c.hd/4294967296) with
 | none=>exact id_scan_none h hc hf
 | some x=>
   have hu:=updT_self h hf
   have hk:=lim_of h hl hf
   simp only[Option.map_some]
   cases hck:checkH x.2.A (c.hd%4294967296) 1 with
   | succ er=>exact id_scan_deny x h hc hf (er+1) hck (Nat.succ_pos _)
   | zero=>
     simp only
     unfold scnP
     cases n0:decide (c.n<0) with
     | true=>simp only;rw[hu];exact id_scan_low x h hc hf hck n0
     | false=>
       cases n1:decide ((100:Int)<c.n) with
       | true=>simp only;rw[hu];exact id_scan_high x h hc hf hck n0 n1
       | false=>
         cases hs:seenP x.2 c.sn with
         | none=>simp only;rw[hu];exact id_scan_snap x h hc hf hck n0 n1 hs
         | some S=>simp only;rw[hu];exact id_scan_ok x h hc hf hck n0 n1 S hs (seenP_len hk hs) hb.frm hb.upto
theorem P_snap (h:IdM w O s blocks T m bs) (hb:c.B w) (hl:∀t∈T,LimK 800 t):Calls Tryz.prog 50 #[.pointer (some ⟨s,0,none⟩),.agg c.cs] w (DoR s blocks w O (tenH1 T c 4 snpP).1 (tenH1 T c 4 snpP).2):=by
 have hc:=hb.ok
 have hT:=fnd_T h (c.hd/4294967296)
 unfold tenH1
 rw[hT]
 cases hf:fnd bs (c.hd/4294967296) with
 | none=>exact id_snap_none h hc hf
 | some x=>
   have hu:=updT_self h hf
   have hk:=lim_of h hl hf
   simp only[Option.map_some]
   cases hck:checkH x.2.A (c.hd%4294967296) 4 with
   | succ er=>exact id_snap_deny x h hc hf (er+1) hck (Nat.succ_pos _)
   | zero=>
     simp only
     exact id_snap_any x h hc hf hck (hk.lim (Nat.le_refl _)) (by have:=hk.sn;omega)
theorem P_release (h:IdM w O s blocks T m bs) (hb:c.B w) (hl:∀t∈T,LimK 800 t):Calls Tryz.prog 51 #[.pointer (some ⟨s,0,none⟩),.agg c.cs] w (DoR s blocks w O (tenH1 T c 4 relP).1 (tenH1 T c 4 relP).2):=by
 have hc:=hb.ok
 have hT:=fnd_T h (c.hd/4294967296)
 unfold tenH1
 rw[hT]
 cases hf:fnd bs (c.hd/4294967296) with
 | none=>exact id_release_none h hc hf
 | some x=>
   have hu:=updT_self h hf
   have hk:=lim_of h hl hf
   simp only[Option.map_some]
   cases hck:checkH x.2.A (c.hd%4294967296) 4 with
   | succ er=>exact id_release_deny x h hc hf (er+1) hck (Nat.succ_pos _)
   | zero=>
     simp only
     unfold relP
     cases hs:snP x.2 c.sn with
     | none=>simp only;rw[hu];exact id_release_snap x h hc hf hck hs
     | some S=>exact id_release_ok x h hc hf hck S hs
theorem P_usage (h:IdM w O s blocks T m bs) (hb:c.B w) (hl:∀t∈T,LimK 800 t):Calls Tryz.prog 52 #[.pointer (some ⟨s,0,none⟩),.agg c.cs] w (DoR s blocks w O (tenH1 T c 1 useP).1 (tenH1 T c 1 useP).2):=by
 have hc:=hb.ok
 have hT:=fnd_T h (c.hd/4294967296)
 unfold tenH1
 rw[hT]
 cases hf:fnd bs (c.hd/4294967296) with
 | none=>exact id_usage_none h hc hf
 | some x=>
   have hu:=updT_self h hf
   have hk:=lim_of h hl hf
   simp only[Option.map_some]
   cases hck:checkH x.2.A (c.hd%4294967296) 1 with
   | succ er=>exact id_usage_deny x h hc hf (er+1) hck (Nat.succ_pos _)
   | zero=>
     simp only
     unfold useP
     simp only
     rw[hu]
     exact id_usage_any x h hc hf hck (hk.lim (Nat.le_refl _))
theorem P_create (h:IdM w O s blocks T m bs) (hb:c.B w) (hl:∀t∈T,LimK 800 t) (hln:T.length≤100000):Calls Tryz.prog 37 #[.pointer (some ⟨s,0,none⟩),.agg c.cs] w (DoR s blocks w O (creP blocks T c).1 (creP blocks T c).2):=by
 have hc:=hb.ok
 have hT:=fnd_T h c.ten
 unfold creP
 cases t0:((c.ten:Int)==0) with
 | true=>exact id_create_bad0 h hc t0
 | false =>
   cases t1:((c.sec.n:Int) != 16) with
   | true=>exact id_create_bad1 h hc t0 t1
   | false=>
     cases t2:decide (c.quota<1) with
     | true=>exact id_create_bad2 h hc t0 t1 t2
     | false=>
       cases t3:decide ((1000:Int)<c.quota) with
       | true=>exact id_create_bad3 h hc t0 t1 t2 t3
       | false=>
         simp only
         rw[hT]
         cases hf:fnd bs c.ten with
         | some x=>exact id_create_twice x h hc hf t0 t1 t2 t3
         | none=>exact id_create_some h hc hf hb.sec hln t0 t1 t2 t3 _ _ rfl rfl
theorem P_remove (h:IdM w O s blocks T m bs) (hb:c.B w) (hl:∀t∈T,LimK 800 t):Calls Tryz.prog 38 #[.pointer (some ⟨s,0,none⟩),.agg c.cs] w (DoR s blocks w O (remP T c).1 (remP T c).2):=by
 have hc:=hb.ok
 have hT:=fnd_T h c.ten
 unfold remP
 rw[hT]
 cases hf:fnd bs c.ten with
 | none=>exact id_remove_none h hc hf
 | some x=>exact id_remove_ok x h hc hf
set_option maxRecDepth 100000 in
theorem do_bad (h:IdM w O s blocks T m bs) (hk:ckOk c.kind) (hl:lookL c.kind howL=none):
 Calls Tryz.prog 8 #[.pointer (some ⟨s,0,none⟩),.agg c.cs] w (DoR s blocks w O (errA 2) T):=by
 obtain⟨w0,hw0,ha,hcb,hqb⟩:=preX w c
 unfold CallP.cs at hcb⊢
 go_enter Tryz.func8,Tryz.ntmps8
 go_upto_region 1 with (fail)
 rw[hw0.out]
 clear hw0
 have HA:=zz ha
 have HQ:=zz hqb
 have M0:=h.stp (ctS ha) noF
 have HM:=zz M0
 have c0:=hcb.cell (k:=0) rfl
 have HN:=zz (none_no s m _ w0 M0.box)
 have HW:=zz fun W=>how_any c.kind hk W
 rw[hl] at HW
 have hq:=fun W=>eq_fn0 W
 have HF:=zz fun W=>fails_any 2 W
 clear h ha hqb hcb hk hl M0
 go_wp2_with fail
 refine HN.out.mono ?_
 rintro e w1 ⟨rfl,rfl⟩
 go_wp2_with fail
 refine (HW.out _).mono ?_
 rintro e w1 ⟨rfl,hb⟩
 have B9:=zz hb
 clear hb HW HN
 simp only[Option.getD_none]
 go_wp2_with fail
 refine (HF.out _).mono ?_
 rintro e w1 ⟨rfl,hb⟩
 have B1:Hid (Below w0.heap.size w0 w1):=zz (below_tr B9.out hb B9.out.size)
 have Q1:=zz (HQ.out.ab B1.out)
 have M1:=kpM HM B1
 have S1:=stKp s O HA B1
 clear hb HQ HM B1
 go_wp2_with (first
  | ((with_reducible refine stA 14 ?_ (ansE 2) ?_ Q1 ?_ ?_ (ansE_one _) ?_);rfl;rfl;rfl;rfl;intro wz QZ FZ))
 refine bodyPost_ret (ansR Tryz.results8 QZ rfl rfl) rfl ?_
 exact DoR.fl 2 0 0 0 M1 S1 FZ
theorem do_any (h:IdM w O s blocks T m bs) (hb:c.B w) (hl:∀t∈T,LimK 800 t) (hln:T.length≤100000):
 Calls Tryz.prog 8 #[.pointer (some ⟨s,0,none⟩),.agg c.cs] w (DoR s blocks w O (stepP blocks T c).1 (stepP blocks T c).2):=by
 by_cases q1:c.kind=1
 · unfold stepP
   rw[if_pos q1]
   exact do_of 37 h hb.ok.kind (by rw[q1];rfl) (enters_of Tryz.func37 (by kernel_rfl) rfl) _ _ fun W hW hi=>P_create hi (hb.ab hW) hl hln
 by_cases q2:c.kind=2
 · unfold stepP
   rw[if_neg q1,if_pos q2]
   exact do_of 38 h hb.ok.kind (by rw[q2];rfl) (enters_of Tryz.func38 (by kernel_rfl) rfl) _ _ fun W hW hi=>P_remove hi (hb.ab hW) hl
 by_cases q3:c.kind=3
 · unfold stepP
   rw[if_neg q1,if_neg q2,if_pos q3]
   exact do_of 39 h hb.ok.kind (by rw[q3];rfl) (enters_of Tryz.func39 (by kernel_rfl) rfl) _ _ fun W hW hi=>P_turn hi (hb.ab hW) hl
 by_cases q4:c.kind=4
 · unfold stepP
   rw[if_neg q1,if_neg q2,if_neg q3,if_pos q4]
   exact do_of 40 h hb.ok.kind (by rw[q4];rfl) (enters_of Tryz.func40 (by kernel_rfl) rfl) _ _ fun W hW hi=>P_step hi (hb.ab hW) hl
 by_cases q5:c.kind=5
 · unfold stepP
   rw[if_neg q1,if_neg q2,if_neg q3,if_neg q4,if_pos q5]
   exact do_of 41 h hb.ok.kind (by rw[q5];rfl) (enters_of Tryz.func41 (by kernel_rfl) rfl) _ _ fun W hW hi=>P_finish hi (hb.ab hW) hl
 by_cases q6:c.kind=6
 · unfold stepP
   rw[if_neg q1,if_neg q2,if_neg q3,if_neg q4,if_neg q5,if_pos q6]
   exact do_of 42 h hb.ok.kind (by rw[q6];rfl) (enters_of Tryz.func42 (by kernel_rfl) rfl) _ _ fun W hW hi=>id_root hi
 by_cases q7:c.kind=7
 · unfold stepP
   rw[if_neg q1,if_neg q2,if_neg q3,if_neg q4,if_neg q5,if_neg q6,if_pos q7]
   exact do_of 43 h hb.ok.kind (by rw[q7];rfl) (enters_of Tryz.func43 (by kernel_rfl) rfl) _ _ fun W hW hi=>id_tenants hi hln
 by_cases q8:c.kind=8
 · unfold stepP
   rw[if_neg q1,if_neg q2,if_neg q3,if_neg q4,if_neg q5,if_neg q6,if_neg q7,if_pos q8]
   exact do_of 44 h hb.ok.kind (by rw[q8];rfl) (enters_of Tryz.func44 (by kernel_rfl) rfl) _ _ fun W hW hi=>P_attach hi (hb.ab hW) hl
 by_cases q9:c.kind=9
 · unfold stepP
   rw[if_neg q1,if_neg q2,if_neg q3,if_neg q4,if_neg q5,if_neg q6,if_neg q7,if_neg q8,if_pos q9]
   exact do_of 45 h hb.ok.kind (by rw[q9];rfl) (enters_of Tryz.func45 (by kernel_rfl) rfl) _ _ fun W hW hi=>P_give hi (hb.ab hW) hl
 by_cases q10:c.kind=10
 · unfold stepP
   rw[if_neg q1,if_neg q2,if_neg q3,if_neg q4,if_neg q5,if_neg q6,if_neg q7,if_neg q8,if_neg q9,if_pos q10]
   exact do_of 46 h hb.ok.kind (by rw[q10];rfl) (enters_of Tryz.func46 (by kernel_rfl) rfl) _ _ fun W hW hi=>P_revoke hi (hb.ab hW) hl
 by_cases q11:c.kind=11
 · unfold stepP
   rw[if_neg q1,if_neg q2,if_neg q3,if_neg q4,if_neg q5,if_neg q6,if_neg q7,if_neg q8,if_neg q9,if_neg q10,if_pos q11]
   exact do_of 47 h hb.ok.kind (by rw[q11];rfl) (enters_of Tryz.func47 (by kernel_rfl) rfl) _ _ fun W hW hi=>P_batch hi (hb.ab hW) hl
 by_cases q12:c.kind=12
 · unfold stepP
   rw[if_neg q1,if_neg q2,if_neg q3,if_neg q4,if_neg q5,if_neg q6,if_neg q7,if_neg q8,if_neg q9,if_neg q10,if_neg q11,if_pos q12]
   exact do_of 48 h hb.ok.kind (by rw[q12];rfl) (enters_of Tryz.func48 (by kernel_rfl) rfl) _ _ fun W hW hi=>P_get hi (hb.ab hW) hl
 by_cases q13:c.kind=13
 · unfold stepP
   rw[if_neg q1,if_neg q2,if_neg q3,if_neg q4,if_neg q5,if_neg q6,if_neg q7,if_neg q8,if_neg q9,if_neg q10,if_neg q11,if_neg q12,if_pos q13]
   exact do_of 49 h hb.ok.kind (by rw[q13];rfl) (enters_of Tryz.func49 (by kernel_rfl) rfl) _ _ fun W hW hi=>P_scan hi (hb.ab hW) hl
 by_cases q14:c.kind=14
 · unfold stepP
   rw[if_neg q1,if_neg q2,if_neg q3,if_neg q4,if_neg q5,if_neg q6,if_neg q7,if_neg q8,if_neg q9,if_neg q10,if_neg q11,if_neg q12,if_neg q13,if_pos q14]
   exact do_of 50 h hb.ok.kind (by rw[q14];rfl) (enters_of Tryz.func50 (by kernel_rfl) rfl) _ _ fun W hW hi=>P_snap hi (hb.ab hW) hl
 by_cases q15:c.kind=15
 · unfold stepP
   rw[if_neg q1,if_neg q2,if_neg q3,if_neg q4,if_neg q5,if_neg q6,if_neg q7,if_neg q8,if_neg q9,if_neg q10,if_neg q11,if_neg q12,if_neg q13,if_neg q14,if_pos q15]
   exact do_of 51 h hb.ok.kind (by rw[q15];rfl) (enters_of Tryz.func51 (by kernel_rfl) rfl) _ _ fun W hW hi=>P_release hi (hb.ab hW) hl
 by_cases q16:c.kind=16
 · unfold stepP
   rw[if_neg q1,if_neg q2,if_neg q3,if_neg q4,if_neg q5,if_neg q6,if_neg q7,if_neg q8,if_neg q9,if_neg q10,if_neg q11,if_neg q12,if_neg q13,if_neg q14,if_neg q15,if_pos q16]
   exact do_of 52 h hb.ok.kind (by rw[q16];rfl) (enters_of Tryz.func52 (by kernel_rfl) rfl) _ _ fun W hW hi=>P_usage hi (hb.ab hW) hl
 unfold stepP
 rw[if_neg q1,if_neg q2,if_neg q3,if_neg q4,if_neg q5,if_neg q6,if_neg q7,if_neg q8,if_neg q9,if_neg q10,if_neg q11,if_neg q12,if_neg q13,if_neg q14,if_neg q15,if_neg q16]
 refine do_bad h hb.ok.kind ?_
 refine lookL_none.2 fun p hp=>?_
 unfold howL at hp
 simp only[List.mem_cons,List.not_mem_nil,or_false] at hp
 rcases hp with rfl | rfl | rfl | rfl | rfl | rfl | rfl | rfl | rfl | rfl | rfl | rfl | rfl | rfl | rfl | rfl
 · exact fun e=>q1 e.symm
 · exact fun e=>q2 e.symm
 · exact fun e=>q3 e.symm
 · exact fun e=>q4 e.symm
 · exact fun e=>q5 e.symm
 · exact fun e=>q6 e.symm
 · exact fun e=>q7 e.symm
 · exact fun e=>q8 e.symm
 · exact fun e=>q9 e.symm
 · exact fun e=>q10 e.symm
 · exact fun e=>q11 e.symm
 · exact fun e=>q12 e.symm
 · exact fun e=>q13 e.symm
 · exact fun e=>q14 e.symm
 · exact fun e=>q15 e.symm
 · exact fun e=>q16 e.symm
end
theorem cell_lt {w:World} {g j:Nat} {v:Value} (h:w.cell? ⟨g,j,none⟩=some v):g<w.heap.size:=by
 rcases Nat.lt_or_ge g w.heap.size with h1 | h1
 · exact h1
 · unfold World.cell? at h
   simp[Array.getElem?_eq_none h1] at h
structure PrR (w:World) (A:Option Addr) (n c:Nat) (l:Bk2):Prop where
 len:l.length=n
 le:n≤1000000
 cel:∀(i:Nat) (q:Ky×List Nat),l[i]? = some q→∃g kA kn kc vA vn vc kl,A=some ⟨g,0,none⟩∧w.cell? ⟨g,i*2,none⟩=some (.slice kA kn kc)∧w.cell? ⟨g,i*2+1,none⟩=some (.slice vA vn vc)∧IsB w kA kn kc kl∧k8 kl=q.1∧IsB w vA vn vc q.2
section
variable {w w':World} {C:Nat} {O:Tg} {A:Option Addr} {n c:Nat} {l:Bk2}
theorem row_cells {W:World} {B n s:Nat} {e:TypeId} {A:Option Addr} {m c:Nat} {xs:List Value} (h:W.ownsRow B e s (.slice A m c) n xs) (hn:0<n):∃g,A=some ⟨g,0,none⟩∧∀(j:Nat) (u:Value),xs[j]? = some u→W.cell? ⟨g,j,none⟩=some u:=by
 rcases h.2 with ⟨_,h0⟩ | ⟨g,cap,cur,e1,hb,hg,h3,h4,h5,h6⟩
 · omega
 · simp only[Value.slice.injEq] at e1
   refine⟨g,e1.1,fun j u hj=>?_⟩
   have hjl:j<n*s:=by have:=(List.getElem?_eq_some_iff.1 hj).1;rw[h.1] at this;exact this
   have h7:(cur.toList.take (n*s))[j]? = some u:=by rw[h6];exact hj
   rw[List.getElem?_take_of_lt hjl] at h7
   rw[cell_of_row W g j _ _ (0,0) hg]
   simpa using h7
theorem KyB.isB {v:Value} {kl:List Nat} {kA:Option Addr} {kn kc:Nat} (h:KyB w C v kl) (hv:v = .slice kA kn kc):IsB w kA kn kc kl:=by
 obtain⟨g,n,cap,cs,fr,e,_,_,h3,_⟩:=h
 rw[hv] at e
 simp only[Value.slice.injEq] at e
 obtain⟨rfl,rfl,rfl⟩:=e
 exact h3
theorem flat_at (vs:List (Value×Value)) (i:Nat) (p:Value×Value) (h:vs[i]? = some p):(vs.flatMap fun p=>[p.1,p.2])[i*2]? = some p.1∧(vs.flatMap fun p=>[p.1,p.2])[i*2+1]? = some p.2:=by
 induction vs generalizing i with
 | nil=>simp at h
 | cons q r ih=>
   rw[List.flatMap_cons]
   cases i with
   | zero=>simp at h;subst h;simp
   | succ i=>
     rw[List.getElem?_cons_succ] at h
     have:=ih i h
     rw[show (i+1)*2=i*2+1+1 by omega]
     simpa using this
theorem PrR.ab (h:PrR w A n c l) (hb:Below w.heap.size w w'):PrR w' A n c l:=⟨h.len,h.le,fun i q hq=>by
 obtain⟨g,kA,kn,kc,vA,vn,vc,kl,e,a1,a2,a3,a4,a5⟩:=h.cel i q hq
 have hg:=cell_lt a1
 exact⟨g,kA,kn,kc,vA,vn,vc,kl,e,(World.cell?_of_block (hb.block g hg)).trans a1,(World.cell?_of_block (hb.block g hg)).trans a2,a3.ab hb,a4,a5.ab hb⟩⟩
theorem PrB.rd (h:PrB w C O (.slice A n c) l) (hl:l.length≤1000000):PrR w A n c l:=by
 obtain⟨vs,h1,h2,h3,h4⟩:=h
 have hn:l.length=n:=by
  rcases h1.2 with ⟨e,h0⟩ | ⟨g,cap,cur,e,_⟩
  · simp only[Value.slice.injEq] at e;omega
  · simp only[Value.slice.injEq] at e;omega
 refine⟨hn,by omega,fun i q hq=>?_⟩
 have hi:=(List.getElem?_eq_some_iff.1 hq).1
 obtain⟨g,hA,hc⟩:=row_cells h1 (by omega)
 obtain⟨p,hp⟩:∃p,vs[i]? = some p:=⟨_,List.getElem?_eq_getElem (by omega)⟩
 obtain⟨⟨kl,k1,k2⟩,k3,_⟩:=h4 i p q hp hq
 obtain⟨f1,f2⟩:=flat_at vs i p hp
 obtain⟨kA,kn,kc,e1⟩:∃kA kn kc,p.1 = .slice kA kn kc:=by obtain⟨g,n,cap,cs,fr,e,_⟩:=id k1;exact⟨_,_,_,e⟩
 obtain⟨vA,vn,vc,e2⟩:=row_sl k3.own
 refine⟨g,kA,kn,kc,vA,vn,vc,kl,hA,by rw[←e1];exact hc _ _ f1,by rw[←e2];exact hc _ _ f2,k1.isB e1,k2,?_⟩
 obtain⟨A2,c2,e3,_⟩:=k3.shape
 rw[e2] at e3
 simp only[Value.slice.injEq] at e3
 obtain⟨rfl,rfl,rfl⟩:=e3
 rw[e2] at k3
 exact k3.isB rfl
end
theorem strOf_eq {a b:List Nat} (h:k8 a=k8 b):strOf a=strOf b:=by unfold strOf;unfold k8 at h;rw[h]
set_option maxRecDepth 100000 in
theorem prsSame_yes (A B:Option Addr) (n c m d:Nat) (l:Bk2) (w:World) (h:PrR w A n c l) (k:PrR w B m d l):
 Calls Tryz.prog 19 #[.slice A n c,.slice B m d] w fun e w'=>e = .returned (.bool true)∧Below w.heap.size w w':=by
 obtain rfl:n=m:=h.len.symm.trans k.len
 have H:=zz h
 have K:=zz k
 have n0:(n:Int)≤1000000:=by have:=h.le;omega
 clear h k
 go_enter Tryz.func19,Tryz.ntmps19
 go_wp2_with fail
 go_loopw [5] (fun z wr=>∃i:Nat,i≤n∧z = .int .i64 (i:Int)∧∃q,wr=w.drewN q) (fun z _=>n-(intOf z).toNat)
 case atStart=>exact⟨0,Nat.zero_le _,rfl,0,rfl⟩
 case round=>
  obtain⟨i,hi,rfl,q0,rfl⟩:=hrel
  by_cases hlt:i<n
  · obtain⟨q,hq⟩:∃q,l[i]? = some q:=⟨_,List.getElem?_eq_getElem (by rw[H.out.len];exact hlt)⟩
    obtain⟨g,kA,kn,kc,vA,vn,vc,kl,rfl,a1,a2,a3,a4,a5⟩:=H.out.cel i q hq
    obtain⟨g',kA',kn',kc',vA',vn',vc',kl',rfl,b1,b2,b3,b4,b5⟩:=K.out.cel i q hq
    have s1:=fun r=>run_str (a3.drewN r) 32 5 9 Tryz.underlying32 Tryz.underlying5 Tryz.underlying9
    have s2:=fun r=>run_str (b3.drewN r) 32 5 9 Tryz.underlying32 Tryz.underlying5 Tryz.underlying9
    rw[strOf_eq (b4.trans a4.symm)] at s2
    have s3:=fun r=>run_str (a5.drewN r) 32 5 9 Tryz.underlying32 Tryz.underlying5 Tryz.underlying9
    have s4:=fun r=>run_str (b5.drewN r) 32 5 9 Tryz.underlying32 Tryz.underlying5 Tryz.underlying9
    have hlti:(i:Int)<(n:Int):=by omega
    have hi0:(0:Int)≤(i:Int):=by omega
    have KL:=zz hlt
    clear a3 a4 a5 b3 b4 b5 hq hi hlt
    go_wp2_with fail
    go_quiet (fail)
    go_wp2_with fail
    go_roundw
    case rel=>exact⟨i+1,KL.out,by go_num,_,rfl⟩
    case measure=>simp[intOf];have:=KL.out;omega
  · obtain rfl:i=n:=by omega
    clear hi hlt
    go_wp2_with fail
    go_ret
    exact⟨rfl,bel_drewN (Below.refl _ _) _⟩
theorem nums_at {w:World} {C:Nat} {A:Option Addr} {n c:Nat} {l:List Nat} (h:U32.NsB w C (.slice A n c) l):l.length=n∧∀(i x:Nat),l[i]? = some x→∃g,A=some ⟨g,0,none⟩∧g<w.heap.size∧w.cell? ⟨g,i,none⟩=some (.int .u32 (x:Int)):=by
 have hn:l.length=n:=by
  rcases h.2 with ⟨e,h0⟩ | ⟨g,cap,cur,e,_⟩
  · simp only[Value.slice.injEq] at e;omega
  · simp only[Value.slice.injEq] at e;omega
 refine⟨hn,fun i x hi=>?_⟩
 have hil:=(List.getElem?_eq_some_iff.1 hi).1
 obtain⟨g,hA,hc⟩:=row_cells h (by omega)
 have h9:w.cell? ⟨g,i,none⟩=some (.int .u32 (x:Int)):=hc i _ (by simp[U32.nvs,hi])
 exact⟨g,hA,cell_lt h9,h9⟩
open Go.RowKit Go.Sort
theorem prN_lower {w:World} {N M:Nat} {v:Value} {l:Bk2} (h:PrN w N v l) (hm:M≤N):PrN w M v l:=by
 obtain⟨vs,h1,h2,h3⟩:=h
 refine⟨vs,row_low h1 hm,h2,fun i p q hp hq=>?_⟩
 obtain⟨⟨k,k1,k2⟩,k3⟩:=h3 i p q hp hq
 exact⟨⟨k,k1.lower hm,k2⟩,k3.lower hm⟩
section
variable {w:World} {O:Tg} {s blocks m:Nat} {T:List TnP} {bs:List (Nat×TnP)}
set_option maxRecDepth 100000 in
theorem pmap_none (n:Nat) (hn:n<4294967296) (h:IdM w O s blocks T m bs) (hf:fnd bs n=none):
 Calls Tryz.prog 17 #[.pointer (some ⟨s,0,none⟩),.int .u32 (n:Int)] w fun e w'=>e = .returned (.tuple #[.slice none 0 0,.int .i64 7])∧Below w.heap.size w w':=by
 have HN:=zz (none_no s m _ w h.box)
 have hlk:=map_look h.map hn
 simp only[hf,Option.map_none] at hlk
 have c1:=h.box.cell (k:=1) rfl
 clear h
 go_enter Tryz.func17,Tryz.ntmps17
 go_wp2_with fail
 refine HN.out.mono ?_
 rintro e w1 ⟨rfl,rfl⟩
 go_wp2_with fail
 go_ret2
 exact⟨rfl,Below.refl _ _⟩
set_option maxRecDepth 100000 in
theorem pmap_some (n:Nat) (hn:n<4294967296) (h:IdM w O s blocks T m bs) (x:Nat×TnP) (hf:fnd bs n=some x) (hl:x.2.now.length≤100000):
 Calls Tryz.prog 17 #[.pointer (some ⟨s,0,none⟩),.int .u32 (n:Int)] w fun e w'=>∃v,e = .returned (.tuple #[v,.int .i64 0])∧PrN w' w.heap.size v (prsK x.2.now (kysK x.2.now))∧Below w.heap.size w w':=by
 obtain⟨cb,mo,sm,nb,es,ht⟩:=h.all x (fnd_mem hf).1
 have HN:=zz (none_no s m _ w h.box)
 have hlk:=map_look h.map hn
 simp only[hf,Option.map_some] at hlk
 have c1:=h.box.cell (k:=1) rfl
 have t2:w.cell? ⟨x.1,2,none⟩=some (.map (some nb)):=ht.box.cell (k:=2) rfl
 have HT:=zz ht.box
 have BK:=zz ht.now
 have KO:=zz ht.nowO
 have HSL:=zz hl
 obtain⟨S,hS⟩:∃S,x.2.now=S:=⟨_,rfl⟩
 rw[hS] at BK HSL⊢
 clear h ht hf hl hS
 have HK:=zz (bkeys_any nb S w O BK.out HSL.out)
 go_enter Tryz.func17,Tryz.ntmps17
 go_wp2_with fail
 refine HN.out.mono ?_
 rintro e w1 ⟨rfl,rfl⟩
 go_wp2_with fail
 refine HK.out.mono ?_
 rintro e w5 ⟨v7,rfl,hs7,hb7⟩
 have ST5:=zz hs7.st
 obtain⟨A5,n5,c5,hv7⟩:=row_sl hs7
 subst hv7
 have B5:=zz hb7
 clear hs7 hb7 HK c1 hlk
 obtain⟨A6,c6,he5,hc1,hc2,hc3⟩:=ST5.out
 simp only[Value.slice.injEq] at he5
 obtain⟨rfl,hn5,rfl⟩:=he5
 have KM:Hid (∀k∈(kysK S),kyOk k∧∃u,getK k S=some u):=zz fun k hk=>by
  obtain⟨u,hu⟩:=kysK_mem (S:=S) hk
  exact⟨BK.out.ok _ (getK_mem hu),u,hu⟩
 have KLN:Hid ((kysK S).length≤100000):=zz (by unfold kysK;rw[List.length_mergeSort,List.length_map];exact HSL.out)
 subst hn5
 have HC1:=zz hc1
 have HC3:=zz hc3
 have BK5:=zz (BK.out.stp KO.out (Stp.of (O':=O) B5.out (fun _=>False) fun _ _=>rfl))
 have T5:∀W,Below w5.heap.size w5 W→W.cell? ⟨x.1,2,none⟩=some (.map (some nb)):=fun W hb=>(HT.out.ab (below_tr B5.out hb B5.out.size)).cell (k:=2) rfl
 have TT:=zz T5
 obtain⟨ln,hln⟩:∃n,(kysK S).length=n:=⟨_,rfl⟩
 rw[hln]
 have LN:=zz hln
 have m0:(ln:Int)≤100000:=by have:=KLN.out;omega
 clear hc1 hc3 T5 t2 hln
 go_wp2_with fail
 go_loopw [7,26] (fun z10 z61 wr=>∃i:Nat,i≤ln∧z61 = .int .i64 (i:Int)∧PrN wr w5.heap.size z10 (prsK S ((kysK S).take i))∧Below w5.heap.size w5 wr) (fun _ z _=>ln-(intOf z).toNat)
 case atStart=>exact⟨0,Nat.zero_le _,rfl,PrN.nil _ _,Below.refl _ _⟩
 case round=>
  obtain⟨i,hi,rfl,hp,hb⟩:=hrel
  have PR:=zz hp
  have BR:=zz hb
  by_cases hlt:i<ln
  · have hil:i<(kysK S).length:=by rw[LN.out];exact hlt
    obtain⟨k,hk⟩:∃k,(kysK S)[i]? = some k:=⟨_,List.getElem?_eq_getElem hil⟩
    obtain⟨kok,u,hu⟩:=KM.out k (List.mem_of_getElem? hk)
    rcases HC3.out with ⟨_,h0⟩ | ⟨g,rfl,hg1,hg2,hH⟩
    · have:=HC1.out;omega
    have hc:wr.cell? ⟨g,i,none⟩=some (.string ⟨k.toArray⟩):=by
     have h1:=(hH i (by simpa using hil)).1
     rw[getElem!_pos _ i (by simpa using hil)] at h1
     have h2:(kysK S)[i]'hil=k:=by rw[List.getElem?_eq_getElem hil] at hk;injection hk
     rw[Nat.zero_add] at h1
     refine (World.cell?_of_block (hb.block g hg2)).trans (h1.trans ?_)
     simp[encStr,h2]
    have KL:=zz hlt
    have HKI:=zz hk
    have HU:=zz hu
    have KOK:=zz kok
    have hlti:(i:Int)<(ln:Int):=by omega
    have hi0:(0:Int)≤(i:Int):=by omega
    clear hi hp hb hlt hil hk kok hu hg1 hg2 hH
    go_wp2_with fail
    clear hc
    obtain⟨cap,w1,hcv,b1,ky1⟩:=str_bytesK wr k KOK.out
    have BR1:=zz (below_tr BR.out b1 BR.out.size)
    have PR1:=zz (PR.out.ab b1)
    have KY1:=zz ky1
    have t3:=TT.out w1 BR1.out
    have BKR:=BK5.out.stp KO.out (Stp.of (O':=O) BR1.out (fun _=>False) fun _ _=>rfl)
    rcases BKR.look k KOK.out with ⟨hz,_⟩ | ⟨vv,u',hu',him,hlk⟩
    · rw[HU.out] at hz;cases hz
    rw[HU.out] at hu'
    injection hu' with hu'
    subst hu'
    obtain⟨vA,vn,vc,rfl,hvn,hvi,_⟩:=him
    have hlk:=hlk w1 rfl 67 false Tryz.underlying67
    simp only[Bool.false_eq_true,if_false,encStr] at hlk
    have HCL:=zz (bclone_any vA vn vc u w1 hvi hvn)
    have NR:Hid (w5.heap.size≤wr.heap.size):=zz BR.out.size
    clear b1 ky1 BKR hvi hvn BR PR
    rw[hcv]
    clear hcv
    go_wp2_with fail
    refine HCL.out.mono ?_
    rintro e w2 ⟨v2,rfl,ho2,hb2⟩
    obtain⟨A2,c2,rfl,_,_⟩:=ho2.shape
    have ha3:Below w2.heap.size w2 (w2.alloc (.cells #[.slice (some ⟨wr.heap.size,0,none⟩) k.length cap,.slice A2 u.length c2] 87)):=alB
    have N1:w5.heap.size≤w1.heap.size:=BR1.out.size
    have B3:=zz (below_tr (below_tr BR1.out hb2 N1) ha3 (Nat.le_trans N1 hb2.size))
    have PR3:=zz ((PR1.out.ab hb2).ab ha3)
    have KY3:=zz (((KY1.out.lower NR.out).ab hb2).ab ha3)
    have OW3:=zz ((ho2.lower N1).fr (Fr.of ha3 (fun _=>False)) fun _ _ h=>h)
    have CB3:=zz (CbB.new w2 87 #[.slice (some ⟨wr.heap.size,0,none⟩) k.length cap,.slice A2 u.length c2])
    have N3:Hid (w5.heap.size≤(w2.alloc (.cells #[.slice (some ⟨wr.heap.size,0,none⟩) k.length cap,.slice A2 u.length c2] 87)).heap.size):=zz B3.out.size
    have PL:Hid ((prsK S ((kysK S).take i)).length≤100000):=zz (by unfold prsK;rw[List.length_map,List.length_take];have:=KLN.out;omega)
    have PE:Hid (prsK S ((kysK S).take i)++[(k8 (k.map (·.toNat)),u)]=prsK S ((kysK S).take (i+1))):=zz (by
     rw[List.take_add_one,HKI.out]
     unfold prsK
     rw[List.map_append,k8_back]
     simp[HU.out])
    clear ho2 hb2 ha3 N1 HCL hlk PR1 KY1 BR1 t3
    go_wp2_with (first
     | (refine wpList_appP rfl (.tmp 30) (.tmp 41) rfl PR3.out rfl (G:=w2.heap.size) rfl CB3.out KY3.out OW3.out PL.out N3.out ?_
        intro v4 w4 hp4 hb4
        have P4:Hid (PrN w4 w5.heap.size v4 (prsK S ((kysK S).take (i+1)))):=zz (by rw[←PE.out];exact hp4)
        have B4:=zz (B3.out.trans hb4)
        clear hp4 hb4))
    go_roundw
    case rel=>exact⟨i+1,KL.out,by go_num,P4.out,B4.out⟩
    case measure=>simp[intOf];have:=KL.out;omega
  · obtain rfl:i=ln:=by omega
    have PP:Hid (prsK S ((kysK S).take i)=prsK S (kysK S)):=zz (by rw[List.take_of_length_le (by rw[LN.out];exact Nat.le_refl _)])
    rw[PP.out] at PR
    have BB:=zz (below_tr B5.out BR.out B5.out.size)
    have NL:=zz B5.out.size
    clear hi hp hb hlt
    go_wp2_with fail
    go_ret2
    exact⟨_,rfl,prN_lower PR.out NL.out,BB.out⟩
end
open Go.RowKit Go.ChangeShapes
section
variable {H:Type} {enc:TypeId×Value→H} {P:Program} {W:World}
theorem isB_trod {t e:TypeId} {fuel:Nat} {cs:List Value} {x:DataW H×List MemPlace} (ht:P.underlying t=some (.slice e)) (he:P.underlying e=some (.int .u8)) (hc:P.cellsOf e=1)
 (h:DataW.trod enc P W 0 (fun _=>true) true fuel t cs=some x) (hlt:∀q∈x.2,q.block<W.heap.size):∃A n c l,cs=[.slice A n c]∧IsB W A n c l:=by
 rcases open_ints ht he hc h with ⟨rfl,rfl⟩ | ⟨a,len,cap,zs,rfl,_,hl,hm,hz,rfl,hcell,hwz⟩
 · exact⟨none,0,0,[],rfl,⟨rfl,Nat.le_refl _,Nat.zero_le _,fun z hz=>by simp at hz,.inl ⟨rfl,rfl⟩⟩,fun x hx=>by cases hx⟩
 · have hz':zs.length=cap:=by simpa using hz
   have hrow:IsRow .u8 W (some a) len cap (zs.take len):=⟨by simp[hz'];omega,hl,hm,fun z hzm=>hwz z (List.mem_of_mem_take hzm),.inr ⟨a,rfl,fun h0=>by
    have h1:MemPlace.cell a.block a.off∈MemPlace.row a zs.length:=by
     rw[hz']
     exact List.mem_map.2 ⟨0,List.mem_range.2 h0,by simp⟩
    exact hlt _ h1,fun i hi=>by
     rw[hcell i (by omega)]
     simp[List.getD_eq_getElem?_getD,hi]⟩⟩
   obtain⟨l,e,hb⟩:=byt_of_row hrow
   rw[e] at hrow
   exact⟨some a,len,cap,l,rfl,hrow,hb⟩
end
open Go.RowKit Go.ChangeShapes Go.WideShapes
section
variable {H:Type} {enc:TypeId×Value→H} {P:Program} {W:World}
theorem int_trodX {t:TypeId} {k:IntKind} {fuel:Nat} {cs:List Value} {x:DataW H×List MemPlace} (ht:P.underlying t=some (.int k))
 (h:DataW.trod enc P W 0 (fun _=>true) true fuel t cs=some x):∃z,cs=[.int k z]∧(Lit.int k z).wf=true:=by
 cases fuel with
 | zero=>simp[DataW.trod] at h
 | succ fuel=>
   unfold DataW.trod at h
   rw[ht] at h
   match cs,h with
   | [.int k' n],h=>
     simp only at h
     split at h
     · rename_i hk
       exact⟨n,by rw[hk.1],hk.2⟩
     · cases h
theorem nat_intX {k:IntKind} {z:Int} {m:Nat} (h:(Lit.int k z).wf=true) (h0:k.min=0) (hm:k.max<(m:Int)):∃n:Nat,z=(n:Int)∧n<m:=by
 simp only[Lit.wf,Bool.and_eq_true,decide_eq_true_eq] at h
 exact⟨z.toNat,by omega,by omega⟩
theorem trod_struct3X {t:TypeId} {f0 f1 f2:Field} {base:Nat} {spare:Nat→Bool} {held:Bool} {fuel:Nat} {cs:List Value} {x:DataW H×List MemPlace} (ht:P.underlying t=some (.struct #[f0,f1,f2])) (h:DataW.trod enc P W base spare held fuel t cs=some x):
 ∃ y0 y1 y2 n,x=(.agg [y0.1,y1.1,y2.1],y0.2++(y1.2++y2.2))∧cs.length=P.cellsOf t∧DataW.trod enc P W base spare held n f0.type ((cs.drop f0.offset).take (P.cellsOf f0.type))=some y0∧
   DataW.trod enc P W base spare held n f1.type ((cs.drop f1.offset).take (P.cellsOf f1.type))=some y1∧DataW.trod enc P W base spare held n f2.type ((cs.drop f2.offset).take (P.cellsOf f2.type))=some y2:=by
 obtain⟨xs,n,_,rfl,hl,hlen,hf⟩:=DataW.trod_struct ht h
 match xs,hlen with
 | [y0,y1,y2],_=>exact⟨y0,y1,y2,n,by simp,hl,by simpa using hf 0 f0 rfl,by simpa using hf 1 f1 rfl,by simpa using hf 2 f2 rfl⟩
theorem bool_trodX {t:TypeId} {fuel:Nat} {cs:List Value} {x:DataW H×List MemPlace} (ht:P.underlying t=some .bool)
 (h:DataW.trod enc P W 0 (fun _=>true) true fuel t cs=some x):∃b,cs=[.bool b]:=by
 cases fuel with
 | zero=>simp[DataW.trod] at h
 | succ fuel=>
   unfold DataW.trod at h
   rw[ht] at h
   match cs,h with
   | [.bool b],_=>exact⟨b,rfl⟩
end
theorem list_ofX {α:Type} {Q:Nat→α→Prop}:∀(n:Nat),(∀i,i<n→∃q,Q i q)→∃l:List α,l.length=n∧∀(i:Nat) (q:α),l[i]? = some q→Q i q
 | 0,_=>⟨[],rfl,fun i q h=>by simp at h⟩
 | n + 1,h=>by
   obtain⟨l,hl,hq⟩:=list_ofX n fun i hi=>h i (by omega)
   obtain⟨q,hn⟩:=h n (by omega)
   refine⟨l++[q],by simp[hl],fun i p hp=>?_⟩
   rcases Nat.lt_or_ge i n with hi | hi
   · exact hq i p (by rwa [List.getElem?_append_left (by omega)] at hp)
   · rw[List.getElem?_append_right (by omega)] at hp
     obtain⟨hj,hp⟩:=List.getElem?_eq_some_iff.1 hp
     simp at hj hp
     subst hp
     obtain rfl:i=n:=by omega
     exact hn
section
variable {H:Type} {enc:TypeId×Value→H} {W:World}
def OpQ (W:World) (a:Addr) (o:OpP):Prop:=W.cell? a=some (.slice o.k.A o.k.n o.k.c)∧W.cell? (a.add 1)=some (.slice o.v.A o.v.n o.v.c)∧W.cell? (a.add 2)=some (.bool o.d)∧IsB W o.k.A o.k.n o.k.c o.k.l∧IsB W o.v.A o.v.n o.v.c o.v.l
theorem addZ (a:Addr) {v:Value} (h:W.cell? (a.add 0)=some v):W.cell? a=some v:=by
 obtain⟨b,o,u⟩:=a
 cases u <;> simpa[Addr.add] using h
theorem ops_of {A:Option Addr} {n c:Nat} {ops:List OpP} (h1:ops.length=n) (h2:n≤c) (h3:c≤maxLen) (h4:∀(i:Nat) (q:OpP),ops[i]? = some q→∃a,A=some a∧a.block<W.heap.size∧OpQ W (a.add (i*3)) q):OpsB W A n c ops:=
 ⟨h1,h2,h3,fun i o ho=>by
  obtain⟨a,rfl,hb,k0,k1,k2,k3,k4⟩:=h4 i o ho
  exact⟨a,rfl,hb,k0,k1,k2,k3,k4⟩⟩
end
structure KnS (w0:World) (s:Nat) (T:List TnP) (W:World) (O:Tg):Prop where
 ib:IdB W O s 100 T
 bl:Below w0.heap.size w0 W
 no:∀k,k<w0.heap.size→O k=none
section
variable {w0 W W2:World} {O O2:Tg} {s:Nat} {T T2:List TnP}
theorem KnS.ab (h:KnS w0 s T W O) (hb:Below W.heap.size W W2):KnS w0 s T W2 (cutTg O W.heap.size):=by
 have st:Stp (fun _=>False) W O W2 (cutTg O W.heap.size):=Stp.cut hb _
 refine⟨h.ib.stp st fun _ h=>h,below_tr h.bl hb h.bl.size,fun k hk=>?_⟩
 rw[st.tg k (Nat.lt_of_lt_of_le hk h.bl.size)]
 exact h.no k hk
theorem KnS.step (h:KnS w0 s T W O) {a:AnsP} {e:Ending} (k:DoR s 100 W O a T2 e W2):∃cs O2,e = .returned (.agg cs)∧AnsB W2 W.heap.size O2 cs a∧KnS w0 s T2 W2 O2∧Stp (fun τ=>τ.1=s) W O W2 O2:=by
 obtain⟨cs,O2,e1,an,ib,st⟩:=k
 exact⟨cs,O2,e1,an,⟨ib,st.below h.bl h.bl.size h.no,fun k hk=>(st.tg k (Nat.lt_of_lt_of_le hk h.bl.size)).trans (h.no k hk)⟩,st⟩
theorem idM_one {t:TnP} {m:Nat} {bs:List (Nat×TnP)} (h:IdM W O s 100 [t] m bs):∃b,bs=[(b,t)]:=by
 have h1:=List.perm_singleton.1 h.prm
 cases bs with
 | nil=>simp at h1
 | cons p r=>
   cases r with
   | nil=>
     obtain⟨b,t'⟩:=p
     simp at h1
     subst h1
     exact⟨b,rfl⟩
   | cons q r=>simp at h1
theorem AnsB.err {C:Nat} {cs:Array Value} {a:AnsP} (h:AnsB W C O cs a):∃A1 n1 c1 A2 n2 c2 A3 n3 c3,cs = #[.int .i64 a.err,.int .u64 (a.hd:Int),.int .u64 (a.sn:Int),.slice A1 n1 c1,.slice A2 n2 c2,.int .i64 a.cnt,.slice A3 n3 c3]∧OwB W C (.slice A1 n1 c1) a.val:=by
 obtain⟨⟨v,p,l,h1,h2,h3,⟨vs,p1,p2,p3,p4⟩,h5,h6⟩⟩:=h
 obtain⟨A1,n1,c1,rfl⟩:=row_sl h2.own
 obtain⟨A2,n2,c2,rfl⟩:=row_sl p1
 obtain⟨A3,n3,c3,rfl⟩:=row_sl h5
 exact⟨_,_,_,_,_,_,_,_,_,h1,h2⟩
theorem run_fieldA (e:Int) (h sn:Int) (n:Int) (A1:Option Addr) (n1 c1:Nat) (A2:Option Addr) (n2 c2:Nat) (A3:Option Addr) (n3 c3:Nat) (k:Nat) (v:Value) (hk:(#[.int .i64 e,.int .u64 h,.int .u64 sn,.slice A1 n1 c1,.slice A2 n2 c2,.int .i64 n,.slice A3 n3 c3]:Array Value)[k]? = some v) (w:World):
 (Instr.field 44 (.agg #[.int .i64 e,.int .u64 h,.int .u64 sn,.slice A1 n1 c1,.slice A2 n2 c2,.int .i64 n,.slice A3 n3 c3]) k).run Tryz.prog w = .ok v w:=by
 rcases k with _ | _ | _ | _ | _ | _ | _ | k
 all_goals (simp at hk;try subst hk)
 all_goals kernel_rfl
end
def nilA:SlA:=⟨none,0,0,[]⟩
def kn1 (g:Nat):CallP:=⟨1,1,⟨some ⟨g,0,none⟩,16,16,List.replicate 16 97⟩,10,0,0,0,0,0,none,0,0,[],nilA,nilA,nilA,false⟩
def kn2 (g:Nat):CallP:=⟨8,1,⟨some ⟨g,0,none⟩,16,16,List.replicate 16 97⟩,0,0,0,0,0,0,none,0,0,[],nilA,nilA,nilA,false⟩
def opK (g1 g2:Nat):OpP:=⟨⟨some ⟨g1,0,none⟩,1,1,[107]⟩,⟨some ⟨g2,0,none⟩,1,1,[50]⟩,false⟩
def kn3 (g g1 g2:Nat):CallP:=⟨11,0,nilA,0,0,4294967297,0,0,0,some ⟨g,0,none⟩,1,1,[opK g1 g2],nilA,nilA,nilA,false⟩
def kn4 (g:Nat):CallP:=⟨12,0,nilA,0,0,4294967297,0,0,0,none,0,0,[],⟨some ⟨g,0,none⟩,1,1,[107]⟩,nilA,nilA,false⟩
def kt1:TnP:=⟨1,List.replicate 16 97,10,[],[],[],false⟩
def kt2:TnP:=⟨1,List.replicate 16 97,10,[],[⟨15,0,true⟩],[],false⟩
def kt3:TnP:=⟨1,List.replicate 16 97,10,[(k8 [107],[50])],[⟨15,0,true⟩],[],false⟩
theorem kn1_ok (g:Nat):(kn1 g).Ok:=⟨(show ckOk 1 from rfl),(show 1<4294967296 by decide),(show 0<18446744073709551616 by decide),(show 0<18446744073709551616 by decide),(show 0<18446744073709551616 by decide),(show 0<256 by decide)⟩
theorem kn2_ok (g:Nat):(kn2 g).Ok:=⟨(show ckOk 8 from rfl),(show 1<4294967296 by decide),(show 0<18446744073709551616 by decide),(show 0<18446744073709551616 by decide),(show 0<18446744073709551616 by decide),(show 0<256 by decide)⟩
theorem kn3_ok (g g1 g2:Nat):(kn3 g g1 g2).Ok:=⟨(show ckOk 11 from rfl),(show 0<4294967296 by decide),(show 4294967297<18446744073709551616 by decide),(show 0<18446744073709551616 by decide),(show 0<18446744073709551616 by decide),(show 0<256 by decide)⟩
theorem kn4_ok (g:Nat):(kn4 g).Ok:=⟨(show ckOk 12 from rfl),(show 0<4294967296 by decide),(show 4294967297<18446744073709551616 by decide),(show 0<18446744073709551616 by decide),(show 0<18446744073709551616 by decide),(show 0<256 by decide)⟩
section
variable {w0 W:World} {O:Tg} {s:Nat}
theorem kn_create (g:Nat) (h:KnS w0 s [] W O) (hs:IsB W (some ⟨g,0,none⟩) 16 16 (List.replicate 16 97)):
 Calls Tryz.prog 8 #[.pointer (some ⟨s,0,none⟩),.agg (kn1 g).cs] W (DoR s 100 W O (errA 0) [kt1]):=by
 obtain⟨m,bs,ib⟩:=h.ib
 have hb0:bs=[]:=by have:=List.perm_nil.1 ib.prm;simpa using this
 refine do_of 37 ib (kn1_ok g).kind rfl (enters_of Tryz.func37 (by kernel_rfl) rfl) _ _ fun V hb hi=>?_
 exact id_create_some hi (kn1_ok g) (by rw[hb0];rfl) (hs.ab hb) (by decide) rfl rfl rfl rfl _ _ rfl rfl
theorem kn_attach (g:Nat) (h:KnS w0 s [kt1] W O) (hs:IsB W (some ⟨g,0,none⟩) 16 16 (List.replicate 16 97)):
 Calls Tryz.prog 8 #[.pointer (some ⟨s,0,none⟩),.agg (kn2 g).cs] W (DoR s 100 W O (hdA 4294967297) [kt2]):=by
 obtain⟨m,bs,ib⟩:=h.ib
 obtain⟨b,hb0⟩:=idM_one ib
 subst hb0
 refine do_of 44 ib (kn2_ok g).kind rfl (enters_of Tryz.func44 (by kernel_rfl) rfl) _ _ fun V hb hi=>?_
 have e1:(kn2 g).ten*4294967296+((b,kt1).2.A.length+1)=4294967297:=by show 1*4294967296+(0+1)=4294967297;decide
 have e2:updT (kn2 g).ten (attT (b,kt1).2) [kt1]=[kt2]:=by show updT 1 (attT kt1) [kt1]=[kt2];rfl
 rw[←e1,←e2]
 exact attach_yes (b,kt1) hi (kn2_ok g) rfl (hs.ab hb) rfl (show ([]:HL).length<1000000 by decide) rfl
theorem kn_batch (g g1 g2:Nat) (h:KnS w0 s [kt2] W O) (ho:OpsB W (some ⟨g,0,none⟩) 1 1 [opK g1 g2]):
 Calls Tryz.prog 8 #[.pointer (some ⟨s,0,none⟩),.agg (kn3 g g1 g2).cs] W (DoR s 100 W O (errA 0) [kt3]):=by
 obtain⟨m,bs,ib⟩:=h.ib
 obtain⟨b,hb0⟩:=idM_one ib
 subst hb0
 refine do_of 47 ib (kn3_ok g g1 g2).kind rfl (enters_of Tryz.func47 (by kernel_rfl) rfl) _ _ fun V hb hi=>?_
 have d1:(kn3 g g1 g2).hd/4294967296=1:=by show 4294967297/4294967296=1;decide
 have d2:(kn3 g g1 g2).hd%4294967296=1:=by show 4294967297%4294967296=1;decide
 have e1:batA (b,kt2).2 (kn3 g g1 g2).ops=errA 0:=rfl
 have e2:updT ((kn3 g g1 g2).hd/4294967296) (batQ (b,kt2).2 (kn3 g g1 g2).ops) [kt2]=[kt3]:=by rw[d1];rfl
 rw[←e1,←e2]
 exact id_batch_ok (b,kt2) hi (kn3_ok g g1 g2) (by rw[d1];rfl) (by rw[d2];exact (show checkH [⟨15,0,true⟩] 1 2=0 by decide)) (show 1≤100 by decide) (ho.ab hb) rfl ⟨(show 0≤90000 by decide),fun p hp=>(by cases hp),(show 0≤100000 by decide)⟩
theorem kn_get (g:Nat) (h:KnS w0 s [kt3] W O) (hs:IsB W (some ⟨g,0,none⟩) 1 1 [107]):
 Calls Tryz.prog 8 #[.pointer (some ⟨s,0,none⟩),.agg (kn4 g).cs] W (DoR s 100 W O (valA [50]) [kt3]):=by
 obtain⟨m,bs,ib⟩:=h.ib
 obtain⟨b,hb0⟩:=idM_one ib
 subst hb0
 refine do_of 48 ib (kn4_ok g).kind rfl (enters_of Tryz.func48 (by kernel_rfl) rfl) _ _ fun V hb hi=>?_
 have d1:(kn4 g).hd/4294967296=1:=by show 4294967297/4294967296=1;decide
 have d2:(kn4 g).hd%4294967296=1:=by show 4294967297%4294967296=1;decide
 exact id_get_hit (b,kt3) hi (kn4_ok g) (by rw[d1];rfl) (by rw[d2];exact (show checkH [⟨15,0,true⟩] 1 1=0 by decide)) (show 1≤1∧1≤32 by decide) (hs.ab hb) [(k8 [107],[50])] rfl [50] rfl
end
theorem opsB_one (w:World):OpsB (((w.alloc (.cells #[.int .u8 107] 5 (1,2))).alloc (.cells #[.int .u8 50] 5 (1,2))).alloc (.cells #[.slice (some ⟨w.heap.size,0,none⟩) 1 1,.slice (some ⟨w.heap.size+1,0,none⟩) 1 1,.bool false] 61)) (some ⟨w.heap.size+1+1,0,none⟩) 1 1 [opK w.heap.size (w.heap.size+1)]:=by
 have i1:IsB (w.alloc (.cells #[.int .u8 107] 5 (1,2))) (some ⟨w.heap.size,0,none⟩) 1 1 [107]:=isB_marked (t:=5) (l:=[107]) (heap_alloc_new w _) (fun x hx=>by simp at hx;omega) (by simp) (by decide)
 have i2:IsB ((w.alloc (.cells #[.int .u8 107] 5 (1,2))).alloc (.cells #[.int .u8 50] 5 (1,2))) (some ⟨(w.alloc (.cells #[.int .u8 107] 5 (1,2))).heap.size,0,none⟩) 1 1 [50]:=isB_marked (t:=5) (l:=[50]) (heap_alloc_new (w.alloc (.cells #[.int .u8 107] 5 (1,2))) _) (fun x hx=>by simp at hx;omega) (by simp) (by decide)
 have e2:(w.alloc (.cells #[.int .u8 107] 5 (1,2))).heap.size=w.heap.size+1:=by simp
 rw[e2] at i2
 have cb:CbB (((w.alloc (.cells #[.int .u8 107] 5 (1,2))).alloc (.cells #[.int .u8 50] 5 (1,2))).alloc (.cells #[.slice (some ⟨w.heap.size,0,none⟩) 1 1,.slice (some ⟨w.heap.size+1,0,none⟩) 1 1,.bool false] 61)) (w.heap.size+1+1) 61 #[.slice (some ⟨w.heap.size,0,none⟩) 1 1,.slice (some ⟨w.heap.size+1,0,none⟩) 1 1,.bool false]:=CbB.newI (by simp)
 refine⟨rfl,Nat.le_refl _,by decide,fun i o ho=>?_⟩
 rcases i with _ | i
 · simp only[List.getElem?_cons_zero,Option.some.injEq] at ho
   subst ho
   exact⟨⟨w.heap.size+1+1,0,none⟩,rfl,cb.lt,cb.cell (k:=0) rfl,cb.cell (k:=1) rfl,cb.cell (k:=2) rfl,(i1.ab (alB)).ab (alB),i2.ab (alB)⟩
 · simp at ho
set_option maxRecDepth 100000 in
theorem known26_any (w:World):Calls Tryz.prog 5 #[] w fun e w'=>e = .returned (.bool true)∧Below w.heap.size w w':=by
 have HN:=zz (idNew_any 100 (by decide) (by decide) w (fun _=>none))
 have HS:=zz fun W=>secret_any W
 have hkc:=fun (w:World) (C:Array Value) (n c:Nat)=>Lib.run_convert_bytes_const (P:=Tryz.prog) w 32 5 C n c Tryz.underlying32 Tryz.underlying5
 have hf0:=fun e h sn n A1 n1 c1 A2 n2 c2 A3 n3 c3 w=>run_fieldA e h sn n A1 n1 c1 A2 n2 c2 A3 n3 c3 0 _ rfl w
 have hf1:=fun e h sn n A1 n1 c1 A2 n2 c2 A3 n3 c3 w=>run_fieldA e h sn n A1 n1 c1 A2 n2 c2 A3 n3 c3 1 _ rfl w
 go_enter Tryz.func5,Tryz.ntmps5
 go_wp2_with fail
 refine HN.out.mono ?_
 rintro e w1 ⟨rfl,ib,sz,hb⟩
 have K1:Hid (KnS w (w.heap.size+1) [] w1 (newTg (fun _=>none) w.heap.size (w.heap.size+1))):=zz ⟨ib,hb,fun k hk=>by unfold newTg;rw[if_neg (by omega)]⟩
 clear ib sz hb HN
 go_wp2_with fail
 refine (HS.out _).mono ?_
 rintro e w2 ⟨rfl,hs,hb⟩
 have K2:=zz (K1.out.ab hb)
 have HC:=zz (kn_create w1.heap.size K2.out hs)
 clear hs hb
 unfold kn1 CallP.cs nilA at HC
 dsimp only at HC
 go_wp2_with fail
 refine HC.out.mono ?_
 intro e w3 hd
 obtain⟨cs3,O3,rfl,an,k3,_⟩:=K2.out.step hd
 obtain⟨A3,n3,c3,B3,b3,d3,L3,q3,z3,rfl,ho3⟩:=an.err
 have K3:=zz k3
 clear hd an ho3 k3 HC K2 K1
 dsimp only[errA]
 go_wp2_with fail
 refine (HS.out _).mono ?_
 rintro e w4 ⟨rfl,hs,hb⟩
 have K4:=zz (K3.out.ab hb)
 have HC:=zz (kn_attach w3.heap.size K4.out hs)
 clear hs hb
 unfold kn2 CallP.cs nilA at HC
 dsimp only at HC
 go_wp2_with fail
 refine HC.out.mono ?_
 intro e w5 hd
 obtain⟨cs5,O5,rfl,an,k5,_⟩:=K4.out.step hd
 obtain⟨A5,n5,c5,B5,b5,d5,L5,q5,z5,rfl,ho5⟩:=an.err
 have K5:=zz k5
 clear hd an ho5 k5 HC K4 K3
 have hdv:((hdA 4294967297).hd:Int)=4294967297:=rfl
 rw[hdv]
 clear hdv
 have hk2:∀W:World,(convert 32 32 (.slice (some ⟨W.heap.size+1,0,none⟩) 1 1)).run Tryz.prog ((W.alloc (.cells #[.int .u8 107] 5 (1,2))).alloc (.cells #[.int .u8 50] 5)) = .ok (.slice (some ⟨W.heap.size+1,0,none⟩) 1 1) ((W.alloc (.cells #[.int .u8 107] 5 (1,2))).alloc (.cells #[.int .u8 50] 5 (1,2))):=fun W=>by
  have:=hkc (W.alloc (.cells #[.int .u8 107] 5 (1,2))) #[.int .u8 50] 1 1
  simpa using this
 have b6:Below w5.heap.size w5 (((w5.alloc (.cells #[.int .u8 107] 5 (1,2))).alloc (.cells #[.int .u8 50] 5 (1,2))).alloc (.cells #[.slice (some ⟨w5.heap.size,0,none⟩) 1 1,.slice (some ⟨w5.heap.size+1,0,none⟩) 1 1,.bool false] 61)):=(alB.alloc (by simp) _).alloc (by simp;omega) _
 have K6:=zz (K5.out.ab b6)
 have HC:=zz (kn_batch (w5.heap.size+1+1) w5.heap.size (w5.heap.size+1) K6.out (opsB_one w5))
 clear b6
 unfold kn3 CallP.cs nilA at HC
 dsimp only at HC
 go_wp2_with fail
 refine HC.out.mono ?_
 intro e w7 hd
 obtain⟨cs7,O7,rfl,an,k7,_⟩:=K6.out.step hd
 obtain⟨A7,n7,c7,B7,b7,d7,L7,q7,z7,rfl,ho7⟩:=an.err
 have K7:=zz k7
 clear hd an ho7 k7 HC K6 K5
 dsimp only[errA]
 go_upto_region 6 with (fail)
 have ba:Below w7.heap.size w7 (w7.alloc (.cells #[.int .i64 0,.int .u64 0,.int .u64 0,.slice A7 n7 c7,.slice B7 b7 d7,.int .i64 0,.slice L7 q7 z7] 44)):=alB
 have k8:=K7.out.ab ba
 have cb8:=CbB.new w7 44 #[.int .i64 0,.int .u64 0,.int .u64 0,.slice A7 n7 c7,.slice B7 b7 d7,.int .i64 0,.slice L7 q7 z7]
 have t8:cutTg O7 w7.heap.size w7.heap.size=some (0,0):=cutTg_at (Nat.le_refl _)
 obtain⟨w8,hw8⟩:∃w8,w7.alloc (.cells #[.int .i64 0,.int .u64 0,.int .u64 0,.slice A7 n7 c7,.slice B7 b7 d7,.int .i64 0,.slice L7 q7 z7] 44)=w8:=⟨_,rfl⟩
 rw[hw8] at k8 cb8⊢
 have b9:Below w8.heap.size w8 (w8.alloc (.cells #[.int .u8 107] 5 (1,2))):=alB
 have k9:=k8.ab b9
 have t9:cutTg (cutTg O7 w7.heap.size) w8.heap.size w7.heap.size=some (0,0):=by rw[show cutTg (cutTg O7 w7.heap.size) w8.heap.size w7.heap.size=cutTg O7 w7.heap.size w7.heap.size from by unfold cutTg;rw[if_pos cb8.lt]];exact t8
 have i9:IsB (w8.alloc (.cells #[.int .u8 107] 5 (1,2))) (some ⟨w8.heap.size,0,none⟩) 1 1 [107]:=isB_marked (t:=5) (l:=[107]) (heap_alloc_new w8 _) (fun x hx=>by simp at hx;omega) (by simp) (by decide)
 have cb9:=cb8.ab b9
 have HC:=zz (kn_get w8.heap.size k9 i9)
 have K9:=zz k9
 have C9:=zz cb9
 have T9:=zz t9
 clear ba k8 cb8 t8 b9 k9 t9 i9 cb9 hw8 K7
 unfold kn4 CallP.cs nilA at HC
 dsimp only at HC
 go_wp2_with fail
 refine HC.out.mono ?_
 intro e w10 hd
 obtain⟨cs10,O10,rfl,an,k10,st⟩:=K9.out.step hd
 obtain⟨A1,n1,c1,B1,b1,d1,L1,q1,z1,rfl,ho10⟩:=an.err
 have cb10:CbB w10 w7.heap.size 44 _:=(st.ot C9.out.lt T9.out (fun e=>by have h2:(0:Nat)=w.heap.size+1:=e;omega)).1.trans C9.out
 obtain⟨A2,c2,he2,_,_⟩:=ho10.shape
 simp only[valA,Value.slice.injEq] at he2
 obtain⟨rfl,rfl,rfl⟩:=he2
 have i10:=ho10.isB rfl
 have K10:=zz k10
 have C10:=zz cb10
 have I10:=zz i10
 clear hd an ho10 k10 st cb10 i10 HC K9 C9 T9
 dsimp only[valA]
 go_upto_region 7 with (fail)
 have ba:Below w10.heap.size w10 (w10.alloc (.cells #[.int .i64 0,.int .u64 0,.int .u64 0,.slice A1 1 c1,.slice B1 b1 d1,.int .i64 0,.slice L1 q1 z1] 44)):=alB
 have k11:=(K10.out.ab ba).bl
 have x5:=CbB.new w10 44 #[.int .i64 0,.int .u64 0,.int .u64 0,.slice A1 1 c1,.slice B1 b1 d1,.int .i64 0,.slice L1 q1 z1]
 have x4:=C10.out.ab ba
 have i11:=I10.out.ab ba
 obtain⟨w11,hw11⟩:∃w11,w10.alloc (.cells #[.int .i64 0,.int .u64 0,.int .u64 0,.slice A1 1 c1,.slice B1 b1 d1,.int .i64 0,.slice L1 q1 z1] 44)=w11:=⟨_,rfl⟩
 rw[hw11] at k11 x5 x4 i11⊢
 have y4:w11.cell? ⟨w7.heap.size,0,none⟩=some (.int .i64 0):=x4.cell (k:=0) rfl
 have y5:w11.cell? ⟨w10.heap.size,0,none⟩=some (.int .i64 0):=x5.cell (k:=0) rfl
 have y6:w11.cell? ⟨w10.heap.size,3,none⟩=some (.slice A1 1 c1):=x5.cell (k:=3) rfl
 have hst:(convert 32 9 (.slice A1 1 c1)).run Tryz.prog w11 = .ok (.string ⟨#[50]⟩) w11:=run_str i11 32 5 9 Tryz.underlying32 Tryz.underlying5 Tryz.underlying9
 have KB:=zz k11
 clear ba k11 x5 x4 i11 hw11 K10 C10 I10
 go_wp2_with fail
 go_ret
 exact⟨rfl,KB.out⟩
section
variable {bk:Nat} {w0 W W2:World} {O O2:Tg} {s:Nat} {T T2:List TnP}
theorem row_ot {P:Nat×Nat→Prop} {w w':World} {O O':Tg} {C n s:Nat} {e:TypeId} {v:Value} {xs:List Value} (h:w.ownsRow C e s v n xs) (ho:∀g,v.ownBlock=some g→O g=some (0,0)) (k:Stp P w O w' O') (hn:¬P (0,0)):
 w'.ownsRow C e s v n xs∧∀g,v.ownBlock=some g→O' g=some (0,0):=by
 refine⟨row_fr h k.fr fun g hg=>?_,fun g hg=>?_⟩
 · rintro ⟨τ,e1,e2⟩
   rw[ho g hg] at e1
   injection e1 with e1
   subst e1
   exact hn e2
 · have hl:g<w.heap.size:=by
    rcases h.2 with ⟨rfl,_⟩ | ⟨g',cap,cur,rfl,_,hb,_⟩
    · cases hg
    · simp only[Value.ownBlock,Option.some.injEq] at hg
      subst hg
      exact lt_of_block hb
   exact (k.tg g hl).trans (ho g hg)
theorem AnsB.stp {P:Nat×Nat→Prop} {w w':World} {O O':Tg} {C:Nat} {cs:Array Value} {a:AnsP} (h:AnsB w C O cs a) (k:Stp P w O w' O') (hn:¬P (0,0)):AnsB w' C O' cs a:=by
 obtain⟨⟨v,p,l,rfl,h1,h2,⟨vs,p1,p2,p3,p4⟩,h4,h5⟩⟩:=h
 obtain⟨a1,a2⟩:=row_ot h1.own h2 k hn
 obtain⟨b1,b2⟩:=row_ot p1 p2 k hn
 obtain⟨c1,c2⟩:=row_ot h4 h5 k hn
 refine⟨⟨v,p,l,rfl,⟨a1,h1.byt⟩,a2,⟨vs,b1,b2,p3,fun i x y hx hy=>?_⟩,c1,c2⟩⟩
 obtain⟨⟨kk,q1,q2⟩,q3,q4,q5⟩:=p4 i x y hx hy
 obtain⟨d1,d2⟩:=row_ot q3.own q5 k hn
 obtain⟨g',n,cap,cs',fr,e,r1,r2,r3,r4⟩:=q1
 have hg:O g'=some (0,0):=q4 g' (by rw[e];rfl)
 have hnp:¬∃t,O g'=some t∧P t:=fun ⟨t,e1,e2⟩=>by rw[hg] at e1;injection e1 with e1;subst e1;exact hn e2
 refine⟨⟨kk,⟨g',n,cap,cs',fr,e,r1,(k.fr.block g' (lt_of_block r2) hnp).trans r2,isB_frZ r3 k.fr fun h0 z hz=>by injection hz with hz;rw[←hz];exact hnp,r4⟩,q2⟩,⟨d1,q3.byt⟩,fun g hg2=>?_,d2⟩
 rw[e] at hg2
 simp only[Value.ownBlock,Option.some.injEq] at hg2
 subst hg2
 exact (k.tg _ (lt_of_block r2)).trans hg
theorem box_stp {P:Nat×Nat→Prop} {w w':World} {O O':Tg} {g:Nat} {t:TypeId} {cs:Array Value} (h:CbB w g t cs) (hO:O g=some (0,0)) (k:Stp P w O w' O') (hn:¬P (0,0)):CbB w' g t cs∧O' g=some (0,0):=by
 have:=k.ot h.lt hO hn
 exact⟨this.1.trans h,this.2⟩
end
theorem nilB (w:World):IsB w nilA.A nilA.n nilA.c nilA.l:=⟨isRow_nil w .u8,fun x hx=>by cases hx⟩
theorem opsNil (w:World):OpsB w none 0 0 []:=⟨rfl,Nat.le_refl _,Nat.zero_le _,fun i o h=>by simp at h⟩
end Go.Proofs.YtgdhinjhbjolgaaGreat
