/-
  Parts of the proof, joined.
-/
import Derived.Test.YtgdhinjhbjolgaaGreatBdd
import Derived.Sort.EncStr
import Derived.Sort.KeysCollected
import Derived.Lib.SlBytesConst
import Derived.Deep.QuietTactic
import Derived.BigQuiet
namespace Go.Proofs.YtgdhinjhbjolgaaGreat
set_option maxHeartbeats 4000000
open Go.RowKit
set_option linter.unusedVariables false
theorem eq_mapX1 {T k e:TypeId} (ht:Tryz.prog.underlying T=some (.map k e)) (d m:Nat) (W:World):(Op.equalIn (d+1) T (.map (some m)) (.map none)).run Tryz.prog W = .ok false W:=by
 unfold Op.equalIn
 simp[run_underlying ht,Result.andThen]
theorem map_neX {T k e:TypeId} (ht:Tryz.prog.underlying T=some (.map k e)) (m:Nat) (W:World):(binOp .eql T (.map (some m)) (.map none)).run Tryz.prog W = .ok (.bool false) W:=by
 have h:=eq_mapX1 ht 9999 m W
 simp only[binOp,Op.equal,Op.maxDepth,Sem.run_bind,h,Result.andThen_ok,Sem.run_pure]
abbrev Ky:=List UInt8
def k8 (l:List Nat):Ky:=l.map UInt8.ofNat
theorem strOf_k8 (l:List Nat):Value.string (strOf l)=encStr (k8 l):=rfl
theorem k8_inj {a b:List Nat} (ha:Byt a) (hb:Byt b) (h:k8 a=k8 b):a=b:=(strOf_inj ha hb).1 (by unfold strOf;unfold k8 at h;rw[h])
theorem k8_len (l:List Nat):(k8 l).length=l.length:=by simp[k8]
def kyOk (l:Ky):Prop:=l.length≤32
theorem ky_K:KeyK Tryz.prog 9 encStr kyOk where
 keyed:=Maps.string_keyed Tryz.underlying9
 of:=fun {x} h=>⟨_,WideMaps.keyOf_string_mk Tryz.underlying9 (s:=⟨x.toArray⟩) (by
  have e:(⟨x.toArray⟩:ByteArray).size=x.length:=by show x.toArray.size=x.length;simp
  rw[e]
  unfold kyOk at h
  exact Nat.le_trans h (by decide))⟩
 inj:=fun {x y} h=>by simpa[encStr] using h
def u32V (n:Nat):Value:=.int .u32 (n:Int)
def u32Ok (n:Nat):Prop:=n<4294967296
theorem u32_wf {n:Nat} (h:u32Ok n):(Lit.int .u32 (n:Int)).wf=true:=by
 unfold u32Ok at h
 have e3:IntKind.u32.min=0:=rfl
 have e4:IntKind.u32.max=4294967295:=rfl
 simp only[Lit.wf,Bool.and_eq_true,decide_eq_true_eq]
 omega
theorem u32_K:KeyK Tryz.prog 31 u32V u32Ok where
 keyed:=Maps.int_keyed Tryz.underlying31
 of:=fun h=>⟨_,Maps.keyOf_int_mk Tryz.underlying31 (u32_wf h)⟩
 inj:=fun {x y} h=>by
  unfold u32V at h
  injection h with _ h
  omega
abbrev Tg:=Nat→Option (Nat×Nat)
structure Stp (P:Nat×Nat→Prop) (w:World) (O:Tg) (w':World) (O':Tg):Prop where
 fr:Fr w w' (fun k=>∃t,O k=some t∧P t)
 tg:∀k,k<w.heap.size→O' k=O k
section
variable {P Q:Nat×Nat→Prop} {w w1 w':World} {O O1 O':Tg}
theorem Stp.size (h:Stp P w O w' O'):w.heap.size≤w'.heap.size:=h.fr.size
theorem Stp.refl (P:Nat×Nat→Prop) (w:World) (O:Tg):Stp P w O w O:=⟨Fr.of (Below.refl _ _) _,fun _ _=>rfl⟩
theorem Stp.tr (h:Stp P w O w1 O1) (k:Stp P w1 O1 w' O'):Stp P w O w' O':=
 ⟨⟨k.fr.os.trans h.fr.os,k.fr.tape.trans h.fr.tape,k.fr.output.trans h.fr.output,Nat.le_trans h.size k.size,fun i hi hn=>
   (k.fr.block i (Nat.lt_of_lt_of_le hi h.size) (fun ⟨t,e,p⟩=>hn ⟨t,by rw[←h.tg i hi];exact e,p⟩)).trans (h.fr.block i hi hn)⟩,
  fun i hi=>(k.tg i (Nat.lt_of_lt_of_le hi h.size)).trans (h.tg i hi)⟩
theorem Stp.imp (h:Stp P w O w' O') (hi:∀t,P t→Q t):Stp Q w O w' O':=⟨h.fr.imp fun k ⟨t,e,p⟩=>⟨t,e,hi t p⟩,h.tg⟩
theorem Stp.of (hb:Below w.heap.size w w') (P:Nat×Nat→Prop) (hO:∀k,k<w.heap.size→O' k=O k):Stp P w O w' O':=⟨Fr.of hb _,hO⟩
theorem Stp.below {B:Nat} {a:World} (h:Stp P w O w' O') (hb:Below B a w) (hs:B≤w.heap.size) (hO:∀k,k<B→O k=none):Below B a w':=
 Fr.below h.fr (fun k ⟨t,e,_⟩=>Nat.le_of_not_lt fun hk=>by rw[hO k hk] at e;cases e) hb hs
theorem Stp.im (h:Stp P w O w' O') {k:Nat} (hk:k<w.heap.size) (hn:O k=none):w'.heap[k]? = w.heap[k]?∧O' k=none:=
 ⟨h.fr.block k hk (fun ⟨t,e,_⟩=>by rw[hn] at e;cases e),(h.tg k hk).trans hn⟩
theorem Stp.ot (h:Stp P w O w' O') {k:Nat} {τ:Nat×Nat} (hk:k<w.heap.size) (ho:O k=some τ) (hn:¬P τ):w'.heap[k]? = w.heap[k]?∧O' k=some τ:=
 ⟨h.fr.block k hk (fun ⟨t,e,p⟩=>by rw[ho] at e;injection e with e;exact hn (e▸p)),(h.tg k hk).trans ho⟩
end
def ImB (w:World) (O:Tg) (v:Value) (l:List Nat):Prop:=∃A n c,v = .slice A n c∧n≤100000∧IsB w A n c l∧(0<n→∀x,A=some x→x.block<w.heap.size∧O x.block=none)
theorem isB_frZ {w W:World} {A:Option Addr} {n c:Nat} {l:List Nat} {F:Nat→Prop} (h:IsB w A n c l) (hf:Fr w W F) (hn:0<n→∀x,A=some x→¬F x.block):IsB W A n c l:=by
 by_cases h0:0<n
 · exact h.fr hf (hn h0)
 · obtain rfl:n=0:=by omega
   have hl:=h.len
   obtain rfl:l=[]:=List.eq_nil_of_length_eq_zero hl
   obtain⟨⟨k1,k2,k3,k4,k5⟩,k6⟩:=h
   refine⟨⟨k1,k2,k3,k4,?_⟩,k6⟩
   rcases k5 with k5 | ⟨X,k5,k5l,_⟩
   · exact .inl k5
   · exact .inr ⟨X,k5,fun h=>Nat.lt_of_lt_of_le (k5l h) hf.size,fun i hi=>absurd hi (Nat.not_lt_zero i)⟩
section
variable {P:Nat×Nat→Prop} {w w':World} {O O':Tg}
theorem ImB.stp {v:Value} {l:List Nat} (h:ImB w O v l) (s:Stp P w O w' O'):ImB w' O' v l:=by
 obtain⟨A,n,c,rfl,h0,h1,h2⟩:=h
 refine⟨A,n,c,rfl,h0,isB_frZ h1 s.fr (fun hn x hx ⟨t,e,_⟩=>?_),fun hn x hx=>?_⟩
 · rw[(h2 hn x hx).2] at e;cases e
 · obtain⟨k1,k2⟩:=h2 hn x hx
   exact⟨Nat.lt_of_lt_of_le k1 s.size,(s.tg _ k1).trans k2⟩
abbrev Bk2:=List (Ky×List Nat)
def BvL (w:World) (O:Tg):List (Ky×Value)→Bk2→Prop
 | [],[]=>True
 | p::ps,q::qs=>(p.1=q.1∧ImB w O p.2 q.2)∧BvL w O ps qs
 | [],_::_=>False
 | _::_,[]=>False
theorem BvL.stp (s:Stp P w O w' O'):∀{es:List (Ky×Value)} {l:Bk2},BvL w O es l→BvL w' O' es l
 | [],[],_=>trivial
 | p::ps,q::qs,h=>⟨⟨h.1.1,h.1.2.stp s⟩,BvL.stp s h.2⟩
 | [],_::_,h=>h.elim
 | _::_,[],h=>h.elim
theorem BvL.keys:∀{es:List (Ky×Value)} {l:Bk2},BvL w O es l→es.map (·.1)=l.map (·.1)
 | [],[],_=>rfl
 | p::ps,q::qs,h=>by rw[List.map_cons,List.map_cons,h.1.1,BvL.keys h.2]
 | [],_::_,h=>h.elim
 | _::_,[],h=>h.elim
theorem BvL.len {es:List (Ky×Value)} {l:Bk2} (h:BvL w O es l):es.length=l.length:=by
 have:=congrArg List.length h.keys
 simpa using this
theorem BvL.snoc {v:Value} {x:Ky} {u:List Nat} (hv:ImB w O v u):∀{es:List (Ky×Value)} {l:Bk2},BvL w O es l→BvL w O (es++[(x,v)]) (l++[(x,u)])
 | [],[],_=>⟨⟨rfl,hv⟩,trivial⟩
 | p::ps,q::qs,h=>⟨h.1,BvL.snoc hv h.2⟩
 | [],_::_,h=>h.elim
 | _::_,[],h=>h.elim
def getK (x:Ky) (l:Bk2):Option (List Nat):=(l.find? fun p=>decide (p.1=x)).map (·.2)
def dropK (x:Ky) (l:Bk2):Bk2:=l.filter fun p=>!decide (p.1=x)
def putK (x:Ky) (v:List Nat) (l:Bk2):Bk2:=if (getK x l).isSome then l.map fun p=>if p.1=x then (x,v) else p else l++[(x,v)]
theorem BvL.look (x:Ky):∀{es:List (Ky×Value)} {l:Bk2},BvL w O es l→(lookL x es=none∧getK x l=none)∨∃v u,lookL x es=some v∧getK x l=some u∧ImB w O v u
 | [],[],_=>.inl ⟨rfl,rfl⟩
 | p :: ps,q::qs,h=>by
   unfold lookL getK
   by_cases e:p.1=x
   · have e2:q.1=x:=by rw[←h.1.1];exact e
     rw[List.find?_cons_of_pos (by simpa using e),List.find?_cons_of_pos (by simpa using e2)]
     exact .inr ⟨_,_,rfl,rfl,h.1.2⟩
   · have e2:¬q.1=x:=by rw[←h.1.1];exact e
     rw[List.find?_cons_of_neg (by simpa using e),List.find?_cons_of_neg (by simpa using e2)]
     exact BvL.look x h.2
 | [],_::_,h=>h.elim
 | _::_,[],h=>h.elim
theorem BvL.map {x:Ky} {v:Value} {u:List Nat} (hv:ImB w O v u):∀{es:List (Ky×Value)} {l:Bk2},BvL w O es l→BvL w O (es.map fun p=>if p.1=x then (x,v) else p) (l.map fun p=>if p.1=x then (x,u) else p)
 | [],[],_=>trivial
 | p :: ps,q::qs,h=>by
   rw[List.map_cons,List.map_cons]
   refine⟨?_,BvL.map hv h.2⟩
   by_cases e:p.1=x
   · have e2:q.1=x:=by rw[←h.1.1];exact e
     rw[if_pos e,if_pos e2]
     exact⟨rfl,hv⟩
   · have e2:¬q.1=x:=by rw[←h.1.1];exact e
     rw[if_neg e,if_neg e2]
     exact h.1
 | [],_::_,h=>h.elim
 | _::_,[],h=>h.elim
theorem BvL.put {x:Ky} {v:Value} {u:List Nat} (hv:ImB w O v u) {es:List (Ky×Value)} {l:Bk2} (h:BvL w O es l):BvL w O (putL x v es) (putK x u l):=by
 unfold putL putK
 rcases h.look x with ⟨h1,h2⟩ | ⟨v',u',h1,h2,_⟩
 · rw[h1,h2]
   exact h.snoc hv
 · rw[h1,h2]
   exact h.map hv
theorem BvL.drop (x:Ky):∀{es:List (Ky×Value)} {l:Bk2},BvL w O es l→BvL w O (dropL x es) (dropK x l)
 | [],[],_=>trivial
 | p :: ps,q::qs,h=>by
   unfold dropL dropK
   by_cases e:p.1=x
   · have e2:q.1=x:=by rw[←h.1.1];exact e
     rw[List.filter_cons_of_neg (by simpa using e),List.filter_cons_of_neg (by simpa using e2)]
     exact BvL.drop x h.2
   · have e2:¬q.1=x:=by rw[←h.1.1];exact e
     rw[List.filter_cons_of_pos (by simpa using e),List.filter_cons_of_pos (by simpa using e2)]
     exact⟨h.1,BvL.drop x h.2⟩
 | [],_::_,h=>h.elim
 | _::_,[],h=>h.elim
end
theorem getK_none {x:Ky} {l:Bk2} (h:∀p∈l,p.1≠x):getK x l=none:=by
 unfold getK
 rw[Option.map_eq_none_iff,List.find?_eq_none]
 simpa using h
theorem getK_mem {x:Ky} {l:Bk2} {v:List Nat} (h:getK x l=some v):(x,v)∈l:=by
 unfold getK at h
 obtain⟨p,hp,rfl⟩:=Option.map_eq_some_iff.1 h
 have h1:=List.mem_of_find?_eq_some hp
 have h2:=List.find?_some hp
 simp only[decide_eq_true_eq] at h2
 subst h2
 exact h1
theorem getK_of {x:Ky} {v:List Nat}:∀{l:Bk2},(l.map (·.1)).Nodup→(x,v)∈l→getK x l=some v
 | p :: r,hn,h=>by
   rw[List.map_cons,List.nodup_cons] at hn
   unfold getK
   rcases List.mem_cons.1 h with rfl | h'
   · simp
   · have hne:p.1≠x:=fun e1=>hn.1 (by rw[e1];exact List.mem_map.2 ⟨_,h',rfl⟩)
     rw[List.find?_cons_of_neg (by simpa using hne)]
     exact getK_of hn.2 h'
theorem getK_perm {x:Ky} {l S:Bk2} (hp:l.Perm S) (hn:(l.map (·.1)).Nodup):getK x l=getK x S:=by
 have hn2:(S.map (·.1)).Nodup:=(hp.map _).nodup_iff.1 hn
 cases h:getK x S with
 | none=>
   cases h2:getK x l with
   | none=>rfl
   | some v=>
     have:=getK_of hn2 (hp.mem_iff.1 (getK_mem h2))
     rw[h] at this
     cases this
 | some v=>exact getK_of hn (hp.mem_iff.2 (getK_mem h))
def BokB (w:World) (O:Tg) (b:Nat) (S:Bk2):Prop:=∃es l,MapB encStr kyOk w b es∧BvL w O es l∧l.Perm S
theorem BokB.look {w:World} {O:Tg} {b:Nat} {S:Bk2} (h:BokB w O b S) (x:Ky) (hx:kyOk x):
 (getK x S=none∧∀W,W.heap[b]? = w.heap[b]?→∀z,(zeroValue 32).run Tryz.prog W = .ok z W→∀t c,Tryz.prog.underlying t=some (.map 9 32)→(Instr.lookup t (.map (some b)) (encStr x) c).run Tryz.prog W = .ok (if c then .tuple #[z,.bool false] else z) W)∨
 ∃v u,getK x S=some u∧ImB w O v u∧∀W,W.heap[b]? = w.heap[b]?→∀t c,Tryz.prog.underlying t=some (.map 9 32)→(Instr.lookup t (.map (some b)) (encStr x) c).run Tryz.prog W = .ok (if c then .tuple #[v,.bool true] else v) W:=by
 obtain⟨es,l,h1,h2,h3⟩:=h
 have hn:(l.map (·.1)).Nodup:=by rw[←h2.keys];exact h1.nodup ky_K
 rcases h2.look x with ⟨h4,h5⟩ | ⟨v,u,h4,h5,h6⟩
 · exact .inl ⟨by rw[←getK_perm h3 hn,h5],fun W hW z hz t c ht=>(h1.same hW).look_none ky_K ht hx h4 hz c⟩
 · exact .inr ⟨v,u,by rw[←getK_perm h3 hn,h5],h6,fun W hW t c ht=>(h1.same hW).look_some ky_K ht hx h4 c⟩
theorem BokB.stp {P:Nat×Nat→Prop} {w w':World} {O O':Tg} {b:Nat} {S:Bk2} (h:BokB w O b S) (hO:O b=none) (s:Stp P w O w' O'):BokB w' O' b S:=by
 obtain⟨es,l,h1,h2,h3⟩:=h
 exact⟨es,l,h1.same (s.im h1.lt hO).1,h2.stp s,h3⟩
set_option linter.unusedSimpArgs false
structure TnP where
 n:Nat
 sec:List Nat
 q:Nat
 now:Bk2
 A:HL
 sn:List (Bk2×Bool)
 tu:Bool
structure SnB (w:World) (O:Tg) (es:List (Nat×Value)) (sn:List (Bk2×Bool)):Prop where
 fwd:∀p∈es,∃i S nb,p.1=i+1∧sn[i]? = some (S,false)∧p.2 = .map (some nb)∧BokB w O nb S∧O nb=none
 bwd:∀(i:Nat) (S:Bk2),sn[i]? = some (S,false)→(lookL (i+1) es).isSome=true
structure TnM (w:World) (O:Tg) (s b:Nat) (t:TnP) (c:Nat) (mo:Option Nat) (sm nb:Nat) (es:List (Nat×Value)):Prop where
 box:CbB w b 71 #[.string (strOf t.sec),.int .i64 (t.q:Int),.map (some nb),.pointer (some ⟨c,0,none⟩),.map (some sm),.int .u64 (t.sn.length:Int),.bool t.tu]
 now:BokB w O nb t.now
 nowO:O nb=none
 caps:CpA w 0 c mo t.A
 snm:MapB u64V u64Ok w sm es
 sns:SnB w O es t.sn
 tb:O b=some (s,t.n)
 tc:O c=some (s,t.n)
 tm:∀m,mo=some m→O m=some (s,t.n)
 ts:O sm=some (s,t.n)
 ne:mo≠some sm
def TnB (w:World) (O:Tg) (s b:Nat) (t:TnP):Prop:=∃c mo sm nb es,TnM w O s b t c mo sm nb es
structure TnOk (t:TnP):Prop where
 n1:1≤t.n
 n32:t.n<4294967296
 sec:Byt t.sec
 q1:1≤t.q
 q2:t.q≤1000
def ptrV (b:Nat):Value:=.pointer (some ⟨b,0,none⟩)
structure IdM (w:World) (O:Tg) (s blocks:Nat) (T:List TnP) (m:Nat) (bs:List (Nat×TnP)):Prop where
 box:CbB w s 58 #[.int .i64 (blocks:Int),.map (some m)]
 map:MapB u32V u32Ok w m (bs.map fun x=>(x.2.n,ptrV x.1))
 prm:(bs.map (·.2)).Perm T
 all:∀x∈bs,TnB w O s x.1 x.2
 ok:∀x∈bs,TnOk x.2
 os:O s=some (s,0)
 om:O m=some (s,0)
 pos:0<s
def IdB (w:World) (O:Tg) (s blocks:Nat) (T:List TnP):Prop:=∃m bs,IdM w O s blocks T m bs
section
variable {P:Nat×Nat→Prop} {w w':World} {O O':Tg} {s:Nat}
theorem SnB.stp {es:List (Nat×Value)} {sn:List (Bk2×Bool)} (h:SnB w O es sn) (k:Stp P w O w' O'):SnB w' O' es sn:=
 ⟨fun p hp=>by
  obtain⟨i,S,nb,h1,h2,h3,h4,h5⟩:=h.fwd p hp
  obtain⟨_,_,h6,_⟩:=id h4
  exact⟨i,S,nb,h1,h2,h3,h4.stp h5 k,(k.im h6.lt h5).2⟩,h.bwd⟩
theorem CpA.ot {c:Nat} {mo:Option Nat} {A:HL} {τ:Nat×Nat} (h:CpA w 0 c mo A) (k:Stp P w O w' O') (hc:O c=some τ) (hm:∀m,mo=some m→O m=some τ) (hn:¬P τ):CpA w' 0 c mo A:=by
 obtain⟨⟨l,h1,h2⟩,h3,h4⟩:=h
 have hb:CbB w' c 98 _:=(k.ot h1.box.lt hc hn).1.trans h1.box
 exact⟨⟨l,⟨hb,Nat.zero_le _,fun m hm'=>⟨Nat.zero_le _,(h1.map m hm').2.same (k.ot (h1.map m hm').2.lt (hm m hm') hn).1⟩,h1.nil,h1.le⟩,h2⟩,h3,h4⟩
theorem CpA.lt {c:Nat} {mo:Option Nat} {A:HL} (h:CpA w 0 c mo A):c<w.heap.size∧∀m,mo=some m→m<w.heap.size:=by
 obtain⟨⟨l,h1,h2⟩,h3,h4⟩:=h
 exact⟨h1.box.lt,fun m hm=>(h1.map m hm).2.lt⟩
theorem TnM.stp {b c sm nb:Nat} {mo:Option Nat} {es:List (Nat×Value)} {t:TnP} (h:TnM w O s b t c mo sm nb es) (k:Stp P w O w' O') (hn:¬P (s,t.n)):TnM w' O' s b t c mo sm nb es:=by
 have hl:=h.caps.lt
 obtain⟨_,_,hnb,_⟩:=id h.now
 exact⟨(k.ot h.box.lt h.tb hn).1.trans h.box,h.now.stp h.nowO k,(k.im hnb.lt h.nowO).2,h.caps.ot k h.tc h.tm hn,h.snm.same (k.ot h.snm.lt h.ts hn).1,h.sns.stp k,
  (k.ot h.box.lt h.tb hn).2,(k.ot hl.1 h.tc hn).2,fun m hm=>(k.ot (hl.2 m hm) (h.tm m hm) hn).2,(k.ot h.snm.lt h.ts hn).2,h.ne⟩
theorem TnB.stp {b:Nat} {t:TnP} (h:TnB w O s b t) (k:Stp P w O w' O') (hn:¬P (s,t.n)):TnB w' O' s b t:=by
 obtain⟨c,mo,sm,nb,es,h⟩:=h
 exact⟨c,mo,sm,nb,es,h.stp k hn⟩
theorem IdM.stp {blocks m:Nat} {T:List TnP} {bs:List (Nat×TnP)} (h:IdM w O s blocks T m bs) (k:Stp P w O w' O') (hn:∀i,¬P (s,i)):IdM w' O' s blocks T m bs:=
 ⟨(k.ot h.box.lt h.os (hn 0)).1.trans h.box,h.map.same (k.ot h.map.lt h.om (hn 0)).1,h.prm,fun x hx=>(h.all x hx).stp k (hn _),h.ok,(k.ot h.box.lt h.os (hn 0)).2,(k.ot h.map.lt h.om (hn 0)).2,h.pos⟩
theorem IdB.stp {blocks:Nat} {T:List TnP} (h:IdB w O s blocks T) (k:Stp P w O w' O') (hn:∀i,¬P (s,i)):IdB w' O' s blocks T:=by
 obtain⟨m,bs,h⟩:=h
 exact⟨m,bs,h.stp k hn⟩
end
def ansE (e:Int):Array Value:=#[.int .i64 e,.int .u64 0,.int .u64 0,.slice none 0 0,.slice none 0 0,.int .i64 0,.slice none 0 0]
theorem szAns:(Tryz.prog.info? 44).map (·.size)=some 7:=by kernel_rfl
set_option maxRecDepth 100000 in
theorem ans_results {fn:Func} {p:Tmp} (h:fn.results = #[.cell p 44]) (tmps:Array Value) (W:World) (g:Nat) (cs:Array Value) (hp:tmps.getD p undef = .pointer (some ⟨g,0,none⟩)) (hg:CbB W g 44 cs) (hs:cs.size=7):
 (results fn tmps).run Tryz.prog W = .ok (.agg cs) W:=
 results_cell_row h tmps W g 44 cs (0,0) _ hp hg Tryz.underlying44 rfl (by rw[hs];exact szAns)
set_option maxRecDepth 100000 in
theorem fails_any (e:Int) (w:World):Calls Tryz.prog 24 #[.int .i64 e] w fun r w'=>r = .returned (.agg (ansE e))∧Below w.heap.size w w':=by
 go_enter Tryz.func24,Tryz.ntmps24
 go_wp2_with fail
 exact bodyPost_ret (ans_results Tryz.results24 _ _ w.heap.size (ansE e) rfl (CbB.new _ _ _) rfl) rfl ⟨rfl,(Below.refl _ _).alloc (Nat.le_refl _) _⟩
set_option maxRecDepth 100000 in
theorem none_no (g m:Nat) (v:Value) (w:World) (h:CbB w g 58 #[v,.map (some m)]):Calls Tryz.prog 21 #[.pointer (some ⟨g,0,none⟩)] w fun r w'=>r = .returned (.bool false)∧w=w':=by
 have c1:=h.cell (k:=1) rfl
 have hq:=fun m W=>map_neX Tryz.underlying56 m W
 clear h
 go_enter Tryz.func21,Tryz.ntmps21
 go_wp2_with fail
 go_ret
 exact⟨rfl,rfl⟩
def ckV (n:Int):Value:=.int .i64 n
def ckOk (n:Int):Prop:=(Lit.int .i64 n).wf=true
theorem ck_K:KeyK Tryz.prog 30 ckV ckOk where
 keyed:=Maps.int_keyed Tryz.underlying30
 of:=fun h=>⟨_,Maps.keyOf_int_mk Tryz.underlying30 h⟩
 inj:=fun {x y} h=>by
  unfold ckV at h
  injection h with _ h
theorem zero_how {w:World}:(zeroValue 75).run Tryz.prog w = .ok .nilFunc w:=by kernel_rfl
def howL:List (Int×Value):=[(1,.func (.func 37) #[] #[]),(2,.func (.func 38) #[] #[]),(3,.func (.func 39) #[] #[]),(4,.func (.func 40) #[] #[]),(5,.func (.func 41) #[] #[]),(6,.func (.func 42) #[] #[]),(7,.func (.func 43) #[] #[]),(8,.func (.func 44) #[] #[]),(9,.func (.func 45) #[] #[]),(10,.func (.func 46) #[] #[]),(11,.func (.func 47) #[] #[]),(12,.func (.func 48) #[] #[]),(13,.func (.func 49) #[] #[]),(14,.func (.func 50) #[] #[]),(15,.func (.func 51) #[] #[]),(16,.func (.func 52) #[] #[])]
set_option maxRecDepth 100000 in
theorem how_any (k:Int) (hk:ckOk k) (w:World):Calls Tryz.prog 25 #[.int .i64 k] w fun r w'=>r = .returned ((lookL k howL).getD .nilFunc)∧Below w.heap.size w w':=by
 have hmm:∀W:World,(Instr.makeMap 99 none).run Tryz.prog W = .ok (.map (some W.heap.size)) (W.alloc (.map #[] 0)):=fun _=>rfl
 have MM:Hid (MapB ckV ckOk (w.alloc (.map #[] 0)) w.heap.size []):=Lib.hid (MapB.new _ _ _)
 have BB:Hid (Below w.heap.size w (w.alloc (.map #[] 0))):=Lib.hid ((Below.refl _ _).alloc (Nat.le_refl _) _)
 go_enter Tryz.func25,Tryz.ntmps25
 go_wp2_with fail
 obtain⟨w1,hrun,hM,_,_,hB⟩:=MM.out.put ck_K Tryz.underlying99 (x:=1) (show ckOk 1 from rfl) (.func (.func 37) #[] #[])
 replace MM:=Lib.hid hM
 replace BB:=Lib.hid (hB _ _ BB.out (Nat.le_refl _))
 simp only[ckV] at hrun
 rw[hrun]
 clear hrun hM hB
 go_wp2_with fail
 obtain⟨w2,hrun,hM,_,_,hB⟩:=MM.out.put ck_K Tryz.underlying99 (x:=2) (show ckOk 2 from rfl) (.func (.func 38) #[] #[])
 replace MM:=Lib.hid hM
 replace BB:=Lib.hid (hB _ _ BB.out (Nat.le_refl _))
 simp only[ckV] at hrun
 rw[hrun]
 clear hrun hM hB
 go_wp2_with fail
 obtain⟨w3,hrun,hM,_,_,hB⟩:=MM.out.put ck_K Tryz.underlying99 (x:=3) (show ckOk 3 from rfl) (.func (.func 39) #[] #[])
 replace MM:=Lib.hid hM
 replace BB:=Lib.hid (hB _ _ BB.out (Nat.le_refl _))
 simp only[ckV] at hrun
 rw[hrun]
 clear hrun hM hB
 go_wp2_with fail
 obtain⟨w4,hrun,hM,_,_,hB⟩:=MM.out.put ck_K Tryz.underlying99 (x:=4) (show ckOk 4 from rfl) (.func (.func 40) #[] #[])
 replace MM:=Lib.hid hM
 replace BB:=Lib.hid (hB _ _ BB.out (Nat.le_refl _))
 simp only[ckV] at hrun
 rw[hrun]
 clear hrun hM hB
 go_wp2_with fail
 obtain⟨w5,hrun,hM,_,_,hB⟩:=MM.out.put ck_K Tryz.underlying99 (x:=5) (show ckOk 5 from rfl) (.func (.func 41) #[] #[])
 replace MM:=Lib.hid hM
 replace BB:=Lib.hid (hB _ _ BB.out (Nat.le_refl _))
 simp only[ckV] at hrun
 rw[hrun]
 clear hrun hM hB
 go_wp2_with fail
 obtain⟨w6,hrun,hM,_,_,hB⟩:=MM.out.put ck_K Tryz.underlying99 (x:=6) (show ckOk 6 from rfl) (.func (.func 42) #[] #[])
 replace MM:=Lib.hid hM
 replace BB:=Lib.hid (hB _ _ BB.out (Nat.le_refl _))
 simp only[ckV] at hrun
 rw[hrun]
 clear hrun hM hB
 go_wp2_with fail
 obtain⟨w7,hrun,hM,_,_,hB⟩:=MM.out.put ck_K Tryz.underlying99 (x:=7) (show ckOk 7 from rfl) (.func (.func 43) #[] #[])
 replace MM:=Lib.hid hM
 replace BB:=Lib.hid (hB _ _ BB.out (Nat.le_refl _))
 simp only[ckV] at hrun
 rw[hrun]
 clear hrun hM hB
 go_wp2_with fail
 obtain⟨w8,hrun,hM,_,_,hB⟩:=MM.out.put ck_K Tryz.underlying99 (x:=8) (show ckOk 8 from rfl) (.func (.func 44) #[] #[])
 replace MM:=Lib.hid hM
 replace BB:=Lib.hid (hB _ _ BB.out (Nat.le_refl _))
 simp only[ckV] at hrun
 rw[hrun]
 clear hrun hM hB
 go_wp2_with fail
 obtain⟨w9,hrun,hM,_,_,hB⟩:=MM.out.put ck_K Tryz.underlying99 (x:=9) (show ckOk 9 from rfl) (.func (.func 45) #[] #[])
 replace MM:=Lib.hid hM
 replace BB:=Lib.hid (hB _ _ BB.out (Nat.le_refl _))
 simp only[ckV] at hrun
 rw[hrun]
 clear hrun hM hB
 go_wp2_with fail
 obtain⟨w10,hrun,hM,_,_,hB⟩:=MM.out.put ck_K Tryz.underlying99 (x:=10) (show ckOk 10 from rfl) (.func (.func 46) #[] #[])
 replace MM:=Lib.hid hM
 replace BB:=Lib.hid (hB _ _ BB.out (Nat.le_refl _))
 simp only[ckV] at hrun
 rw[hrun]
 clear hrun hM hB
 go_wp2_with fail
 obtain⟨w11,hrun,hM,_,_,hB⟩:=MM.out.put ck_K Tryz.underlying99 (x:=11) (show ckOk 11 from rfl) (.func (.func 47) #[] #[])
 replace MM:=Lib.hid hM
 replace BB:=Lib.hid (hB _ _ BB.out (Nat.le_refl _))
 simp only[ckV] at hrun
 rw[hrun]
 clear hrun hM hB
 go_wp2_with fail
 obtain⟨w12,hrun,hM,_,_,hB⟩:=MM.out.put ck_K Tryz.underlying99 (x:=12) (show ckOk 12 from rfl) (.func (.func 48) #[] #[])
 replace MM:=Lib.hid hM
 replace BB:=Lib.hid (hB _ _ BB.out (Nat.le_refl _))
 simp only[ckV] at hrun
 rw[hrun]
 clear hrun hM hB
 go_wp2_with fail
 obtain⟨w13,hrun,hM,_,_,hB⟩:=MM.out.put ck_K Tryz.underlying99 (x:=13) (show ckOk 13 from rfl) (.func (.func 49) #[] #[])
 replace MM:=Lib.hid hM
 replace BB:=Lib.hid (hB _ _ BB.out (Nat.le_refl _))
 simp only[ckV] at hrun
 rw[hrun]
 clear hrun hM hB
 go_wp2_with fail
 obtain⟨w14,hrun,hM,_,_,hB⟩:=MM.out.put ck_K Tryz.underlying99 (x:=14) (show ckOk 14 from rfl) (.func (.func 50) #[] #[])
 replace MM:=Lib.hid hM
 replace BB:=Lib.hid (hB _ _ BB.out (Nat.le_refl _))
 simp only[ckV] at hrun
 rw[hrun]
 clear hrun hM hB
 go_wp2_with fail
 obtain⟨w15,hrun,hM,_,_,hB⟩:=MM.out.put ck_K Tryz.underlying99 (x:=15) (show ckOk 15 from rfl) (.func (.func 51) #[] #[])
 replace MM:=Lib.hid hM
 replace BB:=Lib.hid (hB _ _ BB.out (Nat.le_refl _))
 simp only[ckV] at hrun
 rw[hrun]
 clear hrun hM hB
 go_wp2_with fail
 obtain⟨w16,hrun,hM,_,_,hB⟩:=MM.out.put ck_K Tryz.underlying99 (x:=16) (show ckOk 16 from rfl) (.func (.func 52) #[] #[])
 replace MM:=Lib.hid hM
 replace BB:=Lib.hid (hB _ _ BB.out (Nat.le_refl _))
 simp only[ckV] at hrun
 rw[hrun]
 clear hrun hM hB
 go_wp2_with fail
 have M2:MapB ckV ckOk w16 w.heap.size howL:=MM.out
 have hlk:(Instr.lookup 99 (.map (some w.heap.size)) (.int .i64 k) false).run Tryz.prog w16 = .ok ((lookL k howL).getD .nilFunc) w16:=by
  cases hl:lookL k howL with
  | none=>simpa[ckV] using M2.look_none (x:=k) ck_K Tryz.underlying99 hk hl zero_how false
  | some v=>simpa[ckV] using M2.look_some (x:=k) ck_K Tryz.underlying99 hk hl false
 obtain⟨v,hv⟩:∃v,(lookL k howL).getD .nilFunc=v:=⟨_,rfl⟩
 have HV:=Lib.hid hv
 rw[hlk,hv]
 clear hlk M2 MM hv
 go_wp2_with fail
 go_ret
 exact⟨by rw[HV.out];rfl,BB.out⟩
def newTg (O:Tg) (m s:Nat):Tg:=fun k=>if k=m∨k=s then some (s,0) else O k
set_option maxRecDepth 100000 in
theorem idNew_any (blocks:Nat) (h0:8≤blocks) (h1:blocks≤4096) (w:World) (O:Tg):Calls Tryz.prog 4 #[.int .i64 (blocks:Int)] w fun e w'=>
 e = .returned (.tuple #[.pointer (some ⟨w.heap.size+1,0,none⟩),.int .i64 0])∧IdB w' (newTg O w.heap.size (w.heap.size+1)) (w.heap.size+1) blocks []∧w'.heap.size=w.heap.size+2∧Below w.heap.size w w':=by
 have hmm:∀W:World,(Instr.makeMap 56 none).run Tryz.prog W = .ok (.map (some W.heap.size)) (W.alloc (.map #[] 0)):=fun _=>rfl
 have d0:decide ((blocks:Int)<8)=false:=by simp;omega
 have d1:decide ((4096:Int)<(blocks:Int))=false:=by simp;omega
 have n0:¬blocks<8:=by omega
 have n1:¬4096<blocks:=by omega
 go_enter Tryz.func4,Tryz.ntmps4
 go_wp2_with fail
 go_ret2
 refine⟨rfl,⟨w.heap.size,[],?_⟩,by simp,((Below.refl _ _).alloc (Nat.le_refl _) _).alloc (by simp) _⟩
 refine⟨?_,(MapB.new u32V u32Ok w).alloc _,List.Perm.refl _,fun x hx=>(by cases hx),fun x hx=>(by cases hx),by simp[newTg],by simp[newTg],Nat.succ_pos _⟩
 have:=CbB.new (w.alloc (.map #[] 0)) 58 #[.int .i64 (blocks:Int),.map (some w.heap.size)]
 simpa using this
theorem byt16:Byt (List.replicate 16 97):=fun x hx=>by rw[(List.mem_replicate.1 hx).2];decide
set_option maxRecDepth 100000 in
theorem secret_any (w:World):Calls Tryz.prog 20 #[] w fun e w'=>e = .returned (.slice (some ⟨w.heap.size,0,none⟩) 16 16)∧IsB w' (some ⟨w.heap.size,0,none⟩) 16 16 (List.replicate 16 97)∧Below w.heap.size w w':=by
 have hkc:=fun (w:World) (C:Array Value) (n c:Nat)=>Lib.run_convert_bytes_const (P:=Tryz.prog) w 32 5 C n c Tryz.underlying32 Tryz.underlying5
 go_enter Tryz.func20,Tryz.ntmps20
 go_wp2_with fail
 go_ret
 refine⟨rfl,isB_marked (t:=5) (l:=List.replicate 16 97) (heap_alloc_new w _) byt16 (by simp) (by decide),(Below.refl _ _).alloc (Nat.le_refl _) _⟩
theorem ansE_one (e:Int):(ansE e).all (·.oneCell')=true:=by simp[ansE,Value.oneCell']
theorem szAnsE (e:Int):(Tryz.prog.info? 44).map (·.size)=some (ansE e).size:=szAns
set_option maxRecDepth 100000 in
theorem handle_no (n h e:Nat) (he:0<e) (w:World):Calls Tryz.prog 73 #[.int .u32 (n:Int),.int .u64 (h:Int),.int .i64 (e:Int)] w fun r w'=>r = .returned (.agg (ansE e))∧Below w.heap.size w w':=by
 have d0:((e:Int) != 0)=true:=by simp;omega
 have n0:¬e=0:=by omega
 have HF:=Lib.hid fun W=>fails_any (e:Int) W
 have Q0:Hid (CbB (w.alloc (.cells (ansE 0) 44)) w.heap.size 44 (ansE 0)):=Lib.hid (CbB.new _ _ _)
 have B0:Hid (Below w.heap.size w (w.alloc (.cells (ansE 0) 44))):=Lib.hid ((Below.refl _ _).alloc (Nat.le_refl _) _)
 clear he
 go_enter Tryz.func73,Tryz.ntmps73
 go_wp2_with fail
 refine (HF.out _).mono ?_
 rintro r w1 ⟨rfl,hb⟩
 have Q1:=Lib.hid (Q0.out.ab hb)
 have B1:=Lib.hid (below_tr B0.out hb B0.out.size)
 clear hb Q0 B0
 go_wp2_with (first
  | (with_reducible refine wpList_storeC (o:=⟨none,.store _ (.tmp 6) (.tmp 10),_,_,_,_⟩) ?_ 44 (.tmp 6) (.tmp 10) ?_ w.heap.size ?_ (ansE e) ?_ (cs:=ansE 0) (t:=44) Q1.out (szAnsE _) ?_ (ansE_one _) ?_
     · rfl
     · rfl
     · rfl
     · rfl
     · rfl
     intro w2 hw2
     have Q2:Hid (CbB w2 w.heap.size 44 (ansE e)):=Lib.hid (by rw[hw2];exact CbB.row Q1.out _)
     have B2:Hid (Below w.heap.size w w2):=Lib.hid (by rw[hw2];exact Below.row B1.out (Nat.le_refl _) _)
     clear hw2))
 exact bodyPost_ret (ans_results Tryz.results73 _ _ w.heap.size (ansE e) rfl Q2.out rfl) rfl ⟨rfl,B2.out⟩
theorem or_half (n h:Nat) (hn:n<4294967296) (hh:h<4294967296):bits .or .u64 ((n:Int)*4294967296) (h:Int)=((n*4294967296+h:Nat):Int):=by
 have:=or_u64 (n*4294967296) h (by omega) (by omega)
 rw[Int.natCast_mul] at this
 refine this.trans ?_
 have h2:=Nat.shiftLeft_add_eq_or_of_lt (a:=n) (b:=h) (i:=32) hh
 rw[Nat.shiftLeft_eq] at h2
 rw[←h2]
def ansH (x:Nat):Array Value:=#[.int .i64 0,.int .u64 (x:Int),.int .u64 0,.slice none 0 0,.slice none 0 0,.int .i64 0,.slice none 0 0]
set_option maxRecDepth 100000 in
theorem handle_yes (n h:Nat) (hn:n<4294967296) (hh:h<4294967296) (w:World):Calls Tryz.prog 73 #[.int .u32 (n:Int),.int .u64 (h:Int),.int .i64 0] w fun r w'=>r = .returned (.agg (ansH (n*4294967296+h)))∧Below w.heap.size w w':=by
 have hor:=or_half n h hn hh
 have n0:(0:Int)≤(n:Int):=by omega
 have n1:(n:Int)<4294967296:=by omega
 go_enter Tryz.func73,Tryz.ntmps73
 go_wp2_with fail
 exact bodyPost_ret (ans_results Tryz.results73 _ _ w.heap.size (ansH (n*4294967296+h)) rfl (CbB.new _ _ _) rfl) rfl ⟨rfl,(Below.refl _ _).alloc (Nat.le_refl _) _⟩
theorem eq_sl0 (W:World):(binOp .eql 32 (.slice none 0 0) (.slice none 0 0)).run Tryz.prog W = .ok (.bool true) W:=by
 have h:(Op.equalIn 10000 32 (.slice none 0 0) (.slice none 0 0)).run Tryz.prog W = .ok true W:=by
  unfold Op.equalIn
  simp[run_underlying Tryz.underlying32,Result.andThen]
 simp only[binOp,Op.equal,Op.maxDepth,Sem.run_bind,h,Result.andThen_ok,Sem.run_pure]
theorem eq_sl1 (x:Addr) (n c:Nat) (W:World):(binOp .eql 32 (.slice (some x) n c) (.slice none 0 0)).run Tryz.prog W = .ok (.bool false) W:=by
 have h:(Op.equalIn 10000 32 (.slice (some x) n c) (.slice none 0 0)).run Tryz.prog W = .ok false W:=by
  unfold Op.equalIn
  simp[run_underlying Tryz.underlying32,Result.andThen]
 simp only[binOp,Op.equal,Op.maxDepth,Sem.run_bind,h,Result.andThen_ok,Sem.run_pure]
set_option maxRecDepth 100000 in
theorem bclone_any (A:Option Addr) (n c:Nat) (l:List Nat) (w:World) (h:IsB w A n c l) (hn:n≤100000):Calls Tryz.prog 33 #[.slice A n c] w fun e w'=>∃v,e = .returned v∧OwB w' w.heap.size v l∧Below w.heap.size w w':=by
 have hl:=h.len
 cases A with
 | none=>
   obtain⟨rfl,rfl⟩:=h.none
   obtain rfl:l=[]:=List.eq_nil_of_length_eq_zero hl
   have hq:=eq_sl0
   clear h hl
   go_enter Tryz.func33,Tryz.ntmps33
   go_wp2_with fail
   go_ret
   exact⟨_,rfl,OwB.nil _ _,Below.refl _ _⟩
 | some x=>
   obtain⟨i0,hi0,hz0,hz1,hz2⟩:=info_parts infoU8
   have hq:=fun W=>eq_sl1 x n c W
   have E0:=Lib.hid (empty_own w)
   have I0:=Lib.hid (h.alloc (.cells #[] 5))
   have B0:Hid (Below w.heap.size w (w.alloc (.cells #[] 5))):=Lib.hid ((Below.refl _ _).alloc (Nat.le_refl _) _)
   clear h hl
   go_enter Tryz.func33,Tryz.ntmps33
   go_wp2_with (first
    | (refine wpList_appB _ rfl (.tmp 5) (.tmp 6) rfl Tryz.underlying32 hi0 hz0 hz1 hz2 rfl E0.out rfl I0.out rfl (by simp;omega) B0.out.size ?_
       intro v1 w1 hv1 hb1 hg1 hat1
       have V1:Hid (OwB w1 w.heap.size v1 l):=Lib.hid hv1
       have B1:=Lib.hid (B0.out.trans hb1)
       clear hv1 hb1 hg1 hat1))
   go_ret
   exact⟨_,rfl,V1.out,B1.out⟩
structure SlA where
 A:Option Addr
 n:Nat
 c:Nat
 l:List Nat
def SlA.B (w:World) (x:SlA):Prop:=IsB w x.A x.n x.c x.l
structure OpP where
 k:SlA
 v:SlA
 d:Bool
structure CallP where
 kind:Int
 ten:Nat
 sec:SlA
 quota:Int
 n:Int
 hd:Nat
 oth:Nat
 sn:Nat
 rt:Nat
 oA:Option Addr
 oN:Nat
 oC:Nat
 ops:List OpP
 key:SlA
 frm:SlA
 upto:SlA
 back:Bool
def CallP.cs (c:CallP):Array Value:=#[.int .i64 c.kind,.int .u32 (c.ten:Int),.slice c.sec.A c.sec.n c.sec.c,.int .i64 c.quota,.int .i64 c.n,.int .u64 (c.hd:Int),.int .u64 (c.oth:Int),.int .u64 (c.sn:Int),.int .u8 (c.rt:Int),.slice c.oA c.oN c.oC,.slice c.key.A c.key.n c.key.c,.slice c.frm.A c.frm.n c.frm.c,.slice c.upto.A c.upto.n c.upto.c,.bool c.back]
structure CallP.Ok (c:CallP):Prop where
 kind:ckOk c.kind
 ten:c.ten<4294967296
 hd:c.hd<18446744073709551616
 oth:c.oth<18446744073709551616
 sn:c.sn<18446744073709551616
 rt:c.rt<256
def fnd (bs:List (Nat×TnP)) (n:Nat):Option (Nat×TnP):=bs.find? fun x=>decide (x.2.n=n)
theorem look_fnd (n:Nat):∀bs:List (Nat×TnP),lookL n (bs.map fun x=>(x.2.n,ptrV x.1))=(fnd bs n).map fun x=>ptrV x.1
 | []=>rfl
 | p::r=>by
   have ih:=look_fnd n r
   unfold lookL fnd at ih⊢
   rw[List.map_cons]
   by_cases e:p.2.n=n
   · rw[List.find?_cons_of_pos (by simpa using e),List.find?_cons_of_pos (by simpa using e)];rfl
   · rw[List.find?_cons_of_neg (by simpa using e),List.find?_cons_of_neg (by simpa using e)];exact ih
theorem fnd_mem {bs:List (Nat×TnP)} {n:Nat} {x:Nat×TnP} (h:fnd bs n=some x):x∈bs∧x.2.n=n:=⟨List.mem_of_find?_eq_some h,by simpa using List.find?_some h⟩
theorem zero_tn {w:World}:(zeroValue 65).run Tryz.prog w = .ok (.pointer none) w:=by kernel_rfl
theorem map_look {w:World} {m:Nat} {bs:List (Nat×TnP)} (h:MapB u32V u32Ok w m (bs.map fun x=>(x.2.n,ptrV x.1))) {n:Nat} (hn:n<4294967296):
 (Instr.lookup 56 (.map (some m)) (.int .u32 (n:Int)) false).run Tryz.prog w = .ok (.pointer ((fnd bs n).map fun x=>⟨x.1,0,none⟩)) w:=by
 cases hl:fnd bs n with
 | none=>
   have:=h.look_none u32_K Tryz.underlying56 (x:=n) hn (by rw[look_fnd,hl];rfl) zero_tn false
   simpa[u32V] using this
 | some x=>
   have:=h.look_some u32_K Tryz.underlying56 (x:=n) hn (v:=ptrV x.1) (by rw[look_fnd,hl];rfl) false
   simpa[u32V,ptrV] using this
theorem bel_drewN {B:Nat} {a w:World} (h:Below B a w) (n:Nat):Below B a (w.drewN n):=⟨h.os,h.tape,h.output,h.size,h.block⟩
section
variable {w:World} {O:Tg} {s blocks m:Nat} {T:List TnP} {bs:List (Nat×TnP)} {c:CallP}
set_option maxRecDepth 100000 in
theorem holder_none (nd:Nat) (h:IdM w O s blocks T m bs) (hc:c.Ok) (hf:fnd bs (c.hd/4294967296)=none):
 Calls Tryz.prog 74 #[.pointer (some ⟨s,0,none⟩),.agg c.cs,.int .u8 (nd:Int)] w fun e w'=>e = .returned (.tuple #[.pointer none,.int .u64 0,.int .i64 7])∧Below w.heap.size w w':=by
 have ha:Below w.heap.size w (w.alloc (.cells c.cs 37)):=(Below.refl _ _).alloc (Nat.le_refl _) _
 obtain⟨q,hq⟩:∃q,c.hd/4294967296=q:=⟨_,rfl⟩
 have hq32:q<4294967296:=by have:=hc.hd;omega
 rw[hq] at hf
 have hlk:=fun k:Nat=>map_look (w:=(w.alloc (.cells c.cs 37)).drewN k) ((h.map.ab ha).same rfl) (n:=q) hq32
 simp only[hf,Option.map_none] at hlk
 have hdv:(c.hd:Int)/4294967296=(q:Int):=by omega
 have hd0:(0:Int)≤(q:Int):=by omega
 have hd1:(q:Int)<4294967296:=by omega
 have c1:=(h.box.ab ha).cell (k:=1) rfl
 have c5:=(CbB.new w 37 c.cs).cell (k:=5) rfl
 have HA:=Lib.hid ha
 clear h ha
 unfold CallP.cs at *
 go_enter Tryz.func74,Tryz.ntmps74
 go_wp2_with fail
 go_quiet (fail)
 go_wp2_with fail
 go_ret3
 exact⟨rfl,bel_drewN HA.out _⟩
theorem u64_mask32 (n:Nat) (hn:n<18446744073709551616):bits .and .u64 (n:Int) 4294967295=((n%4294967296:Nat):Int):=by
 show IntKind.u64.wrap ((BitVec.ofInt 64 (n:Int) &&& BitVec.ofInt 64 (4294967295:Int)).toNat:Int)=_
 have h1:(BitVec.ofInt 64 (n:Int)).toNat=n:=by rw[BitVec.ofInt_natCast,BitVec.toNat_ofNat,Nat.mod_eq_of_lt (by omega)]
 have h2:(BitVec.ofInt 64 (4294967295:Int)).toNat=2 ^ 32-1:=by decide
 rw[BitVec.toNat_and,h1,h2,Nat.and_two_pow_sub_one_eq_mod]
 exact wrap_u64' (n:=n%2 ^ 32) (by omega) _ (Int.natCast_nonneg _) (Int.le_refl _)
set_option maxRecDepth 100000 in
theorem holder_some (nd:Nat) (x:Nat×TnP) (cb:Nat) (mo:Option Nat) (sm nb:Nat) (es:List (Nat×Value)) (h:IdM w O s blocks T m bs) (hc:c.Ok) (hf:fnd bs (c.hd/4294967296)=some x) (hx:TnM w O s x.1 x.2 cb mo sm nb es):
 Calls Tryz.prog 74 #[.pointer (some ⟨s,0,none⟩),.agg c.cs,.int .u8 (nd:Int)] w fun e w'=>e = .returned (.tuple #[.pointer (some ⟨x.1,0,none⟩),.int .u64 ((c.hd%4294967296:Nat):Int),.int .i64 (checkH x.2.A (c.hd%4294967296) nd:Int)])∧Below w.heap.size w w':=by
 have ha:Below w.heap.size w (w.alloc (.cells c.cs 37)):=(Below.refl _ _).alloc (Nat.le_refl _) _
 obtain⟨q,hq⟩:∃q,c.hd/4294967296=q:=⟨_,rfl⟩
 obtain⟨r,hr⟩:∃r,c.hd%4294967296=r:=⟨_,rfl⟩
 have hq32:q<4294967296:=by have:=hc.hd;omega
 rw[hq] at hf
 have hlk:=fun k:Nat=>map_look (w:=(w.alloc (.cells c.cs 37)).drewN k) ((h.map.ab ha).same rfl) (n:=q) hq32
 simp only[hf,Option.map_some] at hlk
 have hdv:(c.hd:Int)/4294967296=(q:Int):=by omega
 have hd0:(0:Int)≤(q:Int):=by omega
 have hd1:(q:Int)<4294967296:=by omega
 have hmk:=u64_mask32 c.hd hc.hd
 rw[hr] at hmk⊢
 have c1:=(h.box.ab ha).cell (k:=1) rfl
 have c5:=(CbB.new w 37 c.cs).cell (k:=5) rfl
 have d3:=(hx.box.ab ha).cell (k:=3) rfl
 have HC:=Lib.hid fun k:Nat=>checkA_any (w:=(w.alloc (.cells c.cs 37)).drewN k) r nd (hx.caps.ab (bel_drewN ha k)) (show u64Ok r from by unfold u64Ok;omega)
 have HA:=Lib.hid ha
 clear h ha hx hf hq hr hq32 hc
 unfold CallP.cs at *
 go_enter Tryz.func74,Tryz.ntmps74
 go_wp2_with fail
 go_quiet (fail)
 go_wp2_with fail
 refine (HC.out _).mono ?_
 rintro e w1 ⟨rfl,hb⟩
 have B1:=Lib.hid (below_tr (bel_drewN HA.out _) hb (bel_drewN HA.out _).size)
 clear hb HC HA hlk
 go_wp2_with fail
 go_ret3
 exact⟨rfl,B1.out⟩
def seenP (t:TnP) (sn:Nat):Option Bk2:=if sn=0 then some t.now else match t.sn[sn-1]? with | some (S,false)=>some S | _=>none
theorem zero_bok {w:World}:(zeroValue 67).run Tryz.prog w = .ok (.map none) w:=by kernel_rfl
theorem seen_look {w:World} {t:TnP} {b cb sm nb:Nat} {mo:Option Nat} {es:List (Nat×Value)} (hx:TnM w O s b t cb mo sm nb es) (sn:Nat) (h0:sn≠0) (h64:sn<18446744073709551616):
 (seenP t sn=none∧∀W,W.heap[sm]? = w.heap[sm]?→(Instr.lookup 69 (.map (some sm)) (.int .u64 (sn:Int)) true).run Tryz.prog W = .ok (.tuple #[.map none,.bool false]) W)∨
 ∃S k,seenP t sn=some S∧BokB w O k S∧O k=none∧∀W,W.heap[sm]? = w.heap[sm]?→(Instr.lookup 69 (.map (some sm)) (.int .u64 (sn:Int)) true).run Tryz.prog W = .ok (.tuple #[.map (some k),.bool true]) W:=by
 cases hl:lookL sn es with
 | none=>
   refine .inl ⟨?_,fun W hW=>?_⟩
   · unfold seenP
     rw[if_neg h0]
     cases hs:t.sn[sn-1]? with
     | none=>rfl
     | some p=>
       obtain⟨S,g⟩:=p
       cases g with
       | true=>rfl
       | false=>
         have:=hx.sns.bwd (sn-1) S hs
         rw[show sn-1+1=sn by omega,hl] at this
         cases this
   · have:=(hx.snm.same hW).look_none u64_K Tryz.underlying69 (x:=sn) h64 hl zero_bok true
     simpa[u64V] using this
 | some v=>
   obtain⟨i,S,nb',h1,h2,h3,h4,h5⟩:=hx.sns.fwd _ (lookL_mem hl)
   simp only at h1 h3
   subst h3
   refine .inr ⟨S,nb',?_,h4,h5,fun W hW=>?_⟩
   · unfold seenP
     rw[if_neg h0,show sn-1=i by omega,h2]
   · have:=(hx.snm.same hW).look_some u64_K Tryz.underlying69 (x:=sn) h64 hl true
     simpa[u64V] using this
def SeenR (w:World) (O:Tg) (t:TnP) (sn:Nat) (e:Ending):Prop:=(seenP t sn=none∧e = .returned (.tuple #[.map none,.int .i64 262]))∨∃S k,seenP t sn=some S∧BokB w O k S∧O k=none∧e = .returned (.tuple #[.map (some k),.int .i64 0])
set_option maxRecDepth 100000 in
theorem seen_any {b cb sm nb:Nat} {mo:Option Nat} {t:TnP} {es:List (Nat×Value)} (hc:c.Ok) (hx:TnM w O s b t cb mo sm nb es):
 Calls Tryz.prog 84 #[.pointer (some ⟨b,0,none⟩),.agg c.cs] w fun e w'=>SeenR w O t c.sn e∧Below w.heap.size w w':=by
 have ha:Below w.heap.size w (w.alloc (.cells c.cs 37)):=(Below.refl _ _).alloc (Nat.le_refl _) _
 have c7:=(CbB.new w 37 c.cs).cell (k:=7) rfl
 have d2:=(hx.box.ab ha).cell (k:=2) rfl
 have d4:=(hx.box.ab ha).cell (k:=4) rfl
 have HA:=Lib.hid ha
 by_cases h0:c.sn=0
 · have hz:((c.sn:Int)==0)=true:=by rw[h0];rfl
   have HR:Hid (SeenR w O t c.sn (.returned (.tuple #[.map (some nb),.int .i64 0]))):=Lib.hid (.inr ⟨t.now,nb,by unfold seenP;rw[if_pos h0],hx.now,hx.nowO,rfl⟩)
   clear ha hx hc h0
   unfold CallP.cs at *
   go_enter Tryz.func84,Tryz.ntmps84
   go_wp2_with fail
   go_ret2
   exact⟨HR.out,HA.out⟩
 · have hz:((c.sn:Int)==0)=false:=by simp;omega
   have hsm:=(ha.block sm hx.snm.lt)
   rcases seen_look hx c.sn h0 hc.sn with ⟨h1,h2⟩ | ⟨S,k,h1,h2,h3,h4⟩
   · have HR:Hid (SeenR w O t c.sn (.returned (.tuple #[.map none,.int .i64 262]))):=Lib.hid (.inl ⟨h1,rfl⟩)
     have hlk:=fun j:Nat=>h2 ((w.alloc (.cells c.cs 37)).drewN j) hsm
     clear ha hx hc h1 h2 hsm
     unfold CallP.cs at *
     go_enter Tryz.func84,Tryz.ntmps84
     go_wp2_with fail
     go_quiet (fail)
     go_wp2_with fail
     go_ret2
     exact⟨HR.out,bel_drewN HA.out _⟩
   · have HR:Hid (SeenR w O t c.sn (.returned (.tuple #[.map (some k),.int .i64 0]))):=Lib.hid (.inr ⟨S,k,h1,h2,h3,rfl⟩)
     have hlk:=fun j:Nat=>h4 ((w.alloc (.cells c.cs 37)).drewN j) hsm
     clear ha hx hc h1 h2 h3 h4 hsm
     unfold CallP.cs at *
     go_enter Tryz.func84,Tryz.ntmps84
     go_wp2_with fail
     go_quiet (fail)
     go_wp2_with fail
     go_ret2
     exact⟨HR.out,bel_drewN HA.out _⟩
end
end Go.Proofs.YtgdhinjhbjolgaaGreat
