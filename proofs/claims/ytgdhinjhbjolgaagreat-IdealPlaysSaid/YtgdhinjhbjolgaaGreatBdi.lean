/-
  Parts of the proof, joined.
-/
import Derived.Test.YtgdhinjhbjolgaaGreatBde
import Derived.Test.YtgdhinjhbjolgaaGreatBdh
import Derived.Test.YtgdhinjhbjolgaaGreatBdb
namespace Go.Proofs.YtgdhinjhbjolgaaGreat
set_option maxHeartbeats 1000000
open Go.RowKit
set_option linter.unusedVariables false
set_option linter.unusedSimpArgs false
theorem cb_neX {w:World} {g b:Nat} {T T':TypeId} {cs cs':Array Value} (h:CbB w g T cs) (h':CbB w b T' cs') (hT:T≠T'):g≠b:=fun e=>by
 unfold CbB at h h'
 rw[e,h'] at h
 injection h with h
 injection h with _ h
 exact hT h.symm
theorem strOf_toListI (l:List Nat):(strOf l).toList=l.map UInt8.ofNat:=ByteArray.toList_mk _
theorem str_eqI {x y:List Nat} (hx:Byt x) (hy:Byt y):((strOf x).toList==(strOf y).toList)=decide (x=y):=by
 rw[strOf_toListI,strOf_toListI]
 by_cases h:x=y
 · rw[decide_eq_true h,h];simp
 · rw[decide_eq_false h,beq_eq_false_iff_ne]
   exact fun e=>h (k8_inj hx hy e)
theorem CbB.newI {w:World} {n:Nat} {T:TypeId} {cs:Array Value} (h:n=w.heap.size):CbB (w.alloc (.cells cs T)) n T cs:=by subst h;exact CbB.new w T cs
structure AnsP where
 err:Int
 hd:Nat
 sn:Nat
 val:List Nat
 prs:Bk2
 cnt:Int
 lst:List Nat
def errA (e:Int):AnsP:=⟨e,0,0,[],[],0,[]⟩
def hdA (h:Nat):AnsP:=⟨0,h,0,[],[],0,[]⟩
def KyB (w:World) (C:Nat) (v:Value) (l:List Nat):Prop:=∃g n cap cs fr,v = .slice (some ⟨g,0,none⟩) n cap∧C≤g∧w.heap[g]? = some (.cells cs 5 fr)∧IsB w (some ⟨g,0,none⟩) n cap l∧n≤fr.1
def PrB (w:World) (C:Nat) (O:Tg) (v:Value) (l:Bk2):Prop:=
 ∃ vs:List (Value×Value),w.ownsRow C 87 2 v l.length (vs.flatMap fun p=>[p.1,p.2])∧(∀g,v.ownBlock=some g→O g=some (0,0))∧vs.length=l.length∧
   ∀(i:Nat) (p:Value×Value) (q:Ky×List Nat),vs[i]? = some p→l[i]? = some q→(∃k,KyB w C p.1 k∧k8 k=q.1)∧OwB w C p.2 q.2∧(∀g,p.1.ownBlock=some g→O g=some (0,0))∧(∀g,p.2.ownBlock=some g→O g=some (0,0))
structure AnsB (w:World) (C:Nat) (O:Tg) (cs:Array Value) (a:AnsP):Prop where
 sh:∃v p l,cs = #[.int .i64 a.err,.int .u64 (a.hd:Int),.int .u64 (a.sn:Int),v,p,.int .i64 a.cnt,l]∧OwB w C v a.val∧(∀g,v.ownBlock=some g→O g=some (0,0))∧PrB w C O p a.prs∧U32.NsB w C l a.lst∧(∀g,l.ownBlock=some g→O g=some (0,0))
theorem AnsB.flat (w:World) (C:Nat) (O:Tg) (e:Int) (h sn:Nat) (n:Int):AnsB w C O #[.int .i64 e,.int .u64 (h:Int),.int .u64 (sn:Int),.slice none 0 0,.slice none 0 0,.int .i64 n,.slice none 0 0] ⟨e,h,sn,[],[],n,[]⟩:=
 ⟨_,_,_,rfl,OwB.nil _ _,fun g hg=>(by cases hg),⟨[],World.ownsRow_nil _ _ _ _,fun g hg=>(by cases hg),rfl,fun i p q hi=>(by simp at hi)⟩,U32.NsB.nil _ _,fun g hg=>(by cases hg)⟩
def DoR (s blocks:Nat) (w:World) (O:Tg) (a:AnsP) (T':List TnP) (e:Ending) (w':World):Prop:=
 ∃cs O',e = .returned (.agg cs)∧AnsB w' w.heap.size O' cs a∧IdB w' O' s blocks T'∧Stp (fun τ=>τ.1=s) w O w' O'
def updT (n:Nat) (t':TnP) (T:List TnP):List TnP:=T.map fun t=>if t.n=n then t' else t
section
variable {w w1:World} {O O1:Tg} {s blocks m n:Nat} {T:List TnP} {bs:List (Nat×TnP)}
theorem IdM.nodup (h:IdM w O s blocks T m bs):(bs.map fun x=>x.2.n).Nodup:=by
 have:=h.map.nodup u32_K
 rwa [List.map_map] at this
theorem nodup_one:∀{l:List (Nat×TnP)} {x y:Nat×TnP},(l.map fun x=>x.2.n).Nodup→x∈l→y∈l→x.2.n=y.2.n→x=y
 | p :: r,x,y,hn,hx,hy,e=>by
   rw[List.map_cons,List.nodup_cons] at hn
   rcases List.mem_cons.1 hx with e1 | hx2
   · rcases List.mem_cons.1 hy with e2 | hy2
     · rw[e1,e2]
     · exact (hn.1 (List.mem_map.2 ⟨y,hy2,by rw[←e,e1]⟩)).elim
   · rcases List.mem_cons.1 hy with e2 | hy2
     · exact (hn.1 (List.mem_map.2 ⟨x,hx2,by rw[e,e2]⟩)).elim
     · exact nodup_one hn.2 hx2 hy2 e
theorem IdM.upd (h:IdM w O s blocks T m bs) {x:Nat×TnP} (hf:fnd bs n=some x) (k:Stp (fun τ=>τ=(s,n)) w O w1 O1) {t':TnP} (hn:t'.n=n) (hok:TnOk t') (ht:TnB w1 O1 s x.1 t'):
 IdM w1 O1 s blocks (updT n t' T) m (bs.map fun y=>if y.2.n=n then (y.1,t') else y):=by
 have h1:1≤n:=hn▸hok.n1
 have n0:¬(s,0)=(s,n):=fun e=>by injection e with _ e;omega
 obtain⟨hm,hxn⟩:=fnd_mem hf
 refine⟨(k.ot h.box.lt h.os n0).1.trans h.box,?_,?_,fun y hy=>?_,fun y hy=>?_,(k.ot h.box.lt h.os n0).2,(k.ot h.map.lt h.om n0).2,h.pos⟩
 · have:=h.map.same (k.ot h.map.lt h.om n0).1
   have e:(bs.map fun y=>if y.2.n=n then (y.1,t') else y).map (fun x=>(x.2.n,ptrV x.1))=bs.map fun x=>(x.2.n,ptrV x.1):=by
    rw[List.map_map]
    refine List.map_congr_left fun y _=>?_
    simp only[Function.comp_apply]
    by_cases e:y.2.n=n
    · rw[if_pos e,e];simp[hn]
    · rw[if_neg e]
   rw[e]
   exact this
 · have e:(bs.map fun y=>if y.2.n=n then (y.1,t') else y).map (·.2)=updT n t' (bs.map (·.2)):=by
    unfold updT
    rw[List.map_map,List.map_map]
    refine List.map_congr_left fun y _=>?_
    simp only[Function.comp_apply]
    by_cases e:y.2.n=n
    · rw[if_pos e,if_pos e]
    · rw[if_neg e,if_neg e]
   rw[e]
   exact h.prm.map _
 · obtain⟨z,hz,rfl⟩:=List.mem_map.1 hy
   by_cases e:z.2.n=n
   · rw[if_pos e]
     obtain rfl:z=x:=nodup_one h.nodup hz hm (e.trans hxn.symm)
     exact ht
   · rw[if_neg e]
     exact (h.all z hz).stp k (fun e2=>e (by injection e2))
 · obtain⟨z,hz,rfl⟩:=List.mem_map.1 hy
   by_cases e:z.2.n=n
   · rw[if_pos e];exact hok
   · rw[if_neg e];exact h.ok z hz
end
def capTg (O:Tg) (N s n:Nat) (mo':Option Nat):Tg:=fun k=>if N≤k∧mo'=some k then some (s,n) else O k
theorem caps_step {w w1:World} {O:Tg} {s b n:Nat} {t:TnP} {c sm nb:Nat} {mo:Option Nat} {es:List (Nat×Value)} (h:TnM w O s b t c mo sm nb es) (hn:t.n=n) {v:Value} {A':HL} {e:Ending} (hr:CapR 0 c mo w v A' e w1):
 e = .returned v∧∃mo' O1,Stp (fun τ=>τ=(s,n)) w O w1 O1∧TnM w1 O1 s b ⟨t.n,t.sec,t.q,t.now,A',t.sn,t.tu⟩ c mo' sm nb es:=by
 obtain⟨he,mo',h1,h2,h3⟩:=hr
 subst hn
 have hl:=h.caps.lt
 have hcF:∀k,capF c mo k→O k=some (s,t.n):=fun k hk=>by
  rcases hk with rfl | hk
  · exact h.tc
  · exact h.tm k hk
 have st:Stp (fun τ=>τ=(s,t.n)) w O w1 (capTg O w.heap.size s t.n mo'):=⟨h2.imp fun k hk=>⟨_,hcF k hk,rfl⟩,fun k hk=>by unfold capTg;rw[if_neg (by omega)]⟩
 have bc:b≠c:=by
  obtain⟨l,h4,_⟩:=h.caps.st
  exact cb_neX h.box h4.box (by decide)
 have bm:∀k,mo=some k→b≠k∧sm≠k:=fun k hk=>by
  obtain⟨l,h4,_⟩:=h.caps.st
  refine⟨fun e=>?_,fun e=>h.ne (by rw[hk,e])⟩
  obtain⟨es',cl,h5,_⟩:=(h4.map k hk).2
  have hb:=h.box
  unfold CbB at hb
  rw[e,h5] at hb
  cases hb
 have sc:sm≠c:=fun e=>by
  obtain⟨l,h4,_⟩:=h.caps.st
  obtain⟨es',cl,h5,_⟩:=h.snm
  have hb:=h4.box
  unfold CbB at hb
  rw[←e,h5] at hb
  cases hb
 have nF:∀k,k≠c→(∀q,mo=some q→k≠q)→¬capF c mo k:=fun k h1 h2 hk=>by
  rcases hk with hk | hk
  · exact h1 hk
  · exact h2 k hk rfl
 obtain⟨es0,l0,hnb,_⟩:=id h.now
 refine⟨he,mo',_,st,⟨(h2.block b h.box.lt (nF b bc fun q hq=>(bm q hq).1)).trans h.box,h.now.stp h.nowO st,(st.im hnb.lt h.nowO).2,h1,
  h.snm.same (h2.block sm h.snm.lt (nF sm sc fun q hq=>(bm q hq).2)),h.sns.stp st,(st.tg b h.box.lt).trans h.tb,(st.tg c hl.1).trans h.tc,fun q hq=>?_,(st.tg sm h.snm.lt).trans h.ts,fun e=>?_⟩⟩
 · rcases h3 with rfl | ⟨q',hq',hge⟩
   · exact (st.tg q (hl.2 q hq)).trans (h.tm q hq)
   · unfold capTg
     rw[hq'] at hq
     injection hq with hq
     subst hq
     rw[if_pos ⟨hge,hq'⟩]
 · rcases h3 with rfl | ⟨q',hq',hge⟩
   · exact h.ne e
   · rw[hq'] at e
     injection e with e
     subst e
     exact absurd h.snm.lt (Nat.not_lt.2 hge)
def cutTg (O:Tg) (N:Nat):Tg:=fun k=>if k<N then O k else some (0,0)
section
variable {P:Nat×Nat→Prop} {w w1 w2:World} {O O1:Tg}
theorem Stp.cut (hb:Below w.heap.size w w1) (P:Nat×Nat→Prop):Stp P w O w1 (cutTg O w.heap.size):=Stp.of hb P fun k hk=>by unfold cutTg;rw[if_pos hk]
theorem Stp.fresh (h:Stp P w O w1 O1) {g:Nat} (k:Fr w1 w2 (fun q=>q=g)) (hg:w.heap.size≤g):Stp P w O w2 O1:=
 ⟨⟨k.os.trans h.fr.os,k.tape.trans h.fr.tape,k.output.trans h.fr.output,Nat.le_trans h.size k.size,fun i hi hn=>(k.block i (Nat.lt_of_lt_of_le hi h.size) (by omega)).trans (h.fr.block i hi hn)⟩,h.tg⟩
theorem Stp.box {g:Nat} (k:Fr w1 w2 (fun q=>q=g)) (hg:O1 g=some (0,0)):Stp (fun τ=>τ=(0,0)) w1 O1 w2 O1:=⟨k.imp fun q hq=>⟨_,hq▸hg,rfl⟩,fun _ _=>rfl⟩
theorem Stp.ab (h:Stp P w O w1 O1) (hb:Below w1.heap.size w1 w2):Stp P w O w2 O1:=h.tr (Stp.of hb P fun _ _=>rfl)
theorem cutTg_at {N k:Nat} (h:N≤k):cutTg O N k=some (0,0):=by unfold cutTg;rw[if_neg (by omega)]
end
theorem DoR.flat {s blocks:Nat} {w w':World} {O O':Tg} {T':List TnP} (e:Int) (h sn:Nat) (n:Int) (hi:IdB w' O' s blocks T') (hs:Stp (fun τ=>τ.1=s) w O w' O'):
 DoR s blocks w O ⟨e,h,sn,[],[],n,[]⟩ T' (.returned (.agg #[.int .i64 e,.int .u64 (h:Int),.int .u64 (sn:Int),.slice none 0 0,.slice none 0 0,.int .i64 n,.slice none 0 0])) w':=
 ⟨_,O',rfl,AnsB.flat _ _ _ _ _ _ _,hi,hs⟩
theorem preX (w:World) (c:CallP):∃w0,Hid (((w.alloc (.cells #[.int .i64 c.kind,.int .u32 (c.ten:Int),.slice c.sec.A c.sec.n c.sec.c,.int .i64 c.quota,.int .i64 c.n,.int .u64 (c.hd:Int),.int .u64 (c.oth:Int),.int .u64 (c.sn:Int),.int .u8 (c.rt:Int),.slice c.oA c.oN c.oC,.slice c.key.A c.key.n c.key.c,.slice c.frm.A c.frm.n c.frm.c,.slice c.upto.A c.upto.n c.upto.c,.bool c.back] 37)).alloc (.cells #[.int .i64 0,.int .u64 0,.int .u64 0,.slice none 0 0,.slice none 0 0,.int .i64 0,.slice none 0 0] 44))=w0)∧Below w.heap.size w w0∧CbB w0 w.heap.size 37 c.cs∧CbB w0 (w.heap.size+1) 44 (ansE 0):=
 ⟨_,Lib.hid rfl,((Below.refl _ _).alloc (Nat.le_refl _) _).alloc (by simp) _,(CbB.new w _ _).ab ((Below.refl _ _).alloc (Nat.le_refl _) _),CbB.newI (by simp)⟩
section
variable {w:World} {O:Tg} {s blocks m:Nat} {T:List TnP} {bs:List (Nat×TnP)} {c:CallP}
theorem fr_rowX (w:World) (g:Nat) (cs:Array Value):Fr w (w.setRow g cs) (fun q=>q=g):=⟨rfl,rfl,rfl,by simp,fun k _ hk=>setRow_other w g k cs hk⟩
set_option maxRecDepth 100000 in
theorem attach_none (h:IdM w O s blocks T m bs) (hc:c.Ok) (hf:fnd bs c.ten=none):
 Calls Tryz.prog 44 #[.pointer (some ⟨s,0,none⟩),.agg c.cs] w (DoR s blocks w O (errA 7) T):=by
 obtain⟨w0,hw0,ha,hcb,hqb⟩:=preX w c
 unfold CallP.cs at hcb⊢
 go_enter Tryz.func44,Tryz.ntmps44
 go_upto_region 1 with (fail)
 rw[hw0.out]
 clear hw0
 have hlk:=fun k:Nat=>map_look (w:=w0.drewN k) ((h.map.ab ha).same rfl) (n:=c.ten) hc.ten
 simp only[hf,Option.map_none] at hlk
 have c1:=(h.box.ab ha).cell (k:=1) rfl
 have c5:=hcb.cell (k:=1) rfl
 have HA:=Lib.hid ha
 have HM:=Lib.hid (h.stp (Stp.cut ha (fun _=>False)) fun _ h=>h)
 have HQ:=Lib.hid hqb
 have HF:=Lib.hid fun W=>fails_any 7 W
 clear h ha hqb hcb hf hc
 go_quiet (fail)
 go_wp2_with fail
 refine (HF.out _).mono ?_
 rintro e w1 ⟨rfl,hb⟩
 have B1:Hid (Below w0.heap.size w0 w1):=Lib.hid ((bel_drewN (Below.refl _ _) _).trans hb)
 have Q1:=Lib.hid (HQ.out.ab B1.out)
 have M1:=Lib.hid (HM.out.stp (Stp.of B1.out (fun _=>False) fun _ _=>rfl) fun _ h=>h)
 have S1:Hid (Stp (fun τ=>τ.1=s) w O w1 (cutTg O w.heap.size)):=Lib.hid ((Stp.cut HA.out _).ab B1.out)
 clear hb HQ HM B1
 go_wp2_with (first
  | (with_reducible refine wpList_storeC (o:=⟨none,.store _ (.tmp 4) (.tmp 18),_,_,_,_⟩) ?_ 44 (.tmp 4) (.tmp 18) ?_ (w.heap.size+1) ?_ (ansE 7) ?_ (cs:=ansE 0) (t:=44) Q1.out (szAnsE _) ?_ (ansE_one _) ?_
     · rfl
     · rfl
     · rfl
     · rfl
     · rfl
     intro wz hwz
     have QZ:Hid (CbB wz (w.heap.size+1) 44 (ansE 7)):=Lib.hid (by rw[hwz];exact CbB.row Q1.out _)
     have FZ:Hid (Fr w1 wz (fun k=>k=(w.heap.size+1))):=Lib.hid (by rw[hwz];exact fr_rowX _ _ _)
     clear hwz))
 refine bodyPost_ret (ans_results Tryz.results44 _ _ (w.heap.size+1) (ansE 7) rfl QZ.out rfl) rfl ?_
 exact DoR.flat 7 0 0 0 ⟨m,bs,M1.out.stp (Stp.box FZ.out (cutTg_at (Nat.le_succ _))) fun i e=>by have:=M1.out.pos;injection e with e;omega⟩ (S1.out.fresh FZ.out (Nat.le_succ _))
set_option maxRecDepth 100000 in
theorem attach_sec (x:Nat×TnP) (h:IdM w O s blocks T m bs) (hc:c.Ok) (hf:fnd bs c.ten=some x) (hs:IsB w c.sec.A c.sec.n c.sec.c c.sec.l) (hne:c.sec.l≠x.2.sec):
 Calls Tryz.prog 44 #[.pointer (some ⟨s,0,none⟩),.agg c.cs] w (DoR s blocks w O (errA 260) T):=by
 have hx:=fnd_mem hf
 obtain⟨cb,mo,sm,nb,es,ht⟩:=h.all x hx.1
 obtain⟨w0,hw0,ha,hcb,hqb⟩:=preX w c
 unfold CallP.cs at hcb⊢
 go_enter Tryz.func44,Tryz.ntmps44
 go_upto_region 1 with (fail)
 rw[hw0.out]
 clear hw0
 have hlk:=fun k:Nat=>map_look (w:=w0.drewN k) ((h.map.ab ha).same rfl) (n:=c.ten) hc.ten
 simp only[hf,Option.map_some] at hlk
 have c1:=(h.box.ab ha).cell (k:=1) rfl
 have c5:=hcb.cell (k:=1) rfl
 have c2:=hcb.cell (k:=2) rfl
 have d0:=(ht.box.ab ha).cell (k:=0) rfl
 have hst:=fun k:Nat=>run_str ((hs.ab ha).drewN k) 32 5 9 Tryz.underlying32 Tryz.underlying5 Tryz.underlying9
 have hse:((strOf c.sec.l).toList==(strOf x.2.sec).toList)=false:=by rw[str_eqI hs.2 (h.ok x hx.1).sec];simpa using hne
 have HA:=Lib.hid ha
 have HM:=Lib.hid (h.stp (Stp.cut ha (fun _=>False)) fun _ h=>h)
 have HQ:=Lib.hid hqb
 have HF:=Lib.hid fun W=>fails_any 260 W
 clear h ha hqb hcb hf hc hs hne ht hx
 go_quiet (fail)
 go_wp2_with fail
 go_quiet (fail)
 go_wp2_with fail
 refine (HF.out _).mono ?_
 rintro e w1 ⟨rfl,hb⟩
 have B1:Hid (Below w0.heap.size w0 w1):=Lib.hid ((bel_drewN (Below.refl _ _) _).trans hb)
 have Q1:=Lib.hid (HQ.out.ab B1.out)
 have M1:=Lib.hid (HM.out.stp (Stp.of B1.out (fun _=>False) fun _ _=>rfl) fun _ h=>h)
 have S1:Hid (Stp (fun τ=>τ.1=s) w O w1 (cutTg O w.heap.size)):=Lib.hid ((Stp.cut HA.out _).ab B1.out)
 clear hb HQ HM B1
 go_wp2_with (first
  | (with_reducible refine wpList_storeC (o:=⟨none,.store _ (.tmp 4) (.tmp 28),_,_,_,_⟩) ?_ 44 (.tmp 4) (.tmp 28) ?_ (w.heap.size+1) ?_ (ansE 260) ?_ (cs:=ansE 0) (t:=44) Q1.out (szAnsE _) ?_ (ansE_one _) ?_
     · rfl
     · rfl
     · rfl
     · rfl
     · rfl
     intro wz hwz
     have QZ:Hid (CbB wz (w.heap.size+1) 44 (ansE 260)):=Lib.hid (by rw[hwz];exact CbB.row Q1.out _)
     have FZ:Hid (Fr w1 wz (fun k=>k=(w.heap.size+1))):=Lib.hid (by rw[hwz];exact fr_rowX _ _ _)
     clear hwz))
 refine bodyPost_ret (ans_results Tryz.results44 _ _ (w.heap.size+1) (ansE 260) rfl QZ.out rfl) rfl ?_
 exact DoR.flat 260 0 0 0 ⟨m,bs,M1.out.stp (Stp.box FZ.out (cutTg_at (Nat.le_succ _))) fun i e=>by have:=M1.out.pos;injection e with e;omega⟩ (S1.out.fresh FZ.out (Nat.le_succ _))
def attT (t:TnP):TnP:=⟨t.n,t.sec,t.q,t.now,(putH t.A 15 0).2,t.sn,t.tu⟩
theorem ansH_one (e:Nat):(ansH e).all (·.oneCell')=true:=by simp[ansH,Value.oneCell']
theorem szAnsH (e:Nat):(Tryz.prog.info? 44).map (·.size)=some (ansH e).size:=szAns
set_option maxRecDepth 100000 in
theorem attach_yes (x:Nat×TnP) (h:IdM w O s blocks T m bs) (hc:c.Ok) (hf:fnd bs c.ten=some x) (hs:IsB w c.sec.A c.sec.n c.sec.c c.sec.l) (he:c.sec.l=x.2.sec) (hl:x.2.A.length<1000000) (hp:(putH x.2.A 15 0).1=(x.2.A.length+1,0)):
 Calls Tryz.prog 44 #[.pointer (some ⟨s,0,none⟩),.agg c.cs] w (DoR s blocks w O (hdA (c.ten*4294967296+(x.2.A.length+1))) (updT c.ten (attT x.2) T)):=by
 have hx:=fnd_mem hf
 obtain⟨cb,mo,sm,nb,es,ht⟩:=h.all x hx.1
 obtain⟨w0,hw0,ha,hcb,hqb⟩:=preX w c
 unfold CallP.cs at hcb⊢
 go_enter Tryz.func44,Tryz.ntmps44
 go_upto_region 1 with (fail)
 rw[hw0.out]
 clear hw0
 have hlk:=fun k:Nat=>map_look (w:=w0.drewN k) ((h.map.ab ha).same rfl) (n:=c.ten) hc.ten
 simp only[hf,Option.map_some] at hlk
 have c1:=(h.box.ab ha).cell (k:=1) rfl
 have c5:=hcb.cell (k:=1) rfl
 have c2:=hcb.cell (k:=2) rfl
 have d0:=(ht.box.ab ha).cell (k:=0) rfl
 have d3:=(ht.box.ab ha).cell (k:=3) rfl
 have hst:=fun k:Nat=>run_str ((hs.ab ha).drewN k) 32 5 9 Tryz.underlying32 Tryz.underlying5 Tryz.underlying9
 have hse:((strOf c.sec.l).toList==(strOf x.2.sec).toList)=true:=by rw[str_eqI hs.2 (h.ok x hx.1).sec];simpa using he
 have M0:∀k,IdM (w0.drewN k) (cutTg O w.heap.size) s blocks T m bs:=fun k=>h.stp (Stp.cut (bel_drewN ha k) (fun _=>False)) fun _ h=>h
 have T0:∀k,TnM (w0.drewN k) (cutTg O w.heap.size) s x.1 x.2 cb mo sm nb es:=fun k=>ht.stp (Stp.cut (bel_drewN ha k) (fun _=>False)) fun h=>h
 have HA:=Lib.hid ha
 have HQ:=Lib.hid hqb
 have HB:=Lib.hid hcb
 have HM:=Lib.hid M0
 have HT:=Lib.hid T0
 have HC:=Lib.hid fun k=>attachA_any (T0 k).caps hl
 have HH:=Lib.hid fun W=>handle_yes c.ten (x.2.A.length+1) hc.ten (by omega) W
 have HP:=Lib.hid hp
 have HX:=Lib.hid hx.2
 have HN:Hid (TnOk (attT x.2)):=Lib.hid ⟨(h.ok x hx.1).n1,(h.ok x hx.1).n32,(h.ok x hx.1).sec,(h.ok x hx.1).q1,(h.ok x hx.1).q2⟩
 have HF:=Lib.hid hf
 clear h ha hqb hcb hf hc hs he ht hx M0 T0 hp hl
 go_quiet (fail)
 go_wp2_with fail
 go_quiet (fail)
 go_wp2_with fail
 refine (HC.out _).mono ?_
 intro e w1 hr
 obtain⟨rfl,mo',O1,k1,t1⟩:=caps_step (HT.out _) HX.out hr
 rw[HP.out]
 dsimp only
 have K1:=Lib.hid k1
 have M1:=Lib.hid ((HM.out _).upd (t':=attT x.2) HF.out k1 HX.out HN.out ⟨_,_,_,_,_,t1⟩)
 have Q1:Hid (CbB w1 (w.heap.size+1) 44 (ansE 0)):=Lib.hid ((k1.ot (k:=w.heap.size+1) (by have:=HQ.out.lt;exact this) (cutTg_at (Nat.le_succ _)) (fun e=>by injection e with _ e;have:=(HN.out).n1;have:=HX.out;simp only[attT] at *;omega)).1.trans HQ.out)
 have G1:Hid (O1 (w.heap.size+1)=some (0,0)):=Lib.hid ((k1.tg _ (by have:=HQ.out.lt;exact this)).trans (cutTg_at (Nat.le_succ _)))
 have c5':w1.cell? ⟨w.heap.size,1,none⟩=some (.int .u32 (c.ten:Int)):=(show CbB w1 w.heap.size _ _ from ((k1.ot (k:=w.heap.size) (by have:=HB.out.lt;exact this) (cutTg_at (Nat.le_refl _)) (fun e=>by injection e with _ e;have:=(HN.out).n1;have:=HX.out;simp only[attT] at *;omega)).1.trans HB.out)).cell (k:=1) rfl
 have S1:Hid (Stp (fun τ=>τ.1=s) w O w1 O1):=Lib.hid (((Stp.cut HA.out _).ab (bel_drewN (Below.refl _ _) _)).tr (k1.imp fun τ e=>by rw[e]))
 clear k1 t1 hr HC HT HM HQ HF hlk hst
 go_wp2_with fail
 refine (HH.out _).mono ?_
 rintro e w2 ⟨rfl,hb⟩
 have Q2:=Lib.hid (Q1.out.ab hb)
 have M2:=Lib.hid (M1.out.stp (Stp.of hb (fun _=>False) fun _ _=>rfl) fun _ h=>h)
 have S2:=Lib.hid (S1.out.ab hb)
 clear hb Q1 M1 S1 HH
 go_wp2_with (first
  | (with_reducible refine wpList_storeC (o:=⟨none,.store _ (.tmp 4) (.tmp 41),_,_,_,_⟩) ?_ 44 (.tmp 4) (.tmp 41) ?_ (w.heap.size+1) ?_ (ansH (c.ten*4294967296+(x.2.A.length+1))) ?_ (cs:=ansE 0) (t:=44) Q2.out (szAnsH _) ?_ (ansH_one _) ?_
     · rfl
     · rfl
     · rfl
     · rfl
     · rfl
     intro wz hwz
     have QZ:Hid (CbB wz (w.heap.size+1) 44 (ansH (c.ten*4294967296+(x.2.A.length+1)))):=Lib.hid (by rw[hwz];exact CbB.row Q2.out _)
     have FZ:Hid (Fr w2 wz (fun k=>k=(w.heap.size+1))):=Lib.hid (by rw[hwz];exact fr_rowX _ _ _)
     clear hwz))
 refine bodyPost_ret (ans_results Tryz.results44 _ _ (w.heap.size+1) (ansH (c.ten*4294967296+(x.2.A.length+1))) rfl QZ.out rfl) rfl ?_
 exact DoR.flat 0 (c.ten*4294967296+(x.2.A.length+1)) 0 0 ⟨m,_,M2.out.stp (Stp.box FZ.out G1.out) fun i e=>by have:=M2.out.pos;injection e with e;omega⟩ (S2.out.fresh FZ.out (Nat.le_succ _))
set_option maxRecDepth 100000 in
theorem attach_full (x:Nat×TnP) (h:IdM w O s blocks T m bs) (hc:c.Ok) (hf:fnd bs c.ten=some x) (hs:IsB w c.sec.A c.sec.n c.sec.c c.sec.l) (he:c.sec.l=x.2.sec) (hl:x.2.A.length<1000000) (hp:putH x.2.A 15 0=((0,9),x.2.A)):
 Calls Tryz.prog 44 #[.pointer (some ⟨s,0,none⟩),.agg c.cs] w (DoR s blocks w O (errA 9) (updT c.ten (attT x.2) T)):=by
 have hx:=fnd_mem hf
 obtain⟨cb,mo,sm,nb,es,ht⟩:=h.all x hx.1
 obtain⟨w0,hw0,ha,hcb,hqb⟩:=preX w c
 unfold CallP.cs at hcb⊢
 go_enter Tryz.func44,Tryz.ntmps44
 go_upto_region 1 with (fail)
 rw[hw0.out]
 clear hw0
 have hlk:=fun k:Nat=>map_look (w:=w0.drewN k) ((h.map.ab ha).same rfl) (n:=c.ten) hc.ten
 simp only[hf,Option.map_some] at hlk
 have c1:=(h.box.ab ha).cell (k:=1) rfl
 have c5:=hcb.cell (k:=1) rfl
 have c2:=hcb.cell (k:=2) rfl
 have d0:=(ht.box.ab ha).cell (k:=0) rfl
 have d3:=(ht.box.ab ha).cell (k:=3) rfl
 have hst:=fun k:Nat=>run_str ((hs.ab ha).drewN k) 32 5 9 Tryz.underlying32 Tryz.underlying5 Tryz.underlying9
 have hse:((strOf c.sec.l).toList==(strOf x.2.sec).toList)=true:=by rw[str_eqI hs.2 (h.ok x hx.1).sec];simpa using he
 have M0:∀k,IdM (w0.drewN k) (cutTg O w.heap.size) s blocks T m bs:=fun k=>h.stp (Stp.cut (bel_drewN ha k) (fun _=>False)) fun _ h=>h
 have T0:∀k,TnM (w0.drewN k) (cutTg O w.heap.size) s x.1 x.2 cb mo sm nb es:=fun k=>ht.stp (Stp.cut (bel_drewN ha k) (fun _=>False)) fun h=>h
 have HA:=Lib.hid ha
 have HQ:=Lib.hid hqb
 have HB:=Lib.hid hcb
 have HM:=Lib.hid M0
 have HT:=Lib.hid T0
 have HC:=Lib.hid fun k=>attachA_any (T0 k).caps hl
 have HH:=Lib.hid fun W=>handle_no c.ten 0 9 (by decide) W
 have HP:=Lib.hid hp
 have HX:=Lib.hid hx.2
 have HN:Hid (TnOk (attT x.2)):=Lib.hid ⟨(h.ok x hx.1).n1,(h.ok x hx.1).n32,(h.ok x hx.1).sec,(h.ok x hx.1).q1,(h.ok x hx.1).q2⟩
 have HF:=Lib.hid hf
 clear h ha hqb hcb hf hc hs he ht hx M0 T0 hp hl
 go_quiet (fail)
 go_wp2_with fail
 go_quiet (fail)
 go_wp2_with fail
 refine (HC.out _).mono ?_
 intro e w1 hr
 obtain⟨rfl,mo',O1,k1,t1⟩:=caps_step (HT.out _) HX.out hr
 rw[HP.out]
 dsimp only
 have K1:=Lib.hid k1
 have M1:=Lib.hid ((HM.out _).upd (t':=attT x.2) HF.out k1 HX.out HN.out ⟨_,_,_,_,_,t1⟩)
 have Q1:Hid (CbB w1 (w.heap.size+1) 44 (ansE 0)):=Lib.hid ((k1.ot (k:=w.heap.size+1) (by have:=HQ.out.lt;exact this) (cutTg_at (Nat.le_succ _)) (fun e=>by injection e with _ e;have:=(HN.out).n1;have:=HX.out;simp only[attT] at *;omega)).1.trans HQ.out)
 have G1:Hid (O1 (w.heap.size+1)=some (0,0)):=Lib.hid ((k1.tg _ (by have:=HQ.out.lt;exact this)).trans (cutTg_at (Nat.le_succ _)))
 have c5':w1.cell? ⟨w.heap.size,1,none⟩=some (.int .u32 (c.ten:Int)):=(show CbB w1 w.heap.size _ _ from ((k1.ot (k:=w.heap.size) (by have:=HB.out.lt;exact this) (cutTg_at (Nat.le_refl _)) (fun e=>by injection e with _ e;have:=(HN.out).n1;have:=HX.out;simp only[attT] at *;omega)).1.trans HB.out)).cell (k:=1) rfl
 have S1:Hid (Stp (fun τ=>τ.1=s) w O w1 O1):=Lib.hid (((Stp.cut HA.out _).ab (bel_drewN (Below.refl _ _) _)).tr (k1.imp fun τ e=>by rw[e]))
 clear k1 t1 hr HC HT HM HQ HF hlk hst
 go_wp2_with fail
 refine (HH.out _).mono ?_
 rintro e w2 ⟨rfl,hb⟩
 have Q2:=Lib.hid (Q1.out.ab hb)
 have M2:=Lib.hid (M1.out.stp (Stp.of hb (fun _=>False) fun _ _=>rfl) fun _ h=>h)
 have S2:=Lib.hid (S1.out.ab hb)
 clear hb Q1 M1 S1 HH
 go_wp2_with (first
  | (with_reducible refine wpList_storeC (o:=⟨none,.store _ (.tmp 4) (.tmp 41),_,_,_,_⟩) ?_ 44 (.tmp 4) (.tmp 41) ?_ (w.heap.size+1) ?_ (ansE 9) ?_ (cs:=ansE 0) (t:=44) Q2.out (szAnsE _) ?_ (ansE_one _) ?_
     · rfl
     · rfl
     · rfl
     · rfl
     · rfl
     intro wz hwz
     have QZ:Hid (CbB wz (w.heap.size+1) 44 (ansE 9)):=Lib.hid (by rw[hwz];exact CbB.row Q2.out _)
     have FZ:Hid (Fr w2 wz (fun k=>k=(w.heap.size+1))):=Lib.hid (by rw[hwz];exact fr_rowX _ _ _)
     clear hwz))
 refine bodyPost_ret (ans_results Tryz.results44 _ _ (w.heap.size+1) (ansE 9) rfl QZ.out rfl) rfl ?_
 exact DoR.flat 9 0 0 0 ⟨m,_,M2.out.stp (Stp.box FZ.out G1.out) fun i e=>by have:=M2.out.pos;injection e with e;omega⟩ (S2.out.fresh FZ.out (Nat.le_succ _))
end
theorem zz {p:Prop} (h:p):Hid p:=h
theorem gh {a:Act} {t:Nat} {v:Value} (h:a.eval (.tmp t)=v):a.tmps[t]?.getD undef=v:=(eval_get a t).trans h
theorem gt' {D:List Tmp} {a0 a:Act} {t:Nat} {v:Value} (h:Agree D a0 a) (hn:t∉D) (e:a0.eval (.tmp t)=v):a.tmps[t]?.getD undef=v:=(eval_get a t).trans ((h.eval hn).trans e)
section
variable {P:Program} {ops:Array Oper} {D:List Tmp} {a0:Act} {o:Oper} {d:Tmp} {v:Value} {B:World→Prop} {E:Act→World→Prop}
theorem okA (hd:o.dst=some d) (hg:o.guard=none) (h:∀a W,Agree D a0 a→B W→E a W→(execOp a.eval o).run P W = .ok (.value v) W):
 o.dst=some d∧Mono (IsR v)∧∀a W,Agree D a0 a→B W→E a W→Takes P ops o a W false (IsR v):=
 ⟨hd,IsR.mono _,fun a W hA hb he=>takes_plain hg (yields_value _ (h a W hA hb he) rfl)⟩
theorem okF {F G:Nat→Prop} (hd:o.dst=some d) (hg:o.guard=none) (h:∀a W,Agree D a0 a→B W→E a W→(execOp a.eval o).run P W = .ok (.value v) W):
 o.dst=some d∧MonoF F (IsR v)∧∀a W,Agree D a0 a→B W→E a W→Takes5 P ops o a W G (IsR v):=
 ⟨hd,IsR.monoF _ _,fun a W hA hb he=>Takes.to5 (takes_plain hg (yields_value _ (h a W hA hb he) rfl)) _⟩
theorem okV {i k:Nat} {F:Nat→Prop} {X:Act→World→Prop} (hd:o.dst=some d) (hg:o.guard=none) (hne:i≠k) (h:∀a W,Agree D a0 a→B W→E a W→(execOp a.eval o).run P W = .ok (.value v) W):
 o.dst=some d∧Mono (IsR v)∧(i=k∨∀u W W',IsR v u W→Fr W W' F→IsR v u W')∧∀a W,Agree D a0 a→B W→E a W→(i≠k→Takes P ops o a W false (IsR v))∧(i=k→X a W):=
 ⟨hd,IsR.mono _,.inr fun _ _ _ h _=>h,fun a W hA hb he=>⟨fun _=>takes_plain hg (yields_value _ (h a W hA hb he) rfl),fun e=>absurd e hne⟩⟩
end
theorem ctS {w w0:World} {O:Tg} (hb:Below w.heap.size w w0):Stp (fun _=>False) w O w0 (cutTg O w.heap.size):=Stp.cut hb _
theorem noF:∀i:Nat,¬False:=fun _ h=>h
section
variable {w w0 w1 wz:World} {O:Tg} {s blocks m:Nat} {T T':List TnP} {bs:List (Nat×TnP)}
theorem kpM (h:Hid (IdM w0 O s blocks T m bs)) (b:Hid (Below w0.heap.size w0 w1)):Hid (IdM w1 O s blocks T m bs):=h.out.stp (Stp.of b.out (fun _=>False) fun _ _=>rfl) fun _ h=>h
theorem stKp (s:Nat) (O:Tg) (a:Hid (Below w.heap.size w w0)) (b:Hid (Below w0.heap.size w0 w1)):Hid (Stp (fun τ=>τ.1=s) w O w1 (cutTg O w.heap.size)):=(Stp.cut a.out _).ab b.out
theorem DoR.fl (e:Int) (h sn:Nat) (n:Int) (M:Hid (IdM w1 (cutTg O w.heap.size) s blocks T' m bs)) (S:Hid (Stp (fun τ=>τ.1=s) w O w1 (cutTg O w.heap.size))) (F:Hid (Fr w1 wz (fun k=>k=(w.heap.size+1)))):
 DoR s blocks w O ⟨e,h,sn,[],[],n,[]⟩ T' (.returned (.agg #[.int .i64 e,.int .u64 (h:Int),.int .u64 (sn:Int),.slice none 0 0,.slice none 0 0,.int .i64 n,.slice none 0 0])) wz:=
 DoR.flat e h sn n ⟨m,bs,M.out.stp (Stp.box F.out (cutTg_at (Nat.le_succ _))) fun i e=>by have:=M.out.pos;injection e with e;omega⟩ (S.out.fresh F.out (Nat.le_succ _))
end
theorem stA {ops:Array Oper} {rest:List Oper} {d1:TypeId} {d2:String} {d3:Array Edge} {a:Act} {w:World} {Q:Exit→Act→World→Prop} (y:Nat) {g:Nat} (hx:a.eval (.tmp 4) = .pointer (some ⟨g,0,none⟩)) (cs':Array Value) (hy:a.eval (.tmp y) = .agg cs') {cs:Array Value} (hg:Hid (CbB w g 44 cs)) (h0:cs.size=cs'.size) (h7:cs'.size=7) (h1:cs'.all (·.oneCell')=true)
 (h:∀wz,Hid (CbB wz g 44 cs')→Hid (Fr w wz (fun k=>k=g))→wpList Tryz.prog ops Q rest (a.put none undef) wz):wpList Tryz.prog ops Q (⟨none,.store 44 (.tmp 4) (.tmp y),d1,d2,d3,none⟩::rest) a w:=
 wpList_storeC rfl 44 (.tmp 4) (.tmp y) rfl g hx cs' hy hg.out (by rw[h7];exact szAns) h0 h1 fun wz hwz=>h wz (by rw[hwz];exact CbB.row hg.out _) (by rw[hwz];exact fr_rowX _ _ _)
theorem ansR {fn:Func} {p:Tmp} (h:fn.results = #[.cell p 44]) {tmps:Array Value} {W:World} {g:Nat} {cs:Array Value} (hg:Hid (CbB W g 44 cs)) (hp:tmps.getD p undef = .pointer (some ⟨g,0,none⟩)) (hs:cs.size=7):
 (results fn tmps).run Tryz.prog W = .ok (.agg cs) W:=ans_results h tmps W g cs hp hg.out hs
theorem cK {w:World} {g:Nat} {T:TypeId} {cs:Array Value} {x z:Int} (e:Hid (x=z)) (h:CbB w g T cs) (h0:cs[0]? = some (.int .i64 x)):w.cell? ⟨g,0,none⟩=some (.int .i64 z):=by rw[←e.out];exact h.cell (k:=0) h0
theorem oaT (O:Tg) (w:World):Hid (cutTg O w.heap.size (w.heap.size+1)=some (0,0)):=cutTg_at (Nat.le_succ _)
theorem stC {w w0:World} (r:Nat) (O:Tg) (b:Hid (Below w.heap.size w w0)):Hid (Stp (fun τ=>τ.1=r) w O w0 (cutTg O w.heap.size)):=Stp.cut b.out _
theorem alB {w:World} {o:Obj}:Below w.heap.size w (w.alloc o):=(Below.refl _ _).alloc (Nat.le_refl _) _
theorem CbB.c14 {w:World} {g:Nat} {T:TypeId} {a0 a1 a2 a3 a4 a5 a6 a7 a8 a9 a10 a11 a12 a13:Value} (h:CbB w g T #[a0,a1,a2,a3,a4,a5,a6,a7,a8,a9,a10,a11,a12,a13]):w.cell? ⟨g,0,none⟩=some a0∧w.cell? ⟨g,1,none⟩=some a1∧w.cell? ⟨g,2,none⟩=some a2∧w.cell? ⟨g,3,none⟩=some a3∧w.cell? ⟨g,4,none⟩=some a4∧w.cell? ⟨g,5,none⟩=some a5∧w.cell? ⟨g,6,none⟩=some a6∧w.cell? ⟨g,7,none⟩=some a7∧w.cell? ⟨g,8,none⟩=some a8∧w.cell? ⟨g,9,none⟩=some a9∧w.cell? ⟨g,10,none⟩=some a10∧w.cell? ⟨g,11,none⟩=some a11∧w.cell? ⟨g,12,none⟩=some a12∧w.cell? ⟨g,13,none⟩=some a13:=
 ⟨h.cell (k:=0) rfl,h.cell (k:=1) rfl,h.cell (k:=2) rfl,h.cell (k:=3) rfl,h.cell (k:=4) rfl,h.cell (k:=5) rfl,h.cell (k:=6) rfl,h.cell (k:=7) rfl,h.cell (k:=8) rfl,h.cell (k:=9) rfl,h.cell (k:=10) rfl,h.cell (k:=11) rfl,h.cell (k:=12) rfl,h.cell (k:=13) rfl⟩
end Go.Proofs.YtgdhinjhbjolgaaGreat
