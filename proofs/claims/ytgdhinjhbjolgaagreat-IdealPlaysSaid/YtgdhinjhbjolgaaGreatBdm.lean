/-
  Parts of the proof, joined.
-/
import Derived.Test.YtgdhinjhbjolgaaGreatBdl
namespace Go.Proofs.YtgdhinjhbjolgaaGreat
set_option maxHeartbeats 1000000
open Go.RowKit
set_option linter.unusedVariables false
set_option linter.unusedSimpArgs false
def snP (t:TnP) (sn:Nat):Option Bk2:=if sn=0 then none else match t.sn[sn-1]? with | some (S,false)=>some S | _=>none
section
variable {w:World} {O:Tg} {s b cb sm nb:Nat} {t:TnP} {mo:Option Nat} {es:List (Nat×Value)}
theorem snap_look (hx:TnM w O s b t cb mo sm nb es) (sn:Nat) (h64:sn<18446744073709551616):
 (snP t sn=none∧lookL sn es=none)∨∃S k,snP t sn=some S∧BokB w O k S∧O k=none∧lookL sn es=some (.map (some k)):=by
 cases hl:lookL sn es with
 | none=>
   refine .inl ⟨?_,rfl⟩
   unfold snP
   by_cases h0:sn=0
   · rw[if_pos h0]
   · rw[if_neg h0]
     cases hs:t.sn[sn-1]? with
     | none=>rfl
     | some p=>
       obtain⟨S,g⟩:=p
       cases g with
       | true=>rfl
       | false=>
         have:=hx.sns.bwd (sn-1) S hs
         rw[show sn-1+1=sn by omega,hl] at this
         cases this
 | some v=>
   obtain⟨i,S,nb',h1,h2,h3,h4,h5⟩:=hx.sns.fwd _ (lookL_mem hl)
   simp only at h1 h3
   subst h3
   refine .inr ⟨S,nb',?_,h4,h5,rfl⟩
   unfold snP
   rw[if_neg (by omega),show sn-1=i by omega,h2]
theorem look_none (hx:TnM w O s b t cb mo sm nb es) (sn:Nat) (h64:sn<18446744073709551616) (hs:snP t sn=none):∀W,W.heap[sm]? = w.heap[sm]?→(Instr.lookup 69 (.map (some sm)) (.int .u64 (sn:Int)) true).run Tryz.prog W = .ok (.tuple #[.map none,.bool false]) W:=fun W hW=>by
 rcases snap_look hx sn h64 with ⟨_,hl⟩ | ⟨S,k,h1,_⟩
 · have:=(hx.snm.same hW).look_none u64_K Tryz.underlying69 (x:=sn) h64 hl zero_bok true
   simpa[u64V] using this
 · rw[hs] at h1;cases h1
theorem look_some (hx:TnM w O s b t cb mo sm nb es) (sn:Nat) (h64:sn<18446744073709551616) {S:Bk2} (hs:snP t sn=some S):∃k,∀W,W.heap[sm]? = w.heap[sm]?→(Instr.lookup 69 (.map (some sm)) (.int .u64 (sn:Int)) true).run Tryz.prog W = .ok (.tuple #[.map (some k),.bool true]) W:=by
 rcases snap_look hx sn h64 with ⟨h1,_⟩ | ⟨S',k,_,_,_,hl⟩
 · rw[hs] at h1;cases h1
 · refine⟨k,fun W hW=>?_⟩
   have:=(hx.snm.same hW).look_some u64_K Tryz.underlying69 (x:=sn) h64 hl true
   simpa[u64V] using this
def relL (l:List (Bk2×Bool)) (sn:Nat):List (Bk2×Bool):=match l[sn-1]? with | some p=>l.set (sn-1) (p.1,true) | none=>l
theorem relL_len (l:List (Bk2×Bool)) (sn:Nat):(relL l sn).length=l.length:=by unfold relL;split <;> simp
theorem relL_ne {l:List (Bk2×Bool)} {sn i:Nat} (h:i≠sn-1):(relL l sn)[i]? = l[i]?:=by
 unfold relL
 split
 · rw[List.getElem?_set_ne (Ne.symm h)]
 · rfl
theorem relL_at {l:List (Bk2×Bool)} {sn:Nat} {S:Bk2}:(relL l sn)[sn-1]?≠some (S,false):=by
 unfold relL
 cases hl:l[sn-1]? with
 | none=>simp only;rw[hl];simp
 | some p=>
   simp only
   rw[List.getElem?_set_self (List.getElem?_eq_some_iff.1 hl).1]
   simp
theorem SnB.rel {l:List (Bk2×Bool)} {sn:Nat} (h:SnB w O es l) (h0:sn≠0):SnB w O (dropL sn es) (relL l sn):=by
 refine⟨fun p hp=>?_,fun i S hi=>?_⟩
 · have hp2:=List.mem_filter.1 hp
   obtain⟨i,S,nb,h1,h2,h3⟩:=h.fwd p hp2.1
   have hne:p.1≠sn:=by simpa using hp2.2
   exact⟨i,S,nb,h1,by rw[relL_ne (by omega)];exact h2,h3⟩
 · have hne:i≠sn-1:=fun e=>by rw[e] at hi;exact relL_at hi
   rw[relL_ne hne] at hi
   have:=h.bwd i S hi
   cases hl:lookL (i+1) es with
   | none=>rw[hl] at this;cases this
   | some v=>
     have hm:=lookL_mem hl
     have hm2:(i+1,v)∈dropL sn es:=List.mem_filter.2 ⟨hm,by simp;omega⟩
     cases hl2:lookL (i+1) (dropL sn es) with
     | none=>exact absurd rfl (lookL_none.1 hl2 _ hm2)
     | some _=>rfl
theorem SnB.snoc {l:List (Bk2×Bool)} {S:Bk2} {nb:Nat} (h:SnB w O es l) (hb:BokB w O nb S) (hO:O nb=none):SnB w O (putL (l.length+1) (.map (some nb)) es) (l++[(S,false)]):=by
 have hn:lookL (l.length+1) es=none:=lookL_none.2 fun p hp e=>by
  obtain⟨i,S',nb',h1,h2,_⟩:=h.fwd p hp
  have:=(List.getElem?_eq_some_iff.1 h2).1
  omega
 have e:putL (l.length+1) (.map (some nb)) es=es++[(l.length+1,.map (some nb))]:=by unfold putL;rw[hn];rfl
 rw[e]
 refine⟨fun p hp=>?_,fun i S' hi=>?_⟩
 · rcases List.mem_append.1 hp with hp | hp
   · obtain⟨i,S',nb',h1,h2,h3⟩:=h.fwd p hp
     exact⟨i,S',nb',h1,by rw[List.getElem?_append_left (List.getElem?_eq_some_iff.1 h2).1];exact h2,h3⟩
   · simp only[List.mem_singleton] at hp
     subst hp
     exact⟨l.length,S,nb,rfl,by simp,rfl,hb,hO⟩
 · by_cases hi2:i<l.length
   · rw[List.getElem?_append_left hi2] at hi
     have h3:=h.bwd i S' hi
     cases hl:lookL (i+1) es with
     | none=>rw[hl] at h3;cases h3
     | some v=>
       have hm:(i+1,v)∈es++[(l.length+1,.map (some nb))]:=List.mem_append.2 (.inl (lookL_mem hl))
       cases hl2:lookL (i+1) (es++[(l.length+1,.map (some nb))]) with
       | none=>exact absurd rfl (lookL_none.1 hl2 _ hm)
       | some _=>rfl
   · rw[List.getElem?_append_right (by omega)] at hi
     have:i-l.length=0:=by
      rcases Nat.eq_zero_or_pos (i-l.length) with h0 | h0
      · exact h0
      · rw[show i-l.length=(i-l.length-1)+1 by omega] at hi;simp at hi
     have hm:(i+1,.map (some nb))∈es++[(l.length+1,.map (some nb))]:=List.mem_append.2 (.inr (by rw[show i=l.length by omega];simp))
     cases hl2:lookL (i+1) (es++[(l.length+1,.map (some nb))]) with
     | none=>exact absurd rfl (lookL_none.1 hl2 _ hm)
     | some _=>rfl
end
def snA (n:Nat):AnsP:=⟨0,0,n,[],[],0,[]⟩
theorem wf_chg (S:Bk2) (h:S.length≤100000):∀z∈[chg S],(Lit.int .i64 z).wf=true:=fun z hz=>by
 simp only[List.mem_singleton] at hz
 subst hz
 have:=chg_bd S
 have e3:IntKind.i64.min = -9223372036854775808:=rfl
 have e4:IntKind.i64.max=9223372036854775807:=rfl
 simp only[Lit.wf,Bool.and_eq_true,decide_eq_true_eq]
 omega
def NewI (z:Int) (v:Value) (W:World):Prop:=∃g,v = .slice (some ⟨g,0,none⟩) 1 1∧IsRow .i64 W (some ⟨g,0,none⟩) 1 1 [z]
theorem NewI.mono (z:Int):Mono (NewI z):=fun v W W' ⟨g,h1,h2⟩ hb=>⟨g,h1,h2.below hb⟩
theorem takes6_appI {ops:Array Oper} {o:Oper} {a:Act} {W:World} {N:Nat} (hgd:o.guard=none) (s x:Operand) (ho:o.op = .call { callee:=.builtin .append,args:=#[s,x],argTypes:=#[101,101] })
 {v:Value} {zs ls:List Int} (hs:a.eval s=v) (hown:OwI W N v zs) {g:Nat} {y:Int} (hx:a.eval x = .slice (some ⟨g,0,none⟩) 1 1) (hr:IsRow .i64 W (some ⟨g,0,none⟩) 1 1 [y]) (hp:zs.Perm ls) (hl:zs.length≤100000) (hN:N≤W.heap.size):
 Takes6 Tryz.prog ops o a W (fun W W'=>Below N W W') (OwIR N (ls++[y])):=by
 obtain⟨i0,hi0,hz0,hz1,hz2⟩:=info_parts infoI64
 obtain⟨v',w',hrun,h2,h3,h4⟩:=run_app (P:=Tryz.prog) W (ty:=o.type) Tryz.underlying101 hi0 hz0 hz1 hz2 rfl hown hr (by simp only[maxLen];omega) (by omega) hN
 refine .inl ⟨by simp[Region.wanted,hgd],.inl ⟨v',w',?_,⟨_,h2,hp.append_right _⟩,below_app hown hN h3⟩⟩
 unfold execOp
 simp only[ho,resolve,invoke,builtin,Sem.run_bind,Sem.run_pure,Result.andThen_ok,List.map_toArray,List.map_cons,List.map_nil,hs,hx,hrun]
theorem Fr.trX {w w1 w2:World} {F:Nat→Prop} (h:Fr w w1 F) (k:Fr w1 w2 F):Fr w w2 F:=⟨k.os.trans h.os,k.tape.trans h.tape,k.output.trans h.output,Nat.le_trans h.size k.size,fun i hi hn=>(k.block i (Nat.lt_of_lt_of_le hi h.size) hn).trans (h.block i hi hn)⟩
def setSn (t:TnP) (l:List (Bk2×Bool)):TnP:=⟨t.n,t.sec,t.q,t.now,t.A,l,t.tu⟩
def snapA (t:TnP):AnsP:=bif overB (t.q:Int) (chg t.now) (liveC t.sn++[chg t.now]) then errA 261 else snA (t.sn.length+1)
def snapQ (t:TnP):TnP:=bif overB (t.q:Int) (chg t.now) (liveC t.sn++[chg t.now]) then t else setSn t (t.sn++[(t.now,false)])
theorem setSn_ok {t:TnP} (l:List (Bk2×Bool)) (h:TnOk t):TnOk (setSn t l):=⟨h.n1,h.n32,h.sec,h.q1,h.q2⟩
section
variable {w:World} {O:Tg} {s blocks m:Nat} {T:List TnP} {bs:List (Nat×TnP)} {c:CallP}
set_option maxRecDepth 100000 in
theorem id_release_snap (x:Nat×TnP) (h:IdM w O s blocks T m bs) (hc:c.Ok) (hf:fnd bs (c.hd/4294967296)=some x) (hk:checkH x.2.A (c.hd%4294967296) 4=0) (hs:snP x.2 c.sn=none):
 Calls Tryz.prog 51 #[.pointer (some ⟨s,0,none⟩),.agg c.cs] w (DoR s blocks w O (errA 262) T):=by
 obtain⟨cb,mo,sm,nb,es,ht⟩:=h.all x (fnd_mem hf).1
 obtain⟨w0,hw0,ha,hcb,hqb⟩:=preX w c
 unfold CallP.cs at hcb⊢
 go_enter Tryz.func51,Tryz.ntmps51
 go_upto_region 1 with (fail)
 rw[hw0.out]
 clear hw0
 obtain⟨c0,c1,c2,c3,c4,c5,c6,c7,c8,c9,c10,c11,c12,c13⟩:=hcb.c14
 have HA:=zz ha
 have HQ:=zz hqb
 have HB:=zz hcb
 have M0:=h.stp (ctS ha) noF
 have HM:=zz M0
 have T0:=ht.stp (ctS ha) fun h=>h
 have HT:=zz T0
 have HTW:=zz ht
 have HH:=zz (holder_some 4 x cb mo sm nb es M0 hc hf T0)
 rw[hk] at HH
 have CO:=zz hc
 have HFN:=zz hf
 have HF:=zz fun W=>fails_any 262 W
 have HSN:=zz hs
 clear h ha hqb hcb hf hc M0 T0 ht hk hs
 go_wp2_with fail
 refine HH.out.mono ?_
 rintro e w9 ⟨rfl,hb9⟩
 have B9:=zz hb9
 clear hb9 HH
 have q7:=(HB.out.ab B9.out).cell (k:=7) rfl
 have T9:=HT.out.stp (Stp.of (O':=cutTg O w.heap.size) B9.out (fun _=>False) fun _ _=>rfl) fun h=>h
 have d4:=T9.box.cell (k:=4) rfl
 have hlk:=fun k:Nat=>look_none T9 c.sn CO.out.sn HSN.out (w9.drewN k) rfl
 clear T9
 go_wp2_with fail
 go_quiet (fail)
 go_wp2_with fail
 refine (HF.out _).mono ?_
 rintro e w1 ⟨rfl,hb⟩
 have B1:Hid (Below w0.heap.size w0 w1):=zz (below_tr (bel_drewN B9.out nq) hb (bel_drewN B9.out nq).size)
 have Q1:=zz (HQ.out.ab B1.out)
 have M1:=kpM HM B1
 have S1:=stKp s O HA B1
 clear hb HQ HM B1
 go_wp2_with (first
  | ((with_reducible refine stA 33 ?_ (ansE 262) ?_ Q1 ?_ ?_ (ansE_one _) ?_);rfl;rfl;rfl;rfl;intro wz QZ FZ))
 refine bodyPost_ret (ansR Tryz.results51 QZ rfl rfl) rfl ?_
 exact DoR.fl 262 0 0 0 M1 S1 FZ
set_option maxRecDepth 100000 in
theorem id_release_ok (x:Nat×TnP) (h:IdM w O s blocks T m bs) (hc:c.Ok) (hf:fnd bs (c.hd/4294967296)=some x) (hk:checkH x.2.A (c.hd%4294967296) 4=0) (S:Bk2) (hs:snP x.2 c.sn=some S):
 Calls Tryz.prog 51 #[.pointer (some ⟨s,0,none⟩),.agg c.cs] w (DoR s blocks w O (errA 0) (updT (c.hd/4294967296) (setSn x.2 (relL x.2.sn c.sn)) T)):=by
 obtain⟨cb,mo,sm,nb,es,ht⟩:=h.all x (fnd_mem hf).1
 obtain⟨w0,hw0,ha,hcb,hqb⟩:=preX w c
 unfold CallP.cs at hcb⊢
 go_enter Tryz.func51,Tryz.ntmps51
 go_upto_region 1 with (fail)
 rw[hw0.out]
 clear hw0
 obtain⟨c0,c1,c2,c3,c4,c5,c6,c7,c8,c9,c10,c11,c12,c13⟩:=hcb.c14
 have HA:=zz ha
 have HQ:=zz hqb
 have HB:=zz hcb
 have M0:=h.stp (ctS ha) noF
 have HM:=zz M0
 have T0:=ht.stp (ctS ha) fun h=>h
 have HT:=zz T0
 have HTW:=zz ht
 have HH:=zz (holder_some 4 x cb mo sm nb es M0 hc hf T0)
 rw[hk] at HH
 have CO:=zz hc
 have HFN:=zz hf
 have HMW:=zz h
 have HOKT:=zz (h.ok x (fnd_mem hf).1)
 have HSN:=zz hs
 have HS0:Hid (c.sn≠0):=zz (fun e=>by rw[e] at hs;simp[snP] at hs)
 clear h ha hqb hcb hf hc M0 T0 ht hk hs
 go_wp2_with fail
 refine HH.out.mono ?_
 rintro e w9 ⟨rfl,hb9⟩
 have B9:=zz hb9
 clear hb9 HH
 have q7:=(HB.out.ab B9.out).cell (k:=7) rfl
 have T9:=HT.out.stp (Stp.of (O':=cutTg O w.heap.size) B9.out (fun _=>False) fun _ _=>rfl) fun h=>h
 have d4:=T9.box.cell (k:=4) rfl
 obtain⟨kb,hk⟩:=look_some T9 c.sn CO.out.sn HSN.out
 have hlk:=fun k:Nat=>hk (w9.drewN k) rfl
 clear T9 hk
 go_wp2_with fail
 go_quiet (fail)
 go_upto_region 7 with (fail)
 have hb3:Below w0.heap.size w0 (w9.drewN nq):=bel_drewN B9.out nq
 obtain⟨w3,hw3⟩:∃w3,w9.drewN nq=w3:=⟨_,rfl⟩
 rw[hw3] at hb3⊢
 have B3:=zz hb3
 have T3:=zz (HT.out.stp (Stp.of (O':=cutTg O w.heap.size) hb3 (fun _=>False) fun _ _=>rfl) fun h=>h)
 have X3:=zz (HB.out.ab hb3)
 clear hw3 hb3 hlk d4 q7
 refine wp_wide3 [⟨34,IsR (.pointer (some ⟨x.1,0,none⟩)),[],false⟩,⟨35,IsR (.pointer (some ⟨x.1,0,none⟩)),[0],false⟩,⟨36,IsR (.pointer (some ⟨x.1,4,none⟩)),[1],false⟩,⟨37,IsR (.map (some sm)),[2],false⟩,⟨38,IsR (.pointer (some ⟨w.heap.size,7,none⟩)),[],false⟩,⟨39,IsR (.int .u64 (c.sn:Int)),[4],false⟩] (by kernel_rfl) (by kernel_rfl) rfl rfl rfl ⟨?_,?_,?_,?_,?_,?_,trivial⟩ ?_
 · refine okA rfl rfl fun a W hA hb hd=>?_
   have h5:a.tmps[5]?.getD undef = .pointer (some ⟨x.1,0,none⟩):=gt' hA (by simp) rfl
   go_simp
 · refine okA rfl rfl fun a W hA hb hd=>?_
   have h34:a.tmps[34]?.getD undef = .pointer (some ⟨x.1,0,none⟩):=gh (hd 0 (by simp) _ rfl)
   go_simp
 · refine okA rfl rfl fun a W hA hb hd=>?_
   have h35:a.tmps[35]?.getD undef = .pointer (some ⟨x.1,0,none⟩):=gh (hd 1 (by simp) _ rfl)
   go_simp
 · refine okA rfl rfl fun a W hA hb hd=>?_
   have h36:a.tmps[36]?.getD undef = .pointer (some ⟨x.1,4,none⟩):=gh (hd 2 (by simp) _ rfl)
   have hc:W.cell? (⟨x.1,4,none⟩)=some (.map (some sm)):=(T3.out.box.ab hb).cell (k:=4) rfl
   go_simp
 · refine okA rfl rfl fun a W hA hb hd=>?_
   have h3:a.tmps[3]?.getD undef = .pointer (some ⟨w.heap.size,0,none⟩):=gt' hA (by simp) rfl
   go_simp
 · refine okA rfl rfl fun a W hA hb hd=>?_
   have h38:a.tmps[38]?.getD undef = .pointer (some ⟨w.heap.size,7,none⟩):=gh (hd 4 (by simp) _ rfl)
   have hc:W.cell? (⟨w.heap.size,7,none⟩)=some (.int .u64 (c.sn:Int)):=(X3.out.ab hb).cell (k:=7) rfl
   go_simp
 intro vs W9 hR hF hb
 have e34:vs 34 = .pointer (some ⟨x.1,0,none⟩):=hR 0 _ rfl
 have e35:vs 35 = .pointer (some ⟨x.1,0,none⟩):=hR 1 _ rfl
 have e36:vs 36 = .pointer (some ⟨x.1,4,none⟩):=hR 2 _ rfl
 have e37:vs 37 = .map (some sm):=hR 3 _ rfl
 have e38:vs 38 = .pointer (some ⟨w.heap.size,7,none⟩):=hR 4 _ rfl
 have e39:vs 39 = .int .u64 (c.sn:Int):=hR 5 _ rfl
 simp only[List.map_cons,List.map_nil,List.foldl_cons,List.foldl_nil,List.length_cons,List.length_nil,List.drop_succ_cons,List.drop_zero,Act.put,List.setIfInBounds_toArray,List.set_cons_zero,List.set_cons_succ,e34,e35,e36,e37,e38,e39]
 have B9':=zz (below_tr B3.out hb B3.out.size)
 clear hR hF hb
 have T9:=zz (HT.out.stp (Stp.of (O':=cutTg O w.heap.size) B9'.out (fun _=>False) fun _ _=>rfl) fun h=>h)
 refine wpList_mapDel rfl (.tmp 37) (.tmp 39) rfl u64_K Tryz.underlying69 rfl T9.out.snm c.sn CO.out.sn rfl ?_
 intro w4 h4 g4 s4 b4
 have bne:x.1≠sm:=T9.out.apart.2.2.2
 have md:=T9.out.mod (w1:=w4) ((Fr.grown g4).imp fun q e=>.inr (by injection e with e;exact e.symm)) (by rw[relL_len];exact T9.out.box.grown g4 bne) T9.out.now T9.out.nowO h4 (T9.out.sns.rel HS0.out)
 have qne:w.heap.size+1≠sm:=fun e=>by
  have h5:=HQ.out.ab B9'.out
  obtain⟨es',cl,h6,_⟩:=T9.out.snm
  unfold CbB at h5
  rw[e,h6] at h5
  cases h5
 have Q1:=zz ((HQ.out.ab B9'.out).grown g4 qne)
 have K9:Stp (fun τ=>τ=(s,x.2.n)) w O W9 (cutTg O w.heap.size):=(Stp.cut HA.out _).ab B9'.out
 obtain⟨md1,md2⟩:=md
 have XN:=(fnd_mem HFN.out).2
 rw[XN] at md1 K9
 have K6:=zz (K9.tr md1)
 have M1:=zz (HMW.out.upd (t':=setSn x.2 (relL x.2.sn c.sn)) HFN.out K6.out XN (setSn_ok _ HOKT.out) ⟨_,_,_,_,_,md2⟩)
 have S1:Hid (Stp (fun τ=>τ.1=s) w O w4 (cutTg O w.heap.size)):=zz (K6.out.imp fun τ e=>by rw[e])
 clear h4 g4 s4 b4 bne md1 md2 XN qne K9
 simp only[Act.put]
 go_wp2_with (first
  | ((with_reducible refine stA 40 ?_ (ansE 0) ?_ Q1 ?_ ?_ (ansE_one _) ?_);rfl;rfl;rfl;rfl;intro wz QZ FZ))
 refine bodyPost_ret (ansR Tryz.results51 QZ rfl rfl) rfl ?_
 exact DoR.flat 0 0 0 0 ⟨m,_,M1.out.stp (Stp.box FZ.out (cutTg_at (Nat.le_succ _))) fun i e=>by have:=M1.out.pos;injection e with e;omega⟩ (S1.out.fresh FZ.out (Nat.le_succ _))
set_option maxRecDepth 100000 in
theorem id_snap_any (x:Nat×TnP) (h:IdM w O s blocks T m bs) (hc:c.Ok) (hf:fnd bs (c.hd/4294967296)=some x) (hk:checkH x.2.A (c.hd%4294967296) 4=0) (hlm:LimT x.2) (hsl:x.2.sn.length<100000):
 Calls Tryz.prog 50 #[.pointer (some ⟨s,0,none⟩),.agg c.cs] w (DoR s blocks w O (snapA x.2) (updT (c.hd/4294967296) (snapQ x.2) T)):=by
 obtain⟨cb,mo,sm,nb,es,ht⟩:=h.all x (fnd_mem hf).1
 obtain⟨w0,hw0,ha,hcb,hqb⟩:=preX w c
 unfold CallP.cs at hcb⊢
 go_enter Tryz.func50,Tryz.ntmps50
 go_upto_region 1 with (fail)
 rw[hw0.out]
 clear hw0
 obtain⟨c0,c1,c2,c3,c4,c5,c6,c7,c8,c9,c10,c11,c12,c13⟩:=hcb.c14
 have HA:=zz ha
 have HQ:=zz hqb
 have HB:=zz hcb
 have M0:=h.stp (ctS ha) noF
 have HM:=zz M0
 have T0:=ht.stp (ctS ha) fun h=>h
 have HT:=zz T0
 have HTW:=zz ht
 have HH:=zz (holder_some 4 x cb mo sm nb es M0 hc hf T0)
 rw[hk] at HH
 have CO:=zz hc
 have HFN:=zz hf
 have HMW:=zz h
 have HOKT:=zz (h.ok x (fnd_mem hf).1)
 have HLM:=zz hlm
 have HSL:=zz hsl
 have QOK:Hid ((1:Int)≤(x.2.q:Int)∧(x.2.q:Int)≤1000):=zz (by have h1:=h.ok x (fnd_mem hf).1;have:=h1.q1;have:=h1.q2;omega)
 clear h ha hqb hcb hf hc M0 T0 ht hk hlm hsl
 go_wp2_with fail
 refine HH.out.mono ?_
 rintro e w9 ⟨rfl,hb9⟩
 have B9:=zz hb9
 clear hb9 HH
 have T9:=HT.out.stp (Stp.of (O':=cutTg O w.heap.size) B9.out (fun _=>False) fun _ _=>rfl) fun h=>h
 have d2:=T9.box.cell (k:=2) rfl
 have HC:=zz (charge_any nb x.2.now w9 (cutTg O w.heap.size) T9.now (by have:=HLM.out.1;omega))
 clear T9
 go_wp2_with fail
 refine HC.out.mono ?_
 rintro e w8 ⟨rfl,hb8⟩
 have B8:=zz (below_tr B9.out hb8 B9.out.size)
 clear hb8 HC d2
 go_upto_region 5 with (fail)
 refine wp_wideT 9 (fun i=>i==6||i==8) [⟨25,IsR (.pointer (some ⟨x.1,0,none⟩)),[],false⟩,⟨26,IsR (.pointer (some ⟨x.1,0,none⟩)),[0],false⟩,⟨27,IsR (.pointer (some ⟨x.1,1,none⟩)),[1],false⟩,⟨28,IsR (.int .i64 (x.2.q:Int)),[2],false⟩,⟨29,IsR (.int .i64 (chg x.2.now)),[],false⟩,⟨30,IsR (.pointer (some ⟨x.1,0,none⟩)),[],false⟩,⟨31,OwIR w8.heap.size (liveC x.2.sn),[5],false⟩,⟨32,IsR (.int .i64 (chg x.2.now)),[],false⟩,⟨33,NewI (chg x.2.now),[7],false⟩,⟨34,OwIR w8.heap.size (liveC x.2.sn++[chg x.2.now]),[6,8],false⟩] (by kernel_rfl) (by kernel_rfl) rfl rfl rfl rfl ⟨?_,?_,?_,?_,?_,?_,?_,?_,?_,?_,trivial⟩ ?_
 · refine⟨rfl,trivial,IsR.mono _,.inr (.inr fun _ _ _ h _=>h),rfl,fun a W hA hb hd=>⟨fun _=>takes_plain rfl (yields_value _ ?_ rfl),fun e=>absurd e (by decide)⟩⟩
   have h5:a.tmps[5]?.getD undef = .pointer (some ⟨x.1,0,none⟩):=gt' hA (by simp) rfl
   go_simp
 · refine⟨rfl,trivial,IsR.mono _,.inr (.inr fun _ _ _ h _=>h),rfl,fun a W hA hb hd=>⟨fun _=>takes_plain rfl (yields_value _ ?_ rfl),fun e=>absurd e (by decide)⟩⟩
   have h25:a.tmps[25]?.getD undef = .pointer (some ⟨x.1,0,none⟩):=gh (hd 0 (by simp) _ rfl)
   go_simp
 · refine⟨rfl,trivial,IsR.mono _,.inr (.inr fun _ _ _ h _=>h),rfl,fun a W hA hb hd=>⟨fun _=>takes_plain rfl (yields_value _ ?_ rfl),fun e=>absurd e (by decide)⟩⟩
   have h26:a.tmps[26]?.getD undef = .pointer (some ⟨x.1,0,none⟩):=gh (hd 1 (by simp) _ rfl)
   go_simp
 · refine⟨rfl,trivial,IsR.mono _,.inr (.inr fun _ _ _ h _=>h),rfl,fun a W hA hb hd=>⟨fun _=>takes_plain rfl (yields_value _ ?_ rfl),fun e=>absurd e (by decide)⟩⟩
   have h27:a.tmps[27]?.getD undef = .pointer (some ⟨x.1,1,none⟩):=gh (hd 2 (by simp) _ rfl)
   have hcc:W.cell? ⟨x.1,1,none⟩=some (.int .i64 (x.2.q:Int)):=(HT.out.stp (Stp.of (O':=cutTg O w.heap.size) (below_tr B8.out hb B8.out.size) (fun _=>False) fun _ _=>rfl) fun h=>h).box.cell (k:=1) rfl
   go_simp
 · refine⟨rfl,trivial,IsR.mono _,.inr (.inr fun _ _ _ h _=>h),rfl,fun a W hA hb hd=>⟨fun _=>takes_plain rfl (yields_value _ ?_ rfl),fun e=>absurd e (by decide)⟩⟩
   have h8:a.tmps[8]?.getD undef = .int .i64 (chg x.2.now):=gt' hA (by simp) rfl
   go_simp
 · refine⟨rfl,trivial,IsR.mono _,.inr (.inr fun _ _ _ h _=>h),rfl,fun a W hA hb hd=>⟨fun _=>takes_plain rfl (yields_value _ ?_ rfl),fun e=>absurd e (by decide)⟩⟩
   have h5:a.tmps[5]?.getD undef = .pointer (some ⟨x.1,0,none⟩):=gt' hA (by simp) rfl
   go_simp
 · refine⟨rfl,trivial,OwIR.mono _ _,.inr (.inl rfl),rfl,fun a W hA hb hd=>⟨fun _=>takes_plain rfl ?_,fun e=>absurd e (by decide)⟩⟩
   have h30:a.tmps[30]?.getD undef = .pointer (some ⟨x.1,0,none⟩):=gh (hd 5 (by simp) _ rfl)
   refine yields_call 83 #[.pointer (some ⟨x.1,0,none⟩)] (by go_simp) ((snapped_any (HT.out.stp (Stp.of (O':=cutTg O w.heap.size) (below_tr B8.out hb B8.out.size) (fun _=>False) fun _ _=>rfl) fun h=>h) HLM.out.2.1 HLM.out.2.2).mono ?_)
   rintro e W2 ⟨v,zs,rfl,hv,hp,hb2⟩
   exact⟨v,rfl,⟨zs,row_low hv hb.size,hp⟩,hb2⟩
 · refine⟨rfl,trivial,IsR.mono _,.inr (.inr fun _ _ _ h _=>h),rfl,fun a W hA hb hd=>⟨fun _=>takes_plain rfl (yields_value _ ?_ rfl),fun e=>absurd e (by decide)⟩⟩
   have h8:a.tmps[8]?.getD undef = .int .i64 (chg x.2.now):=gt' hA (by simp) rfl
   go_simp
 · refine⟨rfl,trivial,NewI.mono _,.inr (.inl rfl),rfl,fun a W hA hb hd=>⟨fun _=>takes_plain rfl ?_,fun e=>absurd e (by decide)⟩⟩
   have h32:a.tmps[32]?.getD undef = .int .i64 (chg x.2.now):=gh (hd 7 (by simp) _ rfl)
   refine .inl ⟨.slice (some ⟨W.heap.size,0,none⟩) 1 1,W.alloc (.cells #[.int .i64 (chg x.2.now)] 3),?_,⟨W.heap.size,rfl,isRow_lit W 3 .i64 [chg x.2.now] 1 rfl (by decide) (wf_chg x.2.now (by have:=HLM.out.1;omega))⟩,alB,fresh_no _ _ _⟩
   go_simp
 · refine⟨rfl,trivial,OwIR.mono _ _,.inl rfl,rfl,fun a W hA hb hd=>⟨fun e=>absurd rfl e,fun _=>?_⟩⟩
   obtain⟨zs,hz1,hz2⟩:=hd 6 (by simp) _ rfl
   obtain⟨g,e33,r33⟩:=hd 8 (by simp) _ rfl
   exact takes6_appI rfl (.tmp 31) (.tmp 33) rfl rfl hz1 e33 r33 hz2 (by rw[hz2.length_eq];exact Nat.le_trans (liveC_len _) HLM.out.2.2) hb.size
 intro vs W9 hR hb
 have e25:vs 25 = .pointer (some ⟨x.1,0,none⟩):=hR 0 _ rfl rfl
 have e26:vs 26 = .pointer (some ⟨x.1,0,none⟩):=hR 1 _ rfl rfl
 have e27:vs 27 = .pointer (some ⟨x.1,1,none⟩):=hR 2 _ rfl rfl
 have e28:vs 28 = .int .i64 (x.2.q:Int):=hR 3 _ rfl rfl
 have e29:vs 29 = .int .i64 (chg x.2.now):=hR 4 _ rfl rfl
 have e30:vs 30 = .pointer (some ⟨x.1,0,none⟩):=hR 5 _ rfl rfl
 have e32:vs 32 = .int .i64 (chg x.2.now):=hR 7 _ rfl rfl
 simp only[List.map_cons,List.map_nil,List.foldl_cons,List.foldl_nil,List.length_cons,List.length_nil,List.drop_succ_cons,List.drop_zero,Act.put,List.setIfInBounds_toArray,List.set_cons_zero,List.set_cons_succ,e25,e26,e27,e28,e29,e30,e32]
 have hz0:OwIR w8.heap.size (liveC x.2.sn++[chg x.2.now]) (vs 34) W9:=hR 9 _ rfl rfl
 generalize vs 31=q31 at *
 generalize vs 33=q33 at *
 generalize vs 34=q34 at *
 obtain⟨zs,hz1,hz2⟩:=hz0
 obtain⟨zA,zc,hzv⟩:=row_shape hz1
 subst hzv
 have HOV:=zz (qOver_any (x.2.q:Int) (chg x.2.now) zA zs.length zc zs W9 (isRow_own hz1 fun z hz=>by
  rcases List.mem_append.1 (hz2.mem_iff.1 hz) with h1 | h1
  · exact liveC_wf HLM.out.2.1 z h1
  · exact wf_chg x.2.now (by have:=HLM.out.1;omega) z h1) (by rw[hz2.length_eq,List.length_append,List.length_singleton];have:=liveC_len x.2.sn;have:=HSL.out;omega) (by have:=QOK.out;omega) (by have:=chg_bd x.2.now;have:=HLM.out.1;omega))
 rw[overB_perm _ _ hz2] at HOV
 have B9':=zz (below_tr B8.out hb B8.out.size)
 obtain⟨dec,hdec⟩:∃d,overB (x.2.q:Int) (chg x.2.now) (liveC x.2.sn++[chg x.2.now])=d:=⟨_,rfl⟩
 rw[hdec] at HOV
 have HD:=zz hdec
 clear hR hb hz1 hz2 hdec
 go_wp2_with fail
 refine HOV.out.mono ?_
 rintro e w5 ⟨rfl,hb5⟩
 have B5:=zz (below_tr B9'.out hb5 B9'.out.size)
 clear hb5 HOV B9'
 cases dec with
 | true =>
   have PA:Hid (snapA x.2=errA 261):=zz (by unfold snapA;rw[HD.out];rfl)
   have PT:Hid (updT (c.hd/4294967296) (snapQ x.2) T=T):=zz (by unfold snapQ;rw[HD.out];exact updT_self HMW.out HFN.out)
   have HF:=zz fun W=>fails_any 261 W
   go_wp2_with fail
   refine (HF.out _).mono ?_
   rintro e w1 ⟨rfl,hb⟩
   have B1:Hid (Below w0.heap.size w0 w1):=zz (below_tr B5.out hb B5.out.size)
   have Q1:=zz (HQ.out.ab B1.out)
   have M1:=kpM HM B1
   have S1:=stKp s O HA B1
   clear hb HQ HM B1
   go_wp2_with (first
    | ((with_reducible refine stA 36 ?_ (ansE 261) ?_ Q1 ?_ ?_ (ansE_one _) ?_);rfl;rfl;rfl;rfl;intro wz QZ FZ))
   refine bodyPost_ret (ansR Tryz.results50 QZ rfl rfl) rfl ?_
   rw[PA.out,PT.out]
   exact DoR.fl 261 0 0 0 M1 S1 FZ
 | false=>
   obtain⟨L,hL⟩:∃L,x.2.sn.length+1=L:=⟨_,rfl⟩
   have PA:Hid (snapA x.2=snA L):=zz (by unfold snapA;rw[HD.out,hL];rfl)
   have PT:Hid (snapQ x.2=setSn x.2 (x.2.sn++[(x.2.now,false)])):=zz (by unfold snapQ;rw[HD.out];rfl)
   have HL:=zz hL
   have hwr:IntKind.u64.wrap ((x.2.sn.length:Int)+1)=(L:Int):=by rw[IntKind.wrap_u64];have:=HLM.out.2.2;omega
   have LOK:Hid (u64Ok L):=zz (by unfold u64Ok;have:=HLM.out.2.2;omega)
   have t5:=HT.out.stp (Stp.of (O':=cutTg O w.heap.size) B5.out (fun _=>False) fun _ _=>rfl) fun h=>h
   have T5:=zz t5
   have d5:=t5.box.cell (k:=5) rfl
   have f5:=t5.box.free 5
   clear t5 hL
   go_upto_region 8 with (fail)
   have fr6:=fr_set w5 x.1 5 (.int .u64 (L:Int))
   have bx6:CbB (w5.setCell ⟨x.1,5,none⟩ (.int .u64 (L:Int))) x.1 71 #[.string (strOf x.2.sec),.int .i64 (x.2.q:Int),.map (some nb),.pointer (some ⟨cb,0,none⟩),.map (some sm),.int .u64 (L:Int),.bool x.2.tu]:=T5.out.box.set 5 (.int .u64 (L:Int))
   have sm6:MapB u64V u64Ok (w5.setCell ⟨x.1,5,none⟩ (.int .u64 (L:Int))) sm es:=T5.out.snm.same (Below.heap_setCell w5 ⟨x.1,5,none⟩ (.int .u64 (L:Int)) sm fun e=>T5.out.apart.2.2.2 e.symm)
   have q6:CbB (w5.setCell ⟨x.1,5,none⟩ (.int .u64 (L:Int))) (w.heap.size+1) 44 (ansE 0):=(HQ.out.ab B5.out).far (fun e=>by have h1:=HQ.out.ab B5.out;rw[e] at h1;exact absurd rfl (cb_neX h1 T5.out.box (by decide))) _
   obtain⟨w6,hw6⟩:∃w6,w5.setCell ⟨x.1,5,none⟩ (.int .u64 (L:Int))=w6:=⟨_,rfl⟩
   rw[hw6] at fr6 bx6 sm6 q6⊢
   have F6:=zz fr6
   have X6:=zz bx6
   have M6:=zz sm6
   have Q6:=zz q6
   clear hw6 fr6 bx6 sm6 q6 d5 f5 hwr
   refine wp_wide3 [⟨44,IsR (.pointer (some ⟨x.1,0,none⟩)),[],false⟩,⟨45,IsR (.pointer (some ⟨x.1,0,none⟩)),[0],false⟩,⟨46,IsR (.pointer (some ⟨x.1,4,none⟩)),[1],false⟩,⟨47,IsR (.map (some sm)),[2],false⟩,⟨48,IsR (.pointer (some ⟨x.1,0,none⟩)),[],false⟩,⟨49,IsR (.pointer (some ⟨x.1,0,none⟩)),[4],false⟩,⟨50,IsR (.pointer (some ⟨x.1,5,none⟩)),[5],false⟩,⟨51,IsR (.int .u64 (L:Int)),[6],false⟩,⟨52,IsR (.pointer (some ⟨x.1,0,none⟩)),[],false⟩,⟨53,IsR (.pointer (some ⟨x.1,0,none⟩)),[8],false⟩,⟨54,IsR (.pointer (some ⟨x.1,2,none⟩)),[9],false⟩,⟨55,IsR (.map (some nb)),[10],false⟩] (by kernel_rfl) (by kernel_rfl) rfl rfl rfl ⟨?_,?_,?_,?_,?_,?_,?_,?_,?_,?_,?_,?_,trivial⟩ ?_
   · refine okA rfl rfl fun a W hA hb hd=>?_
     have h5:a.tmps[5]?.getD undef = .pointer (some ⟨x.1,0,none⟩):=gt' hA (by simp) rfl
     go_simp
   · refine okA rfl rfl fun a W hA hb hd=>?_
     have h44:a.tmps[44]?.getD undef = .pointer (some ⟨x.1,0,none⟩):=gh (hd 0 (by simp) _ rfl)
     go_simp
   · refine okA rfl rfl fun a W hA hb hd=>?_
     have h45:a.tmps[45]?.getD undef = .pointer (some ⟨x.1,0,none⟩):=gh (hd 1 (by simp) _ rfl)
     go_simp
   · refine okA rfl rfl fun a W hA hb hd=>?_
     have h46:a.tmps[46]?.getD undef = .pointer (some ⟨x.1,4,none⟩):=gh (hd 2 (by simp) _ rfl)
     have hc:W.cell? (⟨x.1,4,none⟩)=some (.map (some sm)):=(X6.out.ab hb).cell (k:=4) rfl
     go_simp
   · refine okA rfl rfl fun a W hA hb hd=>?_
     have h5:a.tmps[5]?.getD undef = .pointer (some ⟨x.1,0,none⟩):=gt' hA (by simp) rfl
     go_simp
   · refine okA rfl rfl fun a W hA hb hd=>?_
     have h48:a.tmps[48]?.getD undef = .pointer (some ⟨x.1,0,none⟩):=gh (hd 4 (by simp) _ rfl)
     go_simp
   · refine okA rfl rfl fun a W hA hb hd=>?_
     have h49:a.tmps[49]?.getD undef = .pointer (some ⟨x.1,0,none⟩):=gh (hd 5 (by simp) _ rfl)
     go_simp
   · refine okA rfl rfl fun a W hA hb hd=>?_
     have h50:a.tmps[50]?.getD undef = .pointer (some ⟨x.1,5,none⟩):=gh (hd 6 (by simp) _ rfl)
     have hc:W.cell? (⟨x.1,5,none⟩)=some (.int .u64 (L:Int)):=(X6.out.ab hb).cell (k:=5) rfl
     go_simp
   · refine okA rfl rfl fun a W hA hb hd=>?_
     have h5:a.tmps[5]?.getD undef = .pointer (some ⟨x.1,0,none⟩):=gt' hA (by simp) rfl
     go_simp
   · refine okA rfl rfl fun a W hA hb hd=>?_
     have h52:a.tmps[52]?.getD undef = .pointer (some ⟨x.1,0,none⟩):=gh (hd 8 (by simp) _ rfl)
     go_simp
   · refine okA rfl rfl fun a W hA hb hd=>?_
     have h53:a.tmps[53]?.getD undef = .pointer (some ⟨x.1,0,none⟩):=gh (hd 9 (by simp) _ rfl)
     go_simp
   · refine okA rfl rfl fun a W hA hb hd=>?_
     have h54:a.tmps[54]?.getD undef = .pointer (some ⟨x.1,2,none⟩):=gh (hd 10 (by simp) _ rfl)
     have hc:W.cell? (⟨x.1,2,none⟩)=some (.map (some nb)):=(X6.out.ab hb).cell (k:=2) rfl
     go_simp
   intro vs W9 hR hF hb
   have e44:vs 44 = .pointer (some ⟨x.1,0,none⟩):=hR 0 _ rfl
   have e45:vs 45 = .pointer (some ⟨x.1,0,none⟩):=hR 1 _ rfl
   have e46:vs 46 = .pointer (some ⟨x.1,4,none⟩):=hR 2 _ rfl
   have e47:vs 47 = .map (some sm):=hR 3 _ rfl
   have e48:vs 48 = .pointer (some ⟨x.1,0,none⟩):=hR 4 _ rfl
   have e49:vs 49 = .pointer (some ⟨x.1,0,none⟩):=hR 5 _ rfl
   have e50:vs 50 = .pointer (some ⟨x.1,5,none⟩):=hR 6 _ rfl
   have e51:vs 51 = .int .u64 (L:Int):=hR 7 _ rfl
   have e52:vs 52 = .pointer (some ⟨x.1,0,none⟩):=hR 8 _ rfl
   have e53:vs 53 = .pointer (some ⟨x.1,0,none⟩):=hR 9 _ rfl
   have e54:vs 54 = .pointer (some ⟨x.1,2,none⟩):=hR 10 _ rfl
   have e55:vs 55 = .map (some nb):=hR 11 _ rfl
   simp only[List.map_cons,List.map_nil,List.foldl_cons,List.foldl_nil,List.length_cons,List.length_nil,List.drop_succ_cons,List.drop_zero,Act.put,List.setIfInBounds_toArray,List.set_cons_zero,List.set_cons_succ,e44,e45,e46,e47,e48,e49,e50,e51,e52,e53,e54,e55]
   have X9:=zz (X6.out.ab hb)
   have M9:=zz (M6.out.ab hb)
   have Q9:=zz (Q6.out.ab hb)
   have F9:=zz (F6.out.trX (Fr.of hb _))
   clear hR hF hb X6 M6 Q6 F6
   refine wpList_mapPut rfl (.tmp 47) (.tmp 51) (.tmp 55) rfl u64_K Tryz.underlying69 rfl M9.out L LOK.out rfl (.map (some nb)) rfl ?_
   intro w4 h4 g4 s4 b4
   have bne:x.1≠sm:=T5.out.apart.2.2.2
   have h4':MapB u64V u64Ok w4 sm (putL (x.2.sn.length+1) (.map (some nb)) es):=by rw[HL.out];exact h4
   have bx4:CbB w4 x.1 71 #[.string (strOf x.2.sec),.int .i64 (x.2.q:Int),.map (some nb),.pointer (some ⟨cb,0,none⟩),.map (some sm),.int .u64 ((x.2.sn++[(x.2.now,false)]).length:Int),.bool x.2.tu]:=by rw[List.length_append,List.length_singleton,HL.out];exact X9.out.grown g4 bne
   have md:=T5.out.mod (w1:=w4) ((F9.out.imp fun q e=>Or.inl e).trX ((Fr.grown g4).imp fun q e=>.inr (by injection e with e;exact e.symm))) bx4 T5.out.now T5.out.nowO h4' (T5.out.sns.snoc T5.out.now T5.out.nowO)
   have qne:w.heap.size+1≠sm:=fun e=>by
    have h5:=Q9.out
    obtain⟨es',cl,h6,_⟩:=M9.out
    unfold CbB at h5
    rw[e,h6] at h5
    cases h5
   have Q1:=zz (Q9.out.grown g4 qne)
   have d5:w4.cell? ⟨x.1,5,none⟩=some (.int .u64 (L:Int)):=(X9.out.grown g4 bne).cell (k:=5) rfl
   have K9:Stp (fun τ=>τ=(s,x.2.n)) w O w5 (cutTg O w.heap.size):=(Stp.cut HA.out _).ab B5.out
   obtain⟨md1,md2⟩:=md
   have XN:=(fnd_mem HFN.out).2
   rw[XN] at md1 K9
   have K6:=zz (K9.tr md1)
   have M1:=zz (HMW.out.upd (t':=setSn x.2 (x.2.sn++[(x.2.now,false)])) HFN.out K6.out XN (setSn_ok _ HOKT.out) ⟨_,_,_,_,_,md2⟩)
   have S1:Hid (Stp (fun τ=>τ.1=s) w O w4 (cutTg O w.heap.size)):=zz (K6.out.imp fun τ e=>by rw[e])
   clear h4 g4 s4 b4 bne md1 md2 XN qne K9 h4' bx4
   simp only[Act.put]
   go_wp2_with (first
    | ((with_reducible refine stA 60 ?_ (#[.int .i64 0,.int .u64 0,.int .u64 (L:Int),.slice none 0 0,.slice none 0 0,.int .i64 0,.slice none 0 0]) ?_ Q1 ?_ ?_ (by simp[Value.oneCell']) ?_);rfl;rfl;rfl;rfl;intro wz QZ FZ))
   refine bodyPost_ret (ansR Tryz.results50 QZ rfl rfl) rfl ?_
   rw[PA.out,PT.out]
   exact DoR.flat 0 0 L 0 ⟨m,_,M1.out.stp (Stp.box FZ.out (cutTg_at (Nat.le_succ _))) fun i e=>by have:=M1.out.pos;injection e with e;omega⟩ (S1.out.fresh FZ.out (Nat.le_succ _))
end
section
variable {P:Program} {Q:Exit→Act→World→Prop}
theorem Fr.trW {w w1 w2:World} {F:Nat→Prop} (h:Fr w w1 F) (k:Fr w1 w2 F):Fr w w2 F:=⟨k.os.trans h.os,k.tape.trans h.tape,k.output.trans h.output,Nat.le_trans h.size k.size,fun i hi hn=>(k.block i (Nat.lt_of_lt_of_le hi h.size) hn).trans (h.block i hi hn)⟩
def Head.okW (P:Program) (ops:Array Oper) (hs:List Head) (a0:Act) (w0:World) (B:Nat) (F:Nat→Prop) (i:Nat) (h:Head) (o:Oper):Prop:=
 o.dst=some h.dst∧Mono h.R∧(i=B∨∀v W W',h.R v W→Fr W W' F→h.R v W')∧∀a W,Agree (hs.map (·.dst)) a0 a→Fr w0 W F→(∀j∈h.deps,∀(hj:Head),hs[j]? = some hj→hj.R (a.eval (.tmp hj.dst)) W)→
  (i≠B→Takes P ops o a W false h.R)∧(i=B→Below w0.heap.size w0 W→Takes6 P ops o a W (fun W W'=>Fr W W' F) h.R)
theorem wp_wideW {id:Nat} {a0:Act} {w0:World} {l:List Oper} (B:Nat) (F:Nat→Prop) (hs:List Head) (hmx:P.follows .mixedOrders=true)
 (hB:wideB l.toArray hs.length (hs.map (·.deps)).toArray=true)
 (hlen:decide (hs.length≤l.length)=true) (hin:(hs.map (·.dst)).all (fun d=>decide (d<a0.tmps.size))=true) (hdis:decide ((hs.map (·.dst)).Nodup)=true)
 (hok:All5 (Head.okW P l.toArray hs a0 w0 B F) 0 hs l)
 (hk:∀(vs:Tmp→Value) W,(∀(i:Nat) (h:Head),hs[i]? = some h→h.R (vs h.dst) W)→Fr w0 W F→wpList P l.toArray Q (l.drop hs.length) ((hs.map (·.dst)).foldl (fun x d=>x.put (some d) (vs d)) a0) W):
 (Code.region id l.toArray true).wp P Q a0 w0:=by
 have hlen':=of_decide_eq_true hlen
 have hat:∀(i:Nat) (h:Head) (o:Oper),hs[i]? = some h→l[i]? = some o→Head.okW P l.toArray hs a0 w0 B F i h o:=fun i h o hi ho=>by
  have:=hok.at i h o hi ho
  rwa [Nat.zero_add] at this
 have hunl:∀n,unl (Array.replicate l.toArray.size false) n=n:=fun n=>by
  induction n with
  | zero=>rfl
  | succ n ih=>rw[unl,ih,getD_replicate_false];simp
 have hop:∀(i:Nat) (h:Head),hs[i]? = some h→∃o,l[i]? = some o:=fun i h hi=>by
  have hil:=lt_of_some hi
  exact⟨_,List.getElem?_eq_getElem (by omega)⟩
 refine wp_region_any hmx ?_
 have hinv:HeadInv .any l.toArray hs.length (Array.replicate l.toArray.size false):=⟨by simp,fun j oj hj hl=>(by rw[getD_replicate_false] at hl;cases hl),fun t ht ht'=>getD_in (by simpa using ht') (getD_replicate_false _ _)⟩
 have h1:=wide6_any (P:=P) (Q:=Q) (l:=l) (hs:=hs) (a0:=a0) (g:=l.length-hs.length) (G:=fun W=>Fr w0 W F) (Pre:=fun i W=>i=B→Below w0.heap.size w0 W)
  (S:=fun i W W'=>if i=B then Fr W W' F else Below W.heap.size W W')
  hB (by simp)
  (fun i h o hi ho=>(hat i h o hi ho).1) hlen'
  (fun h hh=>by
    have:=List.all_eq_true.1 hin h.dst (List.mem_map.2 ⟨h,hh,rfl⟩)
    exact of_decide_eq_true this) (of_decide_eq_true hdis)
  (fun i j hij W W' hs1 hp e=>by
    subst e
    simp only[if_neg hij] at hs1
    exact below_tr (hp rfl) hs1 (hp rfl).size)
  (fun i W W' hs1 hg=>by
    by_cases e:i=B
    · simp only[if_pos e] at hs1;exact hg.trW hs1
    · simp only[if_neg e] at hs1;exact hg.trW (Fr.of hs1 _))
  (fun i W=>by
    by_cases e:i=B
    · simp only[if_pos e];exact Fr.of (Below.refl _ _) _
    · simp only[if_neg e];exact Below.refl _ _)
  (fun i h hi j hji v W W' hR hs1=>by
    obtain⟨o,ho⟩:=hop i h hi
    have hq:=hat i h o hi ho
    by_cases e:j=B
    · simp only[if_pos e] at hs1
      rcases hq.2.2.1 with e2 | e2
      · exact absurd (e.trans e2.symm) hji
      · exact e2 v W W' hR hs1
    · simp only[if_neg e] at hs1
      exact hq.2.1 v W W' hR hs1)
  (fun i h o hi ho a W hA hg hp hd=>by
    have hq:=(hat i h o hi ho).2.2.2 a W hA hg hd
    by_cases e:i=B
    · simp only[if_pos e];exact hq.2 e (hp e)
    · simp only[if_neg e];exact (hq.1 e).to6 fun W' hb=>hb)
  (fun a W hA hg hR=>by
    have:=hk (fun d=>a.eval (.tmp d)) W hR hg
    rw[←Agree.rebuild _ _ hA] at this
    exact this) hs.length (Array.replicate l.toArray.size false) a0 { w0 with drawn:=w0.drawn+1 } hinv (hunl _)
  ⟨Agree.refl _ _,Fr.of (Below.refl _ w0).drew _,fun _ _ _=>(Below.refl _ w0).drew,fun i h hi hl=>(by rw[getD_replicate_false] at hl;cases hl)⟩
 have hsz:l.toArray.size=hs.length+(l.length-hs.length):=by rw[List.size_toArray];omega
 have e:wpAny P .any l.toArray Q l.toArray.size=wpAny P .any l.toArray Q (hs.length+(l.length-hs.length)):=congrArg _ hsz
 rw[e]
 exact h1
end
end Go.Proofs.YtgdhinjhbjolgaaGreat
