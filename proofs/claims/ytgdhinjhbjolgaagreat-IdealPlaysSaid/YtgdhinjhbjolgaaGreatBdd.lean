/-
  Parts of the proof, joined.
-/
import Derived.Test.YtgdhinjhbjolgaaGreatBdc
import Derived.Shelf.SlMaps.Clone
import Derived.RegionIn
namespace Go.Proofs.YtgdhinjhbjolgaaGreat
set_option maxHeartbeats 4000000
open Go.RowKit Go.Shelf
set_option linter.unusedVariables false
structure CpA (w:World) (B c:Nat) (mo:Option Nat) (A:HL):Prop where
 st:∃l,CpB w B c mo A.length l∧(∀k,getC k l=(atH A k).map fun x=>(x.r,x.up))∧(l.map (·.1)).Nodup
 right:RightA A
 few:(aliveH A).length≤64
theorem cp_mem {A:HL} {l:CpL} (h:∀k,getC k l=(atH A k).map fun x=>(x.r,x.up)) (k:Nat):k∈l.map (·.1)↔k∈aliveH A:=by
 rw[aliveH_mem]
 have h1:(atH A k).isSome=(getC k l).isSome:=by rw[h];simp
 rw[h1]
 unfold getC
 rw[Option.isSome_map,List.find?_isSome]
 simp only[List.mem_map,decide_eq_true_eq]
theorem cp_perm {A:HL} {l:CpL} (h:∀k,getC k l=(atH A k).map fun x=>(x.r,x.up)) (hn:(l.map (·.1)).Nodup):(l.map (·.1)).Perm (aliveH A):=
 (List.perm_ext_iff_of_nodup hn (aliveH_nodup A)).2 fun k=>cp_mem h k
theorem cp_len {A:HL} {l:CpL} (h:∀k,getC k l=(atH A k).map fun x=>(x.r,x.up)) (hn:(l.map (·.1)).Nodup):l.length=(aliveH A).length:=by
 have:=(cp_perm h hn).length_eq
 rwa [List.length_map] at this
section
variable {w w':World} {B c:Nat} {mo:Option Nat} {A:HL}
theorem CpA.ab (h:CpA w B c mo A) (hb:Below w.heap.size w w'):CpA w' B c mo A:=by
 obtain⟨⟨l,h1,h2⟩,h3,h4⟩:=h
 exact⟨⟨l,h1.ab hb,h2⟩,h3,h4⟩
end
def capF (c:Nat) (mo:Option Nat) (k:Nat):Prop:=k=c∨mo=some k
def CapR (B c:Nat) (mo:Option Nat) (w:World) (v:Value) (A':HL) (e:Ending) (w':World):Prop:=
 e = .returned v∧∃mo',CpA w' B c mo' A'∧Fr w w' (capF c mo)∧(mo'=mo∨∃m,mo'=some m∧w.heap.size≤m)
theorem getC_snoc (l:CpL) (n k:Nat) (x:Nat×Nat) (hn:getC n l=none):getC k (l++[(n,x)])=if k=n then some x else getC k l:=by
 unfold getC at hn⊢
 rw[Option.map_eq_none_iff] at hn
 rw[List.find?_append]
 by_cases e:k=n
 · subst e
   rw[hn]
   simp
 · rw[if_neg e]
   have:((([(n,x)]:CpL)).find? fun p=>decide (p.1=k))=none:=by
    rw[List.find?_eq_none]
    intro p hp
    simp only[List.mem_singleton] at hp
    subst hp
    simpa using fun h=>e h.symm
   rw[this,Option.or_none]
theorem PutA.to {B c:Nat} {mo:Option Nat} {A:HL} {l:CpL} {w:World} {e:Ending} {w':World} {r u:Nat} (hA:RightA A) (hu:u=0∨(atH A u).isSome=true) (h:CpB w B c mo A.length l) (hg:∀k,getC k l=(atH A k).map fun x=>(x.r,x.up)) (hn:(l.map (·.1)).Nodup) (hf:(aliveH A).length≤64)
 (hp:PutA B c A.length (r,u) mo l w e w'):CapR B c mo w (.tuple #[.int .u64 ((putH A r u).1.1:Int),.int .i64 ((putH A r u).1.2:Int)]) (putH A r u).2 e w':=by
 have hl:=cp_len hg hn
 have hnew:getC (A.length+1) l=none:=getC_none fun p hp e=>by have:=(h.le p hp).2;omega
 unfold putH
 rcases hp with ⟨h1,m',rfl,h3,h4,h5⟩ | ⟨h1,rfl,h3⟩
 · rw[if_neg (by omega)]
   refine⟨by simp,some m',⟨⟨_,by simpa using h3,fun k=>?_,?_⟩,hA.snoc r u hu,?_⟩,h4,?_⟩
   · rw[getC_snoc _ _ _ _ hnew,atH_snoc,hg]
     split <;> simp
   · rw[List.map_append]
     refine List.nodup_append.2 ⟨hn,by simp,fun a ha b hb=>?_⟩
     simp only[List.map_cons,List.map_nil,List.mem_singleton] at hb
     subst hb
     intro e
     have:=aliveH_le ((cp_mem hg a).1 ha)
     omega
   · rw[aliveH_snoc,List.length_append,List.length_singleton]
     omega
   · rcases h5 with h5 | ⟨_,h5⟩
     · exact .inl h5.symm
     · exact .inr ⟨m',rfl,h5⟩
 · rw[if_pos (by omega)]
   exact⟨rfl,mo,⟨⟨l,h.ab h3,hg,hn⟩,hA,hf⟩,Fr.of h3 _,.inl rfl⟩
section
variable {B c:Nat} {mo:Option Nat} {A:HL} {w:World}
theorem attachA_any (h:CpA w B c mo A) (hm:A.length<1000000):Calls Tryz.prog 72 #[.pointer (some ⟨c,0,none⟩)] w (CapR B c mo w (.tuple #[.int .u64 ((putH A 15 0).1.1:Int),.int .i64 ((putH A 15 0).1.2:Int)]) (putH A 15 0).2):=by
 obtain⟨⟨l,h1,h2,h3⟩,h4,h5⟩:=h
 have hl:=cp_len h2 h3
 exact (attach_any B c A.length mo l w h1 (by omega) (by omega)).mono fun e w' hp=>PutA.to h4 (.inl rfl) h1 h2 h3 h5 hp
theorem giveA_any (h r:Nat) (hc:CpA w B c mo A) (hk:u64Ok h) (hm:A.length<1000000):Calls Tryz.prog 75 #[.pointer (some ⟨c,0,none⟩),.int .u64 (h:Int),.int .u8 (r:Int)] w (CapR B c mo w (.tuple #[.int .u64 ((giveH A h r).1.1:Int),.int .i64 ((giveH A h r).1.2:Int)]) (giveH A h r).2):=by
 have hc0:=hc
 obtain⟨⟨l,h1,h2,h3⟩,h4,h5⟩:=hc
 have hl:=cp_len h2 h3
 refine (give_any B c A.length h r mo l w h1 hk (by omega) (by omega)).mono fun e w' hp=>?_
 have hg:=h2 h
 unfold GiveR giveE at hp
 unfold giveH
 rw[hg] at hp
 cases ha:atH A h with
 | none=>
   rw[ha] at hp
   simp only[Option.map_none] at hp⊢
   rcases hp with ⟨_,rfl,hb⟩ | ⟨h0,_⟩
   · exact⟨rfl,mo,hc0.ab hb,Fr.of hb _,.inl rfl⟩
   · cases h0
 | some x=>
   rw[ha] at hp
   simp only[Option.map_some] at hp⊢
   cases hq:(noGive x.r||overR r x.r)
   · rw[hq] at hp
     simp only[cond_false] at hp⊢
     rcases hp with ⟨h0,_⟩ | ⟨_,hp⟩
     · exact absurd rfl h0
     · exact PutA.to h4 (.inr (by rw[ha];rfl)) h1 h2 h3 h5 hp
   · rw[hq] at hp
     simp only[cond_true] at hp⊢
     rcases hp with ⟨_,rfl,hb⟩ | ⟨h0,_⟩
     · exact⟨rfl,mo,hc0.ab hb,Fr.of hb _,.inl rfl⟩
     · cases h0
def finH (A:HL) (k:Nat):(Nat×Nat)×Nat:=match atH A k with | none=>((0,0),7) | some x=>((x.r,x.up),0)
theorem findA_any (k:Nat) (h:CpA w B c mo A) (hk:u64Ok k):Calls Tryz.prog 107 #[.pointer (some ⟨c,0,none⟩),.int .u64 (k:Int)] w fun e w'=>e = .returned (.tuple #[hdV (finH A k).1,.int .i64 ((finH A k).2:Int)])∧Below w.heap.size w w':=by
 obtain⟨⟨l,h1,h2,h3⟩,h4,h5⟩:=h
 have h6:=find_any B c A.length k mo l w h1 hk
 unfold findP at h6
 unfold finH
 rw[h2] at h6
 cases ha:atH A k with
 | none=>rw[ha] at h6;exact h6
 | some x=>rw[ha] at h6;exact h6
set_option maxRecDepth 100000 in
theorem checkA_any (h need:Nat) (hc:CpA w B c mo A) (hk:u64Ok h):Calls Tryz.prog 106 #[.pointer (some ⟨c,0,none⟩),.int .u64 (h:Int),.int .u8 (need:Int)] w fun e w'=>e = .returned (.int .i64 (checkH A h need:Int))∧Below w.heap.size w w':=by
 have HF:=Lib.hid (findA_any h hc hk)
 unfold finH at HF
 unfold checkH
 cases ha:atH A h with
 | none=>
   rw[ha] at HF
   simp only[hdV] at HF
   clear hc hk ha
   go_enter Tryz.func106,Tryz.ntmps106
   go_wp2_with fail
   refine HF.out.mono ?_
   rintro e w1 ⟨rfl,hb⟩
   have B1:=Lib.hid hb
   clear hb HF
   go_wp2_with fail
   go_ret
   exact⟨rfl,B1.out.alloc B1.out.size _⟩
 | some x=>
   rw[ha] at HF
   simp only[hdV] at HF
   have d2:(bits .andNot .u8 (need:Int) (x.r:Int) != 0)=overR need x.r:=rfl
   simp only
   generalize overR need x.r=b2 at *
   clear hc hk ha
   cases b2
   all_goals
    go_enter Tryz.func106,Tryz.ntmps106
    go_wp2_with fail
    refine HF.out.mono ?_
    rintro e w1 ⟨rfl,hb⟩
    have B1:=Lib.hid hb
    clear hb HF
    go_wp2_with fail
    go_ret
    exact⟨rfl,B1.out.alloc B1.out.size _⟩
end
open Go.ChangeMaps (setBlock heap_setBlock_same heap_setBlock_other modify_eq_set)
attribute [local go_sem] Oper.semAt_some
theorem type_assert (v:Value) (w:World):(Instr.typeAssert (.iface 93 v) 20 93 false).run Tryz.prog w = .ok v w:=by
 simp[Instr.typeAssert,run_underlying Tryz.underlying93,go_sem,Result.andThen]
set_option maxRecDepth 100000 in
theorem clone_none (w:World):Calls Tryz.prog 36 #[.map none] w fun e w'=>e = .returned (.map none)∧w=w':=by
 have hq:=fun W=>map_eq W
 go_enter Tryz.func36,Tryz.ntmps36
 go_wp2_with fail
 go_ret
 exact⟨rfl,rfl⟩
set_option maxRecDepth 100000 in
theorem clone_some (m:Nat) (l:List (Nat×Value)) (w:World) (h:MapB u64V u64Ok w m l):Calls Tryz.prog 36 #[.map (some m)] w fun e w'=>e = .returned (.map (some w.heap.size))∧MapB u64V u64Ok w' w.heap.size l∧Below w.heap.size w w':=by
 obtain⟨es,clock,h1,h2,h3,h4⟩:=h
 have hq:=fun m W=>map_ne m W
 have ha:Below w.heap.size w (w.alloc (.map es clock)):=(Below.refl _ _).alloc (Nat.le_refl _) _
 have HH:=Lib.hid (show MapB u64V u64Ok (w.alloc (.map es clock)) w.heap.size l from⟨es,clock,heap_alloc_new w _,h2,h3,h4⟩)
 have HA:=Lib.hid ha
 have H1:=Lib.hid h1
 clear h1 h2 h3 h4 ha
 go_enter Tryz.func36,Tryz.ntmps36
 go_wp2_with fail
 rw[run_callFunc_extern Tryz.func35 (by kernel_rfl) (by kernel_rfl) (by kernel_rfl) (e:=Extern.MapsClone.clone) (by kernel_rfl),run_maps_clone_sl w 93 H1.out]
 simp only[Result.andThen]
 rw[Oper.upon_value]
 go_wp2_with fail
 rw[type_assert]
 simp only[Result.andThen]
 rw[Oper.upon_value]
 go_wp2_with fail
 go_ret
 exact⟨rfl,HH.out,HA.out⟩
def ClR (S:Nat) (mo:Option Nat) (l:CpL) (v:Value) (W:World):Prop:=∃mo',v = .map mo'∧(mo=none→mo'=none)∧∀m,mo=some m→∃n,mo'=some n∧S≤n∧MapB u64V u64Ok W n (cpV l)
theorem ClR.mono (S:Nat) (mo:Option Nat) (l:CpL):Mono (ClR S mo l):=fun v W W' ⟨mo',h1,h2,h3⟩ hb=>⟨mo',h1,h2,fun m hm=>by
 obtain⟨n,h4,h5,h6⟩:=h3 m hm
 exact⟨n,h4,h5,h6.ab hb⟩⟩
theorem clone_any {B c:Nat} {mo:Option Nat} {n:Nat} {l:CpL} {w:World} (h:CpB w B c mo n l):Calls Tryz.prog 36 #[.map mo] w fun e w'=>∃v,e = .returned v∧ClR w.heap.size mo l v w'∧Below w.heap.size w w':=by
 cases mo with
 | none=>
   refine (clone_none w).mono ?_
   rintro e w' ⟨rfl,rfl⟩
   exact⟨_,rfl,⟨none,rfl,fun _=>rfl,fun m hm=>by cases hm⟩,Below.refl _ _⟩
 | some m=>
   refine (clone_some m (cpV l) w (h.map m rfl).2).mono ?_
   rintro e w' ⟨rfl,hM,hb⟩
   exact⟨_,rfl,⟨some w.heap.size,rfl,fun hm=>(by cases hm),fun m hm=>⟨_,rfl,Nat.le_refl _,hM⟩⟩,hb⟩
def CopR (w:World) (A:HL) (e:Ending) (w':World):Prop:=∃c' mo',e = .returned (.pointer (some ⟨c',0,none⟩))∧w.heap.size≤c'∧(∀m,mo'=some m→w.heap.size≤m)∧CpA w' w.heap.size c' mo' A∧Below w.heap.size w w'
set_option maxRecDepth 100000 in
theorem copyA_any {B c:Nat} {mo:Option Nat} {A:HL} {w:World} (h:CpA w B c mo A):Calls Tryz.prog 23 #[.pointer (some ⟨c,0,none⟩)] w (CopR w A):=by
 obtain⟨⟨l,h1,h2,h3⟩,h4,h5⟩:=h
 have HB:=Lib.hid h1
 have HC:Hid (∀W,Below w.heap.size w W→Calls Tryz.prog 36 #[.map mo] W fun e w'=>∃v,e = .returned v∧ClR w.heap.size mo l v w'∧Below W.heap.size W w'):=Lib.hid fun W hW=>by
  refine (clone_any (h1.ab hW)).mono ?_
  rintro e w' ⟨v,h6,⟨mo',h7,h8,h9⟩,h10⟩
  refine⟨v,h6,⟨mo',h7,h8,fun m hm=>?_⟩,h10⟩
  obtain⟨n,h11,h12,h13⟩:=h9 m hm
  exact⟨n,h11,Nat.le_trans hW.size h12,h13⟩
 have H2:=Lib.hid h2
 have H3:=Lib.hid h3
 have H4:=Lib.hid h4
 have H5:=Lib.hid h5
 clear h1 h2 h3 h4 h5
 go_enter Tryz.func23,Tryz.ntmps23
 go_upto_region 3 with (fail)
 refine wp_wide3 [⟨5,IsR (.pointer (some ⟨c,0,none⟩)),[],false⟩,⟨6,IsR (.pointer (some ⟨c,0,none⟩)),[0],false⟩,⟨7,IsR (.pointer (some ⟨c,0,none⟩)),[1],false⟩,⟨8,IsR (.map mo),[2],false⟩,⟨9,ClR w.heap.size mo l,[3],false⟩,⟨10,IsR (.pointer (some ⟨c,0,none⟩)),[],false⟩,⟨11,IsR (.pointer (some ⟨c,0,none⟩)),[5],false⟩,⟨12,IsR (.pointer (some ⟨c,1,none⟩)),[6],false⟩,⟨13,IsR (.int .u64 (A.length:Int)),[7],false⟩] (by kernel_rfl) (by kernel_rfl) rfl rfl rfl ⟨?_,?_,?_,?_,?_,?_,?_,?_,?_,trivial⟩ ?_
 · refine⟨rfl,IsR.mono _,fun a W hA hb hd=>takes_plain rfl (yields_value _ ?_ rfl)⟩
   have h0:a.tmps[0]?.getD undef = .pointer (some ⟨c,0,none⟩):=(eval_get a 0).trans ((hA.eval (by simp)).trans rfl)
   go_simp
 · refine⟨rfl,IsR.mono _,fun a W hA hb hd=>takes_plain rfl (yields_value _ ?_ rfl)⟩
   have h5:a.tmps[5]?.getD undef = .pointer (some ⟨c,0,none⟩):=(eval_get a 5).trans (hd 0 (by simp) _ rfl)
   go_simp
 · refine⟨rfl,IsR.mono _,fun a W hA hb hd=>takes_plain rfl (yields_value _ ?_ rfl)⟩
   have h6:a.tmps[6]?.getD undef = .pointer (some ⟨c,0,none⟩):=(eval_get a 6).trans (hd 1 (by simp) _ rfl)
   go_simp
 · refine⟨rfl,IsR.mono _,fun a W hA hb hd=>takes_plain rfl (yields_value _ ?_ rfl)⟩
   have h7:a.tmps[7]?.getD undef = .pointer (some ⟨c,0,none⟩):=(eval_get a 7).trans (hd 2 (by simp) _ rfl)
   have hcc:W.cell? ⟨c,0,none⟩=some (.map mo):=(HB.out.box.ab hb).cell (k:=0) rfl
   go_simp
 · refine⟨rfl,ClR.mono _ _ _,fun a W hA hb hd=>takes_plain rfl ?_⟩
   have h8:a.tmps[8]?.getD undef = .map mo:=(eval_get a 8).trans (hd 3 (by simp) _ rfl)
   refine yields_call 36 #[.map mo] (by go_simp) ((HC.out W hb).mono ?_)
   rintro e W2 ⟨v,rfl,hv,hb2⟩
   exact⟨v,rfl,hv,hb2⟩
 · refine⟨rfl,IsR.mono _,fun a W hA hb hd=>takes_plain rfl (yields_value _ ?_ rfl)⟩
   have h0:a.tmps[0]?.getD undef = .pointer (some ⟨c,0,none⟩):=(eval_get a 0).trans ((hA.eval (by simp)).trans rfl)
   go_simp
 · refine⟨rfl,IsR.mono _,fun a W hA hb hd=>takes_plain rfl (yields_value _ ?_ rfl)⟩
   have h10:a.tmps[10]?.getD undef = .pointer (some ⟨c,0,none⟩):=(eval_get a 10).trans (hd 5 (by simp) _ rfl)
   go_simp
 · refine⟨rfl,IsR.mono _,fun a W hA hb hd=>takes_plain rfl (yields_value _ ?_ rfl)⟩
   have h11:a.tmps[11]?.getD undef = .pointer (some ⟨c,0,none⟩):=(eval_get a 11).trans (hd 6 (by simp) _ rfl)
   go_simp
 · refine⟨rfl,IsR.mono _,fun a W hA hb hd=>takes_plain rfl (yields_value _ ?_ rfl)⟩
   have h12:a.tmps[12]?.getD undef = .pointer (some ⟨c,1,none⟩):=(eval_get a 12).trans (hd 7 (by simp) _ rfl)
   have hcc:W.cell? ⟨c,1,none⟩=some (.int .u64 (A.length:Int)):=(HB.out.box.ab hb).cell (k:=1) rfl
   go_simp
 intro vs w4 hR hF hb
 obtain⟨mo',hm9,hm1,hm2⟩:ClR w.heap.size mo l (vs 9) w4:=hR 4 _ rfl
 have e5:vs 5 = .pointer (some ⟨c,0,none⟩):=hR 0 _ rfl
 have e6:vs 6 = .pointer (some ⟨c,0,none⟩):=hR 1 _ rfl
 have e7:vs 7 = .pointer (some ⟨c,0,none⟩):=hR 2 _ rfl
 have e8:vs 8 = .map mo:=hR 3 _ rfl
 have e10:vs 10 = .pointer (some ⟨c,0,none⟩):=hR 5 _ rfl
 have e11:vs 11 = .pointer (some ⟨c,0,none⟩):=hR 6 _ rfl
 have e12:vs 12 = .pointer (some ⟨c,1,none⟩):=hR 7 _ rfl
 have e13:vs 13 = .int .u64 (A.length:Int):=hR 8 _ rfl
 simp only[List.map_cons,List.map_nil,List.foldl_cons,List.foldl_nil,List.length_cons,List.length_nil,List.drop_succ_cons,List.drop_zero,Act.put,List.setIfInBounds_toArray,List.set_cons_zero,List.set_cons_succ,e5,e6,e7,e8,e10,e11,e12,e13,hm9]
 have B4:=Lib.hid hb
 have M1:=Lib.hid hm1
 have M2:=Lib.hid hm2
 clear hR hF hb hm1 hm2 hm9 e5 e6 e7 e8 e10 e11 e12 e13
 go_wp2_with fail
 go_ret
 have ha:Below w4.heap.size w4 (w4.alloc (.cells #[.map mo',.int .u64 (A.length:Int)] 98)):=(Below.refl _ _).alloc (Nat.le_refl _) _
 refine⟨w4.heap.size,mo',rfl,B4.out.size,fun m hm=>?_,⟨⟨l,⟨CbB.new _ _ _,Nat.le_trans B4.out.size ha.size,fun m hm=>?_,fun hm=>?_,HB.out.le⟩,H2.out,H3.out⟩,H4.out,H5.out⟩,below_tr B4.out ha B4.out.size⟩
 · cases hmo:mo with
   | none=>rw[M1.out hmo] at hm;cases hm
   | some m0=>
     obtain⟨n,h6,h7,_⟩:=M2.out m0 hmo
     rw[h6] at hm
     injection hm with hm
     subst hm
     exact h7
 · cases hmo:mo with
   | none=>rw[M1.out hmo] at hm;cases hm
   | some m0=>
     obtain⟨n,h6,h7,h8⟩:=M2.out m0 hmo
     rw[h6] at hm
     injection hm with hm
     subst hm
     exact⟨h7,h8.ab ha⟩
 · cases hmo:mo with
   | none=>exact HB.out.nil hmo
   | some m0=>
     obtain⟨n,h6,_⟩:=M2.out m0 hmo
     rw[h6] at hm
     cases hm
def chainF:Nat→HL→Nat→List Nat
 | 0,_,_=>[]
 | n+1,A,k=>if upH A k=0 then [] else upH A k::chainF n A (upH A k)
theorem belowF_chain (A:HL) (h:Nat):∀n k,belowF n A h k=true↔h∈chainF n A k
 | 0,k=>by simp[belowF,chainF]
 | n + 1,k=>by
   have ih:=belowF_chain A h n (upH A k)
   simp only[belowF,chainF,bne_iff_ne,ne_eq,Bool.and_eq_true,Bool.or_eq_true,beq_iff_eq,ih]
   by_cases e:upH A k=0
   · simp[e]
   · rw[if_neg e,List.mem_cons]
     constructor
     · rintro ⟨_,h1 | h1⟩
       · exact .inl h1.symm
       · exact .inr h1
     · rintro (h1 | h1)
       · exact⟨e,.inl h1.symm⟩
       · exact⟨e,.inr h1⟩
theorem chainF_fuel {A:HL} (hA:RightA A):∀n m k,k≤n→k≤m→chainF n A k=chainF m A k
 | 0,0,_,_,_=>rfl
 | 0,m+1,k,h1,_=>by
   have:k=0:=by omega
   subst this
   simp[chainF,upH,atH_zero]
 | n+1,0,k,_,h2=>by
   have:k=0:=by omega
   subst this
   simp[chainF,upH,atH_zero]
 | n + 1,m+1,k,h1,h2=>by
   rcases hA.upLt k with h0 | ⟨h0,_⟩
   · simp[chainF,h0]
   · simp only[chainF]
     rw[chainF_fuel hA n m (upH A k) (by omega) (by omega)]
def restH (A:HL) (k:Nat):List Nat:=if k=0 then [] else k::chainF A.length A k
theorem chain_rest {A:HL} (hA:RightA A) (k:Nat):chainF A.length A k=restH A (upH A k):=by
 unfold restH
 rcases hA.upLt k with h0 | ⟨h0,h1,h2,_⟩
 · rw[if_pos h0]
   cases hl:A.length with
   | zero=>rfl
   | succ n=>simp[chainF,h0]
 · obtain⟨n,hn⟩:∃n,A.length=n+1:=⟨A.length-1,by omega⟩
   rw[chainF_fuel hA A.length (A.length+1) k h2 (by omega)]
   simp only[chainF]
theorem upH_le {A:HL} (hA:RightA A) (k:Nat):upH A k≤A.length:=by
 rcases hA.upLt k with h | ⟨h,_,h2,_⟩ <;> omega
theorem CpB.look1 {w:World} {B c made:Nat} {mo:Option Nat} {l:CpL} (h:CpB w B c mo made l) {k:Nat} (hk:u64Ok k):(Instr.lookup 93 (.map mo) (.int .u64 (k:Int)) false).run Tryz.prog w = .ok (hdV ((getC k l).getD (0,0))) w:=by
 cases mo with
 | none=>
   rw[h.nil rfl]
   exact look_nil (x:=k) u64_K Tryz.underlying93 hk (zero_hd w) false
 | some m=>
   have hm:=(h.map m rfl).2
   have hl:=look_cp k l
   cases hg:getC k l with
   | none=>rw[hg] at hl;exact hm.look_none (x:=k) u64_K Tryz.underlying93 hk hl (zero_hd w) false
   | some x=>rw[hg] at hl;exact hm.look_some (x:=k) u64_K Tryz.underlying93 hk hl false
theorem CpA.up {w:World} {B c:Nat} {mo:Option Nat} {A:HL} (h:CpA w B c mo A) {k:Nat} (hk:u64Ok k):∃r:Nat,(Instr.lookup 93 (.map mo) (.int .u64 (k:Int)) false).run Tryz.prog w = .ok (.agg #[.int .u8 (r:Int),.int .u64 (upH A k:Int)]) w:=by
 obtain⟨⟨l,h1,h2,_⟩,_⟩:=h
 refine⟨((getC k l).getD (0,0)).1,(h1.look1 hk).trans ?_⟩
 have:((getC k l).getD (0,0)).2=upH A k:=by
  unfold upH
  rw[h2]
  cases atH A k <;> rfl
 rw[←this]
 rfl
theorem CpA.cell0 {w:World} {B c:Nat} {mo:Option Nat} {A:HL} (h:CpA w B c mo A):w.cell? ⟨c,0,none⟩=some (.map mo):=by
 obtain⟨⟨l,h1,_⟩,_⟩:=h
 exact h1.box.cell (k:=0) rfl
theorem CpA.keep {w w':World} {B c:Nat} {mo:Option Nat} {A:HL} (h:CpA w B c mo A) {n:Nat} (hc:c<n) (hk:KpX n w w'):CpA w' B c mo A:=by
 obtain⟨⟨l,h1,h2,h3⟩,h4,h5⟩:=h
 refine⟨⟨l,⟨h1.box.low hk.2 hc,Nat.le_trans h1.low hk.1.size,fun m hm=>⟨(h1.map m hm).1,(h1.map m hm).2.same ?_⟩,h1.nil,h1.le⟩,h2,h3⟩,h4,h5⟩
 obtain⟨es,ck,q,_⟩:=(h1.map m hm).2
 exact (hk.1.same m _ q rfl).trans q.symm
theorem CpA.set {w:World} {B c:Nat} {mo:Option Nat} {A:HL} (h:CpA w B c mo A) {b:Nat} {T:TypeId} {cs:Array Value} (hb:CbB w b T cs) (hT:T≠98) (k:Nat) (v:Value):CpA (w.setCell ⟨b,k,none⟩ v) B c mo A:=by
 obtain⟨⟨l,h1,h2,h3⟩,h4,h5⟩:=h
 have hcb:c≠b:=fun e=>by
  have h6:=h1.box
  have h7:=hb
  unfold CbB at h6 h7
  rw[e,h7] at h6
  injection h6 with h6
  injection h6 with _ h6
  exact hT h6
 refine⟨⟨l,⟨h1.box.far hcb v,by simpa using h1.low,fun m hm=>⟨(h1.map m hm).1,(h1.map m hm).2.grown (grown_cell _ b k v) fun e=>?_⟩,h1.nil,h1.le⟩,h2,h3⟩,h4,h5⟩
 injection e with e
 obtain⟨es,ck,q,_⟩:=(h1.map m hm).2
 have h7:=hb
 unfold CbB at h7
 rw[e,q] at h7
 cases h7
theorem field1 (x y:Nat) (W:World):(Instr.field 96 (.agg #[.int .u8 (x:Int),.int .u64 (y:Int)]) 1).run Tryz.prog W = .ok (.int .u64 (y:Int)) W:=by kernel_rfl
set_option maxRecDepth 100000 in
theorem above_any (c k:Nat) (w:World):Calls Tryz.prog 124 #[.pointer (some ⟨c,0,none⟩),.int .u64 (k:Int)] w fun e w'=>e = .returned (.func (.func 146) #[] #[.pointer (some ⟨w.heap.size,0,none⟩),.pointer (some ⟨w.heap.size+1,0,none⟩)])∧(w.alloc (.cells #[.pointer (some ⟨c,0,none⟩)] 68)).alloc (.cells #[.int .u64 (k:Int)] 33)=w':=by
 go_enter Tryz.func124,Tryz.ntmps124
 go_wp2_with fail
 go_ret
 exact⟨rfl,rfl⟩
set_option maxRecDepth 100000 in
theorem above1_stops (n:Nat) (hn:1≤n) (B c b1 b2 k n₀:Nat) (mo:Option Nat) (A:HL) (w:World) (hA:CpA w B c mo A) (hm:A.length<1000000) (hk:u64Ok k) (h1:CbB w b1 68 #[.pointer (some ⟨c,0,none⟩)]) (h2:CbB w b2 33 #[.int .u64 (k:Int)]) (hc0:c<n₀) (hb1:b1<n₀) (hb2:b2<n₀) (hn₀:n₀≤w.heap.size):
 SeqX Fence.wide n Tryz.prog 146 #[.pointer (some ⟨b1,0,none⟩),.pointer (some ⟨b2,0,none⟩)] (fun x:Nat=>#[.int .u64 (x:Int)]) (some b2) n₀ (fun xs=>xs=chainF A.length A k) (fun xs=>xs <+: chainF A.length A k) (chainF A.length A k).length w:=by
 intro l J Jx W hW hJ hY h0
 have hWd:Below w.heap.size w W.drew:=⟨hW.os,hW.tape,hW.output,hW.size,hW.block⟩
 have h0d:J [] W.drew:=hJ [] W W.drew none h0 ⟨rfl,rfl,rfl,Nat.le_refl _,fun i _ _=>rfl⟩ fun r e=>by cases e
 have A0:=Lib.hid (hA.ab hWd)
 have C1:=Lib.hid (h1.ab hWd)
 have C2:=Lib.hid (h2.ab hWd)
 have hx1:W.cell? ⟨b1,0,none⟩=some (.pointer (some ⟨c,0,none⟩)):=C1.out.cell (k:=0) rfl
 have hx2:W.cell? ⟨b2,0,none⟩=some (.int .u64 (k:Int)):=C2.out.cell (k:=0) rfl
 have hf2:W.frozen? ⟨b2,0,none⟩=false:=C2.out.free 0
 have hxc:W.cell? ⟨c,0,none⟩=some (.map mo):=A0.out.cell0
 obtain⟨r,hlk⟩:=A0.out.up hk
 have NE:Hid (b1≠b2):=Lib.hid (fun e=>by
  have q:=h2
  have q1:=h1
  unfold CbB at q q1
  rw[←e,q1] at q
  injection q with q
  injection q with _ q
  exact absurd q (by decide))
 have HJ:=Lib.hid hJ
 have HY:=Lib.hid hY
 have HUP:=Lib.hid fun x=>upH_le hA.right x
 have HR:=Lib.hid hA.right
 have CH:=Lib.hid (chain_rest hA.right k)
 have HM:=Lib.hid hm
 have D1:=Lib.hid (C1.out.far (k:=0) NE.out (.int .u64 (upH A k:Int)))
 have D2:=Lib.hid (C2.out.set 0 (.int .u64 (upH A k:Int)))
 have DA:=Lib.hid (A0.out.set C2.out (by decide) 0 (.int .u64 (upH A k:Int)))
 have DJ:=Lib.hid (hJ [] W.drew _ (some b2) h0d (grown_cell W.drew b2 0 (.int .u64 (upH A k:Int))) fun r e=>.inl e)
 have HN:Hid (c<n₀∧b1<n₀∧b2<n₀):=Lib.hid ⟨hc0,hb1,hb2⟩
 have HK:=Lib.hid (HUP.out k)
 have hfd:=fun (x y:Nat) (W:World)=>field1 x y W
 clear hA h1 h2 hW hWd h0 h0d hJ hY hm hk hc0 hb1 hb2 hn₀
 generalize upH A k=cur0 at *
 refine callsIn_of_wp Tryz.func146 rfl trivial ?_ rfl
 simp only[Tryz.ntmps146,List.size_toArray,List.length_cons,List.length_nil,Nat.reduceAdd,Nat.reduceSub,Array.replicate_succ,Array.replicate_zero,List.push_toArray,List.append_toArray,List.nil_append,List.cons_append]
 gi_wp2
 gi_region
 clear hx1 hx2 hf2 hxc hlk
 obtain⟨W1,hW1⟩:∃W1,(W.setCell ⟨b2,0,none⟩ (.int .u64 (cur0:Int))).drew=W1:=⟨_,rfl⟩
 have E1:Hid (CbB W1 b1 68 #[.pointer (some ⟨c,0,none⟩)]):=Lib.hid (by rw[←hW1];exact D1.out)
 have E2:Hid (CbB W1 b2 33 #[.int .u64 (cur0:Int)]):=Lib.hid (by rw[←hW1];exact D2.out)
 have EA:Hid (CpA W1 B c mo A):=Lib.hid (by rw[←hW1];exact DA.out)
 have EJ:Hid (J [] W1):=Lib.hid (by rw[←hW1];exact DJ.out)
 rw[hW1]
 clear hW1 D1 D2 DA DJ A0 C1 C2
 gi_wp2
 gi_loopg [] ((restH A cur0).length) (fun z wr=>∃(pre:List Nat) (cur:Nat),(restH A cur).length≤z∧pre++restH A cur=chainF A.length A k∧cur≤A.length∧CpA wr B c mo A∧CbB wr b1 68 #[.pointer (some ⟨c,0,none⟩)]∧CbB wr b2 33 #[.int .u64 (cur:Int)]∧J pre wr)
 case atStart=>exact⟨[],cur0,Nat.le_refl _,CH.out.symm,HK.out,EA.out,E1.out,E2.out,EJ.out⟩
 case round=>
  obtain⟨pre,cur,hz,hch,hcl,hca,hc1,hc2,hj⟩:=hrel
  have HZ:=Lib.hid hz
  have HC:=Lib.hid hch
  have HL:=Lib.hid hcl
  have F1:=Lib.hid hc1
  have F2:=Lib.hid hc2
  have FA:=Lib.hid hca
  have hx2:wr.cell? ⟨b2,0,none⟩=some (.int .u64 (cur:Int)):=hc2.cell (k:=0) rfl
  by_cases h0:cur=0
  · have d1:(cur:Int)=0:=by omega
    have d2:((cur:Int) != 0)=false:=by simp[h0]
    have HJJ:=Lib.hid hj
    have HP:Hid (pre=chainF A.length A k):=Lib.hid (by rw[←hch,h0];simp[restH])
    clear hz hch hcl hca hc1 hc2 hj h0
    gi_wp2
    refine⟨fun _ h=>(by cases h),?_⟩
    gi_wp2
    go_end0
    exact⟨⟨_,rfl⟩,.inl ⟨pre,HP.out,HJJ.out⟩⟩
  · have d2:((cur:Int) != 0)=true:=by simp[h0]
    have hrest:restH A cur=cur::restH A (upH A cur):=by
     have h1:restH A cur=cur::chainF A.length A cur:=by unfold restH;rw[if_neg h0]
     rw[h1,chain_rest HR.out]
    have hlen:pre.length<(chainF A.length A k).length:=by
     rw[←hch,hrest]
     simp
    obtain⟨fn,tmps,assign,body,hy,hR⟩:=HY.out pre cur wr hj hlen
    have HRR:=Lib.hid hR
    have HREST:=Lib.hid hrest
    clear hz hch hcl hca hc1 hc2 hj h0 hrest hlen hR
    gi_wp2
    refine HRR.out.mono ?_
    rintro e W3 (⟨rfl,hJ3,hk3⟩ | ⟨rfl,hJx3⟩)
    · have h0d:J (pre++[cur]) W3.drew:=HJ.out _ W3 W3.drew none hJ3 ⟨rfl,rfl,rfl,Nat.le_refl _,fun i _ _=>rfl⟩ fun r e=>by cases e
      have GA:Hid (CpA W3.drew B c mo A):=Lib.hid (show CpA W3.drew B c mo A from (FA.out.keep HN.out.1 hk3).ab ⟨rfl,rfl,rfl,Nat.le_refl _,fun i hi=>rfl⟩)
      have G1:Hid (CbB W3.drew b1 68 #[.pointer (some ⟨c,0,none⟩)]):=Lib.hid (F1.out.low (C:=n₀) hk3.2 HN.out.2.1:CbB W3 b1 _ _)
      have G2:Hid (CbB W3.drew b2 33 #[.int .u64 (cur:Int)]):=Lib.hid (F2.out.low (C:=n₀) hk3.2 HN.out.2.2:CbB W3 b2 _ _)
      have hx1:W3.cell? ⟨b1,0,none⟩=some (.pointer (some ⟨c,0,none⟩)):=G1.out.cell (k:=0) rfl
      have hx3:W3.cell? ⟨b2,0,none⟩=some (.int .u64 (cur:Int)):=G2.out.cell (k:=0) rfl
      have hf2:W3.frozen? ⟨b2,0,none⟩=false:=G2.out.free 0
      have hxc:W3.cell? ⟨c,0,none⟩=some (.map mo):=GA.out.cell0
      obtain⟨r3,hlk⟩:=GA.out.up (k:=cur) (by have:=HL.out;have:=HM.out;unfold u64Ok;omega)
      have D1:=Lib.hid (G1.out.far (k:=0) NE.out (.int .u64 (upH A cur:Int)))
      have D2:=Lib.hid (G2.out.set 0 (.int .u64 (upH A cur:Int)))
      have DA:=Lib.hid (GA.out.set G2.out (by decide) 0 (.int .u64 (upH A cur:Int)))
      have DJ:=Lib.hid (HJ.out _ W3.drew _ (some b2) h0d (grown_cell W3.drew b2 0 (.int .u64 (upH A cur:Int))) fun r e=>.inl e)
      have HKU:=Lib.hid (HUP.out cur)
      clear hJ3 hk3 h0d hx2 FA F1 F2
      generalize upH A cur=cur2 at *
      gi_wp2
      gi_region
      gi_wp2
      gi_roundg ((restH A cur2).length)
      case measure=>have:=HZ.out;rw[HREST.out] at this;simp at this;omega
      case rel=>exact⟨pre++[cur],cur2,Nat.le_refl _,by rw[←HC.out,HREST.out];simp,HKU.out,DA.out,D1.out,D2.out,DJ.out⟩
    · gi_wp2
      go_end0
      exact⟨⟨_,rfl⟩,.inr ⟨_,⟨restH A (upH A cur),by rw[←HC.out,HREST.out];simp⟩,hJx3⟩⟩
attribute [local go_sem] Oper.semAt_some
set_option maxRecDepth 100000 in
theorem below_none {B c h v:Nat} {mo:Option Nat} {A:HL} {w:World} (hc:CpA w B c mo A) (hk:u64Ok h) (ha:atH A h=none):Calls Tryz.prog 108 #[.pointer (some ⟨c,0,none⟩),.int .u64 (h:Int),.int .u64 (v:Int)] w fun e w'=>e = .returned (.bool false)∧Below w.heap.size w w':=by
 have b0:Below w.heap.size w ((w.alloc (.cells #[.int .u64 (h:Int)] 33)).alloc (.cells #[.bool false] 4)):=((Below.refl _ _).alloc (Nat.le_refl _) _).alloc (by simp) _
 have B0:=Lib.hid b0
 have C0:Hid (CbB ((w.alloc (.cells #[.int .u64 (h:Int)] 33)).alloc (.cells #[.bool false] 4)) (w.heap.size+1) 4 #[.bool false]):=Lib.hid (by
  have:=CbB.new (w.alloc (.cells #[.int .u64 (h:Int)] 33)) 4 #[.bool false]
  simpa using this)
 have HF:=Lib.hid (findA_any h (hc.ab b0) hk)
 unfold finH hdV at HF
 rw[ha] at HF
 clear b0 hc hk ha
 go_enter Tryz.func108,Tryz.ntmps108
 go_wp2_with fail
 refine HF.out.mono ?_
 rintro e w1 ⟨rfl,hb⟩
 have B1:=Lib.hid (below_tr B0.out hb B0.out.size)
 have C1:=Lib.hid (C0.out.ab (hb.mono (by simp)))
 have C2:=Lib.hid (C1.out.ab ((Below.refl _ _).alloc (Nat.le_refl _) (.cells #[.int .u8 0,.int .u64 0] 96)))
 have B2:=Lib.hid (B1.out.alloc B1.out.size (.cells #[.int .u8 0,.int .u64 0] 96))
 have hf:=C2.out.free 0
 have hcc:=C2.out.cell (k:=0) rfl
 have C3:=Lib.hid (C2.out.set 0 (.bool false))
 clear hb HF B0 C0 C1
 go_wp2_with fail
 (try simp only[Exit.inBlock,Exit.then])
 have hc3:=C3.out.cell (k:=0) rfl
 refine bodyPost_ret (v:=.bool false) ?_ rfl ?_
 · simp[results,asAddr,loadVar,Result.andThen,hc3]
   try go_simp
 exact⟨rfl,B2.out.setCell (by simp) _⟩
set_option maxRecDepth 100000 in
theorem below_some {B c h v:Nat} {mo:Option Nat} {A:HL} {w:World} {x:Hdl} (hc:CpA w B c mo A) (hk:u64Ok h) (hv:u64Ok v) (hm:A.length<1000000) (ha:atH A h=some x):Calls Tryz.prog 108 #[.pointer (some ⟨c,0,none⟩),.int .u64 (h:Int),.int .u64 (v:Int)] w fun e w'=>e = .returned (.bool (decide (h∈chainF A.length A v)))∧Below w.heap.size w w':=by
 have b0:Below w.heap.size w ((w.alloc (.cells #[.int .u64 (h:Int)] 33)).alloc (.cells #[.bool false] 4)):=((Below.refl _ _).alloc (Nat.le_refl _) _).alloc (by simp) _
 have B0:=Lib.hid b0
 have C0:Hid (CbB ((w.alloc (.cells #[.int .u64 (h:Int)] 33)).alloc (.cells #[.bool false] 4)) (w.heap.size+1) 4 #[.bool false]):=Lib.hid (by
  have:=CbB.new (w.alloc (.cells #[.int .u64 (h:Int)] 33)) 4 #[.bool false]
  simpa using this)
 have CH:Hid (CbB ((w.alloc (.cells #[.int .u64 (h:Int)] 33)).alloc (.cells #[.bool false] 4)) w.heap.size 33 #[.int .u64 (h:Int)]):=Lib.hid ((CbB.new w _ _).ab ((Below.refl _ _).alloc (Nat.le_refl _) _))
 have HF:=Lib.hid (findA_any h (hc.ab b0) hk)
 unfold finH hdV at HF
 rw[ha] at HF
 have HA:=Lib.hid (hc.ab b0)
 have hcell:((w.alloc (.cells #[.int .u64 (h:Int)] 33)).alloc (.cells #[.bool false] 4)).cell? ⟨w.heap.size,0,none⟩=some (.int .u64 (h:Int)):=CH.out.cell (k:=0) rfl
 have HV:=Lib.hid hv
 have HM:=Lib.hid hm
 clear b0 hc hk ha hv hm
 refine (callsIn_wide (n:=6)).1 ?_
 refine callsIn_of_wp_marks Tryz.func108 rfl trivial ?_ rfl
 simp only[Tryz.ntmps108,List.size_toArray,List.length_cons,List.length_nil,Nat.reduceAdd,Nat.reduceSub,Array.replicate_succ,Array.replicate_zero,List.push_toArray,List.append_toArray,List.nil_append,List.cons_append]
 gi_wp2_with fail
 refine⟨trivial,?_⟩
 refine (callsIn_wide.2 HF.out).mono ?_
 rintro e w1 ⟨rfl,hb⟩
 have B1:=Lib.hid (below_tr B0.out hb B0.out.size)
 have C1:=Lib.hid (C0.out.ab hb)
 have D1:=Lib.hid (CH.out.ab hb)
 have A1:=Lib.hid (HA.out.ab hb)
 clear hb HF B0 C0 CH HA hcell
 gi_wp2_with fail
 refine⟨trivial,?_⟩
 refine (callsIn_wide.2 (above_any c v _)).mono ?_
 rintro e w2 ⟨rfl,hw2⟩
 gi_wp2_with fail
 have a2:Below w1.heap.size w1 w2:=by
  rw[←hw2]
  exact (((Below.refl _ _).alloc (Nat.le_refl _) _).alloc (by simp) _).alloc (by simp;omega) _
 have s2:w2.heap.size=w1.heap.size+3:=by rw[←hw2];simp
 have s1:w.heap.size+2≤w1.heap.size:=by have:=C1.out.lt;omega
 have P1:CbB w2 (w1.heap.size+1) 68 #[.pointer (some ⟨c,0,none⟩)]:=by
  rw[←hw2]
  have:=(CbB.new (w1.alloc (.cells #[.int .u8 (x.r:Int),.int .u64 (x.up:Int)] 96)) 68 #[.pointer (some ⟨c,0,none⟩)]).ab ((Below.refl _ _).alloc (Nat.le_refl _) (.cells #[.int .u64 (v:Int)] 33))
  simpa using this
 have P2:CbB w2 (w1.heap.size+2) 33 #[.int .u64 (v:Int)]:=by
  rw[←hw2]
  have:=CbB.new ((w1.alloc (.cells #[.int .u8 (x.r:Int),.int .u64 (x.up:Int)] 96)).alloc (.cells #[.pointer (some ⟨c,0,none⟩)] 68)) 33 #[.int .u64 (v:Int)]
  simpa using this
 have A2:=A1.out.ab a2
 have C2:=C1.out.ab a2
 have D2:=D1.out.ab a2
 have B2:=below_tr B1.out a2 B1.out.size
 have HCL:c<w2.heap.size:=by
  obtain⟨⟨l,h1,_⟩,_⟩:=A2
  exact h1.box.lt
 clear hw2
 have hns:w.heap.size≤w2.heap.size:=B2.size
 refine range_any rfl (by decide) (gf:=146) (lb:=#[.pointer (some ⟨w1.heap.size+1,0,none⟩),.pointer (some ⟨w1.heap.size+1+1,0,none⟩)]) rfl trivial (enters_of Tryz.func146 (by kernel_rfl) rfl) (hb:=some (w1.heap.size+2)) (n₀:=w2.heap.size) (Nat.le_refl _) (fun r e=>by cases e;omega)
  (above1_stops 5 (by decide) B c (w1.heap.size+1) (w1.heap.size+2) v w2.heap.size mo A w2 A2 HM.out HV.out P1 P2 HCL P1.lt P2.lt (Nat.le_refl _)) (fun _=>rfl)
  (fun pre W=>h∉pre∧CbB W w.heap.size 33 #[.int .u64 (h:Int)]∧CbB W (w.heap.size+1) 4 #[.bool false]∧Below w.heap.size w W)
  (fun k pre W=>k = .ret∧h∈pre∧CbB W (w.heap.size+1) 4 #[.bool true]∧Below w.heap.size w W) ?hI ?hIx ⟨by simp,D2,C2,B2⟩
  (fun y=>{ tmps:=#[.pointer (some ⟨c,0,none⟩),.int .u64 (h:Int),.int .u64 (v:Int),undef,.pointer (some ⟨w.heap.size,0,none⟩),undef,.pointer (some ⟨w.heap.size+1,0,none⟩),.pointer (some ⟨w1.heap.size,0,none⟩),.int .i64 0,.int .u64 (y:Int),.tuple #[.agg #[.int .u8 (x.r:Int),.int .u64 (x.up:Int)],.int .i64 0],.pointer (some ⟨c,0,none⟩),.int .u64 (h:Int),.tuple #[.agg #[.int .u8 (x.r:Int),.int .u64 (x.up:Int)],.int .i64 0],.agg #[.int .u8 (x.r:Int),.int .u64 (x.up:Int)],.int .i64 0,.int .i64 0,.bool false,.pointer (some ⟨c,0,none⟩),.int .u64 (v:Int),.func (.func 146) #[] #[.pointer (some ⟨w1.heap.size+1,0,none⟩),.pointer (some ⟨w1.heap.size+1+1,0,none⟩)],.int .u64 (y:Int),undef,undef,undef],defers:=[] }) ?assign ?body ?done ?stop
 case hI=>
  rintro s X Y row ⟨i1,i2,i3,i4⟩ hg hr
  have far:∀{b:Nat} {T:TypeId} {cs:Array Value},b<w1.heap.size→CbB X b T cs→CbB Y b T cs:=fun {b T cs} hb hcb=>(hg.block b hcb.lt fun e=>by
   rcases hr b e.symm with h1 | ⟨h1,_⟩
   · injection h1 with h1;omega
   · omega).trans hcb
  exact⟨i1,far (by omega) i2,far (by omega) i3,i4.grown hg i4.size fun k e=>by
   rcases hr k e with h1 | ⟨h1,_⟩
   · injection h1 with h1;omega
   · omega⟩
 case hIx=>
  rintro k s X Y row ⟨i0,i1,i3,i4⟩ hg hr
  exact⟨i0,i1,(hg.block _ i3.lt fun e=>by have:=(hr _ e.symm).1;omega).trans i3,i4.grown hg i4.size fun k e=>by have:=(hr k e).1;omega⟩
 case assign=>
  intro l y W K hK
  gi_wp2_with fail
  exact hK
 case body=>
  rintro l pre y W ⟨i1,i2,i3,i4⟩ hlt
  have hx:=i2.cell (k:=0) rfl
  have hf:=i3.free 0
  have hx3:W.cell? ⟨w.heap.size+1,0,none⟩=some (.bool false):=i3.cell (k:=0) rfl
  have I1:=Lib.hid i1
  have I3:=Lib.hid i3
  have I2:=Lib.hid i2
  have I4:=Lib.hid i4
  have NS:=Lib.hid hns
  by_cases hyh:y=h
  · have d1:((y:Int)==(h:Int))=true:=by simp[hyh]
    have HY:=Lib.hid hyh
    clear i1 i2 i3 i4 hyh hlt hns a2 s2 s1 P1 P2 A2 C2 D2 B2 HCL
    gi_wp2_with fail
    exact⟨(KeepsOthers.setCell _ _ _).from _,rfl,by rw[HY.out];simp,I3.out.set 0 (.bool true),I4.out.setCell (p:=⟨w.heap.size+1,0,none⟩) (by simp) _⟩
  · have d1:((y:Int)==(h:Int))=false:=by simp;omega
    have HY:=Lib.hid hyh
    clear i1 i2 i3 i4 hyh hlt hns a2 s2 s1 P1 P2 A2 C2 D2 B2 HCL
    gi_wp2_with fail
    exact⟨(KeepsOthers.refl _).from _,⟨KeepsWalks.refl _,Below.refl _ _⟩,by simp;exact⟨I1.out,fun e=>HY.out e.symm⟩,I2.out,I3.out,I4.out⟩
 case done=>
  rintro D xs W hD hS ⟨i1,i2,i3,i4⟩ hK
  have hf:=i3.free 0
  have hx3:W.cell? ⟨w.heap.size+1,0,none⟩=some (.bool false):=i3.cell (k:=0) rfl
  have I4:=Lib.hid i4
  have HD:Hid (w.heap.size≤D):=Lib.hid (by omega)
  have NM:Hid (decide (h∈chainF A.length A v)=false):=Lib.hid (by rw[←hS];simpa using i1)
  have NS:Hid (D≠w.heap.size+1):=Lib.hid (by omega)
  have K2:Hid ((W.setCell ⟨w.heap.size+1,0,none⟩ (.bool false)).heap[D]? = some (.deferred (some []))):=Lib.hid ((Below.heap_setCell W ⟨w.heap.size+1,0,none⟩ _ D NS.out).trans hK)
  have C3:Hid (CbB ((W.setCell ⟨w.heap.size+1,0,none⟩ (.bool false)).putObj D (.deferred none)) (w.heap.size+1) 4 #[.bool false]):=Lib.hid ((World.putObj_heap_other (fun e=>NS.out e.symm)).trans (i3.set 0 (.bool false)))
  clear i1 i2 i3 i4 hS hK hD hns a2 s2 s1 P1 P2 A2 C2 D2 B2 HCL
  gi_wp2_with fail
  refine⟨by simp,.inl ⟨_,_,rfl,run_takeDeferred K2.out,?_⟩⟩
  have hc3:=C3.out.cell (k:=0) rfl
  refine⟨.bool false,?_,by rw[NM.out],?_⟩
  · simp[results,asAddr,loadVar,Result.andThen,hc3]
    try go_simp
  · exact (I4.out.setCell (p:=⟨w.heap.size+1,0,none⟩) (by simp) _).grown (grownBy_putObj' _ D (.deferred none)) (by have:=I4.out.size;simp;omega) fun k e=>by cases e;exact HD.out
 case stop=>
  rintro D k pre W hD hS ⟨rfl,i1,i3,i4⟩ hK
  have I4:=Lib.hid i4
  have HD:Hid (w.heap.size≤D):=Lib.hid (by omega)
  have NM:Hid (decide (h∈chainF A.length A v)=true):=Lib.hid (decide_eq_true (hS.subset i1))
  have NS:Hid (D≠w.heap.size+1):=Lib.hid (by omega)
  have K2:Hid (W.heap[D]? = some (.deferred (some []))):=Lib.hid hK
  have C3:Hid (CbB (W.putObj D (.deferred none)) (w.heap.size+1) 4 #[.bool true]):=Lib.hid ((World.putObj_heap_other (fun e=>NS.out e.symm)).trans i3)
  clear i1 i3 i4 hS hK hD hns a2 s2 s1 P1 P2 A2 C2 D2 B2 HCL
  gi_wp2_with fail
  refine⟨by simp,.inl ⟨_,_,rfl,run_takeDeferred K2.out,?_⟩⟩
  have hc3:=C3.out.cell (k:=0) rfl
  refine⟨.bool true,?_,by rw[NM.out],?_⟩
  · simp[results,asAddr,loadVar,Result.andThen,hc3]
    try go_simp
  · exact I4.out.grown (grownBy_putObj' _ D (.deferred none)) I4.out.size fun k e=>by cases e;exact HD.out
theorem belowA_any {B c h v:Nat} {mo:Option Nat} {A:HL} {w:World} (hc:CpA w B c mo A) (hk:u64Ok h) (hv:u64Ok v) (hm:A.length<1000000):Calls Tryz.prog 108 #[.pointer (some ⟨c,0,none⟩),.int .u64 (h:Int),.int .u64 (v:Int)] w fun e w'=>e = .returned (.bool (belowH A h v))∧Below w.heap.size w w':=by
 unfold belowH
 cases ha:atH A h with
 | none=>exact below_none hc hk ha
 | some x=>
   have h1:=below_some hc hk hv hm ha
   have h2:decide (h∈chainF A.length A v)=belowF A.length A h v:=by
    rw[Bool.eq_iff_iff,decide_eq_true_eq,belowF_chain]
   rw[h2] at h1
   simpa using h1
def klH (A:HL) (v k:Nat):Bool:=decide (k=v)||belowH A v k
def leftL (A:HL) (v:Nat) (d:List Nat) (l:CpL):CpL:=l.filter fun p=>!(klH A v p.1&&decide (p.1∈d))
theorem cpV_filter (l:CpL) (q:Nat→Bool):cpV (l.filter fun p=>q p.1)=(cpV l).filter fun p=>q p.1:=by
 unfold cpV
 rw[List.filter_map]
 rfl
theorem dropL_cp (x:Nat) (l:CpL):dropL x (cpV l)=cpV (l.filter fun p=>!decide (p.1=x)):=(cpV_filter l fun k=>!decide (k=x)).symm
theorem leftL_nil (A:HL) (v:Nat) (l:CpL):leftL A v [] l=l:=by
 unfold leftL
 rw[List.filter_eq_self]
 intro p _
 simp
theorem leftL_keep {A:HL} {v x:Nat} {d:List Nat} {l:CpL} (h:klH A v x=false):leftL A v (d++[x]) l=leftL A v d l:=by
 unfold leftL
 refine List.filter_congr fun p _=>?_
 by_cases e:p.1=x
 · rw[e,h];simp
 · have:(p.1∈d++[x])↔p.1∈d:=by simp[e]
   simp[this]
theorem leftL_drop {A:HL} {v x:Nat} {d:List Nat} {l:CpL} (h:klH A v x=true):(leftL A v d l).filter (fun p=>!decide (p.1=x))=leftL A v (d++[x]) l:=by
 unfold leftL
 rw[List.filter_filter]
 refine List.filter_congr fun p _=>?_
 by_cases e:p.1=x
 · simp[e,h]
 · have:(p.1∈d++[x])↔p.1∈d:=by simp[e]
   simp[this,e]
theorem leftL_all {A:HL} {v:Nat} {d:List Nat} {l:CpL} (h:∀p∈l,p.1∈d):leftL A v d l=l.filter fun p=>!klH A v p.1:=by
 unfold leftL
 refine List.filter_congr fun p hp=>?_
 simp[h p hp]
theorem getC_filter (q:Nat→Bool) (k:Nat):∀l:CpL,getC k (l.filter fun p=>q p.1)=if q k then getC k l else none
 | []=>by simp[getC]
 | p :: r=>by
   have ih:=getC_filter q k r
   unfold getC at ih⊢
   by_cases e:p.1=k
   · cases hq:q k with
     | true=>
       rw[List.filter_cons_of_pos (by rw[e];exact hq),List.find?_cons_of_pos (by simpa using e),List.find?_cons_of_pos (by simpa using e)]
       simp
     | false=>
       rw[List.filter_cons_of_neg (by rw[e,hq];simp),ih,hq]
       simp
   · rw[List.find?_cons_of_neg (l:=r) (by simpa using e)]
     by_cases hp:q p.1=true
     · rw[List.filter_cons_of_pos (p:=fun p:Nat×(Nat×Nat)=>q p.1) hp,List.find?_cons_of_neg (by simpa using e)]
       exact ih
     · rw[List.filter_cons_of_neg (p:=fun p:Nat×(Nat×Nat)=>q p.1) hp]
       exact ih
theorem kill_sim {A:HL} {l:CpL} (v:Nat) (h:∀k,getC k l=(atH A k).map fun x=>(x.r,x.up)) (k:Nat):getC k (l.filter fun p=>!klH A v p.1)=(atH (killH A v) k).map fun x=>(x.r,x.up):=by
 rw[getC_filter (fun k=>!klH A v k),atH_kill,h]
 unfold klH
 by_cases e:k=v
 · simp[e]
 · cases hb:belowH A v k <;> simp[e]
theorem filter_nodup {l:CpL} (h:(l.map (·.1)).Nodup) (q:Nat×(Nat×Nat)→Bool):((l.filter q).map (·.1)).Nodup:=List.Sublist.nodup (List.Sublist.map _ List.filter_sublist) h
set_option maxRecDepth 100000 in
theorem revoke_none {B c h v:Nat} {mo:Option Nat} {A:HL} {w:World} (hc:CpA w B c mo A) (hk:u64Ok h) (ha:atH A h=none):Calls Tryz.prog 76 #[.pointer (some ⟨c,0,none⟩),.int .u64 (h:Int),.int .u64 (v:Int)] w fun e w'=>e = .returned (.int .i64 7)∧Below w.heap.size w w':=by
 have HF:=Lib.hid (findA_any h hc hk)
 unfold finH hdV at HF
 rw[ha] at HF
 clear hc hk ha
 go_enter Tryz.func76,Tryz.ntmps76
 go_wp2_with fail
 refine HF.out.mono ?_
 rintro e w1 ⟨rfl,hb⟩
 have B1:=Lib.hid hb
 clear hb HF
 go_wp2_with fail
 go_ret
 exact⟨rfl,B1.out.alloc B1.out.size _⟩
set_option maxRecDepth 100000 in
theorem revoke_none2 {B c h v:Nat} {mo:Option Nat} {A:HL} {w:World} {x:Hdl} (hc:CpA w B c mo A) (hk:u64Ok h) (hv:u64Ok v) (ha:atH A h=some x) (hb:atH A v=none):Calls Tryz.prog 76 #[.pointer (some ⟨c,0,none⟩),.int .u64 (h:Int),.int .u64 (v:Int)] w fun e w'=>e = .returned (.int .i64 7)∧Below w.heap.size w w':=by
 have HF:=Lib.hid (findA_any h hc hk)
 have HG:=Lib.hid fun W (hW:Below w.heap.size w W)=>findA_any v (hc.ab hW) hv
 unfold finH hdV at HF HG
 rw[ha] at HF
 rw[hb] at HG
 clear hc hk hv ha hb
 go_enter Tryz.func76,Tryz.ntmps76
 go_wp2_with fail
 refine HF.out.mono ?_
 rintro e w1 ⟨rfl,hb⟩
 have B1:=Lib.hid hb
 have B2:=Lib.hid (hb.alloc hb.size (.cells #[.int .u8 (x.r:Int),.int .u64 (x.up:Int)] 96))
 clear hb HF
 go_wp2_with fail
 refine (HG.out _ B2.out).mono ?_
 rintro e w3 ⟨rfl,hb⟩
 have B3:=Lib.hid (below_tr B2.out hb B2.out.size)
 clear hb HG
 go_wp2_with fail
 go_ret
 exact⟨rfl,B3.out.alloc B3.out.size _⟩
set_option maxRecDepth 100000 in
theorem revoke_no {B c h v:Nat} {mo:Option Nat} {A:HL} {w:World} {x y:Hdl} (hc:CpA w B c mo A) (hk:u64Ok h) (hv:u64Ok v) (hm:A.length<1000000) (ha:atH A h=some x) (hb:atH A v=some y) (hn:mayRv A x h v=false):Calls Tryz.prog 76 #[.pointer (some ⟨c,0,none⟩),.int .u64 (h:Int),.int .u64 (v:Int)] w fun e w'=>e = .returned (.int .i64 250)∧Below w.heap.size w w':=by
 have HF:=Lib.hid (findA_any h hc hk)
 have HG:=Lib.hid fun W (hW:Below w.heap.size w W)=>findA_any v (hc.ab hW) hv
 have HB:=Lib.hid fun W (hW:Below w.heap.size w W)=>belowA_any (hc.ab hW) hk hv hm
 unfold finH hdV at HF HG
 rw[ha] at HF
 rw[hb] at HG
 unfold mayRv at hn
 rw[Bool.or_eq_false_iff,decide_eq_false_iff_not] at hn
 have d0:((h:Int) != (v:Int))=true:=by have:=hn.1;simp;omega
 have d1:(bits .and .u8 (x.r:Int) 8==0)=noGive x.r:=rfl
 have hn2:=hn.2
 generalize noGive x.r=b1 at *
 generalize belowH A h v=b2 at *
 clear hc hk hv ha hb hm hn
 cases b1
 · obtain rfl:b2=false:=by simpa using hn2
   clear hn2
   go_enter Tryz.func76,Tryz.ntmps76
   go_wp2_with fail
   refine HF.out.mono ?_
   rintro e w1 ⟨rfl,hb⟩
   have B2:=Lib.hid (hb.alloc hb.size (.cells #[.int .u8 (x.r:Int),.int .u64 (x.up:Int)] 96))
   have X2:=Lib.hid (CbB.new w1 96 #[.int .u8 (x.r:Int),.int .u64 (x.up:Int)])
   clear hb HF
   go_wp2_with fail
   refine (HG.out _ B2.out).mono ?_
   rintro e w3 ⟨rfl,hb⟩
   have B3:=Lib.hid (below_tr B2.out hb B2.out.size)
   have X3:=Lib.hid (X2.out.ab hb)
   have B4:=Lib.hid (B3.out.alloc B3.out.size (.cells #[.int .u8 (y.r:Int),.int .u64 (y.up:Int)] 96))
   have X4:=Lib.hid (X3.out.ab ((Below.refl _ _).alloc (Nat.le_refl _) (.cells #[.int .u8 (y.r:Int),.int .u64 (y.up:Int)] 96)))
   have hx0:=X4.out.cell (k:=0) rfl
   clear hb HG
   go_wp2_with fail
   refine (HB.out _ B4.out).mono ?_
   rintro e w5 ⟨rfl,hb⟩
   have B5:=Lib.hid (below_tr B4.out hb B4.out.size)
   clear hb HB
   go_wp2_with fail
   go_ret
   exact⟨rfl,B5.out⟩
 · clear hn2 HB
   go_enter Tryz.func76,Tryz.ntmps76
   go_wp2_with fail
   refine HF.out.mono ?_
   rintro e w1 ⟨rfl,hb⟩
   have B2:=Lib.hid (hb.alloc hb.size (.cells #[.int .u8 (x.r:Int),.int .u64 (x.up:Int)] 96))
   have X2:=Lib.hid (CbB.new w1 96 #[.int .u8 (x.r:Int),.int .u64 (x.up:Int)])
   clear hb HF
   go_wp2_with fail
   refine (HG.out _ B2.out).mono ?_
   rintro e w3 ⟨rfl,hb⟩
   have B3:=Lib.hid (below_tr B2.out hb B2.out.size)
   have X3:=Lib.hid (X2.out.ab hb)
   have B4:=Lib.hid (B3.out.alloc B3.out.size (.cells #[.int .u8 (y.r:Int),.int .u64 (y.up:Int)] 96))
   have X4:=Lib.hid (X3.out.ab ((Below.refl _ _).alloc (Nat.le_refl _) (.cells #[.int .u8 (y.r:Int),.int .u64 (y.up:Int)] 96)))
   have hx0:=X4.out.cell (k:=0) rfl
   clear hb HG
   go_wp2_with fail
   go_ret
   exact⟨rfl,B4.out⟩
set_option maxRecDepth 100000 in
theorem revoke_yes {B c h v:Nat} {mo:Option Nat} {A:HL} {w:World} {x y:Hdl} (hc:CpA w B c mo A) (hk:u64Ok h) (hv:u64Ok v) (hm:A.length<1000000) (ha:atH A h=some x) (hb:atH A v=some y) (hn:mayRv A x h v=true):Calls Tryz.prog 76 #[.pointer (some ⟨c,0,none⟩),.int .u64 (h:Int),.int .u64 (v:Int)] w (CapR B c mo w (.int .i64 0) (killH A v)):=by
 have HF:=Lib.hid (findA_any h hc hk)
 have HG:=Lib.hid fun W (hW:Below w.heap.size w W)=>findA_any v (hc.ab hW) hv
 have HB:=Lib.hid fun W (hW:Below w.heap.size w W)=>belowA_any (hc.ab hW) hk hv hm
 have HA:=Lib.hid hc
 have HV:=Lib.hid hv
 have HM:=Lib.hid hm
 have HR:=Lib.hid hc.right
 have HW:=Lib.hid hc.few
 obtain⟨⟨l,h1,h2,h3⟩,_⟩:=hc
 have HS:=Lib.hid h2
 have HN:=Lib.hid h3
 have hmo:mo≠none:=fun e=>by
  have h4:=h1.nil e
  have h5:=h2 h
  rw[h4,ha] at h5
  cases h5
 obtain⟨m,rfl⟩:=Option.ne_none_iff_exists'.1 hmo
 have HL:=Lib.hid h1
 have HCL:=Lib.hid h1.box.lt
 have HML:=Lib.hid (h1.map m rfl).2.lt
 unfold finH hdV at HF HG
 rw[ha] at HF
 rw[hb] at HG
 unfold mayRv at hn
 have d1:(bits .and .u8 (x.r:Int) 8==0)=noGive x.r:=rfl
 by_cases hhv:h=v
 · have d0 : ((h:Int) != (v:Int))=false:=by simp[hhv]
   clear hk hv ha hb hm hn hhv HB h1 h2 h3 hmo d1
   go_enter Tryz.func76,Tryz.ntmps76
   go_wp2_with fail
   refine HF.out.mono ?_
   rintro e w1 ⟨rfl,hb⟩
   have B2:=Lib.hid (hb.alloc hb.size (.cells #[.int .u8 (x.r:Int),.int .u64 (x.up:Int)] 96))
   have X2:=Lib.hid (CbB.new w1 96 #[.int .u8 (x.r:Int),.int .u64 (x.up:Int)])
   clear hb HF
   go_wp2_with fail
   refine (HG.out _ B2.out).mono ?_
   rintro e w3 ⟨rfl,hb⟩
   have B3:=Lib.hid (below_tr B2.out hb B2.out.size)
   have X3:=Lib.hid (X2.out.ab hb)
   have B4:=Lib.hid (B3.out.alloc B3.out.size (.cells #[.int .u8 (y.r:Int),.int .u64 (y.up:Int)] 96))
   have X4:=Lib.hid (X3.out.ab ((Below.refl _ _).alloc (Nat.le_refl _) (.cells #[.int .u8 (y.r:Int),.int .u64 (y.up:Int)] 96)))
   have hx0:=X4.out.cell (k:=0) rfl
   clear hb HG
   have hxc:(w3.alloc (.cells #[.int .u8 (y.r:Int),.int .u64 (y.up:Int)] 96)).cell? ⟨c,0,none⟩=some (.map (some m)):=(HA.out.ab B4.out).cell0
   have B5:=B4
   clear X2 X3 X4 hx0
   go_wp2_with fail
   refine (clone_some m (cpV l) _ ((HL.out.map m rfl).2.ab B5.out)).mono ?_
   rintro e w6 ⟨rfl,hM6,hb⟩
   have B6:=Lib.hid (below_tr B5.out hb B5.out.size)
   have M6:=Lib.hid hM6
   have N6:Hid (w.heap.size≤(w3.alloc (.cells #[.int .u8 (y.r:Int),.int .u64 (y.up:Int)] 96)).heap.size):=Lib.hid B5.out.size
   have hx6:w6.cell? ⟨c,0,none⟩=some (.map (some m)):=(HA.out.ab B6.out).cell0
   have O6:=Lib.hid ((HL.out.map m rfl).2.ab B6.out)
   clear hb hM6 hxc
   generalize (w3.alloc (.cells #[.int .u8 (y.r:Int),.int .u64 (y.up:Int)] 96)).heap.size=nn at *
   go_wp2_with (first
    | (refine wpList_mapRange rfl (.tmp 55) rfl Tryz.underlying93 rfl O6.out ?_
       intro w7 r7 b7 s7
       have R7:=Lib.hid r7
       have M7:=Lib.hid (M6.out.ab b7)
       have B7:=Lib.hid (below_tr B6.out b7 B6.out.size)
       have N7:Hid (nn<w6.heap.size∧w6.heap.size<w7.heap.size):=Lib.hid ⟨M6.out.lt,by omega⟩
       clear r7 b7 s7
       simp[Act.put]))
   have S6:=Lib.hid B6.out.size
   clear hx6 O6 M6
   generalize w6.heap.size=rr at *
   go_loopg [] ((cpV l).length) (fun k wr=>∃d,(cpV l).length-d.length≤k∧RngB u64V u64Ok wr m rr (cpV l) d∧MapB u64V u64Ok wr nn (cpV (leftL A v (d.map (·.1)) l))∧Below w.heap.size w wr∧rr<wr.heap.size)
   case atStart=>exact⟨[],by simp,R7.out,by rw[List.map_nil,leftL_nil];exact M7.out,B7.out,N7.out.2⟩
   case round=>
    obtain⟨d,hz,hr,hmp,hbw,hlt⟩:=hrel
    have HZ:=Lib.hid hz
    have HMP:=Lib.hid hmp
    have HBW:=Lib.hid hbw
    have HLT:=Lib.hid hlt
    have NM:Hid (nn≠rr):=Lib.hid (by have:=N7.out.1;omega)
    rcases hr.next u64_K 0 with ⟨hall,hrun⟩ | ⟨p,w8,hp,hd,hrun,hr2,hg2,hs2,hent,hbel⟩
    · have hE:leftL A v (d.map (·.1)) l=l.filter fun p=>!klH A v p.1:=leftL_all fun p hp=>List.mem_map.2 ⟨(p.1,hdV p.2),hall _ (List.mem_map.2 ⟨p,hp,rfl⟩),rfl⟩
      rw[hE] at hmp
      have M9:=Lib.hid hmp
      have A9:=Lib.hid (HA.out.ab hbw)
      have C9:=Lib.hid (HL.out.box.ab hbw)
      have hx9:wr.cell? ⟨c,0,none⟩=some (.map (some m)):=A9.out.cell0
      have hf9:=C9.out.free 0
      have D9:=Lib.hid (C9.out.set 0 (.map (some nn)))
      have E9:=Lib.hid (M9.out.grown (grown_cell wr c 0 (.map (some nn))) (fun e=>by injection e with e;have:=HCL.out;have:=N6.out;omega))
      have G9:=Lib.hid ((Fr.of hbw (capF c (some m))).tr ((Fr.grown (grown_cell wr c 0 (.map (some nn)))).imp fun k hk=>.inl (by injection hk with hk;exact hk.symm)))
      clear hz hr hmp hbw hlt hall hE HMP
      go_wp2_with fail
      go_ret
      refine⟨rfl,some nn,⟨⟨_,?_,kill_sim v HS.out,filter_nodup HN.out _⟩,HR.out.kill v,?_⟩,G9.out,.inr ⟨nn,rfl,N6.out⟩⟩
      · rw[killH_len]
        exact⟨D9.out,Nat.le_trans HL.out.low G9.out.size,fun k hk=>by injection hk with hk;subst hk;exact⟨Nat.le_trans HL.out.low N6.out,E9.out⟩,fun hk=>(by cases hk),fun p hp=>HL.out.le p (List.mem_filter.1 hp).1⟩
      · rw[←cp_len (kill_sim v HS.out) (filter_nodup HN.out _)]
        exact Nat.le_trans (List.length_filter_le _ _) (by rw[cp_len HS.out HN.out];exact HW.out)
    · obtain⟨px,pv⟩:=p
      simp only[u64V] at hrun hent
      have R8:=Lib.hid hr2
      have HQ:Hid (d.length<(cpV l).length):=Lib.hid (by have:=hr2.len_le;simp at this⊢;omega)
      have M8:=Lib.hid (hmp.grown hg2 (fun e=>NM.out (by injection e with e;exact e.symm)))
      have B8:=Lib.hid (hbel _ _ hbw S6.out)
      have L8:Hid (rr<w8.heap.size):=Lib.hid (by rw[hs2];exact hlt)
      have PX:Hid (u64Ok px):=Lib.hid (hr.mapB.oks _ hp)
      clear hz hr hmp hbw hlt hp hd hr2 hg2 hs2 hbel
      cases hkl:klH A v px
      · have DK:=Lib.hid (show leftL A v ((d++[(px,pv)]).map (·.1)) l=leftL A v (d.map (·.1)) l by rw[List.map_append];exact leftL_keep hkl)
        unfold klH at hkl
        rw[Bool.or_eq_false_iff,decide_eq_false_iff_not] at hkl
        have d1:((px:Int)==(v:Int))=false:=by have:=hkl.1;simp;omega
        have HB8:=Lib.hid (belowA_any (h:=v) (v:=px) (HA.out.ab B8.out) HV.out PX.out HM.out)
        rw[hkl.2] at HB8
        clear hkl
        go_wp2_with fail
        refine HB8.out.mono ?_
        rintro e wa ⟨rfl,hb⟩
        have RA:=Lib.hid (R8.out.ab hb)
        have MA:=Lib.hid (M8.out.ab hb)
        have BA:=Lib.hid (below_tr B8.out hb B8.out.size)
        have LA:Hid (rr<wa.heap.size):=Lib.hid (Nat.lt_of_lt_of_le L8.out hb.size)
        clear hb HB8
        go_wp2_with fail
        go_roundg ((cpV l).length-(d.length+1))
        case measure=>have:=HZ.out;have:=HQ.out;omega
        case rel=>exact⟨d++[(px,pv)],by simp,RA.out,by rw[DK.out];exact MA.out,BA.out,LA.out⟩
      · have DK:=Lib.hid (show dropL px (cpV (leftL A v (d.map (·.1)) l))=cpV (leftL A v ((d++[(px,pv)]).map (·.1)) l) by rw[dropL_cp,leftL_drop hkl,List.map_append];rfl)
        by_cases hpv:px=v
        · have d1:((px:Int)==(v:Int))=true:=by simp[hpv]
          clear hkl hpv
          go_wp2_with (first
           | (refine wpList_mapDel rfl (.tmp 70) (.tmp 71) rfl u64_K Tryz.underlying93 rfl M8.out px PX.out rfl ?_
              intro wb mb gb sb bb
              rw[DK.out] at mb
              have MB:=Lib.hid mb
              have RB:=Lib.hid (R8.out.grown gb (fun e=>by injection e with e;have:=HCL.out;have:=N6.out;have:=HML.out;omega) (fun e=>NM.out (by injection e)))
              have BB:=Lib.hid (bb _ _ B8.out N6.out)
              have LB:Hid (rr<wb.heap.size):=Lib.hid (by rw[sb];exact L8.out)
              clear mb gb sb bb
              simp[Act.put]))
          go_roundg ((cpV l).length-(d.length+1))
          case measure=>have:=HZ.out;have:=HQ.out;omega
          case rel=>exact⟨d++[(px,pv)],by simp,RB.out,MB.out,BB.out,LB.out⟩
        · have d1:((px:Int)==(v:Int))=false:=by simp;omega
          have hkb:belowH A v px=true:=by unfold klH at hkl;simpa[hpv] using hkl
          have HB8:=Lib.hid (belowA_any (h:=v) (v:=px) (HA.out.ab B8.out) HV.out PX.out HM.out)
          rw[hkb] at HB8
          clear hkl hpv hkb
          go_wp2_with fail
          refine HB8.out.mono ?_
          rintro e wa ⟨rfl,hb⟩
          have RA:=Lib.hid (R8.out.ab hb)
          have MA:=Lib.hid (M8.out.ab hb)
          have BA:=Lib.hid (below_tr B8.out hb B8.out.size)
          have LA:Hid (rr<wa.heap.size):=Lib.hid (Nat.lt_of_lt_of_le L8.out hb.size)
          clear hb HB8
          go_wp2_with (first
           | (refine wpList_mapDel rfl (.tmp 70) (.tmp 71) rfl u64_K Tryz.underlying93 rfl MA.out px PX.out rfl ?_
              intro wb mb gb sb bb
              rw[DK.out] at mb
              have MB:=Lib.hid mb
              have RB:=Lib.hid (RA.out.grown gb (fun e=>by injection e with e;have:=HCL.out;have:=N6.out;have:=HML.out;omega) (fun e=>NM.out (by injection e)))
              have BB:=Lib.hid (bb _ _ BA.out N6.out)
              have LB:Hid (rr<wb.heap.size):=Lib.hid (by rw[sb];exact LA.out)
              clear mb gb sb bb
              simp[Act.put]))
          go_roundg ((cpV l).length-(d.length+1))
          case measure=>have:=HZ.out;have:=HQ.out;omega
          case rel=>exact⟨d++[(px,pv)],by simp,RB.out,MB.out,BB.out,LB.out⟩
 · have d0 : ((h:Int) != (v:Int))=true:=by simp;omega
   have hn2:noGive x.r=false∧belowH A h v=true:=by simpa[hhv] using hn
   rw[hn2.1] at d1
   rw[hn2.2] at HB
   clear hk hv ha hb hm hn hhv h1 h2 h3 hmo hn2
   go_enter Tryz.func76,Tryz.ntmps76
   go_wp2_with fail
   refine HF.out.mono ?_
   rintro e w1 ⟨rfl,hb⟩
   have B2:=Lib.hid (hb.alloc hb.size (.cells #[.int .u8 (x.r:Int),.int .u64 (x.up:Int)] 96))
   have X2:=Lib.hid (CbB.new w1 96 #[.int .u8 (x.r:Int),.int .u64 (x.up:Int)])
   clear hb HF
   go_wp2_with fail
   refine (HG.out _ B2.out).mono ?_
   rintro e w3 ⟨rfl,hb⟩
   have B3:=Lib.hid (below_tr B2.out hb B2.out.size)
   have X3:=Lib.hid (X2.out.ab hb)
   have B4:=Lib.hid (B3.out.alloc B3.out.size (.cells #[.int .u8 (y.r:Int),.int .u64 (y.up:Int)] 96))
   have X4:=Lib.hid (X3.out.ab ((Below.refl _ _).alloc (Nat.le_refl _) (.cells #[.int .u8 (y.r:Int),.int .u64 (y.up:Int)] 96)))
   have hx0:=X4.out.cell (k:=0) rfl
   clear hb HG
   go_wp2_with fail
   refine (HB.out _ B4.out).mono ?_
   rintro e w5 ⟨rfl,hb⟩
   have B5:=Lib.hid (below_tr B4.out hb B4.out.size)
   have hxc:w5.cell? ⟨c,0,none⟩=some (.map (some m)):=(HA.out.ab B5.out).cell0
   clear hb HB X2 X3 X4 hx0
   go_wp2_with fail
   refine (clone_some m (cpV l) _ ((HL.out.map m rfl).2.ab B5.out)).mono ?_
   rintro e w6 ⟨rfl,hM6,hb⟩
   have B6:=Lib.hid (below_tr B5.out hb B5.out.size)
   have M6:=Lib.hid hM6
   have N6:Hid (w.heap.size≤w5.heap.size):=Lib.hid B5.out.size
   have hx6:w6.cell? ⟨c,0,none⟩=some (.map (some m)):=(HA.out.ab B6.out).cell0
   have O6:=Lib.hid ((HL.out.map m rfl).2.ab B6.out)
   clear hb hM6 hxc
   generalize w5.heap.size=nn at *
   go_wp2_with (first
    | (refine wpList_mapRange rfl (.tmp 55) rfl Tryz.underlying93 rfl O6.out ?_
       intro w7 r7 b7 s7
       have R7:=Lib.hid r7
       have M7:=Lib.hid (M6.out.ab b7)
       have B7:=Lib.hid (below_tr B6.out b7 B6.out.size)
       have N7:Hid (nn<w6.heap.size∧w6.heap.size<w7.heap.size):=Lib.hid ⟨M6.out.lt,by omega⟩
       clear r7 b7 s7
       simp[Act.put]))
   have S6:=Lib.hid B6.out.size
   clear hx6 O6 M6
   generalize w6.heap.size=rr at *
   go_loopg [] ((cpV l).length) (fun k wr=>∃d,(cpV l).length-d.length≤k∧RngB u64V u64Ok wr m rr (cpV l) d∧MapB u64V u64Ok wr nn (cpV (leftL A v (d.map (·.1)) l))∧Below w.heap.size w wr∧rr<wr.heap.size)
   case atStart=>exact⟨[],by simp,R7.out,by rw[List.map_nil,leftL_nil];exact M7.out,B7.out,N7.out.2⟩
   case round=>
    obtain⟨d,hz,hr,hmp,hbw,hlt⟩:=hrel
    have HZ:=Lib.hid hz
    have HMP:=Lib.hid hmp
    have HBW:=Lib.hid hbw
    have HLT:=Lib.hid hlt
    have NM:Hid (nn≠rr):=Lib.hid (by have:=N7.out.1;omega)
    rcases hr.next u64_K 0 with ⟨hall,hrun⟩ | ⟨p,w8,hp,hd,hrun,hr2,hg2,hs2,hent,hbel⟩
    · have hE:leftL A v (d.map (·.1)) l=l.filter fun p=>!klH A v p.1:=leftL_all fun p hp=>List.mem_map.2 ⟨(p.1,hdV p.2),hall _ (List.mem_map.2 ⟨p,hp,rfl⟩),rfl⟩
      rw[hE] at hmp
      have M9:=Lib.hid hmp
      have A9:=Lib.hid (HA.out.ab hbw)
      have C9:=Lib.hid (HL.out.box.ab hbw)
      have hx9:wr.cell? ⟨c,0,none⟩=some (.map (some m)):=A9.out.cell0
      have hf9:=C9.out.free 0
      have D9:=Lib.hid (C9.out.set 0 (.map (some nn)))
      have E9:=Lib.hid (M9.out.grown (grown_cell wr c 0 (.map (some nn))) (fun e=>by injection e with e;have:=HCL.out;have:=N6.out;omega))
      have G9:=Lib.hid ((Fr.of hbw (capF c (some m))).tr ((Fr.grown (grown_cell wr c 0 (.map (some nn)))).imp fun k hk=>.inl (by injection hk with hk;exact hk.symm)))
      clear hz hr hmp hbw hlt hall hE HMP
      go_wp2_with fail
      go_ret
      refine⟨rfl,some nn,⟨⟨_,?_,kill_sim v HS.out,filter_nodup HN.out _⟩,HR.out.kill v,?_⟩,G9.out,.inr ⟨nn,rfl,N6.out⟩⟩
      · rw[killH_len]
        exact⟨D9.out,Nat.le_trans HL.out.low G9.out.size,fun k hk=>by injection hk with hk;subst hk;exact⟨Nat.le_trans HL.out.low N6.out,E9.out⟩,fun hk=>(by cases hk),fun p hp=>HL.out.le p (List.mem_filter.1 hp).1⟩
      · rw[←cp_len (kill_sim v HS.out) (filter_nodup HN.out _)]
        exact Nat.le_trans (List.length_filter_le _ _) (by rw[cp_len HS.out HN.out];exact HW.out)
    · obtain⟨px,pv⟩:=p
      simp only[u64V] at hrun hent
      have R8:=Lib.hid hr2
      have HQ:Hid (d.length<(cpV l).length):=Lib.hid (by have:=hr2.len_le;simp at this⊢;omega)
      have M8:=Lib.hid (hmp.grown hg2 (fun e=>NM.out (by injection e with e;exact e.symm)))
      have B8:=Lib.hid (hbel _ _ hbw S6.out)
      have L8:Hid (rr<w8.heap.size):=Lib.hid (by rw[hs2];exact hlt)
      have PX:Hid (u64Ok px):=Lib.hid (hr.mapB.oks _ hp)
      clear hz hr hmp hbw hlt hp hd hr2 hg2 hs2 hbel
      cases hkl:klH A v px
      · have DK:=Lib.hid (show leftL A v ((d++[(px,pv)]).map (·.1)) l=leftL A v (d.map (·.1)) l by rw[List.map_append];exact leftL_keep hkl)
        unfold klH at hkl
        rw[Bool.or_eq_false_iff,decide_eq_false_iff_not] at hkl
        have d1:((px:Int)==(v:Int))=false:=by have:=hkl.1;simp;omega
        have HB8:=Lib.hid (belowA_any (h:=v) (v:=px) (HA.out.ab B8.out) HV.out PX.out HM.out)
        rw[hkl.2] at HB8
        clear hkl
        go_wp2_with fail
        refine HB8.out.mono ?_
        rintro e wa ⟨rfl,hb⟩
        have RA:=Lib.hid (R8.out.ab hb)
        have MA:=Lib.hid (M8.out.ab hb)
        have BA:=Lib.hid (below_tr B8.out hb B8.out.size)
        have LA:Hid (rr<wa.heap.size):=Lib.hid (Nat.lt_of_lt_of_le L8.out hb.size)
        clear hb HB8
        go_wp2_with fail
        go_roundg ((cpV l).length-(d.length+1))
        case measure=>have:=HZ.out;have:=HQ.out;omega
        case rel=>exact⟨d++[(px,pv)],by simp,RA.out,by rw[DK.out];exact MA.out,BA.out,LA.out⟩
      · have DK:=Lib.hid (show dropL px (cpV (leftL A v (d.map (·.1)) l))=cpV (leftL A v ((d++[(px,pv)]).map (·.1)) l) by rw[dropL_cp,leftL_drop hkl,List.map_append];rfl)
        by_cases hpv:px=v
        · have d1:((px:Int)==(v:Int))=true:=by simp[hpv]
          clear hkl hpv
          go_wp2_with (first
           | (refine wpList_mapDel rfl (.tmp 70) (.tmp 71) rfl u64_K Tryz.underlying93 rfl M8.out px PX.out rfl ?_
              intro wb mb gb sb bb
              rw[DK.out] at mb
              have MB:=Lib.hid mb
              have RB:=Lib.hid (R8.out.grown gb (fun e=>by injection e with e;have:=HCL.out;have:=N6.out;have:=HML.out;omega) (fun e=>NM.out (by injection e)))
              have BB:=Lib.hid (bb _ _ B8.out N6.out)
              have LB:Hid (rr<wb.heap.size):=Lib.hid (by rw[sb];exact L8.out)
              clear mb gb sb bb
              simp[Act.put]))
          go_roundg ((cpV l).length-(d.length+1))
          case measure=>have:=HZ.out;have:=HQ.out;omega
          case rel=>exact⟨d++[(px,pv)],by simp,RB.out,MB.out,BB.out,LB.out⟩
        · have d1:((px:Int)==(v:Int))=false:=by simp;omega
          have hkb:belowH A v px=true:=by unfold klH at hkl;simpa[hpv] using hkl
          have HB8:=Lib.hid (belowA_any (h:=v) (v:=px) (HA.out.ab B8.out) HV.out PX.out HM.out)
          rw[hkb] at HB8
          clear hkl hpv hkb
          go_wp2_with fail
          refine HB8.out.mono ?_
          rintro e wa ⟨rfl,hb⟩
          have RA:=Lib.hid (R8.out.ab hb)
          have MA:=Lib.hid (M8.out.ab hb)
          have BA:=Lib.hid (below_tr B8.out hb B8.out.size)
          have LA:Hid (rr<wa.heap.size):=Lib.hid (Nat.lt_of_lt_of_le L8.out hb.size)
          clear hb HB8
          go_wp2_with (first
           | (refine wpList_mapDel rfl (.tmp 70) (.tmp 71) rfl u64_K Tryz.underlying93 rfl MA.out px PX.out rfl ?_
              intro wb mb gb sb bb
              rw[DK.out] at mb
              have MB:=Lib.hid mb
              have RB:=Lib.hid (RA.out.grown gb (fun e=>by injection e with e;have:=HCL.out;have:=N6.out;have:=HML.out;omega) (fun e=>NM.out (by injection e)))
              have BB:=Lib.hid (bb _ _ BA.out N6.out)
              have LB:Hid (rr<wb.heap.size):=Lib.hid (by rw[sb];exact LA.out)
              clear mb gb sb bb
              simp[Act.put]))
          go_roundg ((cpV l).length-(d.length+1))
          case measure=>have:=HZ.out;have:=HQ.out;omega
          case rel=>exact⟨d++[(px,pv)],by simp,RB.out,MB.out,BB.out,LB.out⟩
theorem revokeA_any {B c h v:Nat} {mo:Option Nat} {A:HL} {w:World} (hc:CpA w B c mo A) (hk:u64Ok h) (hv:u64Ok v) (hm:A.length<1000000):Calls Tryz.prog 76 #[.pointer (some ⟨c,0,none⟩),.int .u64 (h:Int),.int .u64 (v:Int)] w (CapR B c mo w (.int .i64 ((revokeH A h v).1:Int)) (revokeH A h v).2):=by
 unfold revokeH
 cases ha:atH A h with
 | none=>exact (revoke_none hc hk ha).mono fun e w' ⟨he,hb⟩=>⟨he,mo,hc.ab hb,Fr.of hb _,.inl rfl⟩
 | some x=>
   simp only
   cases hb:atH A v with
   | none=>exact (revoke_none2 hc hk hv ha hb).mono fun e w' ⟨he,hb⟩=>⟨he,mo,hc.ab hb,Fr.of hb _,.inl rfl⟩
   | some y=>
     simp only
     cases hn:mayRv A x h v
     · exact (revoke_no hc hk hv hm ha hb hn).mono fun e w' ⟨he,hb⟩=>⟨he,mo,hc.ab hb,Fr.of hb _,.inl rfl⟩
     · exact revoke_yes hc hk hv hm ha hb hn
end Go.Proofs.YtgdhinjhbjolgaaGreat
