/-
  Parts of the proof, joined.
-/
import Derived.Test.YtnboclhgeehdoaaGreatBda
import Derived.Test.YtnboclhgeehdoaaGreatBdw
import Derived.Test.YtnboclhgeehdoaaGreatBdj
import Derived.JoinedOf
namespace Go.Proofs.YtnboclhgeehdoaaGreat
set_option maxHeartbeats 16000000
open Go.RowKit Go.ChangeShapes Go.WideShapes
set_option linter.unusedVariables false
set_option linter.unusedSimpArgs false
section
variable {P:Program}
theorem okWide_sl {w:World} {r:Reach} {base:Nat} {t:TypeId} {fs:Array Field} {v:Value} {ts:List TypeId} (ht:P.underlying t=some (.struct fs)) (hts:P.cellTypes P.depth t=some ts) (h:Value.okWide P w r base t v) (i:Nat) (u e:TypeId) (hu:ts[i]? = some u) (hk:P.underlying u=some (.slice e)):∀cs x,v = .agg cs→cs[i]? = some x→∃A n c,x = .slice A n c:=by
 simp only[Value.okWide,ht] at h
 obtain⟨cs,rfl,hs,ts',h1,_,h2⟩:=h
 rw[hts] at h1
 injection h1 with h1
 subst h1
 intro cs' x he hx
 injection he with he
 subst he
 obtain⟨u',hu',hc⟩:=h2 i x hx
 rw[Nat.mod_eq_of_lt (by rcases Nat.lt_or_ge i ts.length with h | h;exact h;rw[List.getElem?_eq_none h] at hu;cases hu),hu] at hu'
 injection hu' with hu'
 subst hu'
 cases x <;> simp only[Cell.okWide,hk,Cell.ok] at hc
 exact⟨_,_,_,rfl⟩
end
theorem array25 {α:Type} {cs:Array α} (h:cs.size=25):∃x0 x1 x2 x3 x4 x5 x6 x7 x8 x9 x10 x11 x12 x13 x14 x15 x16 x17 x18 x19 x20 x21 x22 x23 x24,cs = #[x0,x1,x2,x3,x4,x5,x6,x7,x8,x9,x10,x11,x12,x13,x14,x15,x16,x17,x18,x19,x20,x21,x22,x23,x24]:=by
 obtain⟨l⟩:=cs
 match l,h with
 | [x0,x1,x2,x3,x4,x5,x6,x7,x8,x9,x10,x11,x12,x13,x14,x15,x16,x17,x18,x19,x20,x21,x22,x23,x24],_=>exact⟨x0,x1,x2,x3,x4,x5,x6,x7,x8,x9,x10,x11,x12,x13,x14,x15,x16,x17,x18,x19,x20,x21,x22,x23,x24,rfl⟩
set_option maxRecDepth 100000 in
theorem open_op19 {W:World} {r:Reach} {base:Nat} {v:Value} (hk:Value.okWide Tryz.prog W r base 93 v):∃(t k lv pg cm gn fl nn rn rc:Nat) (rA:Option Addr) (c0 c7 c9 c12 a0 a1 a2 a3 a4 a5 a6 c20 c21 c22 c23 c24:Value),v = .agg #[c0,.int .u32 (t:Int),.int .u8 (k:Int),.int .u8 (lv:Int),.int .u32 (pg:Int),.int .u64 (cm:Int),.int .u16 (gn:Int),c7,.int .u8 (fl:Int),c9,.int .u64 (nn:Int),.slice rA rn rc,c12,a0,a1,a2,a3,a4,a5,a6,c20,c21,c22,c23,c24]∧t<4294967296∧fl<256:=by
 obtain⟨cs,rfl,hs,hc⟩:=okWide_ints (ts:=[3,42,5,5,42,41,43,4,5,4,41,58,3,41,42,41,43,5,43,42,3,3,3,64,64]) Tryz.underlying93 (by kernel_rfl) hk
 have hsl:=okWide_sl (ts:=[3,42,5,5,42,41,43,4,5,4,41,58,3,41,42,41,43,5,43,42,3,3,3,64,64]) Tryz.underlying93 (by kernel_rfl) hk 11 _ _ rfl Tryz.underlying58 cs
 have h25:Tryz.prog.cellsOf 93=25:=by kernel_rfl
 rw[h25] at hs
 obtain⟨x0,x1,x2,x3,x4,x5,x6,x7,x8,x9,x10,x11,x12,x13,x14,x15,x16,x17,x18,x19,x20,x21,x22,x23,x24,rfl⟩:=array25 hs
 obtain⟨rA,rn,rc,h11⟩:=hsl _ rfl rfl
 obtain⟨z1,h1,lo1,up1⟩:=hc 1 _ .u32 rfl Tryz.underlying42 _ rfl
 obtain⟨z2,h2,lo2,up2⟩:=hc 2 _ .u8 rfl Tryz.underlying5 _ rfl
 obtain⟨z3,h3,lo3,up3⟩:=hc 3 _ .u8 rfl Tryz.underlying5 _ rfl
 obtain⟨z4,h4,lo4,up4⟩:=hc 4 _ .u32 rfl Tryz.underlying42 _ rfl
 obtain⟨z5,h5,lo5,up5⟩:=hc 5 _ .u64 rfl Tryz.underlying41 _ rfl
 obtain⟨z6,h6,lo6,up6⟩:=hc 6 _ .u16 rfl Tryz.underlying43 _ rfl
 obtain⟨z8,h8,lo8,up8⟩:=hc 8 _ .u8 rfl Tryz.underlying5 _ rfl
 obtain⟨z10,h10,lo10,up10⟩:=hc 10 _ .u64 rfl Tryz.underlying41 _ rfl
 have e8:IntKind.u8.min=0∧IntKind.u8.max=255:=⟨rfl,rfl⟩
 have e16:IntKind.u16.min=0∧IntKind.u16.max=65535:=⟨rfl,rfl⟩
 have e32:IntKind.u32.min=0∧IntKind.u32.max=4294967295:=⟨rfl,rfl⟩
 have e64:IntKind.u64.min=0∧IntKind.u64.max=18446744073709551615:=⟨rfl,rfl⟩
 obtain⟨n1,hn1⟩:∃n:Nat,z1=(n:Int):=⟨z1.toNat,by omega⟩
 rw[hn1] at h1
 obtain⟨n2,hn2⟩:∃n:Nat,z2=(n:Int):=⟨z2.toNat,by omega⟩
 rw[hn2] at h2
 obtain⟨n3,hn3⟩:∃n:Nat,z3=(n:Int):=⟨z3.toNat,by omega⟩
 rw[hn3] at h3
 obtain⟨n4,hn4⟩:∃n:Nat,z4=(n:Int):=⟨z4.toNat,by omega⟩
 rw[hn4] at h4
 obtain⟨n5,hn5⟩:∃n:Nat,z5=(n:Int):=⟨z5.toNat,by omega⟩
 rw[hn5] at h5
 obtain⟨n6,hn6⟩:∃n:Nat,z6=(n:Int):=⟨z6.toNat,by omega⟩
 rw[hn6] at h6
 obtain⟨n8,hn8⟩:∃n:Nat,z8=(n:Int):=⟨z8.toNat,by omega⟩
 rw[hn8] at h8
 obtain⟨n10,hn10⟩:∃n:Nat,z10=(n:Int):=⟨z10.toNat,by omega⟩
 rw[hn10] at h10
 subst h1 h2 h3 h4 h5 h6 h8 h10 h11
 exact⟨n1,n2,n3,n4,n5,n6,n8,n10,rn,rc,rA,x0,x7,x9,x12,x13,x14,x15,x16,x17,x18,x19,x20,x21,x22,x23,x24,rfl,by omega,by omega⟩
theorem szRefN:(Tryz.prog.info? 45).map (·.size)=some (#[.int .u32 0,.int .u64 0,.int .u16 0]:Array Value).size:=by kernel_rfl
def RefR (N:Nat) (v:Value) (W:World):Prop:=∃G,v = .pointer (some ⟨G,0,none⟩)∧CbB W G 45 #[.int .u32 0,.int .u64 0,.int .u16 0]∧N≤G
theorem RefR.mono {N:Nat}:Mono (RefR N):=fun _ _ _ ⟨G,h1,h2,h3⟩ hb=>⟨G,h1,h2.ab hb,h3⟩
def ShR (v:Value) (W:World):Prop:=∃(g:Nat),v = .slice (some ⟨g,0,none⟩) 224 224
theorem ShR.mono:Mono ShR:=fun _ _ _ h _=>h
set_option maxRecDepth 100000 in
theorem pnone_walk (v:Value) (W:World) (hv:∃base,Value.okWide Tryz.prog W .any base 93 v):Calls Tryz.prog 6 #[v] W fun e w'=>e = .returned (.bool true)∧Below W.heap.size W w':=by
 obtain⟨base,hk⟩:=hv
 obtain⟨t,k,lv,pg,cm,gn,fl,nn,rn,rc,rA,c0,c7,c9,c12,a0,a1,a2,a3,a4,a5,a6,c20,c21,c22,c23,c24,rfl,hb1,hb2⟩:=open_op19 hk
 clear hk
 have HB:=Lib.hid (And.intro hb1 hb2)
 clear hb1 hb2
 generalize W=w at *
 have C0:Hid (CbB (w.alloc (.cells #[c0,.int .u32 (t:Int),.int .u8 (k:Int),.int .u8 (lv:Int),.int .u32 (pg:Int),.int .u64 (cm:Int),.int .u16 (gn:Int),c7,.int .u8 (fl:Int),c9,.int .u64 (nn:Int),.slice rA rn rc,c12,a0,a1,a2,a3,a4,a5,a6,c20,c21,c22,c23,c24] 93)) w.heap.size 93 #[c0,.int .u32 (t:Int),.int .u8 (k:Int),.int .u8 (lv:Int),.int .u32 (pg:Int),.int .u64 (cm:Int),.int .u16 (gn:Int),c7,.int .u8 (fl:Int),c9,.int .u64 (nn:Int),.slice rA rn rc,c12,a0,a1,a2,a3,a4,a5,a6,c20,c21,c22,c23,c24]):=Lib.hid (CbB.new _ _ _)
 have B0:Hid (Below w.heap.size w (w.alloc (.cells #[c0,.int .u32 (t:Int),.int .u8 (k:Int),.int .u8 (lv:Int),.int .u32 (pg:Int),.int .u64 (cm:Int),.int .u16 (gn:Int),c7,.int .u8 (fl:Int),c9,.int .u64 (nn:Int),.slice rA rn rc,c12,a0,a1,a2,a3,a4,a5,a6,c20,c21,c22,c23,c24] 93))):=Lib.hid ((Below.refl _ _).alloc (Nat.le_refl _) _)
 go_enter Tryz.func6,Tryz.ntmps6
 go_wp2_with fail
 refine (pfail_nil _).mono ?_
 rintro e w1 ⟨⟨vf,rfl⟩,hb⟩
 have C1:=Lib.hid (C0.out.ab hb)
 have B1:=Lib.hid (below_tr B0.out hb B0.out.size)
 clear hb C0 B0
 have cc1:w1.cell? ⟨w.heap.size,1,none⟩=some (.int .u32 (t:Int)):=C1.out.cell (k:=1) rfl
 have cc2:w1.cell? ⟨w.heap.size,2,none⟩=some (.int .u8 (k:Int)):=C1.out.cell (k:=2) rfl
 have cc3:w1.cell? ⟨w.heap.size,3,none⟩=some (.int .u8 (lv:Int)):=C1.out.cell (k:=3) rfl
 have cc4:w1.cell? ⟨w.heap.size,4,none⟩=some (.int .u32 (pg:Int)):=C1.out.cell (k:=4) rfl
 have cc5:w1.cell? ⟨w.heap.size,5,none⟩=some (.int .u64 (cm:Int)):=C1.out.cell (k:=5) rfl
 have cc6:w1.cell? ⟨w.heap.size,6,none⟩=some (.int .u16 (gn:Int)):=C1.out.cell (k:=6) rfl
 go_wp2_with fail
 refine (pGet_nil t k lv pg cm gn w1).mono ?_
 rintro e w3 ⟨rfl,hb⟩
 have C3:=Lib.hid (C1.out.ab hb)
 have B3:=Lib.hid (below_tr B1.out hb B1.out.size)
 clear hb C1 B1 cc1 cc2 cc3 cc4 cc5 cc6
 go_upto_region 4 with (fail)
 refine wp_wideL [⟨30,IsR (.pointer none),[],false⟩,⟨31,IsR (.pointer (some ⟨w.heap.size,1,none⟩)),[],false⟩,⟨32,IsR (.pointer (some ⟨w.heap.size,1,none⟩)),[1],false⟩,⟨33,IsR (.int .u32 (t:Int)),[2],false⟩,⟨34,IsR (.pointer (some ⟨w.heap.size,1,none⟩)),[],false⟩,⟨35,IsR (.pointer (some ⟨w.heap.size,2,none⟩)),[4],false⟩,⟨36,IsR (.int .u8 (k:Int)),[5],false⟩,⟨37,IsR (.pointer (some ⟨w.heap.size,1,none⟩)),[],false⟩,⟨38,IsR (.pointer (some ⟨w.heap.size,3,none⟩)),[7],false⟩,⟨39,IsR (.int .u8 (lv:Int)),[8],false⟩,⟨40,IsR (.pointer (some ⟨w.heap.size,8,none⟩)),[],false⟩,⟨41,IsR (.int .u8 (fl:Int)),[10],false⟩,⟨42,ShR,[11],false⟩,⟨43,IsR (.tuple #[.agg #[.int .u32 0,.int .u64 0,.int .u16 0],.int .i64 1]),[0,3,6,9,12],false⟩,⟨29,IsR (.tuple #[.agg #[.int .u32 0,.int .u64 0,.int .u16 0],.int .i64 1]),[13],false⟩,⟨44,IsR (.agg #[.int .u32 0,.int .u64 0,.int .u16 0]),[14],false⟩,⟨45,IsR (.int .i64 1),[14],false⟩,⟨6,RefR w3.heap.size,[],false⟩] 16 rfl rfl (fun _ _ _ d _ h=>by cases d <;> exact h) ⟨rfl,rfl,fun a W hA hb hd=>⟨.int .i64 1,fun w'=>?_,rfl⟩⟩ (by kernel_rfl) (by kernel_rfl) rfl rfl rfl ⟨?_,?_,?_,?_,?_,?_,?_,?_,?_,?_,?_,?_,?_,?_,?_,?_,?_,?_,trivial⟩ ?_
 · have h29:a.tmps[29]?.getD undef = .tuple #[.agg #[.int .u32 0,.int .u64 0,.int .u16 0],.int .i64 1]:=(eval_get a 29).trans (hd 14 (by simp) _ rfl)
   go_simp
 · refine⟨rfl,IsR.mono _,fun a W hA hb hd=>takes_plain rfl (yields_value _ ?_ rfl)⟩
   have h3:a.tmps[3]?.getD undef = .pointer none:=(eval_get a 3).trans ((hA.eval (by simp)).trans rfl)
   go_simp
 · refine⟨rfl,IsR.mono _,fun a W hA hb hd=>takes_plain rfl (yields_value _ ?_ rfl)⟩
   have h1:a.tmps[1]?.getD undef = .pointer (some ⟨w.heap.size,0,none⟩):=(eval_get a 1).trans ((hA.eval (by simp)).trans rfl)
   go_simp
 · refine⟨rfl,IsR.mono _,fun a W hA hb hd=>takes_plain rfl (yields_value _ ?_ rfl)⟩
   have h31:a.tmps[31]?.getD undef = .pointer (some ⟨w.heap.size,1,none⟩):=(eval_get a 31).trans (hd 1 (by simp) _ rfl)
   go_simp
 · refine⟨rfl,IsR.mono _,fun a W hA hb hd=>takes_plain rfl (yields_value _ ?_ rfl)⟩
   have h32:a.tmps[32]?.getD undef = .pointer (some ⟨w.heap.size,1,none⟩):=(eval_get a 32).trans (hd 2 (by simp) _ rfl)
   have hc:=(C3.out.ab hb).cell (k:=1) rfl
   go_simp
 · refine⟨rfl,IsR.mono _,fun a W hA hb hd=>takes_plain rfl (yields_value _ ?_ rfl)⟩
   have h1:a.tmps[1]?.getD undef = .pointer (some ⟨w.heap.size,0,none⟩):=(eval_get a 1).trans ((hA.eval (by simp)).trans rfl)
   go_simp
 · refine⟨rfl,IsR.mono _,fun a W hA hb hd=>takes_plain rfl (yields_value _ ?_ rfl)⟩
   have h34:a.tmps[34]?.getD undef = .pointer (some ⟨w.heap.size,1,none⟩):=(eval_get a 34).trans (hd 4 (by simp) _ rfl)
   go_simp
 · refine⟨rfl,IsR.mono _,fun a W hA hb hd=>takes_plain rfl (yields_value _ ?_ rfl)⟩
   have h35:a.tmps[35]?.getD undef = .pointer (some ⟨w.heap.size,2,none⟩):=(eval_get a 35).trans (hd 5 (by simp) _ rfl)
   have hc:=(C3.out.ab hb).cell (k:=2) rfl
   go_simp
 · refine⟨rfl,IsR.mono _,fun a W hA hb hd=>takes_plain rfl (yields_value _ ?_ rfl)⟩
   have h1:a.tmps[1]?.getD undef = .pointer (some ⟨w.heap.size,0,none⟩):=(eval_get a 1).trans ((hA.eval (by simp)).trans rfl)
   go_simp
 · refine⟨rfl,IsR.mono _,fun a W hA hb hd=>takes_plain rfl (yields_value _ ?_ rfl)⟩
   have h37:a.tmps[37]?.getD undef = .pointer (some ⟨w.heap.size,1,none⟩):=(eval_get a 37).trans (hd 7 (by simp) _ rfl)
   go_simp
 · refine⟨rfl,IsR.mono _,fun a W hA hb hd=>takes_plain rfl (yields_value _ ?_ rfl)⟩
   have h38:a.tmps[38]?.getD undef = .pointer (some ⟨w.heap.size,3,none⟩):=(eval_get a 38).trans (hd 8 (by simp) _ rfl)
   have hc:=(C3.out.ab hb).cell (k:=3) rfl
   go_simp
 · refine⟨rfl,IsR.mono _,fun a W hA hb hd=>takes_plain rfl (yields_value _ ?_ rfl)⟩
   have h1:a.tmps[1]?.getD undef = .pointer (some ⟨w.heap.size,0,none⟩):=(eval_get a 1).trans ((hA.eval (by simp)).trans rfl)
   go_simp
 · refine⟨rfl,IsR.mono _,fun a W hA hb hd=>takes_plain rfl (yields_value _ ?_ rfl)⟩
   have h40:a.tmps[40]?.getD undef = .pointer (some ⟨w.heap.size,8,none⟩):=(eval_get a 40).trans (hd 10 (by simp) _ rfl)
   have hc:=(C3.out.ab hb).cell (k:=8) rfl
   go_simp
 · refine⟨rfl,ShR.mono,fun a W hA hb hd=>takes_plain rfl ?_⟩
   have h41:a.tmps[41]?.getD undef = .int .u8 (fl:Int):=(eval_get a 41).trans (hd 11 (by simp) _ rfl)
   refine yields_call 24 #[.int .u8 (fl:Int)] (by go_simp) ((fill_any fl HB.out.2 W).mono ?_)
   rintro e W1 ⟨g,rfl,h1,h2,h3⟩
   exact⟨_,rfl,⟨g,rfl⟩,h3⟩
 · refine⟨rfl,IsR.mono _,fun a W hA hb hd=>takes_plain rfl ?_⟩
   obtain⟨g,e0⟩:=hd 12 (by simp) _ rfl
   have h42:a.tmps[42]?.getD undef = .slice (some ⟨g,0,none⟩) 224 224:=(eval_get a 42).trans e0
   have h30:a.tmps[30]?.getD undef = .pointer none:=(eval_get a 30).trans (hd 0 (by simp) _ rfl)
   have h33:a.tmps[33]?.getD undef = .int .u32 (t:Int):=(eval_get a 33).trans (hd 3 (by simp) _ rfl)
   have h36:a.tmps[36]?.getD undef = .int .u8 (k:Int):=(eval_get a 36).trans (hd 6 (by simp) _ rfl)
   have h39:a.tmps[39]?.getD undef = .int .u8 (lv:Int):=(eval_get a 39).trans (hd 9 (by simp) _ rfl)
   refine yields_call 23 #[.pointer none,.int .u32 (t:Int),.int .u8 (k:Int),.int .u8 (lv:Int),.slice (some ⟨g,0,none⟩) 224 224] (by go_simp) ((pPut_nil t k lv 224 224 _ W).mono ?_)
   rintro e W1 ⟨rfl,h3⟩
   exact⟨_,rfl,rfl,h3⟩
 · refine⟨rfl,IsR.mono _,fun a W hA hb hd=>takes_plain rfl (yields_value _ ?_ rfl)⟩
   have h43:a.tmps[43]?.getD undef = .tuple #[.agg #[.int .u32 0,.int .u64 0,.int .u16 0],.int .i64 1]:=(eval_get a 43).trans (hd 13 (by simp) _ rfl)
   go_simp
 · refine⟨rfl,IsR.mono _,fun a W hA hb hd=>takes_plain rfl (yields_value _ ?_ rfl)⟩
   have h29:a.tmps[29]?.getD undef = .tuple #[.agg #[.int .u32 0,.int .u64 0,.int .u16 0],.int .i64 1]:=(eval_get a 29).trans (hd 14 (by simp) _ rfl)
   go_simp
 · refine⟨rfl,IsR.mono _,fun a W hA hb hd=>takes_plain rfl (yields_value _ ?_ rfl)⟩
   have h29:a.tmps[29]?.getD undef = .tuple #[.agg #[.int .u32 0,.int .u64 0,.int .u16 0],.int .i64 1]:=(eval_get a 29).trans (hd 14 (by simp) _ rfl)
   go_simp
 · refine⟨rfl,RefR.mono,fun a W hA hb hd=>takes_plain rfl ?_⟩
   refine .inl ⟨.pointer (some ⟨W.heap.size,0,none⟩),W.alloc (.cells #[.int .u32 0,.int .u64 0,.int .u16 0] 45),?_,⟨_,rfl,CbB.new _ _ _,hb.size⟩,(Below.refl _ _).alloc (Nat.le_refl _) _,fresh_no _ _ _⟩
   go_simp
 intro vs w4 hR hF hb
 have RB:Hid (RefR w3.heap.size (vs 6) w4):=Lib.hid (hR 17 _ rfl)
 have B4:=Lib.hid (below_tr B3.out hb B3.out.size)
 have C4:=Lib.hid (C3.out.ab hb)
 have e30:vs 30 = .pointer none:=hR 0 _ rfl
 have e31:vs 31 = .pointer (some ⟨w.heap.size,1,none⟩):=hR 1 _ rfl
 have e32:vs 32 = .pointer (some ⟨w.heap.size,1,none⟩):=hR 2 _ rfl
 have e33:vs 33 = .int .u32 (t:Int):=hR 3 _ rfl
 have e34:vs 34 = .pointer (some ⟨w.heap.size,1,none⟩):=hR 4 _ rfl
 have e35:vs 35 = .pointer (some ⟨w.heap.size,2,none⟩):=hR 5 _ rfl
 have e36:vs 36 = .int .u8 (k:Int):=hR 6 _ rfl
 have e37:vs 37 = .pointer (some ⟨w.heap.size,1,none⟩):=hR 7 _ rfl
 have e38:vs 38 = .pointer (some ⟨w.heap.size,3,none⟩):=hR 8 _ rfl
 have e39:vs 39 = .int .u8 (lv:Int):=hR 9 _ rfl
 have e40:vs 40 = .pointer (some ⟨w.heap.size,8,none⟩):=hR 10 _ rfl
 have e41:vs 41 = .int .u8 (fl:Int):=hR 11 _ rfl
 have e43:vs 43 = .tuple #[.agg #[.int .u32 0,.int .u64 0,.int .u16 0],.int .i64 1]:=hR 13 _ rfl
 have e29:vs 29 = .tuple #[.agg #[.int .u32 0,.int .u64 0,.int .u16 0],.int .i64 1]:=hR 14 _ rfl
 have e44:vs 44 = .agg #[.int .u32 0,.int .u64 0,.int .u16 0]:=hR 15 _ rfl
 have e45:vs 45 = .int .i64 1:=hR 16 _ rfl
 simp only[List.map_cons,List.map_nil,List.foldl_cons,List.foldl_nil,List.length_cons,List.length_nil,List.drop_succ_cons,List.drop_zero,Act.put,List.setIfInBounds_toArray,List.set_cons_zero,List.set_cons_succ,e30,e31,e32,e33,e34,e35,e36,e37,e38,e39,e40,e41,e43,e29,e44,e45]
 generalize vs 42=q42 at *
 clear hR hF hb e30 e31 e32 e33 e34 e35 e36 e37 e38 e39 e40 e41 e43 e29 e44 e45
 generalize vs 6=q6 at *
 obtain⟨G,rfl,hG1,hG2⟩:=RB.out
 have GL:=Lib.hid (Nat.le_trans B3.out.size hG2)
 have GC:=Lib.hid hG1
 have NE:Hid (w.heap.size≠G):=Lib.hid (by have:=C3.out.lt;omega)
 go_wp2_with (first
  | (with_reducible refine wpList_storeC (o:=⟨none,.store _ (.tmp 6) (.tmp 44),_,_,_,_⟩) ?_ 45 (.tmp 6) (.tmp 44) ?_ G ?_ #[.int .u32 0,.int .u64 0,.int .u16 0] ?_ (t:=45) GC.out ?_ ?_ ?_ ?_
     · rfl
     · rfl
     · rfl
     · rfl
     · exact szRefN
     · rfl
     · simp[Value.oneCell']
     intro w5 hw5
     have C5:Hid (CbB w5 w.heap.size 93 #[c0,.int .u32 (t:Int),.int .u8 (k:Int),.int .u8 (lv:Int),.int .u32 (pg:Int),.int .u64 (cm:Int),.int .u16 (gn:Int),c7,.int .u8 (fl:Int),c9,.int .u64 (nn:Int),.slice rA rn rc,c12,a0,a1,a2,a3,a4,a5,a6,c20,c21,c22,c23,c24]):=Lib.hid (by rw[hw5];exact CbB.rowFar C4.out NE.out _)
     have G5:Hid (CbB w5 G 45 #[.int .u32 0,.int .u64 0,.int .u16 0]):=Lib.hid (by rw[hw5];exact CbB.row GC.out _)
     have B5:Hid (Below w.heap.size w w5):=Lib.hid (by rw[hw5];exact Below.row B4.out GL.out _)
     clear hw5))
 clear RB hG1 hG2 GC C4 B4 C3 B3
 refine (pCommit_nil w5).mono ?_
 rintro e w6 ⟨rfl,hb⟩
 have C6:=Lib.hid (C5.out.ab hb)
 have G6:=Lib.hid (G5.out.ab hb)
 have B6:=Lib.hid (below_tr B5.out hb B5.out.size)
 clear hb C5 G5 B5
 have cr0:w6.cell? ⟨G,0,none⟩=some (.int .u32 0):=G6.out.cell (k:=0) rfl
 have cr1:w6.cell? ⟨G,1,none⟩=some (.int .u64 0):=G6.out.cell (k:=1) rfl
 have cr2:w6.cell? ⟨G,2,none⟩=some (.int .u16 0):=G6.out.cell (k:=2) rfl
 go_wp2_with fail
 refine (pLast_nil w6).mono ?_
 rintro e w7 ⟨rfl,hb⟩
 have C7:=Lib.hid (C6.out.ab hb)
 have G7:=Lib.hid (G6.out.ab hb)
 have B7:=Lib.hid (below_tr B6.out hb B6.out.size)
 clear hb C6 G6 B6 cr0 cr1 cr2
 go_wp2_with fail
 refine (pFailed_nil w7).mono ?_
 rintro e w8 ⟨rfl,hb⟩
 have C8:=Lib.hid (C7.out.ab hb)
 have G8:=Lib.hid (G7.out.ab hb)
 have B8:=Lib.hid (below_tr B7.out hb B7.out.size)
 clear hb C7 G7 B7
 have cc1:w8.cell? ⟨w.heap.size,1,none⟩=some (.int .u32 (t:Int)):=C8.out.cell (k:=1) rfl
 go_wp2_with fail
 refine (pUsed_nil t w8).mono ?_
 rintro e w9 ⟨rfl,hb⟩
 have C9:=Lib.hid (C8.out.ab hb)
 have G9:=Lib.hid (G8.out.ab hb)
 have B9:=Lib.hid (below_tr B8.out hb B8.out.size)
 clear hb C8 G8 B8 cc1
 go_wp2_with fail
 refine (pFree_nil w9).mono ?_
 rintro e w10 ⟨rfl,hb⟩
 have C10:=Lib.hid (C9.out.ab hb)
 have G10:=Lib.hid (G9.out.ab hb)
 have B10:=Lib.hid (below_tr B9.out hb B9.out.size)
 clear hb C9 G9 B9
 have cc10:w10.cell? ⟨w.heap.size,10,none⟩=some (.int .u64 (nn:Int)):=C10.out.cell (k:=10) rfl
 go_wp2_with fail
 refine (pBegin_nil nn w10).mono ?_
 rintro e w11 ⟨rfl,hb⟩
 have C11:=Lib.hid (C10.out.ab hb)
 have G11:=Lib.hid (G10.out.ab hb)
 have B11:=Lib.hid (below_tr B10.out hb B10.out.size)
 clear hb C10 G10 B10 cc10
 have cr0:w11.cell? ⟨G,0,none⟩=some (.int .u32 0):=G11.out.cell (k:=0) rfl
 have cr1:w11.cell? ⟨G,1,none⟩=some (.int .u64 0):=G11.out.cell (k:=1) rfl
 have cr2:w11.cell? ⟨G,2,none⟩=some (.int .u16 0):=G11.out.cell (k:=2) rfl
 go_wp2_with fail
 refine (pDrop_nil 0 0 0 w11).mono ?_
 rintro e w12 ⟨rfl,hb⟩
 have C12:=Lib.hid (C11.out.ab hb)
 have G12:=Lib.hid (G11.out.ab hb)
 have B12:=Lib.hid (below_tr B11.out hb B11.out.size)
 clear hb C11 G11 B11 cr0 cr1 cr2
 go_wp2_with fail
 refine (pFlush_nil w12).mono ?_
 rintro e w13 ⟨rfl,hb⟩
 have C13:=Lib.hid (C12.out.ab hb)
 have G13:=Lib.hid (G12.out.ab hb)
 have B13:=Lib.hid (below_tr B12.out hb B12.out.size)
 clear hb C12 G12 B12
 have cc13:w13.cell? ⟨w.heap.size,13,none⟩=some (a0):=C13.out.cell (k:=13) rfl
 have cc14:w13.cell? ⟨w.heap.size,14,none⟩=some (a1):=C13.out.cell (k:=14) rfl
 have cc15:w13.cell? ⟨w.heap.size,15,none⟩=some (a2):=C13.out.cell (k:=15) rfl
 have cc16:w13.cell? ⟨w.heap.size,16,none⟩=some (a3):=C13.out.cell (k:=16) rfl
 have cc17:w13.cell? ⟨w.heap.size,17,none⟩=some (a4):=C13.out.cell (k:=17) rfl
 have cc18:w13.cell? ⟨w.heap.size,18,none⟩=some (a5):=C13.out.cell (k:=18) rfl
 have cc19:w13.cell? ⟨w.heap.size,19,none⟩=some (a6):=C13.out.cell (k:=19) rfl
 go_wp2_with fail
 refine (pMeta_nil a0 a1 a2 a3 a4 a5 a6 w13).mono ?_
 rintro e w14 ⟨rfl,hb⟩
 have C14:=Lib.hid (C13.out.ab hb)
 have G14:=Lib.hid (G13.out.ab hb)
 have B14:=Lib.hid (below_tr B13.out hb B13.out.size)
 clear hb C13 G13 B13 cc13 cc14 cc15 cc16 cc17 cc18 cc19
 go_wp2_with fail
 refine (pScrub_nil w14).mono ?_
 rintro e w15 ⟨rfl,hb⟩
 have C15:=Lib.hid (C14.out.ab hb)
 have G15:=Lib.hid (G14.out.ab hb)
 have B15:=Lib.hid (below_tr B14.out hb B14.out.size)
 clear hb C14 G14 B14
 go_wp2_with fail
 refine (pUndo_nil w15).mono ?_
 rintro e w16 ⟨rfl,hb⟩
 have C16:=Lib.hid (C15.out.ab hb)
 have G16:=Lib.hid (G15.out.ab hb)
 have B16:=Lib.hid (below_tr B15.out hb B15.out.size)
 clear hb C15 G15 B15
 have cr0:w16.cell? ⟨G,0,none⟩=some (.int .u32 0):=G16.out.cell (k:=0) rfl
 have cr1:w16.cell? ⟨G,1,none⟩=some (.int .u64 0):=G16.out.cell (k:=1) rfl
 have cr2:w16.cell? ⟨G,2,none⟩=some (.int .u16 0):=G16.out.cell (k:=2) rfl
 go_wp2_with fail
 refine (pPin_nil 0 0 0 w16).mono ?_
 rintro e w17 ⟨rfl,hb⟩
 have C17:=Lib.hid (C16.out.ab hb)
 have G17:=Lib.hid (G16.out.ab hb)
 have B17:=Lib.hid (below_tr B16.out hb B16.out.size)
 clear hb C16 G16 B16 cr0 cr1 cr2
 have cr0:w17.cell? ⟨G,0,none⟩=some (.int .u32 0):=G17.out.cell (k:=0) rfl
 have cr1:w17.cell? ⟨G,1,none⟩=some (.int .u64 0):=G17.out.cell (k:=1) rfl
 have cr2:w17.cell? ⟨G,2,none⟩=some (.int .u16 0):=G17.out.cell (k:=2) rfl
 go_wp2_with fail
 refine (pUnpin_nil 0 0 0 w17).mono ?_
 rintro e w18 ⟨rfl,hb⟩
 have C18:=Lib.hid (C17.out.ab hb)
 have G18:=Lib.hid (G17.out.ab hb)
 have B18:=Lib.hid (below_tr B17.out hb B17.out.size)
 clear hb C17 G17 B17 cr0 cr1 cr2
 have cc11:w18.cell? ⟨w.heap.size,11,none⟩=some (.slice rA rn rc):=C18.out.cell (k:=11) rfl
 go_wp2_with fail
 refine (pSweep_nil rA rn rc w18).mono ?_
 rintro e w19 ⟨rfl,hb⟩
 have C19:=Lib.hid (C18.out.ab hb)
 have G19:=Lib.hid (G18.out.ab hb)
 have B19:=Lib.hid (below_tr B18.out hb B18.out.size)
 clear hb C18 G18 B18 cc11
 go_wp2_with fail
 refine (known19_any w19).mono ?_
 rintro e w20 ⟨rfl,hb⟩
 have C20:=Lib.hid (C19.out.ab hb)
 have G20:=Lib.hid (G19.out.ab hb)
 have B20:=Lib.hid (below_tr B19.out hb B19.out.size)
 clear hb C19 G19 B19
 go_wp2_with fail
 go_ret
 exact⟨rfl,B20.out⟩
open Go.ChangeShapes Go.WideShapes Go.ChangeAt Go.RowKit
theorem make_of {P:Program} {l:List Char} (h:P.initOrder=String.ofList l) (hw:(match behindMainWord (wordsSigns l) with | c::_=>!(c == "gc".toList||c == "spec".toList)&&c == "cut".toList | []=>false)=true):P.make=some .cut:=by
 unfold Program.make
 rw[h,String.toList_ofList]
 revert hw
 generalize behindMainWord (wordsSigns l)=W
 cases W with
 | nil=>intro hw;cases hw
 | cons c r=>
   intro hw
   simp only[Bool.and_eq_true,Bool.not_eq_true'] at hw
   simp only[hw.1,hw.2,Bool.true_or,if_true]
   rfl
theorem lifts_of {P:Program} {l:List Char} (h:P.initOrder=String.ofList l) (hw:(!((behindMainWord (wordsSigns l)).head? == some "carried".toList)&&(stripLifts liftWords (behindMainWord (wordsSigns l))).1.isEmpty)=true):P.liftsFinal=false:=by
 unfold Program.liftsFinal Program.headLifts
 rw[h,String.toList_ofList]
 revert hw
 generalize behindMainWord (wordsSigns l)=W
 intro hw
 simp only[Bool.and_eq_true,Bool.not_eq_true',List.isEmpty_iff] at hw
 simp only[hw.1,hw.2,Bool.false_and,Bool.false_or]
 split <;> rfl
theorem enter_of {P:Program} {l:List Char} (h:P.initOrder=String.ofList l) (hw:(match behindMainWord (wordsSigns l) with | c::rest=>((stripLifts liftWords (c::rest)).2.head? == some "cut".toList&&(stripLifts liftWords (c::rest)).1.isEmpty) | []=>false)=true)
 (hl:P.laysLater=false) (hr:P.bearsReflect=false) (hd:P.doorRows=[]):P.mayEnter=true:=by
 unfold Program.mayEnter Program.doorFits
 rw[h,String.toList_ofList]
 revert hw
 generalize behindMainWord (wordsSigns l)=W
 cases W with
 | nil=>intro hw;cases hw
 | cons c r=>
   intro hw
   simp only[Bool.and_eq_true,List.isEmpty_iff] at hw
   simp only[hw.1,hw.2,hl,hr,hd]
   simp
set_option maxRecDepth 1000000 in
theorem J.make:Tryz.checked.prog.make=some .cut:=make_of rfl (by kernel_rfl)
set_option maxRecDepth 1000000 in
theorem J.lifts:Tryz.checked.prog.liftsFinal=false:=lifts_of rfl (by kernel_rfl)
set_option maxRecDepth 1000000 in
theorem J.enter:Tryz.checked.prog.mayEnter=true:=enter_of rfl (by kernel_rfl) (by kernel_rfl) (by kernel_rfl) (by kernel_rfl)
theorem joined_of {P:Program} {f:FuncId} {fn:Func} {s:ChangeSpec} {c:OpenClaim} (h1:P.mayEnter=true) (h2:P.liftsFinal=false) (h3:P.make=some .cut) (h4:c.lifted=false) (h5:c.make = .cut)
 (h:(c.wf (OpenSpec.ofChange s)&&laidOutB P&&mapsRowed P &&
   fn.params.all (P.readableRec ·)&&namedTie P c.named s.vars &&
   (c.stops==[])&&(P.stops==[])&&(c.knobs==[])&&(P.stopKnobs==[]) &&
   (c.inPlace==P.inPlace f)&&(c.unfollowed==P.unfollowed f)&&(c.recurses==P.recurses f)&&(c.named==P.varsNamed f) &&
   (c.maps==(fn.params.toList++s.plain.varTypes P).any (P.mapsRec ·))&&(c.ifaces==(fn.params.toList++s.plain.varTypes P).any (P.ifacesRec ·))&&(c.mapsOut==P.mapsAmong fn.resultTypes.toList) &&
   (c.loops==(fn.params.toList++s.plain.varTypes P).any (P.loopsFrom ·))&&(c.wideKeys==(fn.params.toList++s.plain.varTypes P++fn.resultTypes.toList).any (P.wideKeysFrom ·)) &&
   s.vars.all (P.varReadable ·)&&fn.resultTypes.all (fun t=>P.readableRec t&&decide (t<P.types.size))&&(c.ifacesOut==fn.resultTypes.toList.any (P.ifacesRec ·))&&(c.loopsOut==fn.resultTypes.toList.any (P.loopsFrom ·))&&(c.plainKeys==P.plainKeys)&&c.shortTexts.isNone&&P.stopsHeard)=true)
 (k:((c.kinds==(if c.domain.isEmpty then [] else fn.params.toList.map fun t=>match P.underlying t with | some (.int k)=>some k | _=>none))&&(c.pinned==c.pinnedBy) &&
   (c.veiled==(fn.params.toList++s.plain.varTypes P++fn.resultTypes.toList).any (P.veiledRec ·))&&c.veiledFits P fn.params.toList (fn.params.toList++s.plain.varTypes P++fn.resultTypes.toList))=true):joinedFacts P f fn s c=true:=by
 unfold joinedFacts
 rw[h,h1,h2,h3,h4,h5]
 simp only[Bool.true_and]
 simp only[Bool.and_eq_true] at k
 simp only[Bool.and_eq_true,k,and_true]
 exact⟨⟨rfl,by decide⟩,k.1.1.1⟩
end Go.Proofs.YtnboclhgeehdoaaGreat
