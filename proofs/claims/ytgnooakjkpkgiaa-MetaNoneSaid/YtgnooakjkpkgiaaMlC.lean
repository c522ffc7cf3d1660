/-
  META PAGES: MetaNone: the walk.
-/
import Derived.Test.YtgnooakjkpkgiaaMlA
namespace Go.Proofs.Ytgnooakjkpkgiaa
open Go.RowKit
set_option linter.unusedVariables false

set_option maxRecDepth 100000 in
theorem mSeal_nil1 (lg : Addr) (m : Mp) (w : World) :
    Calls Try.prog 62 #[.pointer none, .pointer (some lg), .agg (mpv m)] w fun e w' => e = .returned (.tuple #[.slice none 0 0, .int .i64 1]) ∧ Below w.heap.size w w' := by
  rw [mpv_lit]
  go_enter Try.func62, Try.ntmps62
  go_wp2_with fail
  go_ret2
  exact ⟨rfl, (Below.refl _ _).alloc (Nat.le_refl _) _⟩
set_option maxRecDepth 100000 in
theorem mSeal_nil2 (g : Addr) (m : Mp) (w : World) :
    Calls Try.prog 62 #[.pointer (some g), .pointer none, .agg (mpv m)] w fun e w' => e = .returned (.tuple #[.slice none 0 0, .int .i64 1]) ∧ Below w.heap.size w w' := by
  rw [mpv_lit]
  go_enter Try.func62, Try.ntmps62
  go_wp2_with fail
  go_ret2
  exact ⟨rfl, (Below.refl _ _).alloc (Nat.le_refl _) _⟩
/-- some pointer -/
def PtrR (v : Value) (_ : World) : Prop := ∃ g : Addr, v = .pointer (some g)
theorem PtrR.mono : Mono PtrR := fun _ _ _ h _ => h
set_option maxRecDepth 100000 in
set_option maxHeartbeats 4000000 in
theorem mnone_any (m : Mp) (sl : Int) (A : Option Addr) (n c : Nat) (w : World) :
    Calls Try.prog 12 #[.agg (mpv m), .int .i64 sl, .slice A n c] w fun e w' => e = .returned (.bool true) ∧ Below w.heap.size w w' := by
  have HK := Lib.hid known18_any
  have H1 := Lib.hid fun lg W => mSeal_nil1 lg m W
  have H2 := Lib.hid fun g W => mSeal_nil2 g m W
  have HO := Lib.hid fun W => mOpen_nil sl A n c W
  have hq := Lib.hid eq_mp0
  have M0 := Lib.hid (MpB.new w m)
  have B0 : Hid (Below w.heap.size w (w.alloc (.cells (mpv m) 95))) := Lib.hid ((Below.refl _ _).alloc (Nat.le_refl _) _)
  simp only [mpv_lit] at H1 H2 M0 B0 ⊢
  go_enter Try.func12, Try.ntmps12
  go_wp2_with fail
  obtain ⟨w0, hw0⟩ : ∃ w0, w0 = w.alloc (.cells #[.int .u64 (m.cm : Int), .int .u32 (m.pg : Int), .int .u64 (m.rc : Int), .int .u16 (m.rg : Int), .int .u8 (m.lv : Int), .int .u16 (m.gn : Int), .int .u32 (m.tn : Int)] 95) := ⟨_, rfl⟩
  rw [← hw0] at M0 B0 ⊢
  clear hw0
  refine wp_wide3 [⟨14, PtrR, [], false⟩, ⟨15, IsR (.agg #[.int .u64 (m.cm : Int), .int .u32 (m.pg : Int), .int .u64 (m.rc : Int), .int .u16 (m.rg : Int), .int .u8 (m.lv : Int), .int .u16 (m.gn : Int), .int .u32 (m.tn : Int)]), [], false⟩, ⟨16, IsR (.tuple #[.slice none 0 0, .int .i64 1]), [0, 1], false⟩, ⟨13, IsR (.tuple #[.slice none 0 0, .int .i64 1]), [2], false⟩, ⟨17, IsR (.slice none 0 0), [3], false⟩, ⟨18, IsR (.int .i64 1), [3], false⟩, ⟨7, IsR (.slice none 0 0), [4], false⟩] (by kernel_rfl) (by kernel_rfl) rfl rfl rfl ⟨?_, ?_, ?_, ?_, ?_, ?_, ?_, trivial⟩ ?_
  · refine ⟨rfl, PtrR.mono, fun a W hA hb hd => takes_plain rfl ?_⟩
    refine yields_call 23 #[] (by go_simp) ((newLog_any W).mono ?_)
    rintro e W1 ⟨gl, rfl, hgl, hcl, hb1⟩
    exact ⟨_, rfl, ⟨_, rfl⟩, hb1⟩
  · refine ⟨rfl, IsR.mono _, fun a W hA hb hd => takes_plain rfl (yields_value _ ?_ rfl)⟩
    have h3 : a.tmps[3]?.getD undef = .pointer (some ⟨w.heap.size, 0, none⟩) := (eval_get a 3).trans ((hA.eval (by simp)).trans rfl)
    obtain ⟨x0, x1, x2, x3, x4, x5, x6⟩ := (M0.out.ab hb).cells
    go_simp
  · refine ⟨rfl, IsR.mono _, fun a W hA hb hd => takes_plain rfl ?_⟩
    obtain ⟨gp, he⟩ := hd 0 (by simp) _ rfl
    have h14 : a.tmps[14]?.getD undef = .pointer (some gp) := (eval_get a 14).trans he
    have h15 : a.tmps[15]?.getD undef = .agg #[.int .u64 (m.cm : Int), .int .u32 (m.pg : Int), .int .u64 (m.rc : Int), .int .u16 (m.rg : Int), .int .u8 (m.lv : Int), .int .u16 (m.gn : Int), .int .u32 (m.tn : Int)] := (eval_get a 15).trans (hd 1 (by simp) _ rfl)
    refine yields_call 62 #[.pointer none, .pointer (some gp), .agg #[.int .u64 (m.cm : Int), .int .u32 (m.pg : Int), .int .u64 (m.rc : Int), .int .u16 (m.rg : Int), .int .u8 (m.lv : Int), .int .u16 (m.gn : Int), .int .u32 (m.tn : Int)]] (by go_simp) ((H1.out gp W).mono ?_)
    rintro e W1 ⟨rfl, hb1⟩
    exact ⟨_, rfl, rfl, hb1⟩
  · refine ⟨rfl, IsR.mono _, fun a W hA hb hd => takes_plain rfl (yields_value _ ?_ rfl)⟩
    have h16 : a.tmps[16]?.getD undef = .tuple #[.slice none 0 0, .int .i64 1] := (eval_get a 16).trans (hd 2 (by simp) _ rfl)
    go_simp
  · refine ⟨rfl, IsR.mono _, fun a W hA hb hd => takes_plain rfl (yields_value _ ?_ rfl)⟩
    have h13 : a.tmps[13]?.getD undef = .tuple #[.slice none 0 0, .int .i64 1] := (eval_get a 13).trans (hd 3 (by simp) _ rfl)
    go_simp
  · refine ⟨rfl, IsR.mono _, fun a W hA hb hd => takes_plain rfl (yields_value _ ?_ rfl)⟩
    have h13 : a.tmps[13]?.getD undef = .tuple #[.slice none 0 0, .int .i64 1] := (eval_get a 13).trans (hd 3 (by simp) _ rfl)
    go_simp
  · refine ⟨rfl, IsR.mono _, fun a W hA hb hd => takes_plain rfl (yields_value _ ?_ rfl)⟩
    have h17 : a.tmps[17]?.getD undef = .slice none 0 0 := (eval_get a 17).trans (hd 4 (by simp) _ rfl)
    go_simp
  intro vs_w1 w1 hR hF hb
  have e15 : vs_w1 15 = .agg #[.int .u64 (m.cm : Int), .int .u32 (m.pg : Int), .int .u64 (m.rc : Int), .int .u16 (m.rg : Int), .int .u8 (m.lv : Int), .int .u16 (m.gn : Int), .int .u32 (m.tn : Int)] := hR 1 _ rfl
  have e16 : vs_w1 16 = .tuple #[.slice none 0 0, .int .i64 1] := hR 2 _ rfl
  have e13 : vs_w1 13 = .tuple #[.slice none 0 0, .int .i64 1] := hR 3 _ rfl
  have e17 : vs_w1 17 = .slice none 0 0 := hR 4 _ rfl
  have e18 : vs_w1 18 = .int .i64 1 := hR 5 _ rfl
  have e7 : vs_w1 7 = .slice none 0 0 := hR 6 _ rfl
  simp only [List.map_cons, List.map_nil, List.foldl_cons, List.foldl_nil, List.length_cons, List.length_nil, List.drop_succ_cons, List.drop_zero, Act.put, List.setIfInBounds_toArray, List.set_cons_zero, List.set_cons_succ, e15, e16, e13, e17, e18, e7]
  have M1 := Lib.hid (M0.out.ab hb)
  have B1 := Lib.hid (below_tr B0.out hb B0.out.size)
  clear hR hF hb e15 e16 e13 e17 e18 e7 M0 B0
  generalize vs_w1 14 = q14 at *
  go_wp2_with fail
  refine wp_wide3 [⟨20, PtrR, [], false⟩, ⟨21, IsR (.agg #[.int .u64 (m.cm : Int), .int .u32 (m.pg : Int), .int .u64 (m.rc : Int), .int .u16 (m.rg : Int), .int .u8 (m.lv : Int), .int .u16 (m.gn : Int), .int .u32 (m.tn : Int)]), [], false⟩, ⟨22, IsR (.tuple #[.slice none 0 0, .int .i64 1]), [0, 1], false⟩, ⟨19, IsR (.tuple #[.slice none 0 0, .int .i64 1]), [2], false⟩, ⟨23, IsR (.slice none 0 0), [3], false⟩, ⟨24, IsR (.int .i64 1), [3], false⟩, ⟨9, IsR (.slice none 0 0), [4], false⟩] (by kernel_rfl) (by kernel_rfl) rfl rfl rfl ⟨?_, ?_, ?_, ?_, ?_, ?_, ?_, trivial⟩ ?_
  · refine ⟨rfl, PtrR.mono, fun a W hA hb hd => takes_plain rfl ?_⟩
    refine yields_call 63 #[] (by go_simp) ((newRing_any W).mono ?_)
    rintro e W1 ⟨gl, mm, rfl, hgl, hcl, hb1⟩
    exact ⟨_, rfl, ⟨_, rfl⟩, hb1⟩
  · refine ⟨rfl, IsR.mono _, fun a W hA hb hd => takes_plain rfl (yields_value _ ?_ rfl)⟩
    have h3 : a.tmps[3]?.getD undef = .pointer (some ⟨w.heap.size, 0, none⟩) := (eval_get a 3).trans ((hA.eval (by simp)).trans rfl)
    obtain ⟨x0, x1, x2, x3, x4, x5, x6⟩ := (M1.out.ab hb).cells
    go_simp
  · refine ⟨rfl, IsR.mono _, fun a W hA hb hd => takes_plain rfl ?_⟩
    obtain ⟨gp, he⟩ := hd 0 (by simp) _ rfl
    have h20 : a.tmps[20]?.getD undef = .pointer (some gp) := (eval_get a 20).trans he
    have h21 : a.tmps[21]?.getD undef = .agg #[.int .u64 (m.cm : Int), .int .u32 (m.pg : Int), .int .u64 (m.rc : Int), .int .u16 (m.rg : Int), .int .u8 (m.lv : Int), .int .u16 (m.gn : Int), .int .u32 (m.tn : Int)] := (eval_get a 21).trans (hd 1 (by simp) _ rfl)
    refine yields_call 62 #[.pointer (some gp), .pointer none, .agg #[.int .u64 (m.cm : Int), .int .u32 (m.pg : Int), .int .u64 (m.rc : Int), .int .u16 (m.rg : Int), .int .u8 (m.lv : Int), .int .u16 (m.gn : Int), .int .u32 (m.tn : Int)]] (by go_simp) ((H2.out gp W).mono ?_)
    rintro e W1 ⟨rfl, hb1⟩
    exact ⟨_, rfl, rfl, hb1⟩
  · refine ⟨rfl, IsR.mono _, fun a W hA hb hd => takes_plain rfl (yields_value _ ?_ rfl)⟩
    have h22 : a.tmps[22]?.getD undef = .tuple #[.slice none 0 0, .int .i64 1] := (eval_get a 22).trans (hd 2 (by simp) _ rfl)
    go_simp
  · refine ⟨rfl, IsR.mono _, fun a W hA hb hd => takes_plain rfl (yields_value _ ?_ rfl)⟩
    have h19 : a.tmps[19]?.getD undef = .tuple #[.slice none 0 0, .int .i64 1] := (eval_get a 19).trans (hd 3 (by simp) _ rfl)
    go_simp
  · refine ⟨rfl, IsR.mono _, fun a W hA hb hd => takes_plain rfl (yields_value _ ?_ rfl)⟩
    have h19 : a.tmps[19]?.getD undef = .tuple #[.slice none 0 0, .int .i64 1] := (eval_get a 19).trans (hd 3 (by simp) _ rfl)
    go_simp
  · refine ⟨rfl, IsR.mono _, fun a W hA hb hd => takes_plain rfl (yields_value _ ?_ rfl)⟩
    have h23 : a.tmps[23]?.getD undef = .slice none 0 0 := (eval_get a 23).trans (hd 4 (by simp) _ rfl)
    go_simp
  intro vs_w2 w2 hR hF hb
  have e21 : vs_w2 21 = .agg #[.int .u64 (m.cm : Int), .int .u32 (m.pg : Int), .int .u64 (m.rc : Int), .int .u16 (m.rg : Int), .int .u8 (m.lv : Int), .int .u16 (m.gn : Int), .int .u32 (m.tn : Int)] := hR 1 _ rfl
  have e22 : vs_w2 22 = .tuple #[.slice none 0 0, .int .i64 1] := hR 2 _ rfl
  have e19 : vs_w2 19 = .tuple #[.slice none 0 0, .int .i64 1] := hR 3 _ rfl
  have e23 : vs_w2 23 = .slice none 0 0 := hR 4 _ rfl
  have e24 : vs_w2 24 = .int .i64 1 := hR 5 _ rfl
  have e9 : vs_w2 9 = .slice none 0 0 := hR 6 _ rfl
  simp only [List.map_cons, List.map_nil, List.foldl_cons, List.foldl_nil, List.length_cons, List.length_nil, List.drop_succ_cons, List.drop_zero, Act.put, List.setIfInBounds_toArray, List.set_cons_zero, List.set_cons_succ, e21, e22, e19, e23, e24, e9]
  have M2 := Lib.hid (M1.out.ab hb)
  have B2 := Lib.hid (below_tr B1.out hb B1.out.size)
  clear hR hF hb e21 e22 e19 e23 e24 e9 M1 B1
  generalize vs_w2 20 = q20 at *
  go_wp2_with fail
  refine (HO.out _).mono ?_
  rintro e w3 ⟨rfl, hb⟩
  have B3 := Lib.hid (below_tr B2.out hb B2.out.size)
  have EW : Hid (opnV ⟨mp0, 1⟩ = .tuple #[.agg #[.int .u64 0, .int .u32 0, .int .u64 0, .int .u16 0, .int .u8 0, .int .u16 0, .int .u32 0], .int .i64 1]) := Lib.hid rfl
  rw [EW.out]
  have hq2 := hq.out
  clear hb
  go_wp2_with fail
  refine (HK.out _).mono ?_
  rintro e w6 ⟨rfl, hb⟩
  have B6 := Lib.hid (below_tr (B3.out.alloc B3.out.size _) hb (B3.out.alloc B3.out.size _).size)
  clear hb hq2
  go_wp2_with fail
  go_ret
  exact ⟨rfl, B6.out⟩
set_option maxRecDepth 100000 in
theorem mnone_walk (v : Value) (sl : Int) (A : Option Addr) (n c : Nat) (z : List Int) (w : World) (hk : ∃ base, Value.okWide Try.prog w .any base 95 v) {H : Type} {enc : TypeId × Value → H} {d : DataW H} {p : List MemPlace} (_ : DataW.Trod enc Try.prog w 0 (fun _ => true) true 95 v d p) (_ : ∀ x ∈ p, x.block < w.heap.size)
    (_ : (Lit.int .i64 sl).wf = true) (_ : IsRow .u8 w A n c z) (_ : c * 1 ≤ 140737488351232) :
    Calls Try.prog 12 #[v, .int .i64 sl, .slice A n c] w fun e w' => e = .returned (.bool true) ∧ Below w.heap.size w w' := by
  obtain ⟨base, hk⟩ := hk
  obtain ⟨m, rfl, hm⟩ := open_meta hk
  exact mnone_any m sl A n c w
end Go.Proofs.Ytgnooakjkpkgiaa
