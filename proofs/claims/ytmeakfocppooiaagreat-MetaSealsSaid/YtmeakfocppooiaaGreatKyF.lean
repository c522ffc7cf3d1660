/-
  META PAGES: the reference's Seal.
-/
import Derived.Test.YtmeakfocppooiaaGreatMtP
import Derived.Test.YtmeakfocppooiaaGreatRkB
namespace Go.Proofs.YtmeakfocppooiaaGreat
open Go.RowKit
set_option linter.unusedVariables false

set_option maxRecDepth 100000 in
set_option maxHeartbeats 4000000 in
theorem rSeal_any (B g : Nat) (v : Value) (vs : List ((Nat × Nat) × Value)) (l : RgL) (m : Mp) (w : World) (hr : RkB w B g v vs l) (h200 : l.length ≤ 1000) (hm : m.Ok) :
    Calls Tryz.prog 13 #[.pointer (some ⟨g, 0, none⟩), .agg (mpv m)] w (OutB w (mSealP l m).1 (mSealP l m).2) := by
  have M0 := Lib.hid (MpB.new w m)
  have B0 : Hid (Below w.heap.size w (w.alloc (.cells (mpv m) 31))) := Lib.hid ((Below.refl _ _).alloc (Nat.le_refl _) _)
  have HR := Lib.hid hr
  have HQ := Lib.hid fun W => rright_any m W
  have HL := Lib.hid fun W => rlabel_any m W
  have HB := Lib.hid fun W => rbytes_any m W hm
  have LO := Lib.hid (labM_ok hm)
  have mlit : mpv m = #[.int .u64 (m.cm : Int), .int .u32 (m.pg : Int), .int .u64 (m.rc : Int), .int .u16 (m.rg : Int), .int .u8 (m.lv : Int), .int .u16 (m.gn : Int), .int .u32 (m.tn : Int)] := rfl
  unfold mSealP
  rw [mlit] at HQ HL HB B0 ⊢
  rw [lab_cells] at HL
  cases hb : rightB m with
  | false =>
    rw [hb] at HQ
    simp only [cond_false]
    obtain ⟨x0, x1, x2, x3, x4, x5, x6⟩ := M0.out.cells
    rw [mlit] at x0 x1 x2 x3 x4 x5 x6
    clear hr h200 hm hb mlit
    go_enter Tryz.func13, Tryz.ntmps13
    go_wp2_with fail
    refine (HQ.out _).mono ?_
    rintro e w1 ⟨rfl, hb⟩
    have B1 := Lib.hid (below_tr B0.out hb B0.out.size)
    clear hb
    go_wp2_with fail
    go_ret2
    exact OutB.refused 2 B1.out
  | true =>
    rw [hb] at HQ
    simp only [cond_true]
    cases hk : getR (0, m.gn) l with
    | none =>
      simp only
      have HA := Lib.hid fun W h => rat_any B g 0 m.gn v vs l W h (by decide) hm.gn h200 (-1) (.inl ⟨rfl, hk⟩)
      obtain ⟨x0, x1, x2, x3, x4, x5, x6⟩ := M0.out.cells
      rw [mlit] at x0 x1 x2 x3 x4 x5 x6
      clear hr h200 hm hb hk
      go_enter Tryz.func13, Tryz.ntmps13
      go_wp2_with fail
      refine (HQ.out _).mono ?_
      rintro e w1 ⟨rfl, hb⟩
      have B1 := Lib.hid (below_tr B0.out hb B0.out.size)
      have M1 := Lib.hid (M0.out.ab hb)
      obtain ⟨y0, y1, y2, y3, y4, y5, y6⟩ := M1.out.cells
      clear hb x0 x1 x2 x3 x4 x5 x6 mlit
      go_wp2_with fail
      refine (HA.out _ (HR.out.ab B1.out)).mono ?_
      rintro e w' ⟨rfl, rfl⟩
      go_wp2_with fail
      go_ret2
      exact OutB.refused 7 B1.out
    | some k =>
      simp only
      obtain ⟨i, hx, hno⟩ := getR_idx hk
      have HA := Lib.hid fun W h => rat_any B g 0 m.gn v vs l W h (by decide) hm.gn h200 (i : Int) (.inr ⟨i, k, rfl, hx, hno⟩)
      have HX := Lib.hid hx
      have LL := Lib.hid (List.getElem?_eq_some_iff.1 hx).1
      have HO := Lib.hid fun kA kc W h1 tA tn tc h2 => rlseal_any kA tA k.length kc tn tc (labM m) k (mbytes m) W LO.out h1 h2
      rw [lab_cells] at HO
      have hl224 := mbytes_len m
      generalize sealP k (labM m) (mbytes m) = X at *
      obtain ⟨pay, er⟩ := X
      simp only at HO ⊢
      obtain ⟨x0, x1, x2, x3, x4, x5, x6⟩ := M0.out.cells
      rw [mlit] at x0 x1 x2 x3 x4 x5 x6
      clear hr h200 hm hb hk hx hno
      go_enter Tryz.func13, Tryz.ntmps13
      go_wp2_with fail
      refine (HQ.out _).mono ?_
      rintro e w1 ⟨rfl, hb⟩
      have B1 := Lib.hid (below_tr B0.out hb B0.out.size)
      have M1 := Lib.hid (M0.out.ab hb)
      obtain ⟨y0, y1, y2, y3, y4, y5, y6⟩ := M1.out.cells
      clear hb x0 x1 x2 x3 x4 x5 x6 mlit
      go_wp2_with fail
      refine (HA.out _ (HR.out.ab B1.out)).mono ?_
      rintro e w' ⟨rfl, rfl⟩
      go_wp2_with fail
      have R3 := Lib.hid (HR.out.ab B1.out)
      obtain ⟨gb, cap, hve, hgb, hgl, _, _, hcl⟩ := R3.out.form (by have := LL.out; omega)
      obtain ⟨u, _, _, c2, ho⟩ := hcl i _ HX.out
      obtain ⟨kA, kc, rfl, _, _⟩ := ho.shape
      subst hve
      have K3 := Lib.hid (ho.isB rfl)
      have C2 := Lib.hid c2
      have GL := Lib.hid hgl
      have hin : (i : Int) < (l.length : Int) := by have := LL.out; omega
      clear hcl ho c2 hgl hgb y0 y1 y2 y3 y4 y5 y6
      refine wp_wide3 [⟨16, IsR (.pointer (some ⟨g, 0, none⟩)), [], false⟩, ⟨17, IsR (.pointer (some ⟨g, 0, none⟩)), [0], false⟩, ⟨18, IsR (.pointer (some ⟨g, 0, none⟩)), [1], false⟩, ⟨19, IsR (.slice (some ⟨gb, 0, none⟩) l.length cap), [2], false⟩, ⟨20, IsR (.int .i64 (i : Int)), [], false⟩, ⟨21, IsR (.pointer (some ⟨gb, i * 3, none⟩)), [3, 4], false⟩, ⟨22, IsR (.pointer (some ⟨gb, i * 3 + 2, none⟩)), [5], false⟩, ⟨23, IsR (.slice kA k.length kc), [6], false⟩, ⟨24, IsR (.agg #[.int .u64 (m.cm : Int), .int .u32 (m.pg : Int), .int .u64 (m.rc : Int), .int .u16 (m.rg : Int), .int .u8 (m.lv : Int), .int .u16 (m.gn : Int), .int .u32 (m.tn : Int)]), [], false⟩, ⟨25, IsR (.agg #[.int .u32 ((labM m).ten : Int), .int .u8 ((labM m).k : Int), .int .u8 ((labM m).lv : Int), .int .u32 ((labM m).pg : Int), .int .u64 ((labM m).cm : Int), .int .u16 ((labM m).gn : Int)]), [8], false⟩, ⟨26, IsR (.agg #[.int .u64 (m.cm : Int), .int .u32 (m.pg : Int), .int .u64 (m.rc : Int), .int .u16 (m.rg : Int), .int .u8 (m.lv : Int), .int .u16 (m.gn : Int), .int .u32 (m.tn : Int)]), [], false⟩, ⟨27, OwR w1.heap.size (mbytes m), [10], false⟩, ⟨28, TupB w1.heap.size er pay, [7, 9, 11], false⟩, ⟨29, OwR w1.heap.size (pay), [12], false⟩, ⟨30, IsR (.int .i64 (er : Int)), [12], false⟩, ⟨4, OwR w1.heap.size (pay), [13], false⟩] (by kernel_rfl) (by kernel_rfl) rfl rfl rfl ⟨?_, ?_, ?_, ?_, ?_, ?_, ?_, ?_, ?_, ?_, ?_, ?_, ?_, ?_, ?_, ?_, trivial⟩ ?_
      · refine ⟨rfl, IsR.mono _, fun a W hA hb hd => takes_plain rfl (yields_value _ ?_ rfl)⟩
        have h0 : a.tmps[0]?.getD undef = .pointer (some ⟨g, 0, none⟩) := (eval_get a 0).trans ((hA.eval (by simp)).trans rfl)
        go_simp
      · refine ⟨rfl, IsR.mono _, fun a W hA hb hd => takes_plain rfl (yields_value _ ?_ rfl)⟩
        have h16 : a.tmps[16]?.getD undef = .pointer (some ⟨g, 0, none⟩) := (eval_get a 16).trans (hd 0 (by simp) _ rfl)
        go_simp
      · refine ⟨rfl, IsR.mono _, fun a W hA hb hd => takes_plain rfl (yields_value _ ?_ rfl)⟩
        have h17 : a.tmps[17]?.getD undef = .pointer (some ⟨g, 0, none⟩) := (eval_get a 17).trans (hd 1 (by simp) _ rfl)
        go_simp
      · refine ⟨rfl, IsR.mono _, fun a W hA hb hd => takes_plain rfl (yields_value _ ?_ rfl)⟩
        have h18 : a.tmps[18]?.getD undef = .pointer (some ⟨g, 0, none⟩) := (eval_get a 18).trans (hd 2 (by simp) _ rfl)
        have hc : W.cell? ⟨g, 0, none⟩ = some (.slice (some ⟨gb, 0, none⟩) l.length cap) := (R3.out.box.ab hb).cell (k := 0) rfl
        go_simp
      · refine ⟨rfl, IsR.mono _, fun a W hA hb hd => takes_plain rfl (yields_value _ ?_ rfl)⟩
        have h6 : a.tmps[6]?.getD undef = .int .i64 (i : Int) := (eval_get a 6).trans ((hA.eval (by simp)).trans rfl)
        go_simp
      · refine ⟨rfl, IsR.mono _, fun a W hA hb hd => takes_plain rfl (yields_value _ ?_ rfl)⟩
        have h19 : a.tmps[19]?.getD undef = .slice (some ⟨gb, 0, none⟩) l.length cap := (eval_get a 19).trans (hd 3 (by simp) _ rfl)
        have h20 : a.tmps[20]?.getD undef = .int .i64 (i : Int) := (eval_get a 20).trans (hd 4 (by simp) _ rfl)
        go_simp
      · refine ⟨rfl, IsR.mono _, fun a W hA hb hd => takes_plain rfl (yields_value _ ?_ rfl)⟩
        have h21 : a.tmps[21]?.getD undef = .pointer (some ⟨gb, i * 3, none⟩) := (eval_get a 21).trans (hd 5 (by simp) _ rfl)
        go_simp
      · refine ⟨rfl, IsR.mono _, fun a W hA hb hd => takes_plain rfl (yields_value _ ?_ rfl)⟩
        have h22 : a.tmps[22]?.getD undef = .pointer (some ⟨gb, i * 3 + 2, none⟩) := (eval_get a 22).trans (hd 6 (by simp) _ rfl)
        have hc : W.cell? ⟨gb, i * 3 + 2, none⟩ = some (.slice kA k.length kc) := (World.cell?_of_block (hb.block _ GL.out)).trans C2.out
        go_simp
      · refine ⟨rfl, IsR.mono _, fun a W hA hb hd => takes_plain rfl (yields_value _ ?_ rfl)⟩
        have h3 : a.tmps[3]?.getD undef = .pointer (some ⟨w.heap.size, 0, none⟩) := (eval_get a 3).trans ((hA.eval (by simp)).trans rfl)
        obtain ⟨x0, x1, x2, x3, x4, x5, x6⟩ := (M1.out.ab hb).cells
        go_simp
      · refine ⟨rfl, IsR.mono _, fun a W hA hb hd => takes_plain rfl ?_⟩
        have h24 : a.tmps[24]?.getD undef = .agg #[.int .u64 (m.cm : Int), .int .u32 (m.pg : Int), .int .u64 (m.rc : Int), .int .u16 (m.rg : Int), .int .u8 (m.lv : Int), .int .u16 (m.gn : Int), .int .u32 (m.tn : Int)] := (eval_get a 24).trans (hd 8 (by simp) _ rfl)
        refine yields_call 59 #[.agg #[.int .u64 (m.cm : Int), .int .u32 (m.pg : Int), .int .u64 (m.rc : Int), .int .u16 (m.rg : Int), .int .u8 (m.lv : Int), .int .u16 (m.gn : Int), .int .u32 (m.tn : Int)]] (by go_simp) ((HL.out W).mono ?_)
        rintro e W1 ⟨rfl, hb1⟩
        exact ⟨_, rfl, rfl, hb1⟩
      · refine ⟨rfl, IsR.mono _, fun a W hA hb hd => takes_plain rfl (yields_value _ ?_ rfl)⟩
        have h3 : a.tmps[3]?.getD undef = .pointer (some ⟨w.heap.size, 0, none⟩) := (eval_get a 3).trans ((hA.eval (by simp)).trans rfl)
        obtain ⟨x0, x1, x2, x3, x4, x5, x6⟩ := (M1.out.ab hb).cells
        go_simp
      · refine ⟨rfl, OwR.mono _ _, fun a W hA hb hd => takes_plain rfl ?_⟩
        have h26 : a.tmps[26]?.getD undef = .agg #[.int .u64 (m.cm : Int), .int .u32 (m.pg : Int), .int .u64 (m.rc : Int), .int .u16 (m.rg : Int), .int .u8 (m.lv : Int), .int .u16 (m.gn : Int), .int .u32 (m.tn : Int)] := (eval_get a 26).trans (hd 10 (by simp) _ rfl)
        refine yields_call 60 #[.agg #[.int .u64 (m.cm : Int), .int .u32 (m.pg : Int), .int .u64 (m.rc : Int), .int .u16 (m.rg : Int), .int .u8 (m.lv : Int), .int .u16 (m.gn : Int), .int .u32 (m.tn : Int)]] (by go_simp) ((HB.out W).mono ?_)
        rintro e W1 ⟨v4, rfl, hv, hb1⟩
        exact ⟨_, rfl, hv.lower hb.size, hb1⟩
      · refine ⟨rfl, TupB.mono _ _ _, fun a W hA hb hd => takes_plain rfl ?_⟩
        have h23 : a.tmps[23]?.getD undef = .slice kA k.length kc := (eval_get a 23).trans (hd 7 (by simp) _ rfl)
        have h25 : a.tmps[25]?.getD undef = .agg #[.int .u32 ((labM m).ten : Int), .int .u8 ((labM m).k : Int), .int .u8 ((labM m).lv : Int), .int .u32 ((labM m).pg : Int), .int .u64 ((labM m).cm : Int), .int .u16 ((labM m).gn : Int)] := (eval_get a 25).trans (hd 9 (by simp) _ rfl)
        have ho : OwB W w1.heap.size (a.eval (.tmp 27)) (mbytes m) := hd 11 (by simp) _ rfl
        obtain ⟨A7, c7, e7, _, _⟩ := ho.shape
        have h27 : a.tmps[27]?.getD undef = .slice A7 (mbytes m).length c7 := (eval_get a 27).trans e7
        rw [e7] at ho
        refine yields_call 58 #[.slice kA k.length kc, .agg #[.int .u32 ((labM m).ten : Int), .int .u8 ((labM m).k : Int), .int .u8 ((labM m).lv : Int), .int .u32 ((labM m).pg : Int), .int .u64 ((labM m).cm : Int), .int .u16 ((labM m).gn : Int)], .slice A7 (mbytes m).length c7] (by go_simp) ((HO.out _ _ W (K3.out.ab hb) _ _ _ (ho.isB rfl)).mono ?_)
        rintro e W1 ⟨v4, rfl, hv, hb1⟩
        exact ⟨_, rfl, ⟨v4, rfl, hv.lower hb.size⟩, hb1⟩
      · refine ⟨rfl, OwR.mono _ _, fun a W hA hb hd => takes_plain rfl ?_⟩
        obtain ⟨v0, e0, ho⟩ := hd 12 (by simp) _ rfl
        have h0 : a.tmps[28]?.getD undef = .tuple #[v0, .int .i64 ((er : Nat) : Int)] := (eval_get a 28).trans e0
        refine yields_value v0 ?_ ho
        go_simp
      · refine ⟨rfl, IsR.mono _, fun a W hA hb hd => takes_plain rfl ?_⟩
        obtain ⟨v0, e0, ho⟩ := hd 12 (by simp) _ rfl
        have h0 : a.tmps[28]?.getD undef = .tuple #[v0, .int .i64 ((er : Nat) : Int)] := (eval_get a 28).trans e0
        refine yields_value (.int .i64 (er : Int)) ?_ rfl
        go_simp
      · refine ⟨rfl, OwR.mono _ _, fun a W hA hb hd => takes_plain rfl ?_⟩
        have ho : OwB W w1.heap.size (a.eval (.tmp 29)) (pay) := hd 13 (by simp) _ rfl
        exact yields_value (a.eval (.tmp 29)) (exec_assign (.tmp 29) rfl W) ho
      intro vs w4 hR hF hb
      have hV : OwB w4 w1.heap.size (vs 4) pay := hR 15 _ rfl
      have V4 := Lib.hid (hV.lower B1.out.size)
      have e16 : vs 16 = .pointer (some ⟨g, 0, none⟩) := hR 0 _ rfl
      have e17 : vs 17 = .pointer (some ⟨g, 0, none⟩) := hR 1 _ rfl
      have e18 : vs 18 = .pointer (some ⟨g, 0, none⟩) := hR 2 _ rfl
      have e19 : vs 19 = .slice (some ⟨gb, 0, none⟩) l.length cap := hR 3 _ rfl
      have e20 : vs 20 = .int .i64 (i : Int) := hR 4 _ rfl
      have e21 : vs 21 = .pointer (some ⟨gb, i * 3, none⟩) := hR 5 _ rfl
      have e22 : vs 22 = .pointer (some ⟨gb, i * 3 + 2, none⟩) := hR 6 _ rfl
      have e23 : vs 23 = .slice kA k.length kc := hR 7 _ rfl
      have e24 : vs 24 = .agg #[.int .u64 (m.cm : Int), .int .u32 (m.pg : Int), .int .u64 (m.rc : Int), .int .u16 (m.rg : Int), .int .u8 (m.lv : Int), .int .u16 (m.gn : Int), .int .u32 (m.tn : Int)] := hR 8 _ rfl
      have e25 : vs 25 = .agg #[.int .u32 ((labM m).ten : Int), .int .u8 ((labM m).k : Int), .int .u8 ((labM m).lv : Int), .int .u32 ((labM m).pg : Int), .int .u64 ((labM m).cm : Int), .int .u16 ((labM m).gn : Int)] := hR 9 _ rfl
      have e26 : vs 26 = .agg #[.int .u64 (m.cm : Int), .int .u32 (m.pg : Int), .int .u64 (m.rc : Int), .int .u16 (m.rg : Int), .int .u8 (m.lv : Int), .int .u16 (m.gn : Int), .int .u32 (m.tn : Int)] := hR 10 _ rfl
      have e30 : vs 30 = .int .i64 (er : Int) := hR 14 _ rfl
      simp only [List.map_cons, List.map_nil, List.foldl_cons, List.foldl_nil, List.length_cons, List.length_nil, List.drop_succ_cons, List.drop_zero, Act.put, List.setIfInBounds_toArray, List.set_cons_zero, List.set_cons_succ, e16, e17, e18, e19, e20, e21, e22, e23, e24, e25, e26, e30]
      have B4 := Lib.hid (below_tr B1.out hb B1.out.size)
      clear hR hF hb hV e16 e17 e18 e19 e20 e21 e22 e23 e24 e25 e26 e30
      generalize vs 27 = q27 at *
      generalize vs 28 = q28 at *
      generalize vs 29 = q29 at *
      generalize vs 4 = q4 at *
      go_wp2_with fail
      go_ret2
      exact ⟨_, rfl, V4.out, B4.out⟩
end Go.Proofs.YtmeakfocppooiaaGreat
