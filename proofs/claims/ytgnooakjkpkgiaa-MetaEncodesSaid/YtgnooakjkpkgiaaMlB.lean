/-
  META PAGES: MetaEncodes, MetaNone: the walks.
-/
import Derived.Test.YtgnooakjkpkgiaaMlA
namespace Go.Proofs.Ytgnooakjkpkgiaa
open Go.RowKit
set_option linter.unusedVariables false

set_option maxRecDepth 100000 in
set_option maxHeartbeats 4000000 in
theorem mencodes_any (m : Mp) (w : World) (hm : m.Ok) :
    Calls Try.prog 9 #[.agg (mpv m)] w fun e w' => e = .returned (.bool true) ∧ Below w.heap.size w w' := by
  have HK := Lib.hid known18_any
  have HR := Lib.hid fun W => right_any m W
  have HE := Lib.hid fun W => encode_any m W hm
  have HL := Lib.hid fun W => labelOf_any m W
  have HM := Lib.hid fun W => rlabel_any m W
  have HQ := Lib.hid fun W => rright_any m W
  have HB := Lib.hid fun W => rbytes_any m W hm
  have hq := Lib.hid fun W => eq_lab (labM m) (labM m) W
  have M0 := Lib.hid (MpB.new w m)
  have B0 : Hid (Below w.heap.size w (w.alloc (.cells (mpv m) 95))) := Lib.hid ((Below.refl _ _).alloc (Nat.le_refl _) _)
  have hml := mbytes_len m
  simp only [mpv_lit, lab_cells, decide_true] at HR HE HL HM HQ HB hq M0 B0 ⊢
  unfold encP at HE
  unfold rightE at HR
  cases hr : rightB m
  all_goals
    rw [hr] at HR HE HQ
    simp only [cond_true, cond_false] at HR HE
    clear hr
    go_enter Try.func9, Try.ntmps9
    go_wp2_with fail
    refine (HR.out _).mono ?_
    rintro e w1 ⟨rfl, hb⟩
    have M1 := Lib.hid (M0.out.ab hb)
    have B1 := Lib.hid (below_tr B0.out hb B0.out.size)
    clear hb
    obtain ⟨x0, x1, x2, x3, x4, x5, x6⟩ := M1.out.cells
    go_wp2_with fail
    refine (HE.out _).mono ?_
    rintro e w2 ⟨v, rfl, hv, hb⟩
    obtain ⟨A2, c2, rfl, _, _⟩ := hv.shape
    have I2 := Lib.hid (hv.isB rfl)
    have M2 := Lib.hid (M1.out.ab hb)
    have B2 := Lib.hid (below_tr B1.out hb B1.out.size)
    clear hv hb x0 x1 x2 x3 x4 x5 x6 M1 B1
    go_wp2_with fail
    refine wp_wide3 [⟨13, IsR (.agg #[.int .u64 (m.cm : Int), .int .u32 (m.pg : Int), .int .u64 (m.rc : Int), .int .u16 (m.rg : Int), .int .u8 (m.lv : Int), .int .u16 (m.gn : Int), .int .u32 (m.tn : Int)]), [], false⟩, ⟨14, IsR (.agg #[.int .u32 ((labM m).ten : Int), .int .u8 ((labM m).k : Int), .int .u8 ((labM m).lv : Int), .int .u32 ((labM m).pg : Int), .int .u64 ((labM m).cm : Int), .int .u16 ((labM m).gn : Int)]), [0], false⟩, ⟨15, IsR (.agg #[.int .u64 (m.cm : Int), .int .u32 (m.pg : Int), .int .u64 (m.rc : Int), .int .u16 (m.rg : Int), .int .u8 (m.lv : Int), .int .u16 (m.gn : Int), .int .u32 (m.tn : Int)]), [], false⟩, ⟨16, IsR (.agg #[.int .u32 ((labM m).ten : Int), .int .u8 ((labM m).k : Int), .int .u8 ((labM m).lv : Int), .int .u32 ((labM m).pg : Int), .int .u64 ((labM m).cm : Int), .int .u16 ((labM m).gn : Int)]), [2], false⟩] (by kernel_rfl) (by kernel_rfl) rfl rfl rfl ⟨?_, ?_, ?_, ?_, trivial⟩ ?_
    · refine ⟨rfl, IsR.mono _, fun a W hA hb hd => takes_plain rfl (yields_value _ ?_ rfl)⟩
      have h1 : a.tmps[1]?.getD undef = .pointer (some ⟨w.heap.size, 0, none⟩) := (eval_get a 1).trans ((hA.eval (by simp)).trans rfl)
      obtain ⟨x0, x1, x2, x3, x4, x5, x6⟩ := (M2.out.ab hb).cells
      go_simp
    · refine ⟨rfl, IsR.mono _, fun a W hA hb hd => takes_plain rfl ?_⟩
      have h13 : a.tmps[13]?.getD undef = .agg #[.int .u64 (m.cm : Int), .int .u32 (m.pg : Int), .int .u64 (m.rc : Int), .int .u16 (m.rg : Int), .int .u8 (m.lv : Int), .int .u16 (m.gn : Int), .int .u32 (m.tn : Int)] := (eval_get a 13).trans (hd 0 (by simp) _ rfl)
      refine yields_call 52 #[.agg #[.int .u64 (m.cm : Int), .int .u32 (m.pg : Int), .int .u64 (m.rc : Int), .int .u16 (m.rg : Int), .int .u8 (m.lv : Int), .int .u16 (m.gn : Int), .int .u32 (m.tn : Int)]] (by go_simp) ((HL.out W).mono ?_)
      rintro e W1 ⟨rfl, hb1⟩
      exact ⟨_, rfl, rfl, hb1⟩
    · refine ⟨rfl, IsR.mono _, fun a W hA hb hd => takes_plain rfl (yields_value _ ?_ rfl)⟩
      have h1 : a.tmps[1]?.getD undef = .pointer (some ⟨w.heap.size, 0, none⟩) := (eval_get a 1).trans ((hA.eval (by simp)).trans rfl)
      obtain ⟨x0, x1, x2, x3, x4, x5, x6⟩ := (M2.out.ab hb).cells
      go_simp
    · refine ⟨rfl, IsR.mono _, fun a W hA hb hd => takes_plain rfl ?_⟩
      have h15 : a.tmps[15]?.getD undef = .agg #[.int .u64 (m.cm : Int), .int .u32 (m.pg : Int), .int .u64 (m.rc : Int), .int .u16 (m.rg : Int), .int .u8 (m.lv : Int), .int .u16 (m.gn : Int), .int .u32 (m.tn : Int)] := (eval_get a 15).trans (hd 2 (by simp) _ rfl)
      refine yields_call 53 #[.agg #[.int .u64 (m.cm : Int), .int .u32 (m.pg : Int), .int .u64 (m.rc : Int), .int .u16 (m.rg : Int), .int .u8 (m.lv : Int), .int .u16 (m.gn : Int), .int .u32 (m.tn : Int)]] (by go_simp) ((HM.out W).mono ?_)
      rintro e W1 ⟨rfl, hb1⟩
      exact ⟨_, rfl, rfl, hb1⟩
    intro vs3 w3 hR hF hb
    have e13 : vs3 13 = .agg #[.int .u64 (m.cm : Int), .int .u32 (m.pg : Int), .int .u64 (m.rc : Int), .int .u16 (m.rg : Int), .int .u8 (m.lv : Int), .int .u16 (m.gn : Int), .int .u32 (m.tn : Int)] := hR 0 _ rfl
    have e14 : vs3 14 = .agg #[.int .u32 ((labM m).ten : Int), .int .u8 ((labM m).k : Int), .int .u8 ((labM m).lv : Int), .int .u32 ((labM m).pg : Int), .int .u64 ((labM m).cm : Int), .int .u16 ((labM m).gn : Int)] := hR 1 _ rfl
    have e15 : vs3 15 = .agg #[.int .u64 (m.cm : Int), .int .u32 (m.pg : Int), .int .u64 (m.rc : Int), .int .u16 (m.rg : Int), .int .u8 (m.lv : Int), .int .u16 (m.gn : Int), .int .u32 (m.tn : Int)] := hR 2 _ rfl
    have e16 : vs3 16 = .agg #[.int .u32 ((labM m).ten : Int), .int .u8 ((labM m).k : Int), .int .u8 ((labM m).lv : Int), .int .u32 ((labM m).pg : Int), .int .u64 ((labM m).cm : Int), .int .u16 ((labM m).gn : Int)] := hR 3 _ rfl
    simp only [List.map_cons, List.map_nil, List.foldl_cons, List.foldl_nil, List.length_cons, List.length_nil, List.drop_succ_cons, List.drop_zero, Act.put, List.setIfInBounds_toArray, List.set_cons_zero, List.set_cons_succ, e13, e14, e15, e16]
    have I3 := Lib.hid (I2.out.ab hb)
    have M3 := Lib.hid (M2.out.ab hb)
    have B3 := Lib.hid (below_tr B2.out hb B2.out.size)
    clear hR hF hb e13 e14 e15 e16 M2 B2 I2
    have hq2 := hq.out
    obtain ⟨x0, x1, x2, x3, x4, x5, x6⟩ := M3.out.cells
    go_wp2_with fail
    clear hq2
    refine (HQ.out _).mono ?_
    rintro e w4 ⟨rfl, hb⟩
    have I4 := Lib.hid (I3.out.ab hb)
    have M4 := Lib.hid (M3.out.ab hb)
    have B4 := Lib.hid (below_tr B3.out hb B3.out.size)
    clear hb M3 B3 I3 x0 x1 x2 x3 x4 x5 x6
    obtain ⟨x0, x1, x2, x3, x4, x5, x6⟩ := M4.out.cells
    go_wp2_with fail
  · refine (HK.out _).mono ?_
    rintro e w5 ⟨rfl, hb⟩
    have B5 := Lib.hid (below_tr B4.out hb B4.out.size)
    clear hb
    go_wp2_with fail
    go_ret
    exact ⟨rfl, B5.out⟩
  · refine (HB.out _).mono ?_
    rintro e w5 ⟨v, rfl, hv, hb⟩
    obtain ⟨A5, c5, rfl, _, _⟩ := hv.shape
    have hs := same_yes A2 A5 _ _ c2 c5 (mbytes m) (mbytes m) w5 (I4.out.ab hb) (hv.isB rfl) rfl
    have HS := Lib.hid hs
    have B5 := Lib.hid (below_tr B4.out hb B4.out.size)
    clear hb hv hs x0 x1 x2 x3 x4 x5 x6
    go_wp2_with fail
    refine HS.out.mono ?_
    rintro e w6 ⟨rfl, rfl⟩
    go_wp2_with fail
    refine (HK.out _).mono ?_
    rintro e w6 ⟨rfl, hb⟩
    have B6 := Lib.hid (below_tr B5.out hb B5.out.size)
    clear hb
    go_wp2_with fail
    go_ret
    exact ⟨rfl, B6.out⟩
set_option maxRecDepth 100000 in
theorem mencodes_walk (v : Value) (w : World) (hk : ∃ base, Value.okWide Try.prog w .any base 95 v) {H : Type} {enc : TypeId × Value → H} {d : DataW H} {p : List MemPlace} (_ : DataW.Trod enc Try.prog w 0 (fun _ => true) true 95 v d p) (_ : ∀ x ∈ p, x.block < w.heap.size) :
    Calls Try.prog 9 #[v] w fun e w' => e = .returned (.bool true) ∧ Below w.heap.size w w' := by
  obtain ⟨base, hk⟩ := hk
  obtain ⟨m, rfl, hm⟩ := open_meta hk
  exact mencodes_any m w hm
end Go.Proofs.Ytgnooakjkpkgiaa
