/-
  HierDraws: the walk.
-/
import Derived.Test.YtpofndciepoooaaHiC
namespace Go.Proofs.Ytpofndciepoooaa
open Go.RowKit
set_option linter.unusedVariables false

set_option maxRecDepth 100000 in
set_option maxHeartbeats 8000000 in
theorem draws_ok (kA sA : Option Addr) (kc sc gn : Nat) (key secret : List Nat) (w : World) (ik : IsB w kA 32 kc key) (is : IsB w sA 16 sc secret) (hg : gn < 65536) :
    Calls Try.prog 19 #[.slice kA 32 kc, .slice sA 16 sc, .int .u16 (gn : Int)] w fun e w' => e = .returned (.bool true) ∧ Below w.heap.size w w' := by
  obtain ⟨X, hX⟩ : ∃ X, X = drawnA key 1 gn := ⟨_, rfl⟩
  obtain ⟨Y, hY⟩ : ∃ Y, Y = drawnA key 2 gn := ⟨_, rfl⟩
  obtain ⟨M, hM⟩ : ∃ M, M = encA (drawnA key 3 0) secret := ⟨_, rfl⟩
  have RX : Hid (drawnS key 1 gn = (X, 0)) := Lib.hid (by rw [hX]; exact if_pos ik.len)
  have RY : Hid (drawnS key 2 gn = (Y, 0)) := Lib.hid (by rw [hY]; exact if_pos ik.len)
  have LX : Hid (X.length = 32) := Lib.hid (by rw [hX]; exact drawnA_len _ _ _)
  have LY : Hid (Y.length = 32) := Lib.hid (by rw [hY]; exact drawnA_len _ _ _)
  have HX : Hid (∀ W, IsB W kA 32 kc key → Calls Try.prog 63 #[.slice kA 32 kc, .int .u8 1, .int .u16 (gn : Int)] W fun e w' => ∃ v, e = .returned v ∧ OwB w' W.heap.size v X ∧ Below W.heap.size W w') := Lib.hid fun W h => by rw [hX]; exact rdrawn_any kA 32 kc key 1 gn W (.inr ik.len) h (by decide) hg
  have HY : Hid (∀ W, IsB W kA 32 kc key → Calls Try.prog 63 #[.slice kA 32 kc, .int .u8 2, .int .u16 (gn : Int)] W fun e w' => ∃ v, e = .returned v ∧ OwB w' W.heap.size v Y ∧ Below W.heap.size W w') := Lib.hid fun W h => by rw [hY]; exact rdrawn_any kA 32 kc key 2 gn W (.inr ik.len) h (by decide) hg
  have RM : Hid (markS key secret = (M, 0)) := Lib.hid (by rw [hM]; exact if_pos ⟨ik.len, is.len⟩)
  have LM : Hid (M.length = 16) := Lib.hid (by rw [hM]; exact encA_len _ _)
  have HM : Hid (∀ W, IsB W kA 32 kc key → IsB W sA 16 sc secret → Calls Try.prog 64 #[.slice kA 32 kc, .slice sA 16 sc] W fun e w' => ∃ v, e = .returned v ∧ OwB w' W.heap.size v M ∧ Below W.heap.size W w') := Lib.hid fun W h1 h2 => by rw [hM]; exact rmark_any kA sA 32 kc sc key secret W (.inr ik.len) h1 h2
  clear hX hY hM
  replace ik := Lib.hid ik
  replace is := Lib.hid is
  replace hg := Lib.hid hg
  have hkn : Hid (32 ≤ 100000) := Lib.hid (by decide)
  have hsn : Hid (16 ≤ 100000) := Lib.hid (by decide)
  go_enter Try.func19, Try.ntmps19
  go_wp2_with fail
  refine (lent_any kA 32 kc key w ik.out (by have := hkn.out; omega)).mono ?_
  rintro e w1 ⟨g1, d1, rfl, hl, hb⟩
  have L1 := Lib.hid hl
  have IS1 := Lib.hid (is.out.ab hb)
  have IK1 := Lib.hid (ik.out.ab hb)
  have B1 := Lib.hid hb
  clear hl hb
  go_wp2_with fail
  refine (root_any _ _ _ gn key w1 L1.out.isB hg.out).mono ?_
  rw [RX.out]
  rintro e w2 ⟨v, rfl, hv, hb⟩
  obtain ⟨aA, ac, rfl, -, -⟩ := hv.shape
  rw [LX.out] at hv ⊢
  have X2 := Lib.hid (hv.isB LX.out)
  have L2 := Lib.hid (L1.out.ab hb)
  have IS2 := Lib.hid (IS1.out.ab hb)
  have IK2 := Lib.hid (IK1.out.ab hb)
  have B2 := Lib.hid (below_tr B1.out hb B1.out.size)
  clear hv hb L1 IS1 IK1 B1
  go_wp2_with fail
  refine (wrapper_any _ _ _ gn key w2 L2.out.isB hg.out).mono ?_
  rw [RY.out]
  rintro e w3 ⟨v, rfl, hv, hb⟩
  obtain ⟨bA, bc, rfl, -, -⟩ := hv.shape
  rw [LY.out] at hv ⊢
  have Y3 := Lib.hid (hv.isB LY.out)
  have X3 := Lib.hid (X2.out.ab hb)
  have L3 := Lib.hid (L2.out.ab hb)
  have IS3 := Lib.hid (IS2.out.ab hb)
  have IK3 := Lib.hid (IK2.out.ab hb)
  have B3 := Lib.hid (below_tr B2.out hb B2.out.size)
  clear hv hb X2 L2 IS2 IK2 B2
  go_wp2_with fail
  refine (lent_any sA 16 sc secret w3 IS3.out (by have := hsn.out; omega)).mono ?_
  rintro e w4 ⟨g4, d4, rfl, hl, hb⟩
  have N4 := Lib.hid hl
  have Y4 := Lib.hid (Y3.out.ab hb)
  have X4 := Lib.hid (X3.out.ab hb)
  have L4 := Lib.hid (L3.out.ab hb)
  have IS4 := Lib.hid (IS3.out.ab hb)
  have IK4 := Lib.hid (IK3.out.ab hb)
  have B4 := Lib.hid (below_tr B3.out hb B3.out.size)
  clear hl hb Y3 X3 L3 IS3 IK3 B3
  go_wp2_with fail
  refine (mark_any _ _ _ _ _ _ key secret w4 L4.out.isB N4.out.isB).mono ?_
  rw [RM.out]
  rintro e w5 ⟨cA, cc, rfl, hm, hb⟩
  rw [LM.out] at hm ⊢
  have M5 := Lib.hid hm
  have N5 := Lib.hid (N4.out.ab hb)
  have Y5 := Lib.hid (Y4.out.ab hb)
  have X5 := Lib.hid (X4.out.ab hb)
  have L5 := Lib.hid (L4.out.ab hb)
  have IS5 := Lib.hid (IS4.out.ab hb)
  have IK5 := Lib.hid (IK4.out.ab hb)
  have B5 := Lib.hid (below_tr B4.out hb B4.out.size)
  clear hm hb N4 Y4 X4 L4 IS4 IK4 B4
  go_wp2_with fail
  refine (kept_any _ _ _ _ _ _ w5 L5.out IK5.out (by have := hkn.out; omega)).mono ?_
  rintro e w6 ⟨rfl, hb⟩
  have M6 := Lib.hid (M5.out.ab hb)
  have N6 := Lib.hid (N5.out.ab hb)
  have Y6 := Lib.hid (Y5.out.ab hb)
  have X6 := Lib.hid (X5.out.ab hb)
  have IS6 := Lib.hid (IS5.out.ab hb)
  have IK6 := Lib.hid (IK5.out.ab hb)
  have B6 := Lib.hid (below_tr B5.out hb B5.out.size)
  clear hb M5 N5 Y5 X5 L5 IS5 IK5 B5
  go_wp2_with fail
  refine (kept_any _ _ _ _ _ _ w6 N6.out IS6.out (by have := hsn.out; omega)).mono ?_
  rintro e w7 ⟨rfl, hb⟩
  have IM := Lib.hid (M6.out.ab hb)
  have IY := Lib.hid (Y6.out.ab hb)
  have IX := Lib.hid (X6.out.ab hb)
  have IS := Lib.hid (IS6.out.ab hb)
  have IK := Lib.hid (IK6.out.ab hb)
  have B7 := Lib.hid (below_tr B6.out hb B6.out.size)
  clear hb M6 N6 Y6 X6 IS6 IK6 B6
  go_wp2_with fail
  refine wp_wide3 [⟨59, IsR (.int .i64 0), [], false⟩, ⟨60, IsR (.bool false), [0], false⟩, ⟨61, IsR (.bool false), [1], false⟩, ⟨62, IsR (.int .i64 0), [2], false⟩, ⟨63, IsR (.bool false), [2, 3], false⟩, ⟨64, IsR (.bool false), [2, 4], false⟩, ⟨65, IsR (.bool false), [5], false⟩, ⟨66, IsR (.slice aA 32 ac), [6], false⟩, ⟨67, IsR (.string (strOf X)), [6, 7], false⟩, ⟨68, IsR (.slice kA 32 kc), [6], false⟩, ⟨69, IsR (.int .u16 (gn : Int)), [6], false⟩, ⟨70, OwR w7.heap.size (X), [6, 9, 10], false⟩, ⟨71, IsR (.string (strOf (X))), [6, 11], false⟩, ⟨72, IsR (.bool false), [6, 8, 12], false⟩, ⟨73, IsR (.bool false), [6, 13], false⟩, ⟨74, IsR (.bool false), [14], false⟩, ⟨75, IsR (.slice bA 32 bc), [15], false⟩, ⟨76, IsR (.string (strOf Y)), [15, 16], false⟩, ⟨77, IsR (.slice kA 32 kc), [15], false⟩, ⟨78, IsR (.int .u16 (gn : Int)), [15], false⟩, ⟨79, OwR w7.heap.size (Y), [15, 18, 19], false⟩, ⟨80, IsR (.string (strOf (Y))), [15, 20], false⟩, ⟨81, IsR (.bool false), [15, 17, 21], false⟩] (by kernel_rfl) (by kernel_rfl) rfl rfl rfl ⟨?_, ?_, ?_, ?_, ?_, ?_, ?_, ?_, ?_, ?_, ?_, ?_, ?_, ?_, ?_, ?_, ?_, ?_, ?_, ?_, ?_, ?_, ?_, trivial⟩ ?_
  · refine ⟨rfl, IsR.mono _, fun a W hA hb hd => takes_plain rfl (yields_value _ ?_ rfl)⟩
    have h9 : a.tmps[9]?.getD undef = .int .i64 0 := (eval_get a 9).trans ((hA.eval (by simp)).trans rfl)
    go_simp
  · refine ⟨rfl, IsR.mono _, fun a W hA hb hd => takes_plain rfl (yields_value _ ?_ rfl)⟩
    have h59 : a.tmps[59]?.getD undef = .int .i64 0 := (eval_get a 59).trans (hd 0 (by simp) _ rfl)
    go_simp
  · refine ⟨rfl, IsR.mono _, fun a W hA hb hd => takes_plain rfl (yields_value _ ?_ rfl)⟩
    have h60 : a.tmps[60]?.getD undef = .bool false := (eval_get a 60).trans (hd 1 (by simp) _ rfl)
    go_simp
  · refine ⟨rfl, IsR.mono _, fun a W hA hb hd => takes_on (i := 2) (d := 61) (b := false) rfl rfl rfl (hd 2 (by simp) _ rfl) (yields_value _ ?_ rfl)⟩
    have h11 : a.tmps[11]?.getD undef = .int .i64 0 := (eval_get a 11).trans ((hA.eval (by simp)).trans rfl)
    go_simp
  · refine ⟨rfl, IsR.mono _, fun a W hA hb hd => takes_on (i := 2) (d := 61) (b := false) rfl rfl rfl (hd 2 (by simp) _ rfl) (yields_value _ ?_ rfl)⟩
    have h62 : a.tmps[62]?.getD undef = .int .i64 0 := (eval_get a 62).trans (hd 3 (by simp) _ rfl)
    go_simp
  · refine ⟨rfl, IsR.mono _, fun a W hA hb hd => takes_plain rfl (yields_value _ ?_ rfl)⟩
    have h61 : a.tmps[61]?.getD undef = .bool false := (eval_get a 61).trans (hd 2 (by simp) _ rfl)
    have h63 : a.tmps[63]?.getD undef = .bool false := (eval_get a 63).trans (hd 4 (by simp) _ rfl)
    go_simp
  · refine ⟨rfl, IsR.mono _, fun a W hA hb hd => takes_plain rfl (yields_value _ ?_ rfl)⟩
    have h64 : a.tmps[64]?.getD undef = .bool false := (eval_get a 64).trans (hd 5 (by simp) _ rfl)
    go_simp
  · refine ⟨rfl, IsR.mono _, fun a W hA hb hd => takes_on (i := 6) (d := 65) (b := false) rfl rfl rfl (hd 6 (by simp) _ rfl) (yields_value _ ?_ rfl)⟩
    have h8 : a.tmps[8]?.getD undef = .slice aA 32 ac := (eval_get a 8).trans ((hA.eval (by simp)).trans rfl)
    go_simp
  · refine ⟨rfl, IsR.mono _, fun a W hA hb hd => takes_on (i := 6) (d := 65) (b := false) rfl rfl rfl (hd 6 (by simp) _ rfl) (yields_value _ ?_ rfl)⟩
    have h66 : a.tmps[66]?.getD undef = .slice aA 32 ac := (eval_get a 66).trans (hd 7 (by simp) _ rfl)
    have hst : (convert 22 9 (.slice aA 32 ac)).run Try.prog W = .ok (.string (strOf X)) W := run_str (IX.out.ab hb) _ _ _ Try.underlying22 Try.underlying5 Try.underlying9
    go_simp
  · refine ⟨rfl, IsR.mono _, fun a W hA hb hd => takes_on (i := 6) (d := 65) (b := false) rfl rfl rfl (hd 6 (by simp) _ rfl) (yields_value _ ?_ rfl)⟩
    have h0 : a.tmps[0]?.getD undef = .slice kA 32 kc := (eval_get a 0).trans ((hA.eval (by simp)).trans rfl)
    go_simp
  · refine ⟨rfl, IsR.mono _, fun a W hA hb hd => takes_on (i := 6) (d := 65) (b := false) rfl rfl rfl (hd 6 (by simp) _ rfl) (yields_value _ ?_ rfl)⟩
    have h2 : a.tmps[2]?.getD undef = .int .u16 (gn : Int) := (eval_get a 2).trans ((hA.eval (by simp)).trans rfl)
    go_simp
  · refine ⟨rfl, OwR.mono _ _, fun a W hA hb hd => takes_on (i := 6) (d := 65) (b := false) rfl rfl rfl (hd 6 (by simp) _ rfl) ?_⟩
    have h68 : a.tmps[68]?.getD undef = .slice kA 32 kc := (eval_get a 68).trans (hd 9 (by simp) _ rfl)
    have h69 : a.tmps[69]?.getD undef = .int .u16 (gn : Int) := (eval_get a 69).trans (hd 10 (by simp) _ rfl)
    refine yields_call 63 #[.slice kA 32 kc, .int .u8 1, .int .u16 (gn : Int)] (by go_simp) ((HX.out W (IK.out.ab hb)).mono ?_)
    rintro e W1 ⟨v1, rfl, hv1, hb1⟩
    exact ⟨_, rfl, hv1.lower hb.size, hb1⟩
  · refine ⟨rfl, IsR.mono _, fun a W hA hb hd => takes_on (i := 6) (d := 65) (b := false) rfl rfl rfl (hd 6 (by simp) _ rfl) ?_⟩
    have ho : OwB W w7.heap.size (a.eval (.tmp 70)) (X) := hd 11 (by simp) _ rfl
    obtain ⟨Aa, ca, ea, -, -⟩ := ho.shape
    rw [ea] at ho
    have hst : (convert 22 9 (.slice Aa (X).length ca)).run Try.prog W = .ok (.string (strOf (X))) W := run_str (ho.isB rfl) _ _ _ Try.underlying22 Try.underlying5 Try.underlying9
    have h70 : a.tmps[70]?.getD undef = .slice Aa (X).length ca := (eval_get a 70).trans ea
    refine yields_value (.string (strOf (X))) ?_ rfl
    go_simp
  · refine ⟨rfl, IsR.mono _, fun a W hA hb hd => takes_on (i := 6) (d := 65) (b := false) rfl rfl rfl (hd 6 (by simp) _ rfl) (yields_value _ ?_ rfl)⟩
    have h67 : a.tmps[67]?.getD undef = .string (strOf X) := (eval_get a 67).trans (hd 8 (by simp) _ rfl)
    have h71 : a.tmps[71]?.getD undef = .string (strOf X) := (eval_get a 71).trans (hd 12 (by simp) _ rfl)
    go_simp
  · refine ⟨rfl, IsR.mono _, fun a W hA hb hd => takes_plain rfl (yields_value _ ?_ rfl)⟩
    have h65 : a.tmps[65]?.getD undef = .bool false := (eval_get a 65).trans (hd 6 (by simp) _ rfl)
    have h72 : a.tmps[72]?.getD undef = .bool false := (eval_get a 72).trans (hd 13 (by simp) _ rfl)
    go_simp
  · refine ⟨rfl, IsR.mono _, fun a W hA hb hd => takes_plain rfl (yields_value _ ?_ rfl)⟩
    have h73 : a.tmps[73]?.getD undef = .bool false := (eval_get a 73).trans (hd 14 (by simp) _ rfl)
    go_simp
  · refine ⟨rfl, IsR.mono _, fun a W hA hb hd => takes_on (i := 15) (d := 74) (b := false) rfl rfl rfl (hd 15 (by simp) _ rfl) (yields_value _ ?_ rfl)⟩
    have h10 : a.tmps[10]?.getD undef = .slice bA 32 bc := (eval_get a 10).trans ((hA.eval (by simp)).trans rfl)
    go_simp
  · refine ⟨rfl, IsR.mono _, fun a W hA hb hd => takes_on (i := 15) (d := 74) (b := false) rfl rfl rfl (hd 15 (by simp) _ rfl) (yields_value _ ?_ rfl)⟩
    have h75 : a.tmps[75]?.getD undef = .slice bA 32 bc := (eval_get a 75).trans (hd 16 (by simp) _ rfl)
    have hst : (convert 22 9 (.slice bA 32 bc)).run Try.prog W = .ok (.string (strOf Y)) W := run_str (IY.out.ab hb) _ _ _ Try.underlying22 Try.underlying5 Try.underlying9
    go_simp
  · refine ⟨rfl, IsR.mono _, fun a W hA hb hd => takes_on (i := 15) (d := 74) (b := false) rfl rfl rfl (hd 15 (by simp) _ rfl) (yields_value _ ?_ rfl)⟩
    have h0 : a.tmps[0]?.getD undef = .slice kA 32 kc := (eval_get a 0).trans ((hA.eval (by simp)).trans rfl)
    go_simp
  · refine ⟨rfl, IsR.mono _, fun a W hA hb hd => takes_on (i := 15) (d := 74) (b := false) rfl rfl rfl (hd 15 (by simp) _ rfl) (yields_value _ ?_ rfl)⟩
    have h2 : a.tmps[2]?.getD undef = .int .u16 (gn : Int) := (eval_get a 2).trans ((hA.eval (by simp)).trans rfl)
    go_simp
  · refine ⟨rfl, OwR.mono _ _, fun a W hA hb hd => takes_on (i := 15) (d := 74) (b := false) rfl rfl rfl (hd 15 (by simp) _ rfl) ?_⟩
    have h77 : a.tmps[77]?.getD undef = .slice kA 32 kc := (eval_get a 77).trans (hd 18 (by simp) _ rfl)
    have h78 : a.tmps[78]?.getD undef = .int .u16 (gn : Int) := (eval_get a 78).trans (hd 19 (by simp) _ rfl)
    refine yields_call 63 #[.slice kA 32 kc, .int .u8 2, .int .u16 (gn : Int)] (by go_simp) ((HY.out W (IK.out.ab hb)).mono ?_)
    rintro e W1 ⟨v1, rfl, hv1, hb1⟩
    exact ⟨_, rfl, hv1.lower hb.size, hb1⟩
  · refine ⟨rfl, IsR.mono _, fun a W hA hb hd => takes_on (i := 15) (d := 74) (b := false) rfl rfl rfl (hd 15 (by simp) _ rfl) ?_⟩
    have ho : OwB W w7.heap.size (a.eval (.tmp 79)) (Y) := hd 20 (by simp) _ rfl
    obtain ⟨Aa, ca, ea, -, -⟩ := ho.shape
    rw [ea] at ho
    have hst : (convert 22 9 (.slice Aa (Y).length ca)).run Try.prog W = .ok (.string (strOf (Y))) W := run_str (ho.isB rfl) _ _ _ Try.underlying22 Try.underlying5 Try.underlying9
    have h79 : a.tmps[79]?.getD undef = .slice Aa (Y).length ca := (eval_get a 79).trans ea
    refine yields_value (.string (strOf (Y))) ?_ rfl
    go_simp
  · refine ⟨rfl, IsR.mono _, fun a W hA hb hd => takes_on (i := 15) (d := 74) (b := false) rfl rfl rfl (hd 15 (by simp) _ rfl) (yields_value _ ?_ rfl)⟩
    have h76 : a.tmps[76]?.getD undef = .string (strOf Y) := (eval_get a 76).trans (hd 17 (by simp) _ rfl)
    have h80 : a.tmps[80]?.getD undef = .string (strOf Y) := (eval_get a 80).trans (hd 21 (by simp) _ rfl)
    go_simp
  intro vs w8 hR hF hb
  have e74 : vs 74 = .bool false := hR 15 _ rfl
  have e81 : vs 81 = .bool false := hR 22 _ rfl
  simp only [List.map_cons, List.map_nil, List.foldl_cons, List.foldl_nil, List.length_cons, List.length_nil, List.drop_succ_cons, List.drop_zero, Act.put, List.setIfInBounds_toArray, List.set_cons_zero, List.set_cons_succ, e74, e81]
  generalize vs 59 = q59 at *
  generalize vs 60 = q60 at *
  generalize vs 61 = q61 at *
  generalize vs 62 = q62 at *
  generalize vs 63 = q63 at *
  generalize vs 64 = q64 at *
  generalize vs 65 = q65 at *
  generalize vs 66 = q66 at *
  generalize vs 67 = q67 at *
  generalize vs 68 = q68 at *
  generalize vs 69 = q69 at *
  generalize vs 70 = q70 at *
  generalize vs 71 = q71 at *
  generalize vs 72 = q72 at *
  generalize vs 73 = q73 at *
  generalize vs 75 = q75 at *
  generalize vs 76 = q76 at *
  generalize vs 77 = q77 at *
  generalize vs 78 = q78 at *
  generalize vs 79 = q79 at *
  generalize vs 80 = q80 at *
  have IM8 := Lib.hid (IM.out.ab hb)
  have IS8 := Lib.hid (IS.out.ab hb)
  have IK8 := Lib.hid (IK.out.ab hb)
  have B8 := Lib.hid (below_tr B7.out hb B7.out.size)
  clear hR hF hb e74 e81 IM IY IX IS IK B7 HX HY
  go_wp2_with fail
  refine wp_wide3 [⟨115, IsR (.int .i64 0), [], false⟩, ⟨116, IsR (.bool true), [0], false⟩, ⟨117, IsR (.bool true), [1], false⟩, ⟨118, IsR (.slice cA 16 cc), [2], false⟩, ⟨119, IsR (.string (strOf M)), [2, 3], false⟩, ⟨120, IsR (.slice kA 32 kc), [2], false⟩, ⟨121, IsR (.slice sA 16 sc), [2], false⟩, ⟨122, OwR w8.heap.size (M), [2, 5, 6], false⟩, ⟨123, IsR (.string (strOf (M))), [2, 7], false⟩, ⟨124, IsR (.bool true), [2, 4, 8], false⟩, ⟨125, IsR (.bool true), [2, 9], false⟩, ⟨126, IsR (.bool true), [10], false⟩, ⟨127, IsR (.bool true), [11], false⟩, ⟨128, IsR (.bool true), [11, 12], false⟩] (by kernel_rfl) (by kernel_rfl) rfl rfl rfl ⟨?_, ?_, ?_, ?_, ?_, ?_, ?_, ?_, ?_, ?_, ?_, ?_, ?_, ?_, trivial⟩ ?_
  · refine ⟨rfl, IsR.mono _, fun a W hA hb hd => takes_plain rfl (yields_value _ ?_ rfl)⟩
    have h14 : a.tmps[14]?.getD undef = .int .i64 0 := (eval_get a 14).trans ((hA.eval (by simp)).trans rfl)
    go_simp
  · refine ⟨rfl, IsR.mono _, fun a W hA hb hd => takes_plain rfl (yields_value _ ?_ rfl)⟩
    have h115 : a.tmps[115]?.getD undef = .int .i64 0 := (eval_get a 115).trans (hd 0 (by simp) _ rfl)
    go_simp
  · refine ⟨rfl, IsR.mono _, fun a W hA hb hd => takes_plain rfl (yields_value _ ?_ rfl)⟩
    have h116 : a.tmps[116]?.getD undef = .bool true := (eval_get a 116).trans (hd 1 (by simp) _ rfl)
    go_simp
  · refine ⟨rfl, IsR.mono _, fun a W hA hb hd => takes_on (i := 2) (d := 117) (b := true) rfl rfl rfl (hd 2 (by simp) _ rfl) (yields_value _ ?_ rfl)⟩
    have h13 : a.tmps[13]?.getD undef = .slice cA 16 cc := (eval_get a 13).trans ((hA.eval (by simp)).trans rfl)
    go_simp
  · refine ⟨rfl, IsR.mono _, fun a W hA hb hd => takes_on (i := 2) (d := 117) (b := true) rfl rfl rfl (hd 2 (by simp) _ rfl) (yields_value _ ?_ rfl)⟩
    have h118 : a.tmps[118]?.getD undef = .slice cA 16 cc := (eval_get a 118).trans (hd 3 (by simp) _ rfl)
    have hst : (convert 22 9 (.slice cA 16 cc)).run Try.prog W = .ok (.string (strOf M)) W := run_str (IM8.out.ab hb) _ _ _ Try.underlying22 Try.underlying5 Try.underlying9
    go_simp
  · refine ⟨rfl, IsR.mono _, fun a W hA hb hd => takes_on (i := 2) (d := 117) (b := true) rfl rfl rfl (hd 2 (by simp) _ rfl) (yields_value _ ?_ rfl)⟩
    have h0 : a.tmps[0]?.getD undef = .slice kA 32 kc := (eval_get a 0).trans ((hA.eval (by simp)).trans rfl)
    go_simp
  · refine ⟨rfl, IsR.mono _, fun a W hA hb hd => takes_on (i := 2) (d := 117) (b := true) rfl rfl rfl (hd 2 (by simp) _ rfl) (yields_value _ ?_ rfl)⟩
    have h1 : a.tmps[1]?.getD undef = .slice sA 16 sc := (eval_get a 1).trans ((hA.eval (by simp)).trans rfl)
    go_simp
  · refine ⟨rfl, OwR.mono _ _, fun a W hA hb hd => takes_on (i := 2) (d := 117) (b := true) rfl rfl rfl (hd 2 (by simp) _ rfl) ?_⟩
    have h120 : a.tmps[120]?.getD undef = .slice kA 32 kc := (eval_get a 120).trans (hd 5 (by simp) _ rfl)
    have h121 : a.tmps[121]?.getD undef = .slice sA 16 sc := (eval_get a 121).trans (hd 6 (by simp) _ rfl)
    refine yields_call 64 #[.slice kA 32 kc, .slice sA 16 sc] (by go_simp) ((HM.out W (IK8.out.ab hb) (IS8.out.ab hb)).mono ?_)
    rintro e W1 ⟨v1, rfl, hv1, hb1⟩
    exact ⟨_, rfl, hv1.lower hb.size, hb1⟩
  · refine ⟨rfl, IsR.mono _, fun a W hA hb hd => takes_on (i := 2) (d := 117) (b := true) rfl rfl rfl (hd 2 (by simp) _ rfl) ?_⟩
    have ho : OwB W w8.heap.size (a.eval (.tmp 122)) (M) := hd 7 (by simp) _ rfl
    obtain ⟨Aa, ca, ea, -, -⟩ := ho.shape
    rw [ea] at ho
    have hst : (convert 22 9 (.slice Aa (M).length ca)).run Try.prog W = .ok (.string (strOf (M))) W := run_str (ho.isB rfl) _ _ _ Try.underlying22 Try.underlying5 Try.underlying9
    have h122 : a.tmps[122]?.getD undef = .slice Aa (M).length ca := (eval_get a 122).trans ea
    refine yields_value (.string (strOf (M))) ?_ rfl
    go_simp
  · refine ⟨rfl, IsR.mono _, fun a W hA hb hd => takes_on (i := 2) (d := 117) (b := true) rfl rfl rfl (hd 2 (by simp) _ rfl) (yields_value _ ?_ rfl)⟩
    have h119 : a.tmps[119]?.getD undef = .string (strOf M) := (eval_get a 119).trans (hd 4 (by simp) _ rfl)
    have h123 : a.tmps[123]?.getD undef = .string (strOf M) := (eval_get a 123).trans (hd 8 (by simp) _ rfl)
    go_simp
  · refine ⟨rfl, IsR.mono _, fun a W hA hb hd => takes_plain rfl (yields_value _ ?_ rfl)⟩
    have h117 : a.tmps[117]?.getD undef = .bool true := (eval_get a 117).trans (hd 2 (by simp) _ rfl)
    have h124 : a.tmps[124]?.getD undef = .bool true := (eval_get a 124).trans (hd 9 (by simp) _ rfl)
    go_simp
  · refine ⟨rfl, IsR.mono _, fun a W hA hb hd => takes_plain rfl (yields_value _ ?_ rfl)⟩
    have h125 : a.tmps[125]?.getD undef = .bool true := (eval_get a 125).trans (hd 10 (by simp) _ rfl)
    go_simp
  · refine ⟨rfl, IsR.mono _, fun a W hA hb hd => takes_on (i := 11) (d := 126) (b := true) rfl rfl rfl (hd 11 (by simp) _ rfl) ?_⟩
    refine yields_call 52 #[] (by go_simp) ((known22_any W).mono ?_)
    rintro e W1 ⟨rfl, hb1⟩
    exact ⟨_, rfl, rfl, hb1⟩
  · refine ⟨rfl, IsR.mono _, fun a W hA hb hd => takes_plain rfl (yields_value _ ?_ rfl)⟩
    have h126 : a.tmps[126]?.getD undef = .bool true := (eval_get a 126).trans (hd 11 (by simp) _ rfl)
    have h127 : a.tmps[127]?.getD undef = .bool true := (eval_get a 127).trans (hd 12 (by simp) _ rfl)
    go_simp
  intro vs w9 hR hF hb
  have e128 : vs 128 = .bool true := hR 13 _ rfl
  simp only [List.map_cons, List.map_nil, List.foldl_cons, List.foldl_nil, List.length_cons, List.length_nil, List.drop_succ_cons, List.drop_zero, Act.put, List.setIfInBounds_toArray, List.set_cons_zero, List.set_cons_succ, e128]
  generalize vs 115 = q115 at *
  generalize vs 116 = q116 at *
  generalize vs 117 = q117 at *
  generalize vs 118 = q118 at *
  generalize vs 119 = q119 at *
  generalize vs 120 = q120 at *
  generalize vs 121 = q121 at *
  generalize vs 122 = q122 at *
  generalize vs 123 = q123 at *
  generalize vs 124 = q124 at *
  generalize vs 125 = q125 at *
  generalize vs 126 = q126 at *
  generalize vs 127 = q127 at *
  have B9 := Lib.hid (below_tr B8.out hb B8.out.size)
  clear hR hF hb e128 IM8 IS8 IK8 B8
  go_wp2_with fail
  go_ret
  exact ⟨rfl, B9.out⟩
set_option maxRecDepth 100000 in
set_option maxHeartbeats 8000000 in
theorem draws_mark (kA sA : Option Addr) (kc sn sc gn : Nat) (key secret : List Nat) (w : World) (ik : IsB w kA 32 kc key) (is : IsB w sA sn sc secret) (hg : gn < 65536) (hs : sn ≤ 100000) (hne : sn ≠ 16) :
    Calls Try.prog 19 #[.slice kA 32 kc, .slice sA sn sc, .int .u16 (gn : Int)] w fun e w' => e = .returned (.bool true) ∧ Below w.heap.size w w' := by
  obtain ⟨X, hX⟩ : ∃ X, X = drawnA key 1 gn := ⟨_, rfl⟩
  obtain ⟨Y, hY⟩ : ∃ Y, Y = drawnA key 2 gn := ⟨_, rfl⟩
  have RX : Hid (drawnS key 1 gn = (X, 0)) := Lib.hid (by rw [hX]; exact if_pos ik.len)
  have RY : Hid (drawnS key 2 gn = (Y, 0)) := Lib.hid (by rw [hY]; exact if_pos ik.len)
  have LX : Hid (X.length = 32) := Lib.hid (by rw [hX]; exact drawnA_len _ _ _)
  have LY : Hid (Y.length = 32) := Lib.hid (by rw [hY]; exact drawnA_len _ _ _)
  have HX : Hid (∀ W, IsB W kA 32 kc key → Calls Try.prog 63 #[.slice kA 32 kc, .int .u8 1, .int .u16 (gn : Int)] W fun e w' => ∃ v, e = .returned v ∧ OwB w' W.heap.size v X ∧ Below W.heap.size W w') := Lib.hid fun W h => by rw [hX]; exact rdrawn_any kA 32 kc key 1 gn W (.inr ik.len) h (by decide) hg
  have HY : Hid (∀ W, IsB W kA 32 kc key → Calls Try.prog 63 #[.slice kA 32 kc, .int .u8 2, .int .u16 (gn : Int)] W fun e w' => ∃ v, e = .returned v ∧ OwB w' W.heap.size v Y ∧ Below W.heap.size W w') := Lib.hid fun W h => by rw [hY]; exact rdrawn_any kA 32 kc key 2 gn W (.inr ik.len) h (by decide) hg
  have RM : Hid (markS key secret = ([], 2)) := Lib.hid (if_neg fun h => by have := is.len; omega)
  have h1 : decide ((100000 : Int) < (sn : Int)) = false := by simp; omega
  have h2 : ((sn : Int) != 16) = true := by simp; omega
  clear hX hY
  replace ik := Lib.hid ik
  replace is := Lib.hid is
  replace hg := Lib.hid hg
  have hkn : Hid (32 ≤ 100000) := Lib.hid (by decide)
  have hsn : Hid (sn ≤ 100000) := Lib.hid hs
  clear hs hne
  go_enter Try.func19, Try.ntmps19
  go_wp2_with fail
  refine (lent_any kA 32 kc key w ik.out (by have := hkn.out; omega)).mono ?_
  rintro e w1 ⟨g1, d1, rfl, hl, hb⟩
  have L1 := Lib.hid hl
  have IS1 := Lib.hid (is.out.ab hb)
  have IK1 := Lib.hid (ik.out.ab hb)
  have B1 := Lib.hid hb
  clear hl hb
  go_wp2_with fail
  refine (root_any _ _ _ gn key w1 L1.out.isB hg.out).mono ?_
  rw [RX.out]
  rintro e w2 ⟨v, rfl, hv, hb⟩
  obtain ⟨aA, ac, rfl, -, -⟩ := hv.shape
  rw [LX.out] at hv ⊢
  have X2 := Lib.hid (hv.isB LX.out)
  have L2 := Lib.hid (L1.out.ab hb)
  have IS2 := Lib.hid (IS1.out.ab hb)
  have IK2 := Lib.hid (IK1.out.ab hb)
  have B2 := Lib.hid (below_tr B1.out hb B1.out.size)
  clear hv hb L1 IS1 IK1 B1
  go_wp2_with fail
  refine (wrapper_any _ _ _ gn key w2 L2.out.isB hg.out).mono ?_
  rw [RY.out]
  rintro e w3 ⟨v, rfl, hv, hb⟩
  obtain ⟨bA, bc, rfl, -, -⟩ := hv.shape
  rw [LY.out] at hv ⊢
  have Y3 := Lib.hid (hv.isB LY.out)
  have X3 := Lib.hid (X2.out.ab hb)
  have L3 := Lib.hid (L2.out.ab hb)
  have IS3 := Lib.hid (IS2.out.ab hb)
  have IK3 := Lib.hid (IK2.out.ab hb)
  have B3 := Lib.hid (below_tr B2.out hb B2.out.size)
  clear hv hb X2 L2 IS2 IK2 B2
  go_wp2_with fail
  refine (lent_any sA sn sc secret w3 IS3.out (by have := hsn.out; omega)).mono ?_
  rintro e w4 ⟨g4, d4, rfl, hl, hb⟩
  have N4 := Lib.hid hl
  have Y4 := Lib.hid (Y3.out.ab hb)
  have X4 := Lib.hid (X3.out.ab hb)
  have L4 := Lib.hid (L3.out.ab hb)
  have IS4 := Lib.hid (IS3.out.ab hb)
  have IK4 := Lib.hid (IK3.out.ab hb)
  have B4 := Lib.hid (below_tr B3.out hb B3.out.size)
  clear hl hb Y3 X3 L3 IS3 IK3 B3
  go_wp2_with fail
  refine (mark_any _ _ _ _ _ _ key secret w4 L4.out.isB N4.out.isB).mono ?_
  rw [RM.out]
  rintro e w5 ⟨cA, cc, rfl, hm, hb⟩

  have M5 := Lib.hid hm
  have N5 := Lib.hid (N4.out.ab hb)
  have Y5 := Lib.hid (Y4.out.ab hb)
  have X5 := Lib.hid (X4.out.ab hb)
  have L5 := Lib.hid (L4.out.ab hb)
  have IS5 := Lib.hid (IS4.out.ab hb)
  have IK5 := Lib.hid (IK4.out.ab hb)
  have B5 := Lib.hid (below_tr B4.out hb B4.out.size)
  clear hm hb N4 Y4 X4 L4 IS4 IK4 B4
  go_wp2_with fail
  refine (kept_any _ _ _ _ _ _ w5 L5.out IK5.out (by have := hkn.out; omega)).mono ?_
  rintro e w6 ⟨rfl, hb⟩
  have M6 := Lib.hid (M5.out.ab hb)
  have N6 := Lib.hid (N5.out.ab hb)
  have Y6 := Lib.hid (Y5.out.ab hb)
  have X6 := Lib.hid (X5.out.ab hb)
  have IS6 := Lib.hid (IS5.out.ab hb)
  have IK6 := Lib.hid (IK5.out.ab hb)
  have B6 := Lib.hid (below_tr B5.out hb B5.out.size)
  clear hb M5 N5 Y5 X5 L5 IS5 IK5 B5
  go_wp2_with fail
  refine (kept_any _ _ _ _ _ _ w6 N6.out IS6.out (by have := hsn.out; omega)).mono ?_
  rintro e w7 ⟨rfl, hb⟩
  have IM := Lib.hid (M6.out.ab hb)
  have IY := Lib.hid (Y6.out.ab hb)
  have IX := Lib.hid (X6.out.ab hb)
  have IS := Lib.hid (IS6.out.ab hb)
  have IK := Lib.hid (IK6.out.ab hb)
  have B7 := Lib.hid (below_tr B6.out hb B6.out.size)
  clear hb M6 N6 Y6 X6 IS6 IK6 B6
  go_wp2_with fail
  refine wp_wide3 [⟨59, IsR (.int .i64 0), [], false⟩, ⟨60, IsR (.bool false), [0], false⟩, ⟨61, IsR (.bool false), [1], false⟩, ⟨62, IsR (.int .i64 0), [2], false⟩, ⟨63, IsR (.bool false), [2, 3], false⟩, ⟨64, IsR (.bool false), [2, 4], false⟩, ⟨65, IsR (.bool false), [5], false⟩, ⟨66, IsR (.slice aA 32 ac), [6], false⟩, ⟨67, IsR (.string (strOf X)), [6, 7], false⟩, ⟨68, IsR (.slice kA 32 kc), [6], false⟩, ⟨69, IsR (.int .u16 (gn : Int)), [6], false⟩, ⟨70, OwR w7.heap.size (X), [6, 9, 10], false⟩, ⟨71, IsR (.string (strOf (X))), [6, 11], false⟩, ⟨72, IsR (.bool false), [6, 8, 12], false⟩, ⟨73, IsR (.bool false), [6, 13], false⟩, ⟨74, IsR (.bool false), [14], false⟩, ⟨75, IsR (.slice bA 32 bc), [15], false⟩, ⟨76, IsR (.string (strOf Y)), [15, 16], false⟩, ⟨77, IsR (.slice kA 32 kc), [15], false⟩, ⟨78, IsR (.int .u16 (gn : Int)), [15], false⟩, ⟨79, OwR w7.heap.size (Y), [15, 18, 19], false⟩, ⟨80, IsR (.string (strOf (Y))), [15, 20], false⟩, ⟨81, IsR (.bool false), [15, 17, 21], false⟩] (by kernel_rfl) (by kernel_rfl) rfl rfl rfl ⟨?_, ?_, ?_, ?_, ?_, ?_, ?_, ?_, ?_, ?_, ?_, ?_, ?_, ?_, ?_, ?_, ?_, ?_, ?_, ?_, ?_, ?_, ?_, trivial⟩ ?_
  · refine ⟨rfl, IsR.mono _, fun a W hA hb hd => takes_plain rfl (yields_value _ ?_ rfl)⟩
    have h9 : a.tmps[9]?.getD undef = .int .i64 0 := (eval_get a 9).trans ((hA.eval (by simp)).trans rfl)
    go_simp
  · refine ⟨rfl, IsR.mono _, fun a W hA hb hd => takes_plain rfl (yields_value _ ?_ rfl)⟩
    have h59 : a.tmps[59]?.getD undef = .int .i64 0 := (eval_get a 59).trans (hd 0 (by simp) _ rfl)
    go_simp
  · refine ⟨rfl, IsR.mono _, fun a W hA hb hd => takes_plain rfl (yields_value _ ?_ rfl)⟩
    have h60 : a.tmps[60]?.getD undef = .bool false := (eval_get a 60).trans (hd 1 (by simp) _ rfl)
    go_simp
  · refine ⟨rfl, IsR.mono _, fun a W hA hb hd => takes_on (i := 2) (d := 61) (b := false) rfl rfl rfl (hd 2 (by simp) _ rfl) (yields_value _ ?_ rfl)⟩
    have h11 : a.tmps[11]?.getD undef = .int .i64 0 := (eval_get a 11).trans ((hA.eval (by simp)).trans rfl)
    go_simp
  · refine ⟨rfl, IsR.mono _, fun a W hA hb hd => takes_on (i := 2) (d := 61) (b := false) rfl rfl rfl (hd 2 (by simp) _ rfl) (yields_value _ ?_ rfl)⟩
    have h62 : a.tmps[62]?.getD undef = .int .i64 0 := (eval_get a 62).trans (hd 3 (by simp) _ rfl)
    go_simp
  · refine ⟨rfl, IsR.mono _, fun a W hA hb hd => takes_plain rfl (yields_value _ ?_ rfl)⟩
    have h61 : a.tmps[61]?.getD undef = .bool false := (eval_get a 61).trans (hd 2 (by simp) _ rfl)
    have h63 : a.tmps[63]?.getD undef = .bool false := (eval_get a 63).trans (hd 4 (by simp) _ rfl)
    go_simp
  · refine ⟨rfl, IsR.mono _, fun a W hA hb hd => takes_plain rfl (yields_value _ ?_ rfl)⟩
    have h64 : a.tmps[64]?.getD undef = .bool false := (eval_get a 64).trans (hd 5 (by simp) _ rfl)
    go_simp
  · refine ⟨rfl, IsR.mono _, fun a W hA hb hd => takes_on (i := 6) (d := 65) (b := false) rfl rfl rfl (hd 6 (by simp) _ rfl) (yields_value _ ?_ rfl)⟩
    have h8 : a.tmps[8]?.getD undef = .slice aA 32 ac := (eval_get a 8).trans ((hA.eval (by simp)).trans rfl)
    go_simp
  · refine ⟨rfl, IsR.mono _, fun a W hA hb hd => takes_on (i := 6) (d := 65) (b := false) rfl rfl rfl (hd 6 (by simp) _ rfl) (yields_value _ ?_ rfl)⟩
    have h66 : a.tmps[66]?.getD undef = .slice aA 32 ac := (eval_get a 66).trans (hd 7 (by simp) _ rfl)
    have hst : (convert 22 9 (.slice aA 32 ac)).run Try.prog W = .ok (.string (strOf X)) W := run_str (IX.out.ab hb) _ _ _ Try.underlying22 Try.underlying5 Try.underlying9
    go_simp
  · refine ⟨rfl, IsR.mono _, fun a W hA hb hd => takes_on (i := 6) (d := 65) (b := false) rfl rfl rfl (hd 6 (by simp) _ rfl) (yields_value _ ?_ rfl)⟩
    have h0 : a.tmps[0]?.getD undef = .slice kA 32 kc := (eval_get a 0).trans ((hA.eval (by simp)).trans rfl)
    go_simp
  · refine ⟨rfl, IsR.mono _, fun a W hA hb hd => takes_on (i := 6) (d := 65) (b := false) rfl rfl rfl (hd 6 (by simp) _ rfl) (yields_value _ ?_ rfl)⟩
    have h2 : a.tmps[2]?.getD undef = .int .u16 (gn : Int) := (eval_get a 2).trans ((hA.eval (by simp)).trans rfl)
    go_simp
  · refine ⟨rfl, OwR.mono _ _, fun a W hA hb hd => takes_on (i := 6) (d := 65) (b := false) rfl rfl rfl (hd 6 (by simp) _ rfl) ?_⟩
    have h68 : a.tmps[68]?.getD undef = .slice kA 32 kc := (eval_get a 68).trans (hd 9 (by simp) _ rfl)
    have h69 : a.tmps[69]?.getD undef = .int .u16 (gn : Int) := (eval_get a 69).trans (hd 10 (by simp) _ rfl)
    refine yields_call 63 #[.slice kA 32 kc, .int .u8 1, .int .u16 (gn : Int)] (by go_simp) ((HX.out W (IK.out.ab hb)).mono ?_)
    rintro e W1 ⟨v1, rfl, hv1, hb1⟩
    exact ⟨_, rfl, hv1.lower hb.size, hb1⟩
  · refine ⟨rfl, IsR.mono _, fun a W hA hb hd => takes_on (i := 6) (d := 65) (b := false) rfl rfl rfl (hd 6 (by simp) _ rfl) ?_⟩
    have ho : OwB W w7.heap.size (a.eval (.tmp 70)) (X) := hd 11 (by simp) _ rfl
    obtain ⟨Aa, ca, ea, -, -⟩ := ho.shape
    rw [ea] at ho
    have hst : (convert 22 9 (.slice Aa (X).length ca)).run Try.prog W = .ok (.string (strOf (X))) W := run_str (ho.isB rfl) _ _ _ Try.underlying22 Try.underlying5 Try.underlying9
    have h70 : a.tmps[70]?.getD undef = .slice Aa (X).length ca := (eval_get a 70).trans ea
    refine yields_value (.string (strOf (X))) ?_ rfl
    go_simp
  · refine ⟨rfl, IsR.mono _, fun a W hA hb hd => takes_on (i := 6) (d := 65) (b := false) rfl rfl rfl (hd 6 (by simp) _ rfl) (yields_value _ ?_ rfl)⟩
    have h67 : a.tmps[67]?.getD undef = .string (strOf X) := (eval_get a 67).trans (hd 8 (by simp) _ rfl)
    have h71 : a.tmps[71]?.getD undef = .string (strOf X) := (eval_get a 71).trans (hd 12 (by simp) _ rfl)
    go_simp
  · refine ⟨rfl, IsR.mono _, fun a W hA hb hd => takes_plain rfl (yields_value _ ?_ rfl)⟩
    have h65 : a.tmps[65]?.getD undef = .bool false := (eval_get a 65).trans (hd 6 (by simp) _ rfl)
    have h72 : a.tmps[72]?.getD undef = .bool false := (eval_get a 72).trans (hd 13 (by simp) _ rfl)
    go_simp
  · refine ⟨rfl, IsR.mono _, fun a W hA hb hd => takes_plain rfl (yields_value _ ?_ rfl)⟩
    have h73 : a.tmps[73]?.getD undef = .bool false := (eval_get a 73).trans (hd 14 (by simp) _ rfl)
    go_simp
  · refine ⟨rfl, IsR.mono _, fun a W hA hb hd => takes_on (i := 15) (d := 74) (b := false) rfl rfl rfl (hd 15 (by simp) _ rfl) (yields_value _ ?_ rfl)⟩
    have h10 : a.tmps[10]?.getD undef = .slice bA 32 bc := (eval_get a 10).trans ((hA.eval (by simp)).trans rfl)
    go_simp
  · refine ⟨rfl, IsR.mono _, fun a W hA hb hd => takes_on (i := 15) (d := 74) (b := false) rfl rfl rfl (hd 15 (by simp) _ rfl) (yields_value _ ?_ rfl)⟩
    have h75 : a.tmps[75]?.getD undef = .slice bA 32 bc := (eval_get a 75).trans (hd 16 (by simp) _ rfl)
    have hst : (convert 22 9 (.slice bA 32 bc)).run Try.prog W = .ok (.string (strOf Y)) W := run_str (IY.out.ab hb) _ _ _ Try.underlying22 Try.underlying5 Try.underlying9
    go_simp
  · refine ⟨rfl, IsR.mono _, fun a W hA hb hd => takes_on (i := 15) (d := 74) (b := false) rfl rfl rfl (hd 15 (by simp) _ rfl) (yields_value _ ?_ rfl)⟩
    have h0 : a.tmps[0]?.getD undef = .slice kA 32 kc := (eval_get a 0).trans ((hA.eval (by simp)).trans rfl)
    go_simp
  · refine ⟨rfl, IsR.mono _, fun a W hA hb hd => takes_on (i := 15) (d := 74) (b := false) rfl rfl rfl (hd 15 (by simp) _ rfl) (yields_value _ ?_ rfl)⟩
    have h2 : a.tmps[2]?.getD undef = .int .u16 (gn : Int) := (eval_get a 2).trans ((hA.eval (by simp)).trans rfl)
    go_simp
  · refine ⟨rfl, OwR.mono _ _, fun a W hA hb hd => takes_on (i := 15) (d := 74) (b := false) rfl rfl rfl (hd 15 (by simp) _ rfl) ?_⟩
    have h77 : a.tmps[77]?.getD undef = .slice kA 32 kc := (eval_get a 77).trans (hd 18 (by simp) _ rfl)
    have h78 : a.tmps[78]?.getD undef = .int .u16 (gn : Int) := (eval_get a 78).trans (hd 19 (by simp) _ rfl)
    refine yields_call 63 #[.slice kA 32 kc, .int .u8 2, .int .u16 (gn : Int)] (by go_simp) ((HY.out W (IK.out.ab hb)).mono ?_)
    rintro e W1 ⟨v1, rfl, hv1, hb1⟩
    exact ⟨_, rfl, hv1.lower hb.size, hb1⟩
  · refine ⟨rfl, IsR.mono _, fun a W hA hb hd => takes_on (i := 15) (d := 74) (b := false) rfl rfl rfl (hd 15 (by simp) _ rfl) ?_⟩
    have ho : OwB W w7.heap.size (a.eval (.tmp 79)) (Y) := hd 20 (by simp) _ rfl
    obtain ⟨Aa, ca, ea, -, -⟩ := ho.shape
    rw [ea] at ho
    have hst : (convert 22 9 (.slice Aa (Y).length ca)).run Try.prog W = .ok (.string (strOf (Y))) W := run_str (ho.isB rfl) _ _ _ Try.underlying22 Try.underlying5 Try.underlying9
    have h79 : a.tmps[79]?.getD undef = .slice Aa (Y).length ca := (eval_get a 79).trans ea
    refine yields_value (.string (strOf (Y))) ?_ rfl
    go_simp
  · refine ⟨rfl, IsR.mono _, fun a W hA hb hd => takes_on (i := 15) (d := 74) (b := false) rfl rfl rfl (hd 15 (by simp) _ rfl) (yields_value _ ?_ rfl)⟩
    have h76 : a.tmps[76]?.getD undef = .string (strOf Y) := (eval_get a 76).trans (hd 17 (by simp) _ rfl)
    have h80 : a.tmps[80]?.getD undef = .string (strOf Y) := (eval_get a 80).trans (hd 21 (by simp) _ rfl)
    go_simp
  intro vs w8 hR hF hb
  have e74 : vs 74 = .bool false := hR 15 _ rfl
  have e81 : vs 81 = .bool false := hR 22 _ rfl
  simp only [List.map_cons, List.map_nil, List.foldl_cons, List.foldl_nil, List.length_cons, List.length_nil, List.drop_succ_cons, List.drop_zero, Act.put, List.setIfInBounds_toArray, List.set_cons_zero, List.set_cons_succ, e74, e81]
  generalize vs 59 = q59 at *
  generalize vs 60 = q60 at *
  generalize vs 61 = q61 at *
  generalize vs 62 = q62 at *
  generalize vs 63 = q63 at *
  generalize vs 64 = q64 at *
  generalize vs 65 = q65 at *
  generalize vs 66 = q66 at *
  generalize vs 67 = q67 at *
  generalize vs 68 = q68 at *
  generalize vs 69 = q69 at *
  generalize vs 70 = q70 at *
  generalize vs 71 = q71 at *
  generalize vs 72 = q72 at *
  generalize vs 73 = q73 at *
  generalize vs 75 = q75 at *
  generalize vs 76 = q76 at *
  generalize vs 77 = q77 at *
  generalize vs 78 = q78 at *
  generalize vs 79 = q79 at *
  generalize vs 80 = q80 at *
  have B8 := Lib.hid (below_tr B7.out hb B7.out.size)
  clear hR hF hb e74 e81 IM IY IX IS IK B7 HX HY
  go_wp2_with fail
  refine (known22_any _).mono ?_
  rintro e w9 ⟨rfl, b9⟩
  have B9 := Lib.hid (below_tr B8.out b9 B8.out.size)
  clear b9
  go_wp2_with fail
  go_ret
  exact ⟨rfl, B9.out⟩
set_option maxRecDepth 100000 in
set_option maxHeartbeats 8000000 in
theorem draws_key (kA sA : Option Addr) (kn kc sn sc gn : Nat) (key secret : List Nat) (w : World) (ik : IsB w kA kn kc key) (is : IsB w sA sn sc secret) (hg : gn < 65536) (hk : kn ≤ 100000) (hs : sn ≤ 100000) (hne : kn ≠ 32) :
    Calls Try.prog 19 #[.slice kA kn kc, .slice sA sn sc, .int .u16 (gn : Int)] w fun e w' => e = .returned (.bool true) ∧ Below w.heap.size w w' := by
  have RX : Hid (drawnS key 1 gn = ([], 2)) := Lib.hid (if_neg fun h => by have := ik.len; omega)
  have RY : Hid (drawnS key 2 gn = ([], 2)) := Lib.hid (if_neg fun h => by have := ik.len; omega)
  have RM : Hid (markS key secret = ([], 2)) := Lib.hid (if_neg fun h => by have := ik.len; omega)
  have h1 : decide ((100000 : Int) < (sn : Int)) = false := by simp; omega
  have h2 : decide ((100000 : Int) < (kn : Int)) = false := by simp; omega
  have h3 : ((kn : Int) == 32) = false := by simp; omega
  have h4 : ((kn : Int) != 32) = true := by simp; omega
  replace ik := Lib.hid ik
  replace is := Lib.hid is
  replace hg := Lib.hid hg
  have hkn : Hid (kn ≤ 100000) := Lib.hid hk
  have hsn : Hid (sn ≤ 100000) := Lib.hid hs
  clear hs hk hne
  go_enter Try.func19, Try.ntmps19
  go_wp2_with fail
  refine (lent_any kA kn kc key w ik.out (by have := hkn.out; omega)).mono ?_
  rintro e w1 ⟨g1, d1, rfl, hl, hb⟩
  have L1 := Lib.hid hl
  have IS1 := Lib.hid (is.out.ab hb)
  have IK1 := Lib.hid (ik.out.ab hb)
  have B1 := Lib.hid hb
  clear hl hb
  go_wp2_with fail
  refine (root_any _ _ _ gn key w1 L1.out.isB hg.out).mono ?_
  rw [RX.out]
  rintro e w2 ⟨v, rfl, hv, hb⟩
  obtain ⟨aA, ac, rfl, -, -⟩ := hv.shape

  have X2 := Lib.hid (hv.isB rfl)
  have L2 := Lib.hid (L1.out.ab hb)
  have IS2 := Lib.hid (IS1.out.ab hb)
  have IK2 := Lib.hid (IK1.out.ab hb)
  have B2 := Lib.hid (below_tr B1.out hb B1.out.size)
  clear hv hb L1 IS1 IK1 B1
  go_wp2_with fail
  refine (wrapper_any _ _ _ gn key w2 L2.out.isB hg.out).mono ?_
  rw [RY.out]
  rintro e w3 ⟨v, rfl, hv, hb⟩
  obtain ⟨bA, bc, rfl, -, -⟩ := hv.shape

  have Y3 := Lib.hid (hv.isB rfl)
  have X3 := Lib.hid (X2.out.ab hb)
  have L3 := Lib.hid (L2.out.ab hb)
  have IS3 := Lib.hid (IS2.out.ab hb)
  have IK3 := Lib.hid (IK2.out.ab hb)
  have B3 := Lib.hid (below_tr B2.out hb B2.out.size)
  clear hv hb X2 L2 IS2 IK2 B2
  go_wp2_with fail
  refine (lent_any sA sn sc secret w3 IS3.out (by have := hsn.out; omega)).mono ?_
  rintro e w4 ⟨g4, d4, rfl, hl, hb⟩
  have N4 := Lib.hid hl
  have Y4 := Lib.hid (Y3.out.ab hb)
  have X4 := Lib.hid (X3.out.ab hb)
  have L4 := Lib.hid (L3.out.ab hb)
  have IS4 := Lib.hid (IS3.out.ab hb)
  have IK4 := Lib.hid (IK3.out.ab hb)
  have B4 := Lib.hid (below_tr B3.out hb B3.out.size)
  clear hl hb Y3 X3 L3 IS3 IK3 B3
  go_wp2_with fail
  refine (mark_any _ _ _ _ _ _ key secret w4 L4.out.isB N4.out.isB).mono ?_
  rw [RM.out]
  rintro e w5 ⟨cA, cc, rfl, hm, hb⟩

  have M5 := Lib.hid hm
  have N5 := Lib.hid (N4.out.ab hb)
  have Y5 := Lib.hid (Y4.out.ab hb)
  have X5 := Lib.hid (X4.out.ab hb)
  have L5 := Lib.hid (L4.out.ab hb)
  have IS5 := Lib.hid (IS4.out.ab hb)
  have IK5 := Lib.hid (IK4.out.ab hb)
  have B5 := Lib.hid (below_tr B4.out hb B4.out.size)
  clear hm hb N4 Y4 X4 L4 IS4 IK4 B4
  go_wp2_with fail
  refine (kept_any _ _ _ _ _ _ w5 L5.out IK5.out (by have := hkn.out; omega)).mono ?_
  rintro e w6 ⟨rfl, hb⟩
  have M6 := Lib.hid (M5.out.ab hb)
  have N6 := Lib.hid (N5.out.ab hb)
  have Y6 := Lib.hid (Y5.out.ab hb)
  have X6 := Lib.hid (X5.out.ab hb)
  have IS6 := Lib.hid (IS5.out.ab hb)
  have IK6 := Lib.hid (IK5.out.ab hb)
  have B6 := Lib.hid (below_tr B5.out hb B5.out.size)
  clear hb M5 N5 Y5 X5 L5 IS5 IK5 B5
  go_wp2_with fail
  refine (kept_any _ _ _ _ _ _ w6 N6.out IS6.out (by have := hsn.out; omega)).mono ?_
  rintro e w7 ⟨rfl, hb⟩
  have IM := Lib.hid (M6.out.ab hb)
  have IY := Lib.hid (Y6.out.ab hb)
  have IX := Lib.hid (X6.out.ab hb)
  have IS := Lib.hid (IS6.out.ab hb)
  have IK := Lib.hid (IK6.out.ab hb)
  have B7 := Lib.hid (below_tr B6.out hb B6.out.size)
  clear hb M6 N6 Y6 X6 IS6 IK6 B6
  go_wp2_with fail
  refine (known22_any _).mono ?_
  rintro e w9 ⟨rfl, b9⟩
  have B9 := Lib.hid (below_tr B7.out b9 B7.out.size)
  clear b9
  go_wp2_with fail
  go_ret
  exact ⟨rfl, B9.out⟩
set_option maxRecDepth 100000 in
set_option maxHeartbeats 8000000 in
theorem draws_any (kA sA : Option Addr) (kn kc sn sc gn : Nat) (key secret : List Nat) (w : World) (ik : IsB w kA kn kc key) (is : IsB w sA sn sc secret) (hg : gn < 65536) :
    Calls Try.prog 19 #[.slice kA kn kc, .slice sA sn sc, .int .u16 (gn : Int)] w fun e w' => e = .returned (.bool true) ∧ Below w.heap.size w w' := by
  by_cases h : 100000 < kn ∨ 100000 < sn
  · refine two_ways (decide ((100000 : Int) < (kn : Int))) (decide ((100000 : Int) < (sn : Int))) _ (fun h1 => ?_) (fun h1 h2 => ?_) (by simp only [decide_eq_true_eq]; omega)
    all_goals
      have B0 : Hid (Below w.heap.size w w) := Lib.hid (Below.refl _ _)
      clear h ik is hg
      go_enter Try.func19, Try.ntmps19
      go_wp2_with fail
      refine (known22_any _).mono ?_
      rintro e w9 ⟨rfl, b9⟩
      have B9 := Lib.hid (below_tr B0.out b9 B0.out.size)
      clear b9
      go_wp2_with fail
      go_ret
      exact ⟨rfl, B9.out⟩
  · by_cases h32 : kn = 32
    · subst h32
      by_cases h16 : sn = 16
      · subst h16
        exact draws_ok kA sA kc sc gn key secret w ik is hg
      · exact draws_mark kA sA kc sn sc gn key secret w ik is hg (by omega) h16
    · exact draws_key kA sA kn kc sn sc gn key secret w ik is hg (by omega) (by omega) h32
theorem draws_walk (kA : Option Addr) (kn kc : Nat) (zk : List Int) (sA : Option Addr) (sn sc : Nat) (zs : List Int) (zg : Int) (w : World) (hk : IsRow .u8 w kA kn kc zk) (sk : kc * 1 ≤ 140737488351232) (hs : IsRow .u8 w sA sn sc zs) (ss : sc * 1 ≤ 140737488351232) (hz : (Lit.int .u16 zg).wf = true) :
    Calls Try.prog 19 #[.slice kA kn kc, .slice sA sn sc, .int .u16 zg] w fun e w' => e = .returned (.bool true) ∧ Below w.heap.size w w' := by
  obtain ⟨key, rfl, bk⟩ := byt_of_row hk
  obtain ⟨secret, rfl, bs⟩ := byt_of_row hs
  simp only [Lit.wf, Bool.and_eq_true, decide_eq_true_eq] at hz
  have m1 : IntKind.u16.min = 0 := rfl
  have m2 : IntKind.u16.max = 65535 := rfl
  obtain ⟨gn, rfl⟩ : ∃ gn : Nat, zg = (gn : Int) := ⟨zg.toNat, by omega⟩
  exact draws_any kA sA kn kc sn sc gn key secret w ⟨hk, bk⟩ ⟨hs, bs⟩ (by omega)
end Go.Proofs.Ytpofndciepoooaa
