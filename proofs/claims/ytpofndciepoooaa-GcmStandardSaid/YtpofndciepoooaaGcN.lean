/-
  GcmStandard: the walk.
-/
import Derived.Test.YtpofndciepoooaaGcL
namespace Go.Proofs.Ytpofndciepoooaa
open Go.RowKit
set_option linter.unusedVariables false

def gsT : List Nat := [0xab, 0x6e, 0x47, 0xd4, 0x2c, 0xec, 0x13, 0xbd, 0xf5, 0x3a, 0x67, 0xb2, 0x12, 0x57, 0xbd, 0xdf]
theorem sumB_one (h t : List Nat) (ht : t.length = 16) : sumB h [] t = digB (hmul (hmul (0 ^^^ numB (pad16 (t.take 16))) (numB h) ^^^ N2 0 (8 * t.length)) (numB h)) 16 := by
  rw [sumB, hsum, absorb_nil, absorb_cons _ _ (by omega), List.drop_of_length_le (by omega), absorb_nil]
  rfl
theorem gs_tag : tagA (zeros 16) (zeros 12) [] ctC = gsT := by
  rw [tagA, sumB_one _ _ rfl]
  decide +kernel
theorem gs_known : sealA (zeros 16) (zeros 12) [] (zeros 16) = ctC ++ gsT := by rw [sealA, ct_known, gs_tag]
theorem gs_seal : sealS (zeros 16) (zeros 12) [] (zeros 16) = (ctC ++ gsT, 0) := by
  unfold sealS
  rw [if_pos gm_gok, if_neg (by decide), gs_known]
theorem gs_open : openS (zeros 16) (zeros 12) [] (ctC ++ gsT) = (zeros 16, 0) := by
  rw [← gs_known]
  exact open_seal gm_gok (by decide) (by decide)
theorem gs_bad : openS (zeros 16) (zeros 12) [] ((ctC ++ gsT).set 31 222) = ([], 60) := by
  have h1 : ((ctC ++ gsT).set 31 222).take (((ctC ++ gsT).set 31 222).length - 16) = ctC := rfl
  unfold openS
  rw [if_pos gm_gok, if_neg (by decide), if_neg (by decide), h1, gs_tag, if_neg (by decide)]
theorem gs_short : openS (zeros 16) (zeros 12) [] (((ctC ++ gsT).set 31 222).take 15) = ([], 4) := by
  unfold openS
  rw [if_pos gm_gok, if_neg (by decide), if_pos (by decide)]
theorem gs_str : ((strOf (ctC ++ gsT)).toList == [3, 136, 218, 206, 96, 182, 163, 146, 243, 40, 194, 185, 113, 178, 254, 120, 171, 110, 71, 212, 44, 236, 19, 189, 245, 58, 103, 178, 18, 87, 189, 223]) = true := by decide +kernel
set_option maxRecDepth 100000 in
set_option maxHeartbeats 4000000 in
theorem gstd_any (w : World) : Calls Try.prog 11 #[] w fun e w' => e = .returned (.bool true) ∧ Below w.heap.size w w' := by
  have hse := fun kA nA tA nc W h1 h2 h3 => gseal_any kA nA none tA 16 16 12 nc 0 0 16 16 (zeros 16) (zeros 12) [] (zeros 16) W h1 h2 (isB_nil W) h3
  rw [gs_seal] at hse
  have hop := fun kA nA A nc c W h1 h2 h3 => gopen_any kA nA none A 16 16 12 nc 0 0 32 c (zeros 16) (zeros 12) [] (ctC ++ gsT) W h1 h2 (isB_nil W) h3
  rw [gs_open] at hop
  have hop2 := fun kA nA A nc c W h1 h2 h3 => gopen_any kA nA none A 16 16 12 nc 0 0 32 c (zeros 16) (zeros 12) [] ((ctC ++ gsT).set 31 222) W h1 h2 (isB_nil W) h3
  rw [gs_bad] at hop2
  have hop3 := fun kA nA A nc c W h1 h2 h3 => gopen_any kA nA none A 16 16 12 nc 0 0 15 c (zeros 16) (zeros 12) [] (((ctC ++ gsT).set 31 222).take 15) W h1 h2 (isB_nil W) h3
  rw [gs_short] at hop3
  have HSE := Lib.hid hse
  have HOP := Lib.hid hop
  have HO2 := Lib.hid hop2
  have HO3 := Lib.hid hop3
  clear hse hop hop2 hop3
  have hmk : ∀ W : World, (Instr.makeSlice 22 (.int .i64 16) (.int .i64 16)).run Try.prog W = .ok (.slice (some ⟨W.heap.size, 0, none⟩) 16 16) (W.alloc (.cells (bts (zeros 16)) 5)) := fun W => make_u8 16 16 (by decide) (by decide) W
  have hs12 : ∀ (W : World) A, (Instr.sliceAt 22 (.slice A 16 16) none (some (.int .i64 12)) none).run Try.prog W = .ok (.slice A 12 16) W := fun W A => sl_upto W A 16 16 12 (by decide)
  go_enter Try.func11, Try.ntmps11
  go_wp2_with fail
  have Z1 : Hid (IsB (w.alloc (.cells (bts (zeros 16)) 5)) (some ⟨w.heap.size, 0, none⟩) 16 16 (zeros 16)) := Lib.hid (isB_whole (Bk.newAt _ (zeros 16) rfl) (byt_zeros 16) (zeros_len 16) (by decide))
  have B1 : Hid (Below w.heap.size w (w.alloc (.cells (bts (zeros 16)) 5))) := Lib.hid ((Below.refl _ _).alloc (Nat.le_refl _) _)
  have ZL : Hid (w.heap.size < (w.alloc (.cells (bts (zeros 16)) 5)).heap.size) := Lib.hid (by simp)
  generalize w.alloc (.cells (bts (zeros 16)) 5) = W1 at *
  have N1 : Hid (IsB W1 (some ⟨w.heap.size, 0, none⟩) 12 16 (zeros 12)) := Lib.hid (Z1.out.take (m := 12) (by decide))
  clear hmk
  refine (HSE.out _ _ _ _ W1 Z1.out N1.out Z1.out).mono ?_
  rintro e w2 ⟨v2, rfl, hv2, hb2⟩
  obtain ⟨g2, c2, rfl, hg2, -, -, -, -⟩ := hv2.form (by decide)
  have hl : (ctC ++ gsT).length = 32 := rfl
  rw [hl] at hv2 ⊢
  have O2 := Lib.hid hv2
  have I2 := Lib.hid (hv2.isB hl)
  have G2 : Hid (w.heap.size ≠ g2) := Lib.hid (by have := ZL.out; omega)
  have Z2 := Lib.hid (Z1.out.ab hb2)
  have N2 := Lib.hid (N1.out.ab hb2)
  have B2 := Lib.hid (below_tr B1.out hb2 B1.out.size)
  have hst : (convert 22 9 (.slice (some ⟨g2, 0, none⟩) 32 c2)).run Try.prog w2 = .ok (.string (strOf (ctC ++ gsT))) w2 := run_str I2.out _ _ _ Try.underlying22 Try.underlying5 Try.underlying9
  have gs := gs_str
  clear hv2 hb2 Z1 N1 B1 hg2 hl HSE
  go_wp2_with fail
  refine (HOP.out _ _ _ _ _ w2 Z2.out N2.out I2.out).mono ?_
  rintro e w3 ⟨v3, rfl, hv3, hb3⟩
  obtain ⟨A3, c3, rfl, -, -⟩ := hv3.shape
  rw [zeros_len] at hv3 ⊢
  have D3 := Lib.hid (hv3.isB (zeros_len 16))
  have O3 := Lib.hid (O2.out.ab hb3)
  have Z3 := Lib.hid (Z2.out.ab hb3)
  have N3 := Lib.hid (N2.out.ab hb3)
  have B3 := Lib.hid (below_tr B2.out hb3 B2.out.size)
  have hD : ∀ x, A3 = some x → x.block ≠ g2 := fun x hx => by
    subst hx
    have h1 := (hv3.lt x.block rfl).1
    have h2 := (O2.out.lt g2 rfl).2
    omega
  have HD := Lib.hid hD
  have c31 : w3.cell? ⟨g2, 31, none⟩ = some (.int .u8 223) := O3.out.rw 31 (by decide)
  have f31 := O3.out.free rfl 31
  have x31 : bits .xor .u8 223 1 = 222 := by decide
  have O4 : Hid (OwB (w3.setCell ⟨g2, 31, none⟩ (.int .u8 222)) W1.heap.size (.slice (some ⟨g2, 0, none⟩) 32 c2) ((ctC ++ gsT).set 31 222)) := Lib.hid (O3.out.store rfl (k := 31) (x := 222) (by decide))
  have Z4 : Hid (IsB (w3.setCell ⟨g2, 31, none⟩ (.int .u8 222)) (some ⟨w.heap.size, 0, none⟩) 16 16 (zeros 16)) := Lib.hid (isB_cellFar Z3.out (fun x hx => by injection hx with hx; subst hx; exact G2.out) _)
  have D4 : Hid (IsB (w3.setCell ⟨g2, 31, none⟩ (.int .u8 222)) A3 16 c3 (zeros 16)) := Lib.hid (isB_cellFar D3.out HD.out _)
  have B4 : Hid (Below w.heap.size w (w3.setCell ⟨g2, 31, none⟩ (.int .u8 222))) := Lib.hid (B3.out.setCell (by show w.heap.size ≤ g2; have := (O2.out.lt g2 rfl).1; have := ZL.out; omega) _)
  clear hv3 hb3 Z2 N2 B2 I2 O2 hD HOP hst gs O3 Z3 N3 B3 D3 HD
  go_wp2_with fail
  generalize w3.setCell ⟨g2, 31, none⟩ (.int .u8 222) = w4 at *
  clear c31 f31 x31
  have N4 : Hid (IsB w4 (some ⟨w.heap.size, 0, none⟩) 12 16 (zeros 12)) := Lib.hid (Z4.out.take (m := 12) (by decide))
  have I4 := Lib.hid (O4.out.isB rfl)
  refine (HO2.out _ _ _ _ _ w4 Z4.out N4.out I4.out).mono ?_
  rintro e w5 ⟨v5, rfl, hv5, hb5⟩
  obtain ⟨A5, c5, rfl, -, -⟩ := hv5.shape
  have Z5 := Lib.hid (Z4.out.ab hb5)
  have N5 := Lib.hid (N4.out.ab hb5)
  have I5 := Lib.hid (I4.out.ab hb5)
  have D5 := Lib.hid (D4.out.ab hb5)
  have B5 := Lib.hid (below_tr B4.out hb5 B4.out.size)
  clear hv5 hb5 Z4 N4 I4 D4 B4 O4 HO2
  have hc2 := I5.out.1.lenCap
  have hs15 : ∀ (W : World), (Instr.sliceAt 22 (.slice (some ⟨g2, 0, none⟩) 32 c2) none (some (.int .i64 15)) none).run Try.prog W = .ok (.slice (some ⟨g2, 0, none⟩) 15 c2) W := fun W => sl_upto W _ 32 c2 15 (by omega)
  have J5 := Lib.hid (I5.out.take (m := 15) (by decide))
  go_wp2_with fail
  refine wp_wide2 [⟨48, IsR (.slice (some ⟨w.heap.size, 0, none⟩) 16 16), [], false⟩, ⟨49, IsR (.slice (some ⟨w.heap.size, 0, none⟩) 16 16), [], false⟩, ⟨50, IsR (.slice (some ⟨w.heap.size, 0, none⟩) 12 16), [1], false⟩, ⟨51, IsR (.slice (some ⟨g2, 0, none⟩) 32 c2), [], false⟩, ⟨52, IsR (.slice (some ⟨g2, 0, none⟩) 15 c2), [3], false⟩, ⟨53, TupB w5.heap.size 4 [], [0, 2, 4], false⟩, ⟨47, TupB w5.heap.size 4 [], [5], false⟩, ⟨54, OwR w5.heap.size [], [6], false⟩, ⟨55, IsR (.int .i64 4), [6], false⟩, ⟨8, OwR w5.heap.size [], [7], false⟩] (by kernel_rfl) (by kernel_rfl) rfl rfl rfl ⟨?_, ?_, ?_, ?_, ?_, ?_, ?_, ?_, ?_, ?_, trivial⟩ ?_
  · refine ⟨rfl, rfl, IsR.mono _, fun a W2 hA hb hd => yields_value _ ?_ rfl⟩
    have h0 : a.tmps[1]?.getD undef = .slice (some ⟨w.heap.size, 0, none⟩) 16 16 := (eval_get a 1).trans ((hA.eval (by simp)).trans rfl)
    go_simp
  · refine ⟨rfl, rfl, IsR.mono _, fun a W2 hA hb hd => yields_value _ ?_ rfl⟩
    have h0 : a.tmps[1]?.getD undef = .slice (some ⟨w.heap.size, 0, none⟩) 16 16 := (eval_get a 1).trans ((hA.eval (by simp)).trans rfl)
    go_simp
  · refine ⟨rfl, rfl, IsR.mono _, fun a W2 hA hb hd => yields_value _ ?_ rfl⟩
    have h0 : a.tmps[49]?.getD undef = .slice (some ⟨w.heap.size, 0, none⟩) 16 16 := (eval_get a 49).trans (hd 1 (by simp) _ rfl)
    go_simp
  · refine ⟨rfl, rfl, IsR.mono _, fun a W2 hA hb hd => yields_value _ ?_ rfl⟩
    have h0 : a.tmps[2]?.getD undef = .slice (some ⟨g2, 0, none⟩) 32 c2 := (eval_get a 2).trans ((hA.eval (by simp)).trans rfl)
    go_simp
  · refine ⟨rfl, rfl, IsR.mono _, fun a W2 hA hb hd => yields_value _ ?_ rfl⟩
    have h0 : a.tmps[51]?.getD undef = .slice (some ⟨g2, 0, none⟩) 32 c2 := (eval_get a 51).trans (hd 3 (by simp) _ rfl)
    go_simp
  · refine ⟨rfl, rfl, TupB.mono _ _ _, fun a W2 hA hb hd => ?_⟩
    have h0 : a.tmps[48]?.getD undef = .slice (some ⟨w.heap.size, 0, none⟩) 16 16 := (eval_get a 48).trans (hd 0 (by simp) _ rfl)
    have h1 : a.tmps[50]?.getD undef = .slice (some ⟨w.heap.size, 0, none⟩) 12 16 := (eval_get a 50).trans (hd 2 (by simp) _ rfl)
    have h2 : a.tmps[52]?.getD undef = .slice (some ⟨g2, 0, none⟩) 15 c2 := (eval_get a 52).trans (hd 4 (by simp) _ rfl)
    refine yields_call 35 #[.slice (some ⟨w.heap.size, 0, none⟩) 16 16, .slice (some ⟨w.heap.size, 0, none⟩) 12 16, .slice none 0 0, .slice (some ⟨g2, 0, none⟩) 15 c2] (by go_simp) ((HO3.out _ _ _ _ _ W2 (Z5.out.ab hb) (N5.out.ab hb) (J5.out.ab hb)).mono ?_)
    rintro e W' ⟨v, rfl, hv, hb'⟩
    exact ⟨_, rfl, ⟨v, rfl, hv.lower hb.size⟩, hb'⟩
  · refine ⟨rfl, rfl, TupB.mono _ _ _, fun a W2 hA hb hd => ?_⟩
    obtain ⟨v0, e0, ho⟩ := hd 5 (by simp) _ rfl
    have h0 : a.tmps[53]?.getD undef = .tuple #[v0, .int .i64 ((4 : Nat) : Int)] := (eval_get a 53).trans e0
    refine yields_value (.tuple #[v0, .int .i64 ((4 : Nat) : Int)]) ?_ ⟨v0, rfl, ho⟩
    go_simp
  · refine ⟨rfl, rfl, OwR.mono _ _, fun a W2 hA hb hd => ?_⟩
    obtain ⟨v0, e0, ho⟩ := hd 6 (by simp) _ rfl
    have h0 : a.tmps[47]?.getD undef = .tuple #[v0, .int .i64 ((4 : Nat) : Int)] := (eval_get a 47).trans e0
    refine yields_value v0 ?_ ho
    go_simp
  · refine ⟨rfl, rfl, IsR.mono _, fun a W2 hA hb hd => ?_⟩
    obtain ⟨v0, e0, ho⟩ := hd 6 (by simp) _ rfl
    have h0 : a.tmps[47]?.getD undef = .tuple #[v0, .int .i64 ((4 : Nat) : Int)] := (eval_get a 47).trans e0
    refine yields_value (.int .i64 4) ?_ rfl
    go_simp
  · refine ⟨rfl, rfl, OwR.mono _ _, fun a W2 hA hb hd => ?_⟩
    have ho : OwB W2 w5.heap.size (a.eval (.tmp 54)) [] := hd 7 (by simp) _ rfl
    exact yields_value (a.eval (.tmp 54)) (exec_assign (.tmp 54) rfl W2) ho
  intro vs W2 hR hF hb
  have e55 : vs 55 = .int .i64 4 := hR 8 _ rfl
  simp only [List.map_cons, List.map_nil, List.foldl_cons, List.foldl_nil, List.length_cons, List.length_nil, List.drop_succ_cons, List.drop_zero, Act.put, List.setIfInBounds_toArray, List.set_cons_zero, List.set_cons_succ, e55]
  generalize vs 8 = v8
  generalize vs 47 = v47
  generalize vs 48 = v48
  generalize vs 49 = v49
  generalize vs 50 = v50
  generalize vs 51 = v51
  generalize vs 52 = v52
  generalize vs 53 = v53
  generalize vs 54 = v54
  have D6 := D5.out.ab hb
  have Z6 := Z5.out.ab hb
  have B6 := Lib.hid (below_tr B5.out hb B5.out.size)
  have hsA : (convert 22 9 (.slice A3 16 c3)).run Try.prog W2 = .ok (.string (strOf (zeros 16))) W2 := run_str D6 _ _ _ Try.underlying22 Try.underlying5 Try.underlying9
  have hsB : (convert 22 9 (.slice (some ⟨w.heap.size, 0, none⟩) 16 16)).run Try.prog W2 = .ok (.string (strOf (zeros 16))) W2 := run_str Z6 _ _ _ Try.underlying22 Try.underlying5 Try.underlying9
  clear hR hF hb e55 D6 Z6 D5 Z5 B5 N5 I5 J5 HO3
  go_wp2_with fail
  refine (known6_any _).mono ?_
  rintro e w7 ⟨rfl, b7⟩
  have B7 := Lib.hid (below_tr B6.out b7 B6.out.size)
  clear b7
  go_wp2_with fail
  go_ret
  exact ⟨rfl, B7.out⟩
end Go.Proofs.Ytpofndciepoooaa
