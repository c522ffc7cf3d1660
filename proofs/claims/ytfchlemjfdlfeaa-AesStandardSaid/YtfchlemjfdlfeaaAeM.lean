/-
  WALKS: Decrypt.
-/
import Derived.Test.YtfchlemjfdlfeaaAeL
import Derived.Deep.DeepCutAuto
namespace Go.Proofs.Ytfchlemjfdlfeaa
open Go.RowKit
set_option linter.unusedVariables false

set_option maxRecDepth 100000 in
set_option maxHeartbeats 4000000 in
theorem dec_any (g b N R : Nat) (W x : List Nat) (w : World) (hx : Byt x) (lx : x.length = 16) (hW : Byt W) (lW : W.length = 16 * (R + 1)) (hN : N = 4 * (R + 1)) (hR : 1 ≤ R) (hR2 : R ≤ 14) (hC : Cip w g (.slice (some ⟨b, 0, none⟩) N N) 256) (hB : Bk w b 34 W) :
    Calls Try.prog 27 #[.pointer (some ⟨g, 0, none⟩), .agg (bts x)] w fun e w' => e = .returned (.tuple #[.agg (bts (decK W R x)), .int .i64 0]) ∧ Below w.heap.size w w' := by
  have h0 := hC.head
  have hgl := hC.lt
  have hbl := hB.lt
  have hgl2 : g ≠ w.heap.size := by omega
  have hgl3 : g ≠ w.heap.size + 1 := by omega
  have hNR : IntKind.i64.wrap ((N : Int) / 4) = (R : Int) + 1 := by rw [IntWalk.i64_in _ (by omega)]; omega
  have hN4 : (4 : Int) ≤ (N : Int) := by omega
  have HC := Lib.hid hC
  have HB := Lib.hid hB
  have LX := Lib.hid lx
  have LW := Lib.hid lW
  have HN := Lib.hid hN
  clear hC hB lx lW hN
  have hst : EncSt w.heap.size (w.heap.size + 1 + 1) w ((((w.alloc (.cells (bts x) 35)).alloc (.cells (bts z16) 35)).alloc (.cells (bts z16) 67)).setRow (w.heap.size + 1 + 1) (bts x)) x :=
    ⟨(Bk.newAt _ z16 (by simp)).row x, ((Bk.newAt _ z16 (by simp)).alloc _).rowFar (by omega) _, Below.row ((((Below.refl _ _).alloc (Nat.le_refl _) _).alloc (by simp) _).alloc (by simp; omega) _) (by omega) _, by omega⟩
  have HST := Lib.hid hst
  clear hst
  go_enter Try.func27, Try.ntmps27
  go_wp2_with (first
    | (refine wpList_loadB (o := ⟨some 19, _, _, _, _, _⟩) rfl 35 (.tmp 3) rfl _ rfl ((Bk.newAt _ x rfl).alloc _) Try.underlying35 (by rw [LX.out]; exact sz16) ?_)
    | (refine wpList_storeB (o := ⟨none, .store _ (.tmp 7) (.tmp 19), _, _, _, _⟩) rfl 67 (.tmp 7) (.tmp 19) rfl _ rfl x rfl (Bk.newAt 67 z16 (by simp)) (by rw [LX.out]; exact szSt) (by rw [LX.out]; rfl) ?_))
  go_loopw [8] (fun v wr => ∃ j : Nat, j ≤ R ∧ v = .int .i64 j ∧ EncSt w.heap.size (w.heap.size + 1 + 1) w wr (decTo W R x (R - j))) (fun v _ => (intOf v).toNat)
  case atStart => exact ⟨R, Nat.le_refl _, rfl, by rw [Nat.sub_self]; exact HST.out⟩
  case round =>
    obtain ⟨j, hj1, rfl, ho⟩ := hrel
    clear HST
    by_cases hlt : 1 ≤ j
    · have hji : (1 : Int) ≤ (j : Int) := by omega
      have hcell : wr.cell? ⟨g, 0, none⟩ = some (.slice (some ⟨b, 0, none⟩) N N) := (ho.below.cell (p := ⟨g, 0, none⟩) hgl).trans h0
      have hc4 := fun W' => words_cut W' b N j (by have := HN.out; omega)
      have hsl : (decTo W R x (R - j)).length = 16 := decTo_len _ _ _ LX.out _
      have hsb : Byt (decTo W R x (R - j)) := decTo_byt hW hx _
      have hnx : decTo W R x (R - j + 1) = rndD W R j (decTo W R x (R - j)) := by
        rw [decTo, show R - (R - j) = j from by omega]
      rw [rndD] at hnx
      generalize decTo W R x (R - j) = s0 at *
      have HO := Lib.hid ho
      have HSL := Lib.hid hsl
      have HNX := Lib.hid hnx
      have hjw : (j : Int) ≤ 14 := by omega
      have hv1 : IntKind.i64.wrap (4 * (j : Int)) = 4 * (j : Int) := IntWalk.i64_in _ (by omega)
      have hv2 : IntKind.i64.wrap (4 * (j : Int) + 4) = 4 * (j : Int) + 4 := IntWalk.i64_in _ (by omega)
      clear ho hsl hnx
      go_wp2_with fail
      refine wp_still_tail 11 (by kernel_rfl) (by kernel_rfl) ?_
      simp only [List.take_succ_cons, List.take_zero, List.drop_succ_cons, List.drop_zero]
      refine wpStill_loadB rfl 67 (.tmp 7) rfl _ rfl HO.out.cur.drew Try.underlying67 (by rw [HSL.out]; exact szSt) ?_
      repeat still_step
      refine wpStill_nil ?_
      clear hv1 hv2 hcell hc4
      go_wp2_with fail
      refine (add_any s0 W b (16 * j) (N - 4 * j) hsb HSL.out hW _ (HB.out.below HO.out.below.drew hbl) (by rw [LW.out]; omega)).mono ?_
      rintro e w1 ⟨rfl, hb1⟩
      have H1 := Lib.hid (HO.out.drew.call hb1)
      clear hb1 HO
      have he : (addK s0 W (16 * j)).length = 16 := addK_len _ _ _
      have heb : Byt (addK s0 W (16 * j)) := addK_byt hsb hW _
      generalize addK s0 W (16 * j) = s1 at *
      have HE := Lib.hid he
      have H2 := Lib.hid (H1.out.row s1)
      clear he
      by_cases hjR : j < R
      · have hjd : (j : Int) < (R : Int) := by omega
        rw [decide_eq_true hjR, unmixIf, if_pos rfl] at HNX
        go_wp2_with (first
          | (refine wpList_storeB (o := ⟨none, .store _ (.tmp 7) (.tmp 36), _, _, _, _⟩) rfl 67 (.tmp 7) (.tmp 36) rfl _ rfl s1 rfl H1.out.cur (by rw [HE.out]; exact szSt) (by rw [HE.out, HSL.out]) ?_)
          | (refine wpList_loadB (o := ⟨some 40, _, _, _, _, _⟩) rfl 67 (.tmp 7) rfl _ rfl H2.out.cur Try.underlying67 (by rw [HE.out]; exact szSt) ?_))
        refine (columns_unmix s1 heb HE.out _).mono ?_
        rintro e w3 ⟨rfl, hb3⟩
        have H3 := Lib.hid (H2.out.call hb3)
        clear hb3
        have hg : (colK unmix s1).length = 16 := colK_len _ _
        have hgb : Byt (colK unmix s1) := colK_byt unmix_byt
        generalize colK unmix s1 = s3 at *
        have HL3 := Lib.hid hg
        have H4 := Lib.hid (H3.out.row s3)
        clear hg
        go_wp2_with (refine wpList_storeB (o := ⟨none, .store _ (.tmp 7) (.tmp 41), _, _, _, _⟩) rfl 67 (.tmp 7) (.tmp 41) rfl _ rfl s3 rfl H3.out.cur (by rw [HL3.out]; exact szSt) (by rw [HL3.out, HE.out]) ?_)
        refine wp_quiet_tail 6 (fun w' => EncSt w.heap.size (w.heap.size + 1 + 1) w w' s3) H4.out.drew (by kernel_rfl) (by kernel_rfl) ?_
        simp only [List.take_succ_cons, List.take_zero, List.drop_succ_cons, List.drop_zero]
        refine quiet_loadB rfl 67 (.tmp 7) rfl _ rfl (fun w' h => h.cur) Try.underlying67 (by rw [HL3.out]; exact szSt) ?_
        refine quiet_call (v := .agg (bts (shiftK 3 s3))) (f := 52) (args := #[.agg (bts s3), .int .i64 3]) rfl (fun w' => by go_simp) (fun w' h => (shift3_any s3 hgb HL3.out w').mono fun e w'' hh => ⟨hh.1, h.call hh.2⟩) ?_
        refine quiet_value (v := ?xv1) rfl ?xh1 ?xk1
        case xh1 => (intro w' hw'; go_simp; rfl)
        refine quiet_value (v := ?xv2) rfl ?xh2 ?xk2
        case xh2 => (intro w' hw'; go_simp; rfl)
        refine quiet_value (v := ?xv3) rfl ?xh3 ?xk3
        case xh3 => (intro w' hw'; go_simp; rfl)
        have hfb : Byt (shiftK 3 s3) := shiftK_byt hgb
        refine quiet_call (v := .agg (bts (eachK sinv (shiftK 3 s3)))) (f := 51) (args := #[.agg (bts (shiftK 3 s3)), .pointer (some ⟨g, 257, none⟩)]) rfl (fun w' => by go_simp) (fun w' h => (each_any sinv (shiftK 3 s3) g 257 hfb (shiftK_len _ _) sinv_lt w' (HC.out.tabs.2.below h.below)).mono fun e w'' hh => ⟨hh.1, h.call hh.2⟩) ?_
        refine wpQuiet_nil ?_
        intro w6 H6
        have hg : (eachK sinv (shiftK 3 s3)).length = 16 := eachK_len _ _
        generalize eachK sinv (shiftK 3 s3) = s6 at *
        have HG := Lib.hid hg
        have H6 := Lib.hid H6
        clear hg hfb
        have H7 := Lib.hid (H6.out.row s6)
        go_wp2_with (refine wpList_storeB (o := ⟨none, .store _ (.tmp 7) (.tmp 47), _, _, _, _⟩) rfl 67 (.tmp 7) (.tmp 47) rfl _ rfl s6 rfl H6.out.cur (by rw [HG.out]; exact szSt) (by rw [HG.out, HL3.out]) ?_)
        go_roundw
        case rel => exact ⟨j - 1, by omega, by go_num, by rw [show R - (j - 1) = R - j + 1 from by omega, HNX.out]; exact H7.out⟩
        case measure => simp [intOf]; omega
      · have hjd : ¬ (j : Int) < (R : Int) := by omega
        rw [decide_eq_false hjR, unmixIf, if_neg (by simp)] at HNX
        go_wp2_with (refine wpList_storeB (o := ⟨none, .store _ (.tmp 7) (.tmp 36), _, _, _, _⟩) rfl 67 (.tmp 7) (.tmp 36) rfl _ rfl s1 rfl H1.out.cur (by rw [HE.out]; exact szSt) (by rw [HE.out, HSL.out]) ?_)
        refine wp_quiet_tail 6 (fun w' => EncSt w.heap.size (w.heap.size + 1 + 1) w w' s1) H2.out.drew (by kernel_rfl) (by kernel_rfl) ?_
        simp only [List.take_succ_cons, List.take_zero, List.drop_succ_cons, List.drop_zero]
        refine quiet_loadB rfl 67 (.tmp 7) rfl _ rfl (fun w' h => h.cur) Try.underlying67 (by rw [HE.out]; exact szSt) ?_
        refine quiet_call (v := .agg (bts (shiftK 3 s1))) (f := 52) (args := #[.agg (bts s1), .int .i64 3]) rfl (fun w' => by go_simp) (fun w' h => (shift3_any s1 heb HE.out w').mono fun e w'' hh => ⟨hh.1, h.call hh.2⟩) ?_
        refine quiet_value (v := ?yv1) rfl ?yh1 ?yk1
        case yh1 => (intro w' hw'; go_simp; rfl)
        refine quiet_value (v := ?yv2) rfl ?yh2 ?yk2
        case yh2 => (intro w' hw'; go_simp; rfl)
        refine quiet_value (v := ?yv3) rfl ?yh3 ?yk3
        case yh3 => (intro w' hw'; go_simp; rfl)
        have hfb : Byt (shiftK 3 s1) := shiftK_byt heb
        refine quiet_call (v := .agg (bts (eachK sinv (shiftK 3 s1)))) (f := 51) (args := #[.agg (bts (shiftK 3 s1)), .pointer (some ⟨g, 257, none⟩)]) rfl (fun w' => by go_simp) (fun w' h => (each_any sinv (shiftK 3 s1) g 257 hfb (shiftK_len _ _) sinv_lt w' (HC.out.tabs.2.below h.below)).mono fun e w'' hh => ⟨hh.1, h.call hh.2⟩) ?_
        refine wpQuiet_nil ?_
        intro w6 H6
        have hg : (eachK sinv (shiftK 3 s1)).length = 16 := eachK_len _ _
        generalize eachK sinv (shiftK 3 s1) = s6 at *
        have HG := Lib.hid hg
        have H6 := Lib.hid H6
        clear hg hfb
        have H7 := Lib.hid (H6.out.row s6)
        go_wp2_with (refine wpList_storeB (o := ⟨none, .store _ (.tmp 7) (.tmp 47), _, _, _, _⟩) rfl 67 (.tmp 7) (.tmp 47) rfl _ rfl s6 rfl H6.out.cur (by rw [HG.out]; exact szSt) (by rw [HG.out, HE.out]) ?_)
        go_roundw
        case rel => exact ⟨j - 1, by omega, by go_num, by rw [show R - (j - 1) = R - j + 1 from by omega, HNX.out]; exact H7.out⟩
        case measure => simp [intOf]; omega
    · have hj3 : R - j = R := by omega
      have hjd : ¬ (1 : Int) ≤ (j : Int) := by omega
      rw [hj3] at ho
      have hsl : (decTo W R x R).length = 16 := decTo_len _ _ _ LX.out _
      have hsb : Byt (decTo W R x R) := decTo_byt hW hx _
      have hye : decK W R x = addK (decTo W R x R) W 0 := rfl
      generalize decTo W R x R = s0 at *
      have hcell : wr.cell? ⟨g, 0, none⟩ = some (.slice (some ⟨b, 0, none⟩) N N) := (ho.below.cell (p := ⟨g, 0, none⟩) hgl).trans h0
      have HO := Lib.hid ho
      have HSL := Lib.hid hsl
      have HYE := Lib.hid hye
      clear ho hsl hye hj3
      go_wp2_with fail
      refine wp_still_tail 6 (by kernel_rfl) (by kernel_rfl) ?_
      simp only [List.take_succ_cons, List.take_zero, List.drop_succ_cons, List.drop_zero]
      refine wpStill_loadB rfl 67 (.tmp 7) rfl _ rfl HO.out.cur.drew Try.underlying67 (by rw [HSL.out]; exact szSt) ?_
      repeat still_step
      refine wpStill_nil ?_
      clear hcell
      go_wp2_with fail
      refine (add_any s0 W b 0 N hsb HSL.out hW _ (HB.out.below HO.out.below.drew hbl) (by rw [LW.out]; omega)).mono ?_
      rintro e w1 ⟨rfl, hb1⟩
      have H1 := Lib.hid (HO.out.drew.call hb1)
      clear hb1 HO
      have he : (addK s0 W 0).length = 16 := addK_len _ _ _
      generalize addK s0 W 0 = s1 at *
      have HE := Lib.hid he
      clear he
      go_wp2_with (refine wpList_storeB (o := ⟨none, .store _ (.tmp 4) (.tmp 54), _, _, _, _⟩) rfl 35 (.tmp 4) (.tmp 54) rfl _ rfl s1 rfl H1.out.res (by rw [HE.out]; exact sz16) (by rw [HE.out]; rfl) ?_)
      refine bodyPost_ret (results_bts2 Try.results27 _ _ _ rfl (H1.out.res.row s1) Try.underlying35 (by rw [HE.out]; exact sz16)) rfl ?_
      exact ⟨by rw [HYE.out]; rfl, Below.row H1.out.below (by omega) _⟩
end Go.Proofs.Ytfchlemjfdlfeaa
