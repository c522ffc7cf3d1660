/-
  WALKS of the laws of layer 3: AesStandard.
-/
import Derived.Test.YtfchlemjfdlfeaaLe
import Derived.Test.YtfchlemjfdlfeaaBack
namespace Go.Proofs.Ytfchlemjfdlfeaa
open Go.RowKit
set_option linter.unusedVariables false

def stdKey : List Nat := [43, 126, 21, 22, 40, 174, 210, 166, 171, 247, 21, 136, 9, 207, 79, 60]
def stdC2 : List Nat := [142, 162, 183, 202, 81, 103, 69, 191, 234, 252, 73, 144, 75, 73, 96, 137]
theorem std_w4 : ((wordsAll 4 stdKey).drop 16).take 4 = [160, 250, 254, 23] := by decide +kernel
theorem std_w43 : ((wordsAll 4 stdKey).drop 172).take 4 = [182, 99, 12, 166] := by decide +kernel
theorem std_enc2 : encK (wordsAll 8 (List.range 32)) 14 stdBlock = stdC2 := by decide +kernel
theorem at_of_drop {l c : List Nat} {o i m : Nat} (h : (l.drop o).take m = c) (hi : i < m) : l[o + i]?.getD 0 = c[i]?.getD 0 := by
  rw [← h]
  simp [List.getElem?_drop, hi]
theorem Bk.laid' {w : World} {b : Nat} {t : TypeId} {l : List Nat} (h : Bk w b t l) (o : Obj) (cs : Array Value) : Bk ((w.alloc o).setRow w.heap.size cs) b t l :=
  (h.alloc o).rowFar (by have := h.lt; omega) cs
set_option maxRecDepth 100000 in
set_option maxHeartbeats 4000000 in
theorem standard_any (w : World) : Calls Try.prog 8 #[] w fun e w' => e = .returned (.bool true) ∧ Below w.heap.size w w' := by
  have hk0 : IsB (w.alloc (.cells #[.int .u8 43, .int .u8 126, .int .u8 21, .int .u8 22, .int .u8 40, .int .u8 174, .int .u8 210, .int .u8 166, .int .u8 171, .int .u8 247, .int .u8 21, .int .u8 136, .int .u8 9, .int .u8 207, .int .u8 79, .int .u8 60] 5)) (some ⟨w.heap.size, 0, none⟩) 16 16 stdKey := by
    have := (Bk.new w 5 stdKey).isB (by unfold Byt stdKey; decide) 16 16 (by simp [stdKey]) (Nat.le_refl _) (by omega)
    rw [List.take_of_length_le (by simp [stdKey])] at this
    exact this
  have hb0 : Below w.heap.size w (w.alloc (.cells #[.int .u8 43, .int .u8 126, .int .u8 21, .int .u8 22, .int .u8 40, .int .u8 174, .int .u8 210, .int .u8 166, .int .u8 171, .int .u8 247, .int .u8 21, .int .u8 136, .int .u8 9, .int .u8 207, .int .u8 79, .int .u8 60] 5)) := (Below.refl _ _).alloc (Nat.le_refl _) _
  have e1 : ∀ W, (Op.equalIn 10000 34 (.agg #[.int .u8 160, .int .u8 250, .int .u8 254, .int .u8 23]) (.agg #[.int .u8 160, .int .u8 250, .int .u8 254, .int .u8 23])).run Try.prog W = .ok true W := fun W => by
    obtain ⟨i, hi, hs⟩ := infoB
    exact run_eq_bytes W 9998 [160, 250, 254, 23] [160, 250, 254, 23] Try.underlying34 Try.underlying5 hi hs (by kernel_rfl) rfl rfl
  have e2 : ∀ W, (Op.equalIn 10000 34 (.agg #[.int .u8 182, .int .u8 99, .int .u8 12, .int .u8 166]) (.agg #[.int .u8 182, .int .u8 99, .int .u8 12, .int .u8 166])).run Try.prog W = .ok true W := fun W => by
    obtain ⟨i, hi, hs⟩ := infoB
    exact run_eq_bytes W 9998 [182, 99, 12, 166] [182, 99, 12, 166] Try.underlying34 Try.underlying5 hi hs (by kernel_rfl) rfl rfl
  have e3 : ∀ W, (Op.equalIn 10000 35 (.agg (bts stdC2)) (.agg #[.int .u8 142, .int .u8 162, .int .u8 183, .int .u8 202, .int .u8 81, .int .u8 103, .int .u8 69, .int .u8 191, .int .u8 234, .int .u8 252, .int .u8 73, .int .u8 144, .int .u8 75, .int .u8 73, .int .u8 96, .int .u8 137])).run Try.prog W = .ok true W := fun W => equal_yes stdC2 rfl W
  have hx0 := stdBlock_byt
  have hxl : stdBlock.length = 16 := rfl
  have hbl := block_any
  have hW := (wordsAll_exp (k := 8) (key := List.range 32) (.inr rfl) rfl (range_byt 32 (by omega))).byt
  have c1 := fun b g W h => encC_any b g 8 (List.range 32) stdBlock W (.inr rfl) rfl (range_byt 32 (by omega)) stdBlock_byt rfl h
  have c2 := fun b g W h => decC_any b g 8 (List.range 32) stdC2 W (.inr rfl) rfl (range_byt 32 (by omega)) (by unfold Byt stdC2; decide) rfl h
  rw [show 8 + 6 = 14 from rfl] at c1 c2
  rw [std_enc2] at c1
  rw [← std_enc2, dec_enc 14 hW stdBlock_byt rfl, std_enc2] at c2
  have hcl : stdC2.length = 16 := rfl
  have hw4 := std_w4
  have hw43 := std_w43
  have hwl : (wordsAll 4 stdKey).length = 176 := by decide +kernel
  have hwd := fun B d W h => words_any 4 16 stdKey B d W (.inl rfl) rfl h
  generalize wordsAll 4 stdKey = E at hw4 hw43 hwl hwd
  generalize stdC2 = z at *
  generalize stdBlock = y at *
  have e4 := equal_yes y hxl
  have HK0 := Lib.hid hk0
  have HB0 := Lib.hid hb0
  have HC1 := Lib.hid c1
  have HC2 := Lib.hid c2
  have HBL := Lib.hid hbl
  have HWD := Lib.hid hwd
  have HW4 := Lib.hid hw4
  have HW43 := Lib.hid hw43
  have HWL := Lib.hid hwl
  have LX := Lib.hid hcl
  have LY := Lib.hid hxl
  clear hk0 hb0 c1 c2 hbl hwd hw4 hw43 hwl hcl hxl hW hx0
  go_enter Try.func8, Try.ntmps8
  go_wp2_with fail
  refine (HWD.out _ _ _ HK0.out).mono ?_
  rintro e w1 ⟨rfl, hE, hb1⟩
  have HB1 := Lib.hid (HB0.out.trans (hb1.mono HB0.out.size))
  have HE := Lib.hid hE
  clear hE hb1 HB0
  go_wp2_with fail
  refine (count_any 32 (by omega) _).mono ?_
  rintro e w2 ⟨v, rfl, hown, hb2⟩
  obtain ⟨g0, c0, rfl, hg0, hg0l, hc0, hc0m, _⟩ := hown.form (by simp)
  rw [List.length_range] at hc0 hown ⊢
  have HIN := Lib.hid (hown.isB (A := some ⟨g0, 0, none⟩) (n := 32) (c := c0) (by simp))
  have HB2 := Lib.hid (HB1.out.trans (hb2.mono HB1.out.size))
  have HE2 := Lib.hid (HE.out.ab hb2)
  clear hown hb2 HB1 HE
  go_wp2_with fail
  refine (new_any 8 32 (List.range 32) _ _ _ (.inr rfl) rfl HIN.out).mono ?_
  rintro e w3 ⟨cb, cg, rfl, hbg, hwb, hck, hb3⟩
  have HCK := Lib.hid hck
  have HB3 := Lib.hid (HB2.out.trans (hb3.mono HB2.out.size))
  have hE3 := HE2.out.ab hb3
  rw [show (w.alloc (.cells #[.int .u8 43, .int .u8 126, .int .u8 21, .int .u8 22, .int .u8 40, .int .u8 174, .int .u8 210, .int .u8 166, .int .u8 171, .int .u8 247, .int .u8 21, .int .u8 136, .int .u8 9, .int .u8 207, .int .u8 79, .int .u8 60] 5)).heap.size = w.heap.size + 1 from by simp] at hE3
  clear hck hb3 HB2 HE2
  have d0 := hE3.cell (k := 16 + 0) (by rw [HWL.out]; omega)
  have d1 := hE3.cell (k := 16 + 1) (by rw [HWL.out]; omega)
  have d2 := hE3.cell (k := 16 + 2) (by rw [HWL.out]; omega)
  have d3 := hE3.cell (k := 16 + 3) (by rw [HWL.out]; omega)
  have f0 := hE3.cell (k := 172 + 0) (by rw [HWL.out]; omega)
  have f1 := hE3.cell (k := 172 + 1) (by rw [HWL.out]; omega)
  have f2 := hE3.cell (k := 172 + 2) (by rw [HWL.out]; omega)
  have f3 := hE3.cell (k := 172 + 3) (by rw [HWL.out]; omega)
  rw [at_of_drop HW4.out (by omega)] at d0 d1 d2 d3
  rw [at_of_drop HW43.out (by omega)] at f0 f1 f2 f3
  simp only [Nat.reduceAdd] at d0 d1 d2 d3 f0 f1 f2 f3
  change w3.cell? ⟨_, 16, none⟩ = some (.int .u8 160) at d0
  change w3.cell? ⟨_, 17, none⟩ = some (.int .u8 250) at d1
  change w3.cell? ⟨_, 18, none⟩ = some (.int .u8 254) at d2
  change w3.cell? ⟨_, 19, none⟩ = some (.int .u8 23) at d3
  change w3.cell? ⟨_, 172, none⟩ = some (.int .u8 182) at f0
  change w3.cell? ⟨_, 173, none⟩ = some (.int .u8 99) at f1
  change w3.cell? ⟨_, 174, none⟩ = some (.int .u8 12) at f2
  change w3.cell? ⟨_, 175, none⟩ = some (.int .u8 166) at f3
  clear hE3
  go_wp2_with fail
  refine (HBL.out _).mono ?_
  rintro e w4 ⟨rfl, hb4⟩
  have HCK4 := Lib.hid (HCK.out.ab hb4)
  have HB4 := Lib.hid (HB3.out.trans (hb4.mono HB3.out.size))
  clear hb4 HCK HB3 d0 d1 d2 d3 f0 f1 f2 f3
  go_wp2_with fail
  refine (HC1.out cb cg _ HCK4.out).mono ?_
  rintro e w5 ⟨rfl, hb5⟩
  have FX : Hid (Bk ((w5.alloc (.cells (bts z16) 35)).setRow w5.heap.size (bts z)) w5.heap.size 35 z) := Lib.hid ((Bk.new w5 _ _).row z)
  have HCK5 := Lib.hid (HCK4.out.ab hb5)
  have HB5 := Lib.hid (HB4.out.trans (hb5.mono HB4.out.size))
  have hck6 : CipK ((w5.alloc (.cells (bts z16) 35)).setRow w5.heap.size (bts z)) cb cg 8 (List.range 32) := ⟨HCK5.out.wd.laid' _ _, ⟨(setRow_other _ w5.heap.size cg (bts z) (by have := HCK5.out.cip.lt; omega)).trans ((Below.heap_alloc w5 (.cells (bts z16) 35) cg HCK5.out.cip.lt).trans HCK5.out.cip.row)⟩⟩
  have HCK6 := Lib.hid hck6
  have HB6 : Hid (Below w.heap.size w ((w5.alloc (.cells (bts z16) 35)).setRow w5.heap.size (bts z))) := Lib.hid (Below.row (HB5.out.alloc HB5.out.size _) HB5.out.size _)
  clear hb5 hck6 HCK4 HB4
  go_wp2_with (first
    | (refine wpList_storeB (o := ⟨none, .store _ (.tmp 5) (.tmp 52), _, _, _, _⟩) rfl 35 (.tmp 5) (.tmp 52) rfl _ rfl z rfl (Bk.new w5 35 z16) (by rw [LX.out]; exact sz16) (by rw [LX.out]; rfl) ?_)
    | (refine wpList_loadB (o := ⟨some 56, _, _, _, _, _⟩) rfl 35 (.tmp 5) rfl _ rfl FX.out Try.underlying35 (by rw [LX.out]; exact sz16) ?_))
  refine (HC2.out cb cg _ HCK6.out).mono ?_
  rintro e w6 ⟨rfl, hb6⟩
  have FX6 : Hid (Bk ((w6.alloc (.cells (bts z16) 35)).setRow w6.heap.size (bts y)) w5.heap.size 35 z) := Lib.hid ((FX.out.ab hb6).laid' _ _)
  have FY6 : Hid (Bk ((w6.alloc (.cells (bts z16) 35)).setRow w6.heap.size (bts y)) w6.heap.size 35 y) := Lib.hid ((Bk.new w6 _ _).row y)
  have FB6 : Hid (Below w.heap.size w ((w6.alloc (.cells (bts z16) 35)).setRow w6.heap.size (bts y))) := Lib.hid (Below.row ((HB6.out.trans (hb6.mono HB6.out.size)).alloc (Nat.le_trans HB6.out.size hb6.size) _) (Nat.le_trans HB6.out.size hb6.size) _)
  clear hb6 HCK6 HB6 FX
  go_wp2_with (refine wpList_storeB (o := ⟨none, .store _ (.tmp 7) (.tmp 58), _, _, _, _⟩) rfl 35 (.tmp 7) (.tmp 58) rfl _ rfl y rfl (Bk.new w6 35 z16) (by rw [LY.out]; exact sz16) (by rw [LY.out]; rfl) ?_)
  obtain ⟨wf, hwf⟩ : ∃ wf, (w6.alloc (.cells (bts z16) 35)).setRow w6.heap.size (bts y) = wf := ⟨_, rfl⟩
  rw [hwf] at FX6 FY6 FB6
  rw [show (w6.alloc (.cells #[Value.int .u8 0, Value.int .u8 0, Value.int .u8 0, Value.int .u8 0, Value.int .u8 0, Value.int .u8 0, Value.int .u8 0, Value.int .u8 0, Value.int .u8 0, Value.int .u8 0, Value.int .u8 0, Value.int .u8 0, Value.int .u8 0, Value.int .u8 0, Value.int .u8 0, Value.int .u8 0] 35)).setRow w6.heap.size (bts y) = wf from hwf]
  clear hwf
  have FX := FX6
  have FY := FY6
  clear FX6 FY6
  refine wp_quiet_tail 19 (AbW wf.drew) (AbW.refl _) (by kernel_rfl) (by kernel_rfl) ?_
  simp only [List.take_succ_cons, List.take_zero, List.drop_succ_cons, List.drop_zero]
  refine quiet_value (v := ?v1) (by rfl) ?h1 ?k1
  case h1 => (intro w' hw'; go_simp; rfl)
  simp only [Act.put, List.setIfInBounds_toArray, List.set_cons_zero, List.set_cons_succ]
  refine quiet_value (v := ?v2) (by rfl) ?h2 ?k2
  case h2 => (intro w' hw'; go_simp; rfl)
  simp only [Act.put, List.setIfInBounds_toArray, List.set_cons_zero, List.set_cons_succ]
  refine quiet_value (v := ?v3) (by rfl) ?h3 ?k3
  case h3 => (intro w' hw'; go_simp; rfl)
  simp only [Act.put, List.setIfInBounds_toArray, List.set_cons_zero, List.set_cons_succ]
  refine quiet_value (v := ?v4) (by rfl) ?h4 ?k4
  case h4 => (intro w' hw'; go_simp; rfl)
  simp only [Act.put, List.setIfInBounds_toArray, List.set_cons_zero, List.set_cons_succ]
  refine quiet_value (v := ?v5) (by rfl) ?h5 ?k5
  case h5 => (intro w' hw'; go_simp; rfl)
  simp only [Act.put, List.setIfInBounds_toArray, List.set_cons_zero, List.set_cons_succ]
  refine quiet_value (v := ?v6) (by rfl) ?h6 ?k6
  case h6 => (intro w' hw'; go_simp; rfl)
  simp only [Act.put, List.setIfInBounds_toArray, List.set_cons_zero, List.set_cons_succ]
  refine quiet_value (v := ?v7) (by rfl) ?h7 ?k7
  case h7 => (intro w' hw'; go_simp; rfl)
  simp only [Act.put, List.setIfInBounds_toArray, List.set_cons_zero, List.set_cons_succ]
  refine quiet_loadB (by rfl) 35 (.tmp 5) rfl _ rfl (fun w' h => FX.out.drew.ab h) Try.underlying35 (by rw [LX.out]; exact sz16) ?_
  simp only [Act.put, List.setIfInBounds_toArray, List.set_cons_zero, List.set_cons_succ]
  refine quiet_value (v := ?v8) (by rfl) ?h8 ?k8
  case h8 => (intro w' hw'; go_simp; rfl)
  simp only [Act.put, List.setIfInBounds_toArray, List.set_cons_zero, List.set_cons_succ]
  refine quiet_value (v := ?v9) (by rfl) ?h9 ?k9
  case h9 => (intro w' hw'; go_simp; rfl)
  simp only [Act.put, List.setIfInBounds_toArray, List.set_cons_zero, List.set_cons_succ]
  refine quiet_value (v := ?v10) (by rfl) ?h10 ?k10
  case h10 => (intro w' hw'; go_simp; rfl)
  simp only [Act.put, List.setIfInBounds_toArray, List.set_cons_zero, List.set_cons_succ]
  refine quiet_value (v := ?v11) (by rfl) ?h11 ?k11
  case h11 => (intro w' hw'; go_simp; rfl)
  simp only [Act.put, List.setIfInBounds_toArray, List.set_cons_zero, List.set_cons_succ]
  refine quiet_loadB (by rfl) 35 (.tmp 7) rfl _ rfl (fun w' h => FY.out.drew.ab h) Try.underlying35 (by rw [LY.out]; exact sz16) ?_
  simp only [Act.put, List.setIfInBounds_toArray, List.set_cons_zero, List.set_cons_succ]
  refine quiet_call (v := .agg (bts y)) (f := 30) (args := #[]) (by rfl) (fun w' => by go_simp) (fun w' h => (HBL.out w').mono fun e w'' hh => ⟨hh.1, AbW.call h hh.2⟩) ?_
  simp only [Act.put, List.setIfInBounds_toArray, List.set_cons_zero, List.set_cons_succ]
  refine quiet_value (v := ?v12) (by rfl) ?h12 ?k12
  case h12 => (intro w' hw'; go_simp; rfl)
  simp only [Act.put, List.setIfInBounds_toArray, List.set_cons_zero, List.set_cons_succ]
  refine quiet_value (v := ?v13) (by rfl) ?h13 ?k13
  case h13 => (intro w' hw'; go_simp; rfl)
  simp only [Act.put, List.setIfInBounds_toArray, List.set_cons_zero, List.set_cons_succ]
  refine quiet_value (v := ?v14) (by rfl) ?h14 ?k14
  case h14 => (intro w' hw'; go_simp; rfl)
  simp only [Act.put, List.setIfInBounds_toArray, List.set_cons_zero, List.set_cons_succ]
  refine quiet_call (v := .bool true) (f := 23) (args := #[]) (by rfl) (fun w' => by go_simp) (fun w' h => (known3_any w').mono fun e w'' hh => ⟨hh.1, AbW.call h hh.2⟩) ?_
  simp only [Act.put, List.setIfInBounds_toArray, List.set_cons_zero, List.set_cons_succ]
  refine quiet_value (v := ?v15) (by rfl) ?h15 ?k15
  case h15 => (intro w' hw'; go_simp; rfl)
  simp only [Act.put, List.setIfInBounds_toArray, List.set_cons_zero, List.set_cons_succ]
  refine wpQuiet_nil ?_
  intro w7 h7
  have H7 := Lib.hid h7
  clear h7
  go_wp2_with fail
  go_ret
  exact ⟨rfl, FB6.out.drew.trans (Below.mono H7.out FB6.out.size)⟩
end Go.Proofs.Ytfchlemjfdlfeaa
