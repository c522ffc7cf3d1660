/-
  WALKS of the laws of layer 3: AesBack.
-/
import Derived.Test.YtfchlemjfdlfeaaLc
import Derived.Test.YtfchlemjfdlfeaaBack
namespace Go.Proofs.Ytfchlemjfdlfeaa
open Go.RowKit
set_option linter.unusedVariables false

theorem Bk.laid {w : World} {b : Nat} {t : TypeId} {l : List Nat} (h : Bk w b t l) (o : Obj) (cs : Array Value) : Bk ((w.alloc o).setRow w.heap.size cs) b t l :=
  (h.alloc o).rowFar (by have := h.lt; omega) cs
theorem CipK.laid {w : World} {b g K : Nat} {l : List Nat} (h : CipK w b g K l) (o : Obj) (cs : Array Value) : CipK ((w.alloc o).setRow w.heap.size cs) b g K l :=
  ⟨h.wd.laid o cs, ⟨(setRow_other _ w.heap.size g cs (by have := h.cip.lt; omega)).trans ((Below.heap_alloc w o g h.cip.lt).trans h.cip.row)⟩⟩
theorem below_laid {B : Nat} {w0 w : World} (h : Below B w0 w) (hs : B ≤ w.heap.size) (o : Obj) (cs : Array Value) : Below B w0 ((w.alloc o).setRow w.heap.size cs) := Below.row (h.alloc hs o) hs cs
theorem beq16 (a b : List Nat) (q : Bool) (ha : a.length = 16) (hb : b.length = 16) (h : decide (a = b) = q) (W : World) : (Op.equalIn 10000 35 (.agg (bts a)) (.agg (bts b))).run Try.prog W = .ok q W := by
  rw [eq16 a b ha hb W, h]

set_option maxRecDepth 100000 in
set_option maxHeartbeats 4000000 in
theorem back_any (A : Option Addr) (n c : Nat) (l a b : List Nat) (w : World) (hin : IsB w A n c l) (ha : Byt a) (la : a.length = 16) (hb : Byt b) (lb : b.length = 16) :
    Calls Try.prog 7 #[.slice A n c, .agg (bts a), .agg (bts b)] w fun e w' => e = .returned (.bool true) ∧ Below w.heap.size w w' := by
  have hbw : Below w.heap.size w ((w.alloc (.cells (bts a) 35)).alloc (.cells (bts b) 35)) := ((Below.refl _ _).alloc (Nat.le_refl _) _).alloc (by simp) _
  by_cases hn : n = 16 ∨ n = 32
  · obtain ⟨K, hK, hnK⟩ : ∃ K, (K = 4 ∨ K = 8) ∧ n = 4 * K := by
      rcases hn with h | h
      · exact ⟨4, .inl rfl, h⟩
      · exact ⟨8, .inr rfl, h⟩
    have hl : l.length = 4 * K := by rw [hin.len, hnK]
    have hWb := (wordsAll_exp hK hl hin.2).byt
    have cEa := fun b' g W h => encC_any b' g K l a W hK hl hin.2 ha la h
    have cEb := fun b' g W h => encC_any b' g K l b W hK hl hin.2 hb lb h
    have hXb := encK_byt (R := K + 6) hWb ha
    have hXl := encK_len (wordsAll K l) (K + 6) a
    have hYl := encK_len (wordsAll K l) (K + 6) b
    have cDx := fun b' g W h => decC_any b' g K l _ W hK hl hin.2 hXb hXl h
    have cDb := fun b' g W h => decC_any b' g K l b W hK hl hin.2 hb lb h
    have hVb := decK_byt (R := K + 6) hWb hb
    have hVl := decK_len (wordsAll K l) (K + 6) b
    have cEv := fun b' g W h => encC_any b' g K l _ W hK hl hin.2 hVb hVl h
    rw [dec_enc (K + 6) hWb ha la] at cDx
    rw [enc_dec (K + 6) hWb hb lb] at cEv
    have hXY := enc_inj (K + 6) hWb ha la hb lb
    have hnw := fun W h => new_any K n l A c W hK hnK h
    generalize encK (wordsAll K l) (K + 6) a = X at *
    generalize encK (wordsAll K l) (K + 6) b = Y at *
    generalize decK (wordsAll K l) (K + 6) b = V at *
    obtain ⟨q, hq⟩ : ∃ q, decide (a = b) = q := ⟨_, rfl⟩
    have hq2 : decide (X = Y) = q := by rw [← hq, decide_eq_decide]; exact hXY
    have e1 := equal_yes a la
    have e2 := equal_yes b lb
    have e3 := beq16 a b q la lb hq
    have e4 := beq16 X Y q hXl hYl hq2
    have e5 := equal_yes X hXl
    have HEA := Lib.hid cEa
    have HEB := Lib.hid cEb
    have HDX := Lib.hid cDx
    have HDB := Lib.hid cDb
    have HEV := Lib.hid cEv
    have LA := Lib.hid la
    have LB := Lib.hid lb
    have LXX := Lib.hid hXl
    have LYY := Lib.hid hYl
    have LVV := Lib.hid hVl
    have HNW := Lib.hid hnw
    have HBW := Lib.hid hbw
    have HIN := Lib.hid (hin.below hbw)
    have hA0 : Bk ((w.alloc (.cells (bts a) 35)).alloc (.cells (bts b) 35)) w.heap.size 35 a := (Bk.newAt _ a rfl).alloc _
    have hB0 : Bk ((w.alloc (.cells (bts a) 35)).alloc (.cells (bts b) 35)) (w.heap.size + 1) 35 b := Bk.newAt _ b (by simp)
    have GA := Lib.hid hA0
    have GB := Lib.hid hB0
    clear cEa cEb cDx cDb cEv la lb hXl hYl hVl hnw hbw hA0 hB0 hq hq2 hXY hl hnK hn hK hin
    go_enter Try.func7, Try.ntmps7
    go_wp2_with fail
    refine (HNW.out _ HIN.out).mono ?_
    rintro e w0 ⟨cb, cg, rfl, hbg, hwb, hck, hb0⟩
    have FA0 : Hid (Bk w0 w.heap.size 35 a) := Lib.hid (GA.out.ab hb0)
    have FB0 : Hid (Bk w0 (w.heap.size + 1) 35 b) := Lib.hid (GB.out.ab hb0)
    have FC0 := Lib.hid hck
    have FZ0 : Hid (Below w.heap.size w w0) := Lib.hid (HBW.out.trans (hb0.mono HBW.out.size))
    clear hck hb0 GA GB
    go_wp2_with (first
      | (refine wpList_loadB (o := ⟨some 47, _, _, _, _, _⟩) rfl 35 (.tmp 4) rfl _ rfl FA0.out Try.underlying35 (by rw [LA.out]; exact sz16) ?_))
    refine (HEA.out cb cg _ FC0.out).mono ?_
    rintro e w1 ⟨rfl, hb1⟩
    have FA1 : Hid (Bk ((w1.alloc (.cells (bts z16) 35)).setRow w1.heap.size (bts X)) (w.heap.size) 35 a) := Lib.hid ((FA0.out.ab hb1).laid _ _)
    have FB1 : Hid (Bk ((w1.alloc (.cells (bts z16) 35)).setRow w1.heap.size (bts X)) (w.heap.size + 1) 35 b) := Lib.hid ((FB0.out.ab hb1).laid _ _)
    have FX1 : Hid (Bk ((w1.alloc (.cells (bts z16) 35)).setRow w1.heap.size (bts X)) w1.heap.size 35 X) := Lib.hid ((Bk.new w1 _ _).row X)
    have FC1 : Hid (CipK ((w1.alloc (.cells (bts z16) 35)).setRow w1.heap.size (bts X)) cb cg K l) := Lib.hid ((FC0.out.ab hb1).laid _ _)
    have FZ1 : Hid (Below w.heap.size w ((w1.alloc (.cells (bts z16) 35)).setRow w1.heap.size (bts X))) := Lib.hid (below_laid (FZ0.out.trans (hb1.mono FZ0.out.size)) (Nat.le_trans FZ0.out.size hb1.size) _ _)
    clear hb1 FA0 FB0 FC0 FZ0
    go_wp2_with (first
      | (refine wpList_storeB (o := ⟨none, .store _ (.tmp 9) (.tmp 49), _, _, _, _⟩) rfl 35 (.tmp 9) (.tmp 49) rfl _ rfl X rfl (Bk.new w1 35 z16) (by rw [LXX.out]; exact sz16) (by rw [LXX.out]; rfl) ?_)
      | (refine wpList_loadB (o := ⟨some 53, _, _, _, _, _⟩) rfl 35 (.tmp 5) rfl _ rfl FB1.out Try.underlying35 (by rw [LB.out]; exact sz16) ?_))
    refine (HEB.out cb cg _ FC1.out).mono ?_
    rintro e w2 ⟨rfl, hb2⟩
    have FA2 : Hid (Bk ((w2.alloc (.cells (bts z16) 35)).setRow w2.heap.size (bts Y)) (w.heap.size) 35 a) := Lib.hid ((FA1.out.ab hb2).laid _ _)
    have FB2 : Hid (Bk ((w2.alloc (.cells (bts z16) 35)).setRow w2.heap.size (bts Y)) (w.heap.size + 1) 35 b) := Lib.hid ((FB1.out.ab hb2).laid _ _)
    have FX2 : Hid (Bk ((w2.alloc (.cells (bts z16) 35)).setRow w2.heap.size (bts Y)) (w1.heap.size) 35 X) := Lib.hid ((FX1.out.ab hb2).laid _ _)
    have FY2 : Hid (Bk ((w2.alloc (.cells (bts z16) 35)).setRow w2.heap.size (bts Y)) w2.heap.size 35 Y) := Lib.hid ((Bk.new w2 _ _).row Y)
    have FC2 : Hid (CipK ((w2.alloc (.cells (bts z16) 35)).setRow w2.heap.size (bts Y)) cb cg K l) := Lib.hid ((FC1.out.ab hb2).laid _ _)
    have FZ2 : Hid (Below w.heap.size w ((w2.alloc (.cells (bts z16) 35)).setRow w2.heap.size (bts Y))) := Lib.hid (below_laid (FZ1.out.trans (hb2.mono FZ1.out.size)) (Nat.le_trans FZ1.out.size hb2.size) _ _)
    clear hb2 FA1 FB1 FX1 FC1 FZ1
    go_wp2_with (first
      | (refine wpList_storeB (o := ⟨none, .store _ (.tmp 11) (.tmp 55), _, _, _, _⟩) rfl 35 (.tmp 11) (.tmp 55) rfl _ rfl Y rfl (Bk.new w2 35 z16) (by rw [LYY.out]; exact sz16) (by rw [LYY.out]; rfl) ?_)
      | (refine wpList_loadB (o := ⟨some 59, _, _, _, _, _⟩) rfl 35 (.tmp 9) rfl _ rfl FX2.out Try.underlying35 (by rw [LXX.out]; exact sz16) ?_))
    refine (HDX.out cb cg _ FC2.out).mono ?_
    rintro e w3 ⟨rfl, hb3⟩
    have FA3 : Hid (Bk ((w3.alloc (.cells (bts z16) 35)).setRow w3.heap.size (bts a)) (w.heap.size) 35 a) := Lib.hid ((FA2.out.ab hb3).laid _ _)
    have FB3 : Hid (Bk ((w3.alloc (.cells (bts z16) 35)).setRow w3.heap.size (bts a)) (w.heap.size + 1) 35 b) := Lib.hid ((FB2.out.ab hb3).laid _ _)
    have FX3 : Hid (Bk ((w3.alloc (.cells (bts z16) 35)).setRow w3.heap.size (bts a)) (w1.heap.size) 35 X) := Lib.hid ((FX2.out.ab hb3).laid _ _)
    have FY3 : Hid (Bk ((w3.alloc (.cells (bts z16) 35)).setRow w3.heap.size (bts a)) (w2.heap.size) 35 Y) := Lib.hid ((FY2.out.ab hb3).laid _ _)
    have FU3 : Hid (Bk ((w3.alloc (.cells (bts z16) 35)).setRow w3.heap.size (bts a)) w3.heap.size 35 a) := Lib.hid ((Bk.new w3 _ _).row a)
    have FC3 : Hid (CipK ((w3.alloc (.cells (bts z16) 35)).setRow w3.heap.size (bts a)) cb cg K l) := Lib.hid ((FC2.out.ab hb3).laid _ _)
    have FZ3 : Hid (Below w.heap.size w ((w3.alloc (.cells (bts z16) 35)).setRow w3.heap.size (bts a))) := Lib.hid (below_laid (FZ2.out.trans (hb3.mono FZ2.out.size)) (Nat.le_trans FZ2.out.size hb3.size) _ _)
    clear hb3 FA2 FB2 FX2 FY2 FC2 FZ2
    go_wp2_with (first
      | (refine wpList_storeB (o := ⟨none, .store _ (.tmp 13) (.tmp 61), _, _, _, _⟩) rfl 35 (.tmp 13) (.tmp 61) rfl _ rfl a rfl (Bk.new w3 35 z16) (by rw [LA.out]; exact sz16) (by rw [LA.out]; rfl) ?_)
      | (refine wpList_loadB (o := ⟨some 65, _, _, _, _, _⟩) rfl 35 (.tmp 5) rfl _ rfl FB3.out Try.underlying35 (by rw [LB.out]; exact sz16) ?_))
    refine (HDB.out cb cg _ FC3.out).mono ?_
    rintro e w4 ⟨rfl, hb4⟩
    have FA4 : Hid (Bk ((w4.alloc (.cells (bts z16) 35)).setRow w4.heap.size (bts V)) (w.heap.size) 35 a) := Lib.hid ((FA3.out.ab hb4).laid _ _)
    have FB4 : Hid (Bk ((w4.alloc (.cells (bts z16) 35)).setRow w4.heap.size (bts V)) (w.heap.size + 1) 35 b) := Lib.hid ((FB3.out.ab hb4).laid _ _)
    have FX4 : Hid (Bk ((w4.alloc (.cells (bts z16) 35)).setRow w4.heap.size (bts V)) (w1.heap.size) 35 X) := Lib.hid ((FX3.out.ab hb4).laid _ _)
    have FY4 : Hid (Bk ((w4.alloc (.cells (bts z16) 35)).setRow w4.heap.size (bts V)) (w2.heap.size) 35 Y) := Lib.hid ((FY3.out.ab hb4).laid _ _)
    have FU4 : Hid (Bk ((w4.alloc (.cells (bts z16) 35)).setRow w4.heap.size (bts V)) (w3.heap.size) 35 a) := Lib.hid ((FU3.out.ab hb4).laid _ _)
    have FV4 : Hid (Bk ((w4.alloc (.cells (bts z16) 35)).setRow w4.heap.size (bts V)) w4.heap.size 35 V) := Lib.hid ((Bk.new w4 _ _).row V)
    have FC4 : Hid (CipK ((w4.alloc (.cells (bts z16) 35)).setRow w4.heap.size (bts V)) cb cg K l) := Lib.hid ((FC3.out.ab hb4).laid _ _)
    have FZ4 : Hid (Below w.heap.size w ((w4.alloc (.cells (bts z16) 35)).setRow w4.heap.size (bts V))) := Lib.hid (below_laid (FZ3.out.trans (hb4.mono FZ3.out.size)) (Nat.le_trans FZ3.out.size hb4.size) _ _)
    clear hb4 FA3 FB3 FX3 FY3 FU3 FC3 FZ3
    go_wp2_with (first
      | (refine wpList_storeB (o := ⟨none, .store _ (.tmp 15) (.tmp 67), _, _, _, _⟩) rfl 35 (.tmp 15) (.tmp 67) rfl _ rfl V rfl (Bk.new w4 35 z16) (by rw [LVV.out]; exact sz16) (by rw [LVV.out]; rfl) ?_)
      | (refine wpList_loadB (o := ⟨some 71, _, _, _, _, _⟩) rfl 35 (.tmp 15) rfl _ rfl FV4.out Try.underlying35 (by rw [LVV.out]; exact sz16) ?_))
    refine (HEV.out cb cg _ FC4.out).mono ?_
    rintro e w5 ⟨rfl, hb5⟩
    have FA5 : Hid (Bk ((w5.alloc (.cells (bts z16) 35)).setRow w5.heap.size (bts b)) (w.heap.size) 35 a) := Lib.hid ((FA4.out.ab hb5).laid _ _)
    have FB5 : Hid (Bk ((w5.alloc (.cells (bts z16) 35)).setRow w5.heap.size (bts b)) (w.heap.size + 1) 35 b) := Lib.hid ((FB4.out.ab hb5).laid _ _)
    have FX5 : Hid (Bk ((w5.alloc (.cells (bts z16) 35)).setRow w5.heap.size (bts b)) (w1.heap.size) 35 X) := Lib.hid ((FX4.out.ab hb5).laid _ _)
    have FY5 : Hid (Bk ((w5.alloc (.cells (bts z16) 35)).setRow w5.heap.size (bts b)) (w2.heap.size) 35 Y) := Lib.hid ((FY4.out.ab hb5).laid _ _)
    have FU5 : Hid (Bk ((w5.alloc (.cells (bts z16) 35)).setRow w5.heap.size (bts b)) (w3.heap.size) 35 a) := Lib.hid ((FU4.out.ab hb5).laid _ _)
    have FV5 : Hid (Bk ((w5.alloc (.cells (bts z16) 35)).setRow w5.heap.size (bts b)) (w4.heap.size) 35 V) := Lib.hid ((FV4.out.ab hb5).laid _ _)
    have FW5 : Hid (Bk ((w5.alloc (.cells (bts z16) 35)).setRow w5.heap.size (bts b)) w5.heap.size 35 b) := Lib.hid ((Bk.new w5 _ _).row b)
    have FC5 : Hid (CipK ((w5.alloc (.cells (bts z16) 35)).setRow w5.heap.size (bts b)) cb cg K l) := Lib.hid ((FC4.out.ab hb5).laid _ _)
    have FZ5 : Hid (Below w.heap.size w ((w5.alloc (.cells (bts z16) 35)).setRow w5.heap.size (bts b))) := Lib.hid (below_laid (FZ4.out.trans (hb5.mono FZ4.out.size)) (Nat.le_trans FZ4.out.size hb5.size) _ _)
    clear hb5 FA4 FB4 FX4 FY4 FU4 FV4 FC4 FZ4
    go_wp2_with (first
      | (refine wpList_storeB (o := ⟨none, .store _ (.tmp 17) (.tmp 73), _, _, _, _⟩) rfl 35 (.tmp 17) (.tmp 73) rfl _ rfl b rfl (Bk.new w5 35 z16) (by rw [LB.out]; exact sz16) (by rw [LB.out]; rfl) ?_)
      | (refine wpList_loadB (o := ⟨some 77, _, _, _, _, _⟩) rfl 35 (.tmp 4) rfl _ rfl FA5.out Try.underlying35 (by rw [LA.out]; exact sz16) ?_))
    refine (HEA.out cb cg _ FC5.out).mono ?_
    rintro e w6 ⟨rfl, hb6⟩
    have FA6 : Hid (Bk ((w6.alloc (.cells (bts z16) 35)).setRow w6.heap.size (bts X)) (w.heap.size) 35 a) := Lib.hid ((FA5.out.ab hb6).laid _ _)
    have FB6 : Hid (Bk ((w6.alloc (.cells (bts z16) 35)).setRow w6.heap.size (bts X)) (w.heap.size + 1) 35 b) := Lib.hid ((FB5.out.ab hb6).laid _ _)
    have FX6 : Hid (Bk ((w6.alloc (.cells (bts z16) 35)).setRow w6.heap.size (bts X)) (w1.heap.size) 35 X) := Lib.hid ((FX5.out.ab hb6).laid _ _)
    have FY6 : Hid (Bk ((w6.alloc (.cells (bts z16) 35)).setRow w6.heap.size (bts X)) (w2.heap.size) 35 Y) := Lib.hid ((FY5.out.ab hb6).laid _ _)
    have FU6 : Hid (Bk ((w6.alloc (.cells (bts z16) 35)).setRow w6.heap.size (bts X)) (w3.heap.size) 35 a) := Lib.hid ((FU5.out.ab hb6).laid _ _)
    have FV6 : Hid (Bk ((w6.alloc (.cells (bts z16) 35)).setRow w6.heap.size (bts X)) (w4.heap.size) 35 V) := Lib.hid ((FV5.out.ab hb6).laid _ _)
    have FW6 : Hid (Bk ((w6.alloc (.cells (bts z16) 35)).setRow w6.heap.size (bts X)) (w5.heap.size) 35 b) := Lib.hid ((FW5.out.ab hb6).laid _ _)
    have FG6 : Hid (Bk ((w6.alloc (.cells (bts z16) 35)).setRow w6.heap.size (bts X)) w6.heap.size 35 X) := Lib.hid ((Bk.new w6 _ _).row X)
    have FC6 : Hid (CipK ((w6.alloc (.cells (bts z16) 35)).setRow w6.heap.size (bts X)) cb cg K l) := Lib.hid ((FC5.out.ab hb6).laid _ _)
    have FZ6 : Hid (Below w.heap.size w ((w6.alloc (.cells (bts z16) 35)).setRow w6.heap.size (bts X))) := Lib.hid (below_laid (FZ5.out.trans (hb6.mono FZ5.out.size)) (Nat.le_trans FZ5.out.size hb6.size) _ _)
    clear hb6 FA5 FB5 FX5 FY5 FU5 FV5 FW5 FC5 FZ5
    go_wp2_with (refine wpList_storeB (o := ⟨none, .store _ (.tmp 19) (.tmp 79), _, _, _, _⟩) rfl 35 (.tmp 19) (.tmp 79) rfl _ rfl X rfl (Bk.new w6 35 z16) (by rw [LXX.out]; exact sz16) (by rw [LXX.out]; rfl) ?_)
    obtain ⟨wf, hwf⟩ : ∃ wf, (w6.alloc (.cells (bts z16) 35)).setRow w6.heap.size (bts X) = wf := ⟨_, rfl⟩
    rw [hwf] at FA6 FB6 FX6 FY6 FU6 FV6 FW6 FG6 FZ6
    rw [show (w6.alloc (.cells #[Value.int .u8 0, Value.int .u8 0, Value.int .u8 0, Value.int .u8 0, Value.int .u8 0, Value.int .u8 0, Value.int .u8 0, Value.int .u8 0, Value.int .u8 0, Value.int .u8 0, Value.int .u8 0, Value.int .u8 0, Value.int .u8 0, Value.int .u8 0, Value.int .u8 0, Value.int .u8 0] 35)).setRow w6.heap.size (bts X) = wf from hwf]
    clear hwf FC6
    refine wp_quiet_tail 25 (AbW wf.drew) (AbW.refl _) (by kernel_rfl) (by kernel_rfl) ?_
    simp only [List.take_succ_cons, List.take_zero, List.drop_succ_cons, List.drop_zero]
    refine quiet_loadB (by rfl) 35 (.tmp 13) rfl _ rfl (fun w' h => FU6.out.drew.ab h) Try.underlying35 (by rw [LA.out]; exact sz16) ?_
    simp only [Act.put, List.setIfInBounds_toArray, List.set_cons_zero, List.set_cons_succ]
    refine quiet_loadB (by rfl) 35 (.tmp 4) rfl _ rfl (fun w' h => FA6.out.drew.ab h) Try.underlying35 (by rw [LA.out]; exact sz16) ?_
    simp only [Act.put, List.setIfInBounds_toArray, List.set_cons_zero, List.set_cons_succ]
    refine quiet_value (v := ?v1) (by rfl) ?h1 ?k1
    case h1 => (intro w' hw'; go_simp; rfl)
    simp only [Act.put, List.setIfInBounds_toArray, List.set_cons_zero, List.set_cons_succ]
    refine quiet_value (v := ?v2) (by rfl) ?h2 ?k2
    case h2 => (intro w' hw'; go_simp; rfl)
    simp only [Act.put, List.setIfInBounds_toArray, List.set_cons_zero, List.set_cons_succ]
    refine quiet_loadB (by rfl) 35 (.tmp 17) rfl _ rfl (fun w' h => FW6.out.drew.ab h) Try.underlying35 (by rw [LB.out]; exact sz16) ?_
    simp only [Act.put, List.setIfInBounds_toArray, List.set_cons_zero, List.set_cons_succ]
    refine quiet_loadB (by rfl) 35 (.tmp 5) rfl _ rfl (fun w' h => FB6.out.drew.ab h) Try.underlying35 (by rw [LB.out]; exact sz16) ?_
    simp only [Act.put, List.setIfInBounds_toArray, List.set_cons_zero, List.set_cons_succ]
    refine quiet_value (v := ?v3) (by rfl) ?h3 ?k3
    case h3 => (intro w' hw'; go_simp; rfl)
    simp only [Act.put, List.setIfInBounds_toArray, List.set_cons_zero, List.set_cons_succ]
    refine quiet_value (v := ?v4) (by rfl) ?h4 ?k4
    case h4 => (intro w' hw'; go_simp; rfl)
    simp only [Act.put, List.setIfInBounds_toArray, List.set_cons_zero, List.set_cons_succ]
    refine quiet_value (v := ?v5) (by rfl) ?h5 ?k5
    case h5 => (intro w' hw'; go_simp; rfl)
    simp only [Act.put, List.setIfInBounds_toArray, List.set_cons_zero, List.set_cons_succ]
    refine quiet_loadB (by rfl) 35 (.tmp 9) rfl _ rfl (fun w' h => FX6.out.drew.ab h) Try.underlying35 (by rw [LXX.out]; exact sz16) ?_
    simp only [Act.put, List.setIfInBounds_toArray, List.set_cons_zero, List.set_cons_succ]
    refine quiet_loadB (by rfl) 35 (.tmp 11) rfl _ rfl (fun w' h => FY6.out.drew.ab h) Try.underlying35 (by rw [LYY.out]; exact sz16) ?_
    simp only [Act.put, List.setIfInBounds_toArray, List.set_cons_zero, List.set_cons_succ]
    refine quiet_value (v := ?v6) (by rfl) ?h6 ?k6
    case h6 => (intro w' hw'; go_simp; rfl)
    simp only [Act.put, List.setIfInBounds_toArray, List.set_cons_zero, List.set_cons_succ]
    refine quiet_loadB (by rfl) 35 (.tmp 4) rfl _ rfl (fun w' h => FA6.out.drew.ab h) Try.underlying35 (by rw [LA.out]; exact sz16) ?_
    simp only [Act.put, List.setIfInBounds_toArray, List.set_cons_zero, List.set_cons_succ]
    refine quiet_loadB (by rfl) 35 (.tmp 5) rfl _ rfl (fun w' h => FB6.out.drew.ab h) Try.underlying35 (by rw [LB.out]; exact sz16) ?_
    simp only [Act.put, List.setIfInBounds_toArray, List.set_cons_zero, List.set_cons_succ]
    refine quiet_value (v := ?v7) (by rfl) ?h7 ?k7
    case h7 => (intro w' hw'; go_simp; rfl)
    simp only [Act.put, List.setIfInBounds_toArray, List.set_cons_zero, List.set_cons_succ]
    refine quiet_value (v := ?v8) (by rfl) ?h8 ?k8
    case h8 => (intro w' hw'; go_simp; rfl)
    simp only [Act.put, List.setIfInBounds_toArray, List.set_cons_zero, List.set_cons_succ]
    refine quiet_value (v := ?v9) (by rfl) ?h9 ?k9
    case h9 => (intro w' hw'; go_simp; rfl)
    simp only [Act.put, List.setIfInBounds_toArray, List.set_cons_zero, List.set_cons_succ]
    refine quiet_value (v := ?v10) (by rfl) ?h10 ?k10
    case h10 => (intro w' hw'; go_simp; rfl)
    simp only [Act.put, List.setIfInBounds_toArray, List.set_cons_zero, List.set_cons_succ]
    refine quiet_loadB (by rfl) 35 (.tmp 19) rfl _ rfl (fun w' h => FG6.out.drew.ab h) Try.underlying35 (by rw [LXX.out]; exact sz16) ?_
    simp only [Act.put, List.setIfInBounds_toArray, List.set_cons_zero, List.set_cons_succ]
    refine quiet_loadB (by rfl) 35 (.tmp 9) rfl _ rfl (fun w' h => FX6.out.drew.ab h) Try.underlying35 (by rw [LXX.out]; exact sz16) ?_
    simp only [Act.put, List.setIfInBounds_toArray, List.set_cons_zero, List.set_cons_succ]
    refine quiet_value (v := ?v11) (by rfl) ?h11 ?k11
    case h11 => (intro w' hw'; go_simp; rfl)
    simp only [Act.put, List.setIfInBounds_toArray, List.set_cons_zero, List.set_cons_succ]
    refine quiet_value (v := ?v12) (by rfl) ?h12 ?k12
    case h12 => (intro w' hw'; go_simp; rfl)
    simp only [Act.put, List.setIfInBounds_toArray, List.set_cons_zero, List.set_cons_succ]
    refine quiet_value (v := ?v13) (by rfl) ?h13 ?k13
    case h13 => (intro w' hw'; go_simp; rfl)
    simp only [Act.put, List.setIfInBounds_toArray, List.set_cons_zero, List.set_cons_succ]
    refine quiet_call (v := .bool true) (f := 23) (args := #[]) (by rfl) (fun w' => by go_simp) (fun w' h => (known3_any w').mono fun e w'' hh => ⟨hh.1, AbW.call h hh.2⟩) ?_
    simp only [Act.put, List.setIfInBounds_toArray, List.set_cons_zero, List.set_cons_succ]
    refine quiet_value (v := ?v14) (by rfl) ?h14 ?k14
    case h14 => (intro w' hw'; go_simp; rfl)
    simp only [Act.put, List.setIfInBounds_toArray, List.set_cons_zero, List.set_cons_succ]
    refine wpQuiet_nil ?_
    intro w7 h7
    have H7 := Lib.hid h7
    clear h7
    go_wp2_with fail
    go_ret
    exact ⟨rfl, FZ6.out.drew.trans (Below.mono H7.out FZ6.out.size)⟩
  · have h1 : n ≠ 16 := fun h => hn (.inl h)
    have h2 : n ≠ 32 := fun h => hn (.inr h)
    have h1i : ((n : Int) != 16) = true := by rw [bne_iff_ne]; omega
    have h2i : ((n : Int) != 32) = true := by rw [bne_iff_ne]; omega
    have HBW := Lib.hid hbw
    clear hbw hn
    go_enter Try.func7, Try.ntmps7
    go_wp2_with fail
    refine (new_bad A n c h1 h2 _).mono ?_
    rintro e w' ⟨rfl, rfl⟩
    go_wp2_with fail
    refine (known3_any _).mono ?_
    rintro e w2 ⟨rfl, hb2⟩
    go_wp2_with fail
    go_ret
    exact ⟨rfl, HBW.out.trans (hb2.mono HBW.out.size)⟩

set_option maxRecDepth 100000 in
theorem back_walk (A : Option Addr) (n c : Nat) (zs : List Int) (v u : Value) (w : World) (h : IsRow .u8 w A n c zs) (hs : c * 1 ≤ 140737488351232) (hk : ∃ base, Value.okWide Try.prog w .any base 35 v) {H : Type} {enc : TypeId × Value → H} {d : DataW H} {p : List MemPlace} (_ : DataW.Trod enc Try.prog w 0 (fun _ => true) true 35 v d p) (_ : ∀ x ∈ p, x.block < w.heap.size)
    (hk2 : ∃ base, Value.okWide Try.prog w .any base 35 u) {d2 : DataW H} {p2 : List MemPlace} (_ : DataW.Trod enc Try.prog w 0 (fun _ => true) true 35 u d2 p2) (_ : ∀ x ∈ p2, x.block < w.heap.size) :
    Calls Try.prog 7 #[.slice A n c, v, u] w fun e w' => e = .returned (.bool true) ∧ Below w.heap.size w w' := by
  obtain ⟨l, rfl, hl⟩ := byt_of_row h
  obtain ⟨base, hk⟩ := hk
  obtain ⟨x, rfl, hx, lx⟩ := open16 hk
  obtain ⟨base2, hk2⟩ := hk2
  obtain ⟨y, rfl, hy, ly⟩ := open16 hk2
  exact back_any A n c l x y w ⟨h, hl⟩ hx lx hy ly
end Go.Proofs.Ytfchlemjfdlfeaa
