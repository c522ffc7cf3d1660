/-
  WALKS: the reference's put, Head, Nonce, Aad, Kind (ref10).
  WALKS: the reference's Seal and Open (ref10).
-/
import Derived.Test.YtmeakfocppooiaaSeB
namespace Go.Proofs.Ytmeakfocppooiaa
open Go.RowKit
set_option linter.unusedVariables false

set_option maxRecDepth 100000 in
set_option maxHeartbeats 1000000 in
theorem rkind_any (k : Nat) (w : World) :
    Calls Try.prog 61 #[.int .u8 (k : Int)] w fun e w' => e = .returned (.bool (decide (1 ≤ k ∧ k ≤ 4))) ∧ w = w' := by
  by_cases h1 : 1 ≤ k
  · have d1 : decide ((1 : Int) ≤ (k : Int)) = true := by simp; omega
    by_cases h2 : k ≤ 4
    · have d2 : decide ((k : Int) ≤ 4) = true := by simp; omega
      rw [decide_eq_true ⟨h1, h2⟩]
      clear h1 h2
      go_enter Try.func61, Try.ntmps61
      go_wp2_with fail
      go_ret
      exact ⟨rfl, rfl⟩
    · have d2 : decide ((k : Int) ≤ 4) = false := by simp; omega
      rw [decide_eq_false (fun h => h2 h.2)]
      clear h1 h2
      go_enter Try.func61, Try.ntmps61
      go_wp2_with fail
      go_ret
      exact ⟨rfl, rfl⟩
  · have d1 : decide ((1 : Int) ≤ (k : Int)) = false := by simp; omega
    rw [decide_eq_false (fun h => h1 h.1)]
    clear h1
    go_enter Try.func61, Try.ntmps61
    go_wp2_with fail
    go_ret
    exact ⟨rfl, rfl⟩
set_option maxRecDepth 100000 in
set_option maxHeartbeats 1000000 in
theorem rput_any (B : Nat) (v : Value) (lb : List Nat) (m n : Nat) (w : World) (ho : OwB w B v lb) (hB : B ≤ w.heap.size) (hlb : lb.length ≤ 1000) (hm : m < 18446744073709551616) (h1 : 1 ≤ n) (h8 : n ≤ 8) :
    Calls Try.prog 100 #[v, .int .u64 (m : Int), .int .i64 (n : Int)] w fun e w' => ∃ v', e = .returned v' ∧ OwB w' B v' (lb ++ digB m n) ∧ Below B w w' := by
  obtain ⟨i0, hi0, hz0, hz1, hz2⟩ := info_parts infoU8
  have hof := fun W => of_any m n W hm h1 h8
  obtain ⟨A0, c0, rfl, -, -⟩ := ho.shape
  have HOF := Lib.hid hof
  have HO := Lib.hid ho
  have HBS := Lib.hid hB
  have HLB := Lib.hid hlb
  have H8 := Lib.hid h8
  clear hof ho hB hlb hm h1 h8
  go_enter Try.func100, Try.ntmps100
  go_wp2_with fail
  refine (HOF.out w).mono ?_
  rintro e w1 ⟨rfl, hk, hb⟩
  have I1 := Lib.hid (isB_whole hk (digB_byt _ _) (digB_len _ _) (by have := H8.out; omega))
  have O1 := Lib.hid (HO.out.ab hb)
  have B1 : Hid (Below B w w1) := Lib.hid (hb.mono HBS.out)
  have S1 : Hid (B ≤ w1.heap.size) := Lib.hid (Nat.le_trans HBS.out hb.size)
  clear hk hb HOF
  go_wp2_with (refine wpList_appB _ rfl (.tmp 15) (.tmp 16) rfl Try.underlying28 hi0 hz0 hz1 hz2 rfl O1.out rfl I1.out rfl (by have := HLB.out; have := H8.out; omega) S1.out ?_
               intro v3 w3 hv3 hb3 hg3 hat3
               have V3 := Lib.hid hv3
               have B3 := Lib.hid (B1.out.trans hb3)
               clear hv3 hb3 hg3 hat3)
  go_ret
  exact ⟨_, rfl, V3.out, B3.out⟩
theorem digB_one {k : Nat} (h : k < 256) : digB k 1 = [k] := by
  show [] ++ [k % 256] = [k]
  rw [List.nil_append, Nat.mod_eq_of_lt h]
theorem LbB.low {w w' : World} {B C : Nat} {l : Lb} (k : LbB w B l) (hb : Below C w w') (hC : B < C) : LbB w' B l := (hb.block B hC).trans k
set_option maxRecDepth 100000 in
set_option maxHeartbeats 1000000 in
theorem rnonceOf_any (l : Lb) (w : World) (hl : l.Ok) :
    Calls Try.prog 63 #[.agg (lab l)] w fun e w' => ∃ v, e = .returned v ∧ OwB w' w.heap.size v (nonceL l) ∧ Below w.heap.size w w' := by
  have X0 : Hid (LbB (w.alloc (.cells (lab l) 35)) w.heap.size l) := Lib.hid (heap_alloc_new w _)
  have S0 : Hid (w.heap.size + 1 ≤ (w.alloc (.cells (lab l) 35)).heap.size) := Lib.hid (by simp)
  have B0 : Hid (Below w.heap.size w (w.alloc (.cells (lab l) 35))) := Lib.hid ((Below.refl _ _).alloc (Nat.le_refl _) _)
  obtain ⟨x0, x1, x2, x3, x4, x5⟩ := X0.out.cells
  have hpg := hl.pg
  have zpg := wide_u64 l.pg (by omega)
  have HP1 : Hid (∀ W, w.heap.size + 1 ≤ W.heap.size → Calls Try.prog 100 #[.slice none 0 0, .int .u64 (l.pg : Int), .int .i64 4] W fun e w' => ∃ v', e = .returned v' ∧ OwB w' (w.heap.size + 1) v' (digB l.pg 4) ∧ Below (w.heap.size + 1) W w') :=
    Lib.hid fun W h => rput_any (w.heap.size + 1) (.slice none 0 0) [] l.pg 4 W (OwB.nil _ _) h (by decide) (by omega) (by decide) (by decide)
  have HP2 : Hid (∀ W v, OwB W (w.heap.size + 1) v (digB l.pg 4) → w.heap.size + 1 ≤ W.heap.size → Calls Try.prog 100 #[v, .int .u64 (l.cm : Int), .int .i64 8] W fun e w' => ∃ v', e = .returned v' ∧ OwB w' (w.heap.size + 1) v' (digB l.pg 4 ++ digB l.cm 8) ∧ Below (w.heap.size + 1) W w') :=
    Lib.hid fun W v ho h => rput_any (w.heap.size + 1) v (digB l.pg 4) l.cm 8 W ho h (by rw [digB_len]; decide) hl.cm (by decide) (by decide)
  have HL0 : Hid (nonceL l = digB l.pg 4 ++ digB l.cm 8) := Lib.hid (by simp [nonceL, nonceN, flatN])
  clear hl hpg
  go_enter Try.func63, Try.ntmps63
  go_wp2_with fail
  refine (HP1.out _ S0.out).mono ?_
  rintro e w1 ⟨v1, rfl, hv, hb⟩
  have V1 := Lib.hid hv
  have X1 := Lib.hid (X0.out.low hb (by omega))
  have B1 := Lib.hid (B0.out.trans (hb.mono (by omega)))
  have S1 := Lib.hid (Nat.le_trans S0.out hb.size)
  clear hv hb x0 x1 x2 x3 x4 x5 X0 B0 S0 HP1
  obtain ⟨x0, x1, x2, x3, x4, x5⟩ := X1.out.cells
  go_wp2_with fail
  refine (HP2.out w1 v1 V1.out S1.out).mono ?_
  rintro e w2 ⟨v2, rfl, hv, hb⟩
  have V2 := Lib.hid (hv.lower (B' := w.heap.size) (by omega))
  have B2 := Lib.hid (B1.out.trans (hb.mono (by omega)))
  clear hv hb
  go_wp2_with fail
  go_ret
  exact ⟨_, rfl, by rw [HL0.out]; exact V2.out, B2.out⟩
set_option maxRecDepth 100000 in
set_option maxHeartbeats 1000000 in
theorem rheadOf_any (l : Lb) (w : World) (hl : l.Ok) :
    Calls Try.prog 65 #[.agg (lab l)] w fun e w' => ∃ v, e = .returned v ∧ OwB w' w.heap.size v (headL l) ∧ Below w.heap.size w w' := by
  have X0 : Hid (LbB (w.alloc (.cells (lab l) 35)) w.heap.size l) := Lib.hid (heap_alloc_new w _)
  obtain ⟨x0, x1, x2, x3, x4, x5⟩ := X0.out.cells
  have hk := hl.k
  have hlv := hl.lv
  have hgn := hl.gn
  have zgn := wide_u64 l.gn (by omega)
  have X1 : Hid (LbB ((w.alloc (.cells (lab l) 35)).alloc (.cells #[Value.int .u8 67, Value.int .u8 72, Value.int .u8 84, Value.int .u8 49, Value.int .u8 (l.k : Int), Value.int .u8 (l.lv : Int)] 5)) w.heap.size l) := Lib.hid (X0.out.alloc _)
  have S0 : Hid (w.heap.size + 1 ≤ ((w.alloc (.cells (lab l) 35)).alloc (.cells #[Value.int .u8 67, Value.int .u8 72, Value.int .u8 84, Value.int .u8 49, Value.int .u8 (l.k : Int), Value.int .u8 (l.lv : Int)] 5)).heap.size) := Lib.hid (by simp)
  have B0 : Hid (Below w.heap.size w ((w.alloc (.cells (lab l) 35)).alloc (.cells #[Value.int .u8 67, Value.int .u8 72, Value.int .u8 84, Value.int .u8 49, Value.int .u8 (l.k : Int), Value.int .u8 (l.lv : Int)] 5))) := Lib.hid (((Below.refl _ _).alloc (Nat.le_refl _) _).alloc (Nat.le_of_lt (by simp)) _)
  have O0 : Hid (OwB ((w.alloc (.cells (lab l) 35)).alloc (.cells #[Value.int .u8 67, Value.int .u8 72, Value.int .u8 84, Value.int .u8 49, Value.int .u8 (l.k : Int), Value.int .u8 (l.lv : Int)] 5)) (w.heap.size + 1) (.slice (some ⟨w.heap.size + 1, 0, none⟩) 6 6) [67, 72, 84, 49, l.k, l.lv]) :=
    Lib.hid (OwB.ofBk (l' := [67, 72, 84, 49, l.k, l.lv]) (show Bk ((w.alloc (.cells (lab l) 35)).alloc (.cells (bts [67, 72, 84, 49, l.k, l.lv]) 5)) (w.heap.size + 1) 5 [67, 72, 84, 49, l.k, l.lv] from Bk.newAt _ _ (by simp)) (Nat.le_refl _) rfl (Nat.le_refl _) rfl (by decide) rfl (fun x hx => by simp at hx; omega))
  have HP1 : Hid (∀ W v, OwB W (w.heap.size + 1) v [67, 72, 84, 49, l.k, l.lv] → w.heap.size + 1 ≤ W.heap.size → Calls Try.prog 100 #[v, .int .u64 (l.gn : Int), .int .i64 2] W fun e w' => ∃ v', e = .returned v' ∧ OwB w' (w.heap.size + 1) v' ([67, 72, 84, 49, l.k, l.lv] ++ digB l.gn 2) ∧ Below (w.heap.size + 1) W w') :=
    Lib.hid fun W v ho h => rput_any (w.heap.size + 1) v _ l.gn 2 W ho h (by simp) (by omega) (by decide) (by decide)
  have HP2 : Hid (∀ W v, OwB W (w.heap.size + 1) v ([67, 72, 84, 49, l.k, l.lv] ++ digB l.gn 2) → w.heap.size + 1 ≤ W.heap.size → Calls Try.prog 100 #[v, .int .u64 (l.cm : Int), .int .i64 8] W fun e w' => ∃ v', e = .returned v' ∧ OwB w' (w.heap.size + 1) v' (([67, 72, 84, 49, l.k, l.lv] ++ digB l.gn 2) ++ digB l.cm 8) ∧ Below (w.heap.size + 1) W w') :=
    Lib.hid fun W v ho h => rput_any (w.heap.size + 1) v _ l.cm 8 W ho h (by simp [digB_len]) hl.cm (by decide) (by decide)
  have HL0 : Hid (headL l = ([67, 72, 84, 49, l.k, l.lv] ++ digB l.gn 2) ++ digB l.cm 8) := Lib.hid (by simp [headL, headN, flatN, digB_one hk, digB_one hlv])
  clear hl hk hlv hgn
  go_enter Try.func65, Try.ntmps65
  obtain ⟨y0, y1, y2, y3, y4, y5⟩ := X1.out.cells
  go_wp2_with fail
  refine (HP1.out _ _ O0.out S0.out).mono ?_
  rintro e w1 ⟨v1, rfl, hv, hb⟩
  have V1 := Lib.hid hv
  have X2 := Lib.hid (X1.out.low hb (by omega))
  have B1 := Lib.hid (B0.out.trans (hb.mono (by omega)))
  have S1 := Lib.hid (Nat.le_trans S0.out hb.size)
  clear hv hb x0 x1 x2 x3 x4 x5 y0 y1 y2 y3 y4 y5 X0 B0 S0 HP1 O0 X1
  obtain ⟨x0, x1, x2, x3, x4, x5⟩ := X2.out.cells
  go_wp2_with fail
  refine (HP2.out w1 v1 V1.out S1.out).mono ?_
  rintro e w2 ⟨v2, rfl, hv, hb⟩
  have V2 := Lib.hid (hv.lower (B' := w.heap.size) (by omega))
  have B2 := Lib.hid (B1.out.trans (hb.mono (by omega)))
  clear hv hb
  go_wp2_with fail
  go_ret
  exact ⟨_, rfl, by rw [HL0.out]; exact V2.out, B2.out⟩
set_option maxRecDepth 100000 in
set_option maxHeartbeats 1000000 in
theorem raadOf_any (l : Lb) (w : World) (hl : l.Ok) :
    Calls Try.prog 64 #[.agg (lab l)] w fun e w' => ∃ v, e = .returned v ∧ OwB w' w.heap.size v (aadL l) ∧ Below w.heap.size w w' := by
  obtain ⟨i0, hi0, hz0, hz1, hz2⟩ := info_parts infoU8
  have X0 : Hid (LbB (w.alloc (.cells (lab l) 35)) w.heap.size l) := Lib.hid (heap_alloc_new w _)
  have S0 : Hid (w.heap.size + 1 ≤ (w.alloc (.cells (lab l) 35)).heap.size) := Lib.hid (by simp)
  have B0 : Hid (Below w.heap.size w (w.alloc (.cells (lab l) 35))) := Lib.hid ((Below.refl _ _).alloc (Nat.le_refl _) _)
  obtain ⟨x0, x1, x2, x3, x4, x5⟩ := X0.out.cells
  have hk := hl.k
  have hlv := hl.lv
  have hgn := hl.gn
  have hten := hl.ten
  have zten := wide_u64 l.ten (by omega)
  have zgn := wide_u64 l.gn (by omega)
  have HP1 : Hid (∀ W, w.heap.size + 1 ≤ W.heap.size → Calls Try.prog 100 #[.slice none 0 0, .int .u64 (l.ten : Int), .int .i64 4] W fun e w' => ∃ v', e = .returned v' ∧ OwB w' (w.heap.size + 1) v' (digB l.ten 4) ∧ Below (w.heap.size + 1) W w') :=
    Lib.hid fun W h => rput_any (w.heap.size + 1) (.slice none 0 0) [] l.ten 4 W (OwB.nil _ _) h (by decide) (by omega) (by decide) (by decide)
  have HP2 : Hid (∀ W v, OwB W (w.heap.size + 1) v (digB l.ten 4 ++ [l.k, l.lv]) → w.heap.size + 1 ≤ W.heap.size → Calls Try.prog 100 #[v, .int .u64 (l.gn : Int), .int .i64 2] W fun e w' => ∃ v', e = .returned v' ∧ OwB w' (w.heap.size + 1) v' ((digB l.ten 4 ++ [l.k, l.lv]) ++ digB l.gn 2) ∧ Below (w.heap.size + 1) W w') :=
    Lib.hid fun W v ho h => rput_any (w.heap.size + 1) v _ l.gn 2 W ho h (by simp [digB_len]) (by omega) (by decide) (by decide)
  have HL0 : Hid (aadL l = (digB l.ten 4 ++ [l.k, l.lv]) ++ digB l.gn 2) := Lib.hid (by simp [aadL, aadN, flatN, digB_one hk, digB_one hlv])
  have HI2 : Hid (∀ W : World, IsB (W.alloc (.cells (bts [l.k, l.lv]) 5)) (some ⟨W.heap.size, 0, none⟩) 2 2 [l.k, l.lv]) := Lib.hid fun W => isB_whole (Bk.newAt _ _ rfl) (fun x hx => by simp at hx; omega) rfl (by decide)
  clear hl hk hlv hgn hten
  go_enter Try.func64, Try.ntmps64
  go_wp2_with fail
  refine (HP1.out _ S0.out).mono ?_
  rintro e w1 ⟨v1, rfl, hv, hb⟩
  obtain ⟨A1, c1, rfl, -, -⟩ := hv.shape
  have V1 := Lib.hid hv
  have X1 := Lib.hid (X0.out.low hb (by omega))
  have B1 := Lib.hid (B0.out.trans (hb.mono (by omega)))
  have S1 := Lib.hid (Nat.le_trans S0.out hb.size)
  clear hv hb x0 x1 x2 x3 x4 x5 X0 B0 S0 HP1
  obtain ⟨x0, x1, x2, x3, x4, x5⟩ := X1.out.cells
  go_wp2_with (refine wpList_appB _ rfl (.tmp 8) (.tmp 13) rfl Try.underlying28 hi0 hz0 hz1 hz2 rfl (V1.out.alloc _) rfl (HI2.out w1) rfl (by rw [digB_len]; decide) (by have := S1.out; simp; omega) ?_
               intro v3 w3 hv3 hb3 hg3 hat3
               have V3 := Lib.hid hv3
               have B13 : Hid (Below (w.heap.size + 1) w1 w3) := Lib.hid (((Below.refl _ w1).alloc S1.out _).trans hb3)
               have X3 := Lib.hid (X1.out.low B13.out (by omega))
               have B3 := Lib.hid (B1.out.trans (B13.out.mono (by omega)))
               have S3 := Lib.hid (Nat.le_trans S1.out B13.out.size)
               clear hv3 hb3 hg3 hat3
               obtain ⟨y0, y1, y2, y3, y4, y5⟩ := X3.out.cells)
  refine (HP2.out w3 v3 V3.out S3.out).mono ?_
  rintro e w2 ⟨v2, rfl, hv, hb⟩
  have V2 := Lib.hid (hv.lower (B' := w.heap.size) (by omega))
  have B2 := Lib.hid (B3.out.trans (hb.mono (by omega)))
  clear hv hb
  go_wp2_with fail
  go_ret
  exact ⟨_, rfl, by rw [HL0.out]; exact V2.out, B2.out⟩
end Go.Proofs.Ytmeakfocppooiaa

namespace Go.Proofs.Ytmeakfocppooiaa
open Go.RowKit
set_option linter.unusedVariables false

set_option maxRecDepth 100000 in
set_option maxHeartbeats 4000000 in
theorem rlseal_ok (kA tA : Option Addr) (kn kc tc : Nat) (l : Lb) (key text : List Nat) (w : World) (hl : l.Ok) (hG : SOk key l) (ik : IsB w kA kn kc key) (it : IsB w tA 224 tc text) :
    Calls Try.prog 17 #[.slice kA kn kc, .agg (lab l), .slice tA 224 tc] w (OutB w (headL l ++ sealA key (nonceL l) (aadL l) text) 0) := by
  obtain ⟨i0, hi0, hz0, hz1, hz2⟩ := info_parts infoU8
  have lk := ik.len
  have lt := it.len
  have hmay := fun W => rkind_any l.k W
  rw [decide_eq_true hG.2] at hmay
  have hse := fun An Aa cn ca W h1 h2 h3 h4 => rseal_any kA An Aa tA kn kc 12 cn 8 ca 224 tc key (nonceL l) (aadL l) text W h1 h2 h3 h4
  have esl : sealS key (nonceL l) (aadL l) text = (sealA key (nonceL l) (aadL l) text, 0) := by
    unfold sealS
    rw [if_pos ⟨hG.1, nonceL_len l⟩, if_neg (by rw [aadL_len]; omega)]
  rw [esl] at hse
  have hcl := sealA_len key (nonceL l) (aadL l) text
  generalize sealA key (nonceL l) (aadL l) text = C at *
  have XB : Hid (LbB (w.alloc (.cells (lab l) 35)) w.heap.size l) := Lib.hid (heap_alloc_new w _)
  have IK : Hid (IsB (w.alloc (.cells (lab l) 35)) kA kn kc key) := Lib.hid (ik.alloc _)
  have IT : Hid (IsB (w.alloc (.cells (lab l) 35)) tA 224 tc text) := Lib.hid (it.alloc _)
  have B0 : Hid (Below w.heap.size w (w.alloc (.cells (lab l) 35))) := Lib.hid ((Below.refl _ _).alloc (Nat.le_refl _) _)
  obtain ⟨x0, x1, x2, x3, x4, x5⟩ := XB.out.cells
  have HMAY := Lib.hid hmay
  have HSE := Lib.hid hse
  have HOK := Lib.hid hl
  have HKN : Hid (kn = 16 ∨ kn = 32) := Lib.hid (by have := hG.1; unfold KeyOk at this; omega)
  have HCL : Hid (C.length = 240) := Lib.hid (by omega)
  clear hmay hse hl hG esl hcl ik it lk lt
  go_enter Try.func17, Try.ntmps17
  go_wp2_with fail
  refine (may_yes kA kn kc _ HKN.out).mono ?_
  rintro e w' ⟨rfl, rfl⟩
  go_wp2_with fail
  refine (HMAY.out _).mono ?_
  rintro e w' ⟨rfl, rfl⟩
  go_wp2_with fail
  obtain ⟨W0, hW0⟩ : ∃ W0, W0 = w.alloc (.cells (lab l) 35) := ⟨_, rfl⟩
  change Code.wp _ _ _ _ (w.alloc (.cells (lab l) 35))
  rw [← hW0] at XB IK IT B0 x0 x1 x2 x3 x4 x5 ⊢
  clear hW0
  refine wp_wide3 [⟨26, IsR (.slice kA kn kc), [], false⟩, ⟨27, IsR (.agg #[.int .u32 (l.ten : Int), .int .u8 (l.k : Int), .int .u8 (l.lv : Int), .int .u32 (l.pg : Int), .int .u64 (l.cm : Int), .int .u16 (l.gn : Int)]), [], false⟩, ⟨28, OwR W0.heap.size (nonceL l), [1], false⟩, ⟨29, IsR (.agg #[.int .u32 (l.ten : Int), .int .u8 (l.k : Int), .int .u8 (l.lv : Int), .int .u32 (l.pg : Int), .int .u64 (l.cm : Int), .int .u16 (l.gn : Int)]), [], false⟩, ⟨30, OwR W0.heap.size (aadL l), [3], false⟩, ⟨31, IsR (.slice tA 224 tc), [], false⟩, ⟨32, TupB W0.heap.size 0 (C), [0, 2, 4, 5], false⟩, ⟨25, TupB W0.heap.size 0 (C), [6], false⟩, ⟨33, OwR W0.heap.size (C), [7], false⟩, ⟨34, IsR (.int .i64 (0 : Int)), [7], false⟩, ⟨8, OwR W0.heap.size (C), [8], false⟩] (by kernel_rfl) (by kernel_rfl) rfl rfl rfl ⟨?_, ?_, ?_, ?_, ?_, ?_, ?_, ?_, ?_, ?_, ?_, trivial⟩ ?_
  · refine ⟨rfl, IsR.mono _, fun a W hA hb hd => takes_plain rfl (yields_value _ ?_ rfl)⟩
    have h0 : a.tmps[0]?.getD undef = .slice kA kn kc := (eval_get a 0).trans ((hA.eval (by simp)).trans rfl)
    go_simp
  · refine ⟨rfl, IsR.mono _, fun a W hA hb hd => takes_plain rfl (yields_value _ ?_ rfl)⟩
    have h4 : a.tmps[4]?.getD undef = .pointer (some ⟨w.heap.size, 0, none⟩) := (eval_get a 4).trans ((hA.eval (by simp)).trans rfl)
    obtain ⟨x0, x1, x2, x3, x4, x5⟩ := (XB.out.ab hb).cells
    go_simp
  · refine ⟨rfl, OwR.mono _ _, fun a W hA hb hd => takes_plain rfl ?_⟩
    have h27 : a.tmps[27]?.getD undef = .agg #[.int .u32 (l.ten : Int), .int .u8 (l.k : Int), .int .u8 (l.lv : Int), .int .u32 (l.pg : Int), .int .u64 (l.cm : Int), .int .u16 (l.gn : Int)] := (eval_get a 27).trans (hd 1 (by simp) _ rfl)
    refine yields_call 63 #[.agg #[.int .u32 (l.ten : Int), .int .u8 (l.k : Int), .int .u8 (l.lv : Int), .int .u32 (l.pg : Int), .int .u64 (l.cm : Int), .int .u16 (l.gn : Int)]] (by go_simp) ((rnonceOf_any l W HOK.out).mono ?_)
    rintro e W' ⟨v, rfl, hv, hb'⟩
    exact ⟨v, rfl, hv.lower hb.size, hb'⟩
  · refine ⟨rfl, IsR.mono _, fun a W hA hb hd => takes_plain rfl (yields_value _ ?_ rfl)⟩
    have h4 : a.tmps[4]?.getD undef = .pointer (some ⟨w.heap.size, 0, none⟩) := (eval_get a 4).trans ((hA.eval (by simp)).trans rfl)
    obtain ⟨x0, x1, x2, x3, x4, x5⟩ := (XB.out.ab hb).cells
    go_simp
  · refine ⟨rfl, OwR.mono _ _, fun a W hA hb hd => takes_plain rfl ?_⟩
    have h29 : a.tmps[29]?.getD undef = .agg #[.int .u32 (l.ten : Int), .int .u8 (l.k : Int), .int .u8 (l.lv : Int), .int .u32 (l.pg : Int), .int .u64 (l.cm : Int), .int .u16 (l.gn : Int)] := (eval_get a 29).trans (hd 3 (by simp) _ rfl)
    refine yields_call 64 #[.agg #[.int .u32 (l.ten : Int), .int .u8 (l.k : Int), .int .u8 (l.lv : Int), .int .u32 (l.pg : Int), .int .u64 (l.cm : Int), .int .u16 (l.gn : Int)]] (by go_simp) ((raadOf_any l W HOK.out).mono ?_)
    rintro e W' ⟨v, rfl, hv, hb'⟩
    exact ⟨v, rfl, hv.lower hb.size, hb'⟩
  · refine ⟨rfl, IsR.mono _, fun a W hA hb hd => takes_plain rfl (yields_value _ ?_ rfl)⟩
    have h2 : a.tmps[2]?.getD undef = .slice tA 224 tc := (eval_get a 2).trans ((hA.eval (by simp)).trans rfl)
    go_simp
  · refine ⟨rfl, TupB.mono _ _ _, fun a W hA hb hd => ?_⟩
    have hk : a.tmps[26]?.getD undef = .slice kA kn kc := (eval_get a 26).trans (hd 0 (by simp) _ rfl)
    have ht : a.tmps[31]?.getD undef = .slice tA 224 tc := (eval_get a 31).trans (hd 5 (by simp) _ rfl)
    have on : OwB W W0.heap.size (a.eval (.tmp 28)) (nonceL l) := hd 2 (by simp) _ rfl
    have oa : OwB W W0.heap.size (a.eval (.tmp 30)) (aadL l) := hd 4 (by simp) _ rfl
    have en := eval_get a 28
    have ea := eval_get a 30
    generalize a.eval (.tmp 28) = vn at *
    generalize a.eval (.tmp 30) = va at *
    obtain ⟨An, cn, rfl, -, -⟩ := on.shape
    obtain ⟨Aa, ca, rfl, -, -⟩ := oa.shape
    have jn := on.isB rfl
    have ja := oa.isB rfl
    rw [nonceL_len] at en jn
    rw [aadL_len] at ea ja
    refine takes_plain rfl (yields_call 62 #[.slice kA kn kc, .slice An 12 cn, .slice Aa 8 ca, .slice tA 224 tc] (by go_simp) ((HSE.out An Aa cn ca W (IK.out.ab hb) jn ja (IT.out.ab hb)).mono ?_))
    rintro e W' ⟨v, rfl, hv, hb'⟩
    exact ⟨_, rfl, ⟨v, rfl, hv.lower hb.size⟩, hb'⟩
  · refine ⟨rfl, TupB.mono _ _ _, fun a W hA hb hd => takes_plain rfl ?_⟩
    obtain ⟨v0, e0, ho⟩ := hd 6 (by simp) _ rfl
    have h0 : a.tmps[32]?.getD undef = .tuple #[v0, .int .i64 ((0 : Nat) : Int)] := (eval_get a 32).trans e0
    refine yields_value (.tuple #[v0, .int .i64 ((0 : Nat) : Int)]) ?_ ⟨v0, rfl, ho⟩
    go_simp
  · refine ⟨rfl, OwR.mono _ _, fun a W hA hb hd => takes_plain rfl ?_⟩
    obtain ⟨v0, e0, ho⟩ := hd 7 (by simp) _ rfl
    have h0 : a.tmps[25]?.getD undef = .tuple #[v0, .int .i64 ((0 : Nat) : Int)] := (eval_get a 25).trans e0
    refine yields_value v0 ?_ ho
    go_simp
  · refine ⟨rfl, IsR.mono _, fun a W hA hb hd => takes_plain rfl ?_⟩
    obtain ⟨v0, e0, ho⟩ := hd 7 (by simp) _ rfl
    have h0 : a.tmps[25]?.getD undef = .tuple #[v0, .int .i64 ((0 : Nat) : Int)] := (eval_get a 25).trans e0
    refine yields_value (.int .i64 (0 : Int)) ?_ rfl
    go_simp
  · refine ⟨rfl, OwR.mono _ _, fun a W hA hb hd => takes_plain rfl ?_⟩
    have ho : OwB W W0.heap.size (a.eval (.tmp 33)) (C) := hd 8 (by simp) _ rfl
    exact yields_value (a.eval (.tmp 33)) (exec_assign (.tmp 33) rfl W) ho
  intro vs W9 hR hF hb
  have hV : OwB W9 W0.heap.size (vs 8) C := hR 10 _ rfl
  have e34 : vs 34 = .int .i64 (0 : Int) := hR 9 _ rfl
  simp only [List.map_cons, List.map_nil, List.foldl_cons, List.foldl_nil, List.length_cons, List.length_nil, List.drop_succ_cons, List.drop_zero, Act.put, List.setIfInBounds_toArray, List.set_cons_zero, List.set_cons_succ, e34]
  generalize vs 26 = q26 at *
  generalize vs 27 = q27 at *
  generalize vs 28 = q28 at *
  generalize vs 29 = q29 at *
  generalize vs 30 = q30 at *
  generalize vs 31 = q31 at *
  generalize vs 32 = q32 at *
  generalize vs 25 = q25 at *
  generalize vs 33 = q33 at *
  generalize vs 8 = q8 at *
  obtain ⟨g8, c8, rfl, -, -, -, -, -⟩ := hV.form (by rw [HCL.out]; decide)
  rw [HCL.out] at hV ⊢
  have I8 := Lib.hid (hV.isB HCL.out)
  have X9 := Lib.hid (XB.out.ab hb)
  have B9 := Lib.hid (below_tr B0.out hb B0.out.size)
  clear hV hR hF hb e34 x0 x1 x2 x3 x4 x5 HSE
  obtain ⟨x0, x1, x2, x3, x4, x5⟩ := X9.out.cells
  go_wp2_with fail
  refine (rheadOf_any l W9 HOK.out).mono ?_
  rintro e w5 ⟨v5, rfl, hv5, hb5⟩
  have V5 := Lib.hid hv5
  have I5 := Lib.hid (I8.out.ab hb5)
  have B5 := Lib.hid hb5
  clear hv5 hb5 I8 x0 x1 x2 x3 x4 x5
  have HHL : Hid ((headL l).length = 16) := Lib.hid (headL_len l)
  go_wp2_with (refine wpList_appB _ rfl (.tmp 40) (.tmp 41) rfl Try.underlying28 hi0 hz0 hz1 hz2 rfl V5.out rfl I5.out rfl (by rw [HHL.out]; decide) B5.out.size ?_
               intro v6 w6 hv6 hb6 hg6 hat6
               have V6 := Lib.hid (hv6.lower (B' := w.heap.size) B9.out.size)
               have B6 := Lib.hid (below_tr B9.out (B5.out.trans hb6) B9.out.size)
               clear hv6 hb6 hg6 hat6)
  go_ret2
  exact ⟨_, rfl, V6.out, B6.out⟩
set_option maxRecDepth 100000 in
set_option maxHeartbeats 4000000 in
theorem rlseal_arg (kA tA : Option Addr) (kn kc tn tc : Nat) (l : Lb) (w : World) (h : ¬ (((kn = 16 ∨ kn = 32) ∧ 1 ≤ l.k ∧ l.k ≤ 4) ∧ tn = 224)) :
    Calls Try.prog 17 #[.slice kA kn kc, .agg (lab l), .slice tA tn tc] w (OutB w [] 2) := by
  have hmay := fun W => rkind_any l.k W
  have XB : Hid (LbB (w.alloc (.cells (lab l) 35)) w.heap.size l) := Lib.hid (heap_alloc_new w _)
  have B0 : Hid (Below w.heap.size w (w.alloc (.cells (lab l) 35))) := Lib.hid ((Below.refl _ _).alloc (Nat.le_refl _) _)
  obtain ⟨x0, x1, x2, x3, x4, x5⟩ := XB.out.cells
  by_cases hk : kn = 16 ∨ kn = 32
  · have HK := Lib.hid hk
    by_cases hm : 1 ≤ l.k ∧ l.k ≤ 4
    · rw [decide_eq_true hm] at hmay
      have hn : ((tn : Int) != 224) = true := by
        have : tn ≠ 224 := fun e => h ⟨⟨hk, hm⟩, e⟩
        simp; omega
      have HM := Lib.hid hmay
      clear hmay hm h hk
      go_enter Try.func17, Try.ntmps17
      go_wp2_with fail
      refine (may_yes kA kn kc _ HK.out).mono ?_
      rintro e w' ⟨rfl, rfl⟩
      go_wp2_with fail
      refine (HM.out _).mono ?_
      rintro e w' ⟨rfl, rfl⟩
      go_wp2_with fail
      go_ret2
      exact OutB.refused 2 B0.out
    · rw [decide_eq_false hm] at hmay
      have HM := Lib.hid hmay
      clear hmay hm h hk
      go_enter Try.func17, Try.ntmps17
      go_wp2_with fail
      refine (may_yes kA kn kc _ HK.out).mono ?_
      rintro e w' ⟨rfl, rfl⟩
      go_wp2_with fail
      refine (HM.out _).mono ?_
      rintro e w' ⟨rfl, rfl⟩
      go_wp2_with fail
      go_ret2
      exact OutB.refused 2 B0.out
  · have h1 : kn ≠ 16 := fun e => hk (.inl e)
    have h2 : kn ≠ 32 := fun e => hk (.inr e)
    clear hmay hk h
    go_enter Try.func17, Try.ntmps17
    go_wp2_with fail
    refine (may_no kA kn kc _ h1 h2).mono ?_
    rintro e w' ⟨rfl, rfl⟩
    go_wp2_with fail
    go_ret2
    exact OutB.refused 2 B0.out
theorem rlseal_any (kA tA : Option Addr) (kn kc tn tc : Nat) (l : Lb) (key text : List Nat) (w : World) (hl : l.Ok) (ik : IsB w kA kn kc key) (it : IsB w tA tn tc text) :
    Calls Try.prog 17 #[.slice kA kn kc, .agg (lab l), .slice tA tn tc] w (OutB w (sealP key l text).1 (sealP key l text).2) := by
  have lk := ik.len
  have lt := it.len
  unfold sealP
  by_cases h : SOk key l ∧ text.length = 224
  · rw [if_pos h]
    obtain rfl : tn = 224 := by omega
    exact rlseal_ok kA tA kn kc tc l key text w hl h.1 ik it
  · rw [if_neg h]
    exact rlseal_arg kA tA kn kc tn tc l w (fun hh => h ⟨⟨by unfold KeyOk; omega, hh.1.2⟩, by omega⟩)
end Go.Proofs.Ytmeakfocppooiaa
