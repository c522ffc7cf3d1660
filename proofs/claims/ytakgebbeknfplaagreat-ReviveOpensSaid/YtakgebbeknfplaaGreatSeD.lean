/-
  WALKS: the reference's put, Head, Nonce, Aad, Kind (ref10).
  WALKS: the reference's Seal and Open (ref10).
-/
import Derived.Test.YtakgebbeknfplaaGreatSeB
namespace Go.Proofs.YtakgebbeknfplaaGreat
open Go.RowKit
set_option linter.unusedVariables false

set_option maxRecDepth 100000 in
set_option maxHeartbeats 1000000 in
theorem rkind_any (k : Nat) (w : World) :
    Calls Tryz.prog 187 #[.int .u8 (k : Int)] w fun e w' => e = .returned (.bool (decide (1 ≤ k ∧ k ≤ 4))) ∧ w = w' := by
  by_cases h1 : 1 ≤ k
  · have d1 : decide ((1 : Int) ≤ (k : Int)) = true := by simp; omega
    by_cases h2 : k ≤ 4
    · have d2 : decide ((k : Int) ≤ 4) = true := by simp; omega
      rw [decide_eq_true ⟨h1, h2⟩]
      clear h1 h2
      go_enter Tryz.func187, Tryz.ntmps187
      go_wp2_with fail
      go_ret
      exact ⟨rfl, rfl⟩
    · have d2 : decide ((k : Int) ≤ 4) = false := by simp; omega
      rw [decide_eq_false (fun h => h2 h.2)]
      clear h1 h2
      go_enter Tryz.func187, Tryz.ntmps187
      go_wp2_with fail
      go_ret
      exact ⟨rfl, rfl⟩
  · have d1 : decide ((1 : Int) ≤ (k : Int)) = false := by simp; omega
    rw [decide_eq_false (fun h => h1 h.1)]
    clear h1
    go_enter Tryz.func187, Tryz.ntmps187
    go_wp2_with fail
    go_ret
    exact ⟨rfl, rfl⟩
set_option maxRecDepth 100000 in
set_option maxHeartbeats 1000000 in
theorem rput_any (B : Nat) (v : Value) (lb : List Nat) (m n : Nat) (w : World) (ho : OwB w B v lb) (hB : B ≤ w.heap.size) (hlb : lb.length ≤ 1000) (hm : m < 18446744073709551616) (h1 : 1 ≤ n) (h8 : n ≤ 8) :
    Calls Tryz.prog 234 #[v, .int .u64 (m : Int), .int .i64 (n : Int)] w fun e w' => ∃ v', e = .returned v' ∧ OwB w' B v' (lb ++ digB m n) ∧ Below B w w' := by
  obtain ⟨i0, hi0, hz0, hz1, hz2⟩ := info_parts infoU8
  have hof := fun W => of_any m n W hm h1 h8
  obtain ⟨A0, c0, rfl, -, -⟩ := ho.shape
  have HOF := Lib.hid hof
  have HO := Lib.hid ho
  have HBS := Lib.hid hB
  have HLB := Lib.hid hlb
  have H8 := Lib.hid h8
  clear hof ho hB hlb hm h1 h8
  go_enter Tryz.func234, Tryz.ntmps234
  go_wp2_with fail
  refine (HOF.out w).mono ?_
  rintro e w1 ⟨rfl, hk, hb⟩
  have I1 := Lib.hid (isB_whole hk (digB_byt _ _) (digB_len _ _) (by have := H8.out; omega))
  have O1 := Lib.hid (HO.out.ab hb)
  have B1 : Hid (Below B w w1) := Lib.hid (hb.mono HBS.out)
  have S1 : Hid (B ≤ w1.heap.size) := Lib.hid (Nat.le_trans HBS.out hb.size)
  clear hk hb HOF
  go_wp2_with (refine wpList_appB _ rfl (.tmp 15) (.tmp 16) rfl Tryz.underlying22 hi0 hz0 hz1 hz2 rfl O1.out rfl I1.out rfl (by have := HLB.out; have := H8.out; omega) S1.out ?_
               intro v3 w3 hv3 hb3 hg3 hat3
               have V3 := Lib.hid hv3
               have B3 := Lib.hid (B1.out.trans hb3)
               clear hv3 hb3 hg3 hat3)
  go_ret
  exact ⟨_, rfl, V3.out, B3.out⟩
theorem digB_one {k : Nat} (h : k < 256) : digB k 1 = [k] := by
  show [] ++ [k % 256] = [k]
  rw [List.nil_append, Nat.mod_eq_of_lt h]
theorem LbB.low {w w' : World} {B C : Nat} {l : Lb} (k : LbB w B l) (hb : Below C w w') (hC : B < C) : LbB w' B l := (hb.block B hC).trans k
set_option maxRecDepth 100000 in
set_option maxHeartbeats 1000000 in
theorem rnonceOf_any (l : Lb) (w : World) (hl : l.Ok) :
    Calls Tryz.prog 191 #[.agg (lab l)] w fun e w' => ∃ v, e = .returned v ∧ OwB w' w.heap.size v (nonceL l) ∧ Below w.heap.size w w' := by
  have X0 : Hid (LbB (w.alloc (.cells (lab l) 149)) w.heap.size l) := Lib.hid (heap_alloc_new w _)
  have S0 : Hid (w.heap.size + 1 ≤ (w.alloc (.cells (lab l) 149)).heap.size) := Lib.hid (by simp)
  have B0 : Hid (Below w.heap.size w (w.alloc (.cells (lab l) 149))) := Lib.hid ((Below.refl _ _).alloc (Nat.le_refl _) _)
  obtain ⟨x0, x1, x2, x3, x4, x5⟩ := X0.out.cells
  have hpg := hl.pg
  have zpg := wide_u64 l.pg (by omega)
  have HP1 : Hid (∀ W, w.heap.size + 1 ≤ W.heap.size → Calls Tryz.prog 234 #[.slice none 0 0, .int .u64 (l.pg : Int), .int .i64 4] W fun e w' => ∃ v', e = .returned v' ∧ OwB w' (w.heap.size + 1) v' (digB l.pg 4) ∧ Below (w.heap.size + 1) W w') :=
    Lib.hid fun W h => rput_any (w.heap.size + 1) (.slice none 0 0) [] l.pg 4 W (OwB.nil _ _) h (by decide) (by omega) (by decide) (by decide)
  have HP2 : Hid (∀ W v, OwB W (w.heap.size + 1) v (digB l.pg 4) → w.heap.size + 1 ≤ W.heap.size → Calls Tryz.prog 234 #[v, .int .u64 (l.cm : Int), .int .i64 8] W fun e w' => ∃ v', e = .returned v' ∧ OwB w' (w.heap.size + 1) v' (digB l.pg 4 ++ digB l.cm 8) ∧ Below (w.heap.size + 1) W w') :=
    Lib.hid fun W v ho h => rput_any (w.heap.size + 1) v (digB l.pg 4) l.cm 8 W ho h (by rw [digB_len]; decide) hl.cm (by decide) (by decide)
  have HL0 : Hid (nonceL l = digB l.pg 4 ++ digB l.cm 8) := Lib.hid (by simp [nonceL, nonceN, flatN])
  clear hl hpg
  go_enter Tryz.func191, Tryz.ntmps191
  go_wp2_with fail
  refine (HP1.out _ S0.out).mono ?_
  rintro e w1 ⟨v1, rfl, hv, hb⟩
  have V1 := Lib.hid hv
  have X1 := Lib.hid (X0.out.low hb (by omega))
  have B1 := Lib.hid (B0.out.trans (hb.mono (by omega)))
  have S1 := Lib.hid (Nat.le_trans S0.out hb.size)
  clear hv hb x0 x1 x2 x3 x4 x5 X0 B0 S0 HP1
  obtain ⟨x0, x1, x2, x3, x4, x5⟩ := X1.out.cells
  go_wp2_with fail
  refine (HP2.out w1 v1 V1.out S1.out).mono ?_
  rintro e w2 ⟨v2, rfl, hv, hb⟩
  have V2 := Lib.hid (hv.lower (B' := w.heap.size) (by omega))
  have B2 := Lib.hid (B1.out.trans (hb.mono (by omega)))
  clear hv hb
  go_wp2_with fail
  go_ret
  exact ⟨_, rfl, by rw [HL0.out]; exact V2.out, B2.out⟩
set_option maxRecDepth 100000 in
set_option maxHeartbeats 1000000 in
theorem rheadOf_any (l : Lb) (w : World) (hl : l.Ok) :
    Calls Tryz.prog 189 #[.agg (lab l)] w fun e w' => ∃ v, e = .returned v ∧ OwB w' w.heap.size v (headL l) ∧ Below w.heap.size w w' := by
  have X0 : Hid (LbB (w.alloc (.cells (lab l) 149)) w.heap.size l) := Lib.hid (heap_alloc_new w _)
  obtain ⟨x0, x1, x2, x3, x4, x5⟩ := X0.out.cells
  have hk := hl.k
  have hlv := hl.lv
  have hgn := hl.gn
  have zgn := wide_u64 l.gn (by omega)
  have X1 : Hid (LbB ((w.alloc (.cells (lab l) 149)).alloc (.cells #[Value.int .u8 67, Value.int .u8 72, Value.int .u8 84, Value.int .u8 49, Value.int .u8 (l.k : Int), Value.int .u8 (l.lv : Int)] 5)) w.heap.size l) := Lib.hid (X0.out.alloc _)
  have S0 : Hid (w.heap.size + 1 ≤ ((w.alloc (.cells (lab l) 149)).alloc (.cells #[Value.int .u8 67, Value.int .u8 72, Value.int .u8 84, Value.int .u8 49, Value.int .u8 (l.k : Int), Value.int .u8 (l.lv : Int)] 5)).heap.size) := Lib.hid (by simp)
  have B0 : Hid (Below w.heap.size w ((w.alloc (.cells (lab l) 149)).alloc (.cells #[Value.int .u8 67, Value.int .u8 72, Value.int .u8 84, Value.int .u8 49, Value.int .u8 (l.k : Int), Value.int .u8 (l.lv : Int)] 5))) := Lib.hid (((Below.refl _ _).alloc (Nat.le_refl _) _).alloc (Nat.le_of_lt (by simp)) _)
  have O0 : Hid (OwB ((w.alloc (.cells (lab l) 149)).alloc (.cells #[Value.int .u8 67, Value.int .u8 72, Value.int .u8 84, Value.int .u8 49, Value.int .u8 (l.k : Int), Value.int .u8 (l.lv : Int)] 5)) (w.heap.size + 1) (.slice (some ⟨w.heap.size + 1, 0, none⟩) 6 6) [67, 72, 84, 49, l.k, l.lv]) :=
    Lib.hid (OwB.ofBk (l' := [67, 72, 84, 49, l.k, l.lv]) (show Bk ((w.alloc (.cells (lab l) 149)).alloc (.cells (bts [67, 72, 84, 49, l.k, l.lv]) 5)) (w.heap.size + 1) 5 [67, 72, 84, 49, l.k, l.lv] from Bk.newAt _ _ (by simp)) (Nat.le_refl _) rfl (Nat.le_refl _) rfl (by decide) rfl (fun x hx => by simp at hx; omega))
  have HP1 : Hid (∀ W v, OwB W (w.heap.size + 1) v [67, 72, 84, 49, l.k, l.lv] → w.heap.size + 1 ≤ W.heap.size → Calls Tryz.prog 234 #[v, .int .u64 (l.gn : Int), .int .i64 2] W fun e w' => ∃ v', e = .returned v' ∧ OwB w' (w.heap.size + 1) v' ([67, 72, 84, 49, l.k, l.lv] ++ digB l.gn 2) ∧ Below (w.heap.size + 1) W w') :=
    Lib.hid fun W v ho h => rput_any (w.heap.size + 1) v _ l.gn 2 W ho h (by simp) (by omega) (by decide) (by decide)
  have HP2 : Hid (∀ W v, OwB W (w.heap.size + 1) v ([67, 72, 84, 49, l.k, l.lv] ++ digB l.gn 2) → w.heap.size + 1 ≤ W.heap.size → Calls Tryz.prog 234 #[v, .int .u64 (l.cm : Int), .int .i64 8] W fun e w' => ∃ v', e = .returned v' ∧ OwB w' (w.heap.size + 1) v' (([67, 72, 84, 49, l.k, l.lv] ++ digB l.gn 2) ++ digB l.cm 8) ∧ Below (w.heap.size + 1) W w') :=
    Lib.hid fun W v ho h => rput_any (w.heap.size + 1) v _ l.cm 8 W ho h (by simp [digB_len]) hl.cm (by decide) (by decide)
  have HL0 : Hid (headL l = ([67, 72, 84, 49, l.k, l.lv] ++ digB l.gn 2) ++ digB l.cm 8) := Lib.hid (by simp [headL, headN, flatN, digB_one hk, digB_one hlv])
  clear hl hk hlv hgn
  go_enter Tryz.func189, Tryz.ntmps189
  obtain ⟨y0, y1, y2, y3, y4, y5⟩ := X1.out.cells
  go_wp2_with fail
  refine (HP1.out _ _ O0.out S0.out).mono ?_
  rintro e w1 ⟨v1, rfl, hv, hb⟩
  have V1 := Lib.hid hv
  have X2 := Lib.hid (X1.out.low hb (by omega))
  have B1 := Lib.hid (B0.out.trans (hb.mono (by omega)))
  have S1 := Lib.hid (Nat.le_trans S0.out hb.size)
  clear hv hb x0 x1 x2 x3 x4 x5 y0 y1 y2 y3 y4 y5 X0 B0 S0 HP1 O0 X1
  obtain ⟨x0, x1, x2, x3, x4, x5⟩ := X2.out.cells
  go_wp2_with fail
  refine (HP2.out w1 v1 V1.out S1.out).mono ?_
  rintro e w2 ⟨v2, rfl, hv, hb⟩
  have V2 := Lib.hid (hv.lower (B' := w.heap.size) (by omega))
  have B2 := Lib.hid (B1.out.trans (hb.mono (by omega)))
  clear hv hb
  go_wp2_with fail
  go_ret
  exact ⟨_, rfl, by rw [HL0.out]; exact V2.out, B2.out⟩
set_option maxRecDepth 100000 in
set_option maxHeartbeats 1000000 in
theorem raadOf_any (l : Lb) (w : World) (hl : l.Ok) :
    Calls Tryz.prog 192 #[.agg (lab l)] w fun e w' => ∃ v, e = .returned v ∧ OwB w' w.heap.size v (aadL l) ∧ Below w.heap.size w w' := by
  obtain ⟨i0, hi0, hz0, hz1, hz2⟩ := info_parts infoU8
  have X0 : Hid (LbB (w.alloc (.cells (lab l) 149)) w.heap.size l) := Lib.hid (heap_alloc_new w _)
  have S0 : Hid (w.heap.size + 1 ≤ (w.alloc (.cells (lab l) 149)).heap.size) := Lib.hid (by simp)
  have B0 : Hid (Below w.heap.size w (w.alloc (.cells (lab l) 149))) := Lib.hid ((Below.refl _ _).alloc (Nat.le_refl _) _)
  obtain ⟨x0, x1, x2, x3, x4, x5⟩ := X0.out.cells
  have hk := hl.k
  have hlv := hl.lv
  have hgn := hl.gn
  have hten := hl.ten
  have zten := wide_u64 l.ten (by omega)
  have zgn := wide_u64 l.gn (by omega)
  have HP1 : Hid (∀ W, w.heap.size + 1 ≤ W.heap.size → Calls Tryz.prog 234 #[.slice none 0 0, .int .u64 (l.ten : Int), .int .i64 4] W fun e w' => ∃ v', e = .returned v' ∧ OwB w' (w.heap.size + 1) v' (digB l.ten 4) ∧ Below (w.heap.size + 1) W w') :=
    Lib.hid fun W h => rput_any (w.heap.size + 1) (.slice none 0 0) [] l.ten 4 W (OwB.nil _ _) h (by decide) (by omega) (by decide) (by decide)
  have HP2 : Hid (∀ W v, OwB W (w.heap.size + 1) v (digB l.ten 4 ++ [l.k, l.lv]) → w.heap.size + 1 ≤ W.heap.size → Calls Tryz.prog 234 #[v, .int .u64 (l.gn : Int), .int .i64 2] W fun e w' => ∃ v', e = .returned v' ∧ OwB w' (w.heap.size + 1) v' ((digB l.ten 4 ++ [l.k, l.lv]) ++ digB l.gn 2) ∧ Below (w.heap.size + 1) W w') :=
    Lib.hid fun W v ho h => rput_any (w.heap.size + 1) v _ l.gn 2 W ho h (by simp [digB_len]) (by omega) (by decide) (by decide)
  have HL0 : Hid (aadL l = (digB l.ten 4 ++ [l.k, l.lv]) ++ digB l.gn 2) := Lib.hid (by simp [aadL, aadN, flatN, digB_one hk, digB_one hlv])
  have HI2 : Hid (∀ W : World, IsB (W.alloc (.cells (bts [l.k, l.lv]) 5)) (some ⟨W.heap.size, 0, none⟩) 2 2 [l.k, l.lv]) := Lib.hid fun W => isB_whole (Bk.newAt _ _ rfl) (fun x hx => by simp at hx; omega) rfl (by decide)
  clear hl hk hlv hgn hten
  go_enter Tryz.func192, Tryz.ntmps192
  go_wp2_with fail
  refine (HP1.out _ S0.out).mono ?_
  rintro e w1 ⟨v1, rfl, hv, hb⟩
  obtain ⟨A1, c1, rfl, -, -⟩ := hv.shape
  have V1 := Lib.hid hv
  have X1 := Lib.hid (X0.out.low hb (by omega))
  have B1 := Lib.hid (B0.out.trans (hb.mono (by omega)))
  have S1 := Lib.hid (Nat.le_trans S0.out hb.size)
  clear hv hb x0 x1 x2 x3 x4 x5 X0 B0 S0 HP1
  obtain ⟨x0, x1, x2, x3, x4, x5⟩ := X1.out.cells
  go_wp2_with (refine wpList_appB _ rfl (.tmp 8) (.tmp 13) rfl Tryz.underlying22 hi0 hz0 hz1 hz2 rfl (V1.out.alloc _) rfl (HI2.out w1) rfl (by rw [digB_len]; decide) (by have := S1.out; simp; omega) ?_
               intro v3 w3 hv3 hb3 hg3 hat3
               have V3 := Lib.hid hv3
               have B13 : Hid (Below (w.heap.size + 1) w1 w3) := Lib.hid (((Below.refl _ w1).alloc S1.out _).trans hb3)
               have X3 := Lib.hid (X1.out.low B13.out (by omega))
               have B3 := Lib.hid (B1.out.trans (B13.out.mono (by omega)))
               have S3 := Lib.hid (Nat.le_trans S1.out B13.out.size)
               clear hv3 hb3 hg3 hat3
               obtain ⟨y0, y1, y2, y3, y4, y5⟩ := X3.out.cells)
  refine (HP2.out w3 v3 V3.out S3.out).mono ?_
  rintro e w2 ⟨v2, rfl, hv, hb⟩
  have V2 := Lib.hid (hv.lower (B' := w.heap.size) (by omega))
  have B2 := Lib.hid (B3.out.trans (hb.mono (by omega)))
  clear hv hb
  go_wp2_with fail
  go_ret
  exact ⟨_, rfl, by rw [HL0.out]; exact V2.out, B2.out⟩
end Go.Proofs.YtakgebbeknfplaaGreat

namespace Go.Proofs.YtakgebbeknfplaaGreat
open Go.RowKit
set_option linter.unusedVariables false

set_option maxRecDepth 100000 in
set_option maxHeartbeats 4000000 in
theorem rlopen_ok (kA tA : Option Addr) (kn kc tc : Nat) (l : Lb) (key s : List Nat) (w : World) (hl : l.Ok) (hG : SOk key l) (ik : IsB w kA kn kc key) (it : IsB w tA 256 tc s) :
    Calls Tryz.prog 134 #[.slice kA kn kc, .agg (lab l), .slice tA 256 tc] w (OutB w (if s.take 16 = headL l then (openS key (nonceL l) (aadL l) (s.drop 16)).1 else []) (if s.take 16 = headL l then (openS key (nonceL l) (aadL l) (s.drop 16)).2 else 100)) := by
  have lk := ik.len
  have lt := it.len
  have hcap := it.1.lenCap
  have hmay := fun W => rkind_any l.k W
  rw [decide_eq_true hG.2] at hmay
  have itk := it.take (m := 16) (by decide)
  have itd := isB_drop it (m := 16) (by decide)
  have hs1 : ∀ W, (Instr.sliceAt 22 (.slice tA 256 tc) none (some (.int .i64 16)) none).run Tryz.prog W = .ok (.slice tA 16 tc) W := fun W => sl_upto W tA 256 tc 16 (by omega)
  have hs2 : ∀ W, (Instr.sliceAt 22 (.slice tA 256 tc) (some (.int .i64 16)) none none).run Tryz.prog W = .ok (.slice (dropA tA tc 16) 240 (tc - 16)) W := fun W => sl_from W tA 256 tc 16 (by decide)
  generalize hDA : dropA tA tc 16 = DA at *
  clear hDA
  have hop := fun An Aa cn ca W h1 h2 h3 h4 => ropen_any kA An Aa DA kn kc 12 cn 8 ca 240 (tc - 16) key (nonceL l) (aadL l) (s.drop 16) W h1 h2 h3 h4
  generalize (openS key (nonceL l) (aadL l) (s.drop 16)).1 = out at *
  generalize (openS key (nonceL l) (aadL l) (s.drop 16)).2 = err at *
  generalize s.take 16 = H16 at *
  generalize s.drop 16 = D240 at *
  have XB : Hid (LbB (w.alloc (.cells (lab l) 149)) w.heap.size l) := Lib.hid (heap_alloc_new w _)
  have IK : Hid (IsB (w.alloc (.cells (lab l) 149)) kA kn kc key) := Lib.hid (ik.alloc _)
  have ITK : Hid (IsB (w.alloc (.cells (lab l) 149)) tA 16 tc H16) := Lib.hid (itk.alloc _)
  have IT : Hid (IsB (w.alloc (.cells (lab l) 149)) DA 240 (tc - 16) D240) := Lib.hid (itd.alloc _)
  have B0 : Hid (Below w.heap.size w (w.alloc (.cells (lab l) 149))) := Lib.hid ((Below.refl _ _).alloc (Nat.le_refl _) _)
  obtain ⟨x0, x1, x2, x3, x4, x5⟩ := XB.out.cells
  have HMAY := Lib.hid hmay
  have HOP := Lib.hid hop
  have HOK := Lib.hid hl
  have HS1 := Lib.hid hs1
  have HS2 := Lib.hid hs2
  have HKN : Hid (kn = 16 ∨ kn = 32) := Lib.hid (by have := hG.1; unfold KeyOk at this; omega)
  clear hmay hop hl hG ik it itk itd lk lt hcap hs1 hs2
  by_cases hTD : H16 = headL l
  · rw [if_pos hTD, if_pos hTD]
    have hde : decide (H16 = headL l) = true := decide_eq_true hTD
    clear hTD
    go_enter Tryz.func134, Tryz.ntmps134
    go_wp2_with fail
    refine (may_yes kA kn kc _ HKN.out).mono ?_
    rintro e w' ⟨rfl, rfl⟩
    go_wp2_with fail
    refine (HMAY.out _).mono ?_
    rintro e w' ⟨rfl, rfl⟩
    go_wp2_with fail
    obtain ⟨W0, hW0⟩ : ∃ W0, W0 = w.alloc (.cells (lab l) 149) := ⟨_, rfl⟩
    change Code.wp _ _ _ _ (w.alloc (.cells (lab l) 149))
    rw [← hW0] at XB IK IT ITK B0 x0 x1 x2 x3 x4 x5 ⊢
    clear hW0
    refine wp_wide3 [⟨22, IsR (.slice tA 256 tc), [], false⟩, ⟨23, IsR (.slice tA 16 tc), [0], false⟩, ⟨24, IsR (.agg #[.int .u32 (l.ten : Int), .int .u8 (l.k : Int), .int .u8 (l.lv : Int), .int .u32 (l.pg : Int), .int .u64 (l.cm : Int), .int .u16 (l.gn : Int)]), [], false⟩, ⟨25, OwR W0.heap.size (headL l), [2], false⟩, ⟨26, IsR (.bool true), [1, 3], false⟩] (by kernel_rfl) (by kernel_rfl) rfl rfl rfl ⟨?_, ?_, ?_, ?_, ?_, trivial⟩ ?_
    · refine ⟨rfl, IsR.mono _, fun a W hA hb hd => takes_plain rfl (yields_value _ ?_ rfl)⟩
      have h2 : a.tmps[2]?.getD undef = .slice tA 256 tc := (eval_get a 2).trans ((hA.eval (by simp)).trans rfl)
      go_simp
    · refine ⟨rfl, IsR.mono _, fun a W hA hb hd => takes_plain rfl (yields_value _ ?_ rfl)⟩
      have h22 : a.tmps[22]?.getD undef = .slice tA 256 tc := (eval_get a 22).trans (hd 0 (by simp) _ rfl)
      have hs := HS1.out W
      go_simp
    · refine ⟨rfl, IsR.mono _, fun a W hA hb hd => takes_plain rfl (yields_value _ ?_ rfl)⟩
      have h4 : a.tmps[4]?.getD undef = .pointer (some ⟨w.heap.size, 0, none⟩) := (eval_get a 4).trans ((hA.eval (by simp)).trans rfl)
      obtain ⟨x0, x1, x2, x3, x4, x5⟩ := (XB.out.ab hb).cells
      go_simp
    · refine ⟨rfl, OwR.mono _ _, fun a W hA hb hd => takes_plain rfl ?_⟩
      have h24 : a.tmps[24]?.getD undef = .agg #[.int .u32 (l.ten : Int), .int .u8 (l.k : Int), .int .u8 (l.lv : Int), .int .u32 (l.pg : Int), .int .u64 (l.cm : Int), .int .u16 (l.gn : Int)] := (eval_get a 24).trans (hd 2 (by simp) _ rfl)
      refine yields_call 189 #[.agg #[.int .u32 (l.ten : Int), .int .u8 (l.k : Int), .int .u8 (l.lv : Int), .int .u32 (l.pg : Int), .int .u64 (l.cm : Int), .int .u16 (l.gn : Int)]] (by go_simp) ((rheadOf_any l W HOK.out).mono ?_)
      rintro e W' ⟨v, rfl, hv, hb'⟩
      exact ⟨v, rfl, hv.lower hb.size, hb'⟩
    · refine ⟨rfl, IsR.mono _, fun a W hA hb hd => ?_⟩
      have h1 : a.tmps[23]?.getD undef = .slice tA 16 tc := (eval_get a 23).trans (hd 1 (by simp) _ rfl)
      have oh : OwB W W0.heap.size (a.eval (.tmp 25)) (headL l) := hd 3 (by simp) _ rfl
      have eh := eval_get a 25
      generalize a.eval (.tmp 25) = v0 at *
      obtain ⟨A0, c0, rfl, -, -⟩ := oh.shape
      have i0 := oh.isB rfl
      rw [headL_len] at eh i0
      refine takes_plain rfl (yields_call 188 #[.slice tA 16 tc, .slice A0 16 c0] (by go_simp) ((same_any _ _ 16 16 tc c0 H16 (headL l) W (ITK.out.ab hb) i0).mono ?_))
      rintro e W' ⟨rfl, rfl⟩
      exact ⟨_, rfl, by rw [hde]; rfl, Below.refl _ _⟩
    intro vs W8 hR hF hb
    have e26 : vs 26 = .bool true := hR 4 _ rfl
    simp only [List.map_cons, List.map_nil, List.foldl_cons, List.foldl_nil, List.length_cons, List.length_nil, List.drop_succ_cons, List.drop_zero, Act.put, List.setIfInBounds_toArray, List.set_cons_zero, List.set_cons_succ, e26]
    generalize vs 22 = q22 at *
    generalize vs 23 = q23 at *
    generalize vs 24 = q24 at *
    generalize vs 25 = q25 at *
    have X8 := Lib.hid (XB.out.ab hb)
    have K8 := Lib.hid (IK.out.ab hb)
    have T8 := Lib.hid (IT.out.ab hb)
    have B8 := Lib.hid (below_tr B0.out hb B0.out.size)
    clear hR hF hb e26 x0 x1 x2 x3 x4 x5 XB IK IT ITK B0
    go_wp2_with fail
    refine wp_wide3 [⟨28, IsR (.slice kA kn kc), [], false⟩, ⟨29, IsR (.agg #[.int .u32 (l.ten : Int), .int .u8 (l.k : Int), .int .u8 (l.lv : Int), .int .u32 (l.pg : Int), .int .u64 (l.cm : Int), .int .u16 (l.gn : Int)]), [], false⟩, ⟨30, OwR W8.heap.size (nonceL l), [1], false⟩, ⟨31, IsR (.agg #[.int .u32 (l.ten : Int), .int .u8 (l.k : Int), .int .u8 (l.lv : Int), .int .u32 (l.pg : Int), .int .u64 (l.cm : Int), .int .u16 (l.gn : Int)]), [], false⟩, ⟨32, OwR W8.heap.size (aadL l), [3], false⟩, ⟨33, IsR (.slice tA 256 tc), [], false⟩, ⟨34, IsR (.slice DA 240 (tc - 16)), [5], false⟩, ⟨35, TupB W8.heap.size err (out), [0, 2, 4, 6], false⟩, ⟨36, OwR W8.heap.size (out), [7], false⟩, ⟨37, IsR (.int .i64 (err : Int)), [7], false⟩, ⟨6, OwR W8.heap.size (out), [8], false⟩] (by kernel_rfl) (by kernel_rfl) rfl rfl rfl ⟨?_, ?_, ?_, ?_, ?_, ?_, ?_, ?_, ?_, ?_, ?_, trivial⟩ ?_
    · refine ⟨rfl, IsR.mono _, fun a W hA hb hd => takes_plain rfl (yields_value _ ?_ rfl)⟩
      have h0 : a.tmps[0]?.getD undef = .slice kA kn kc := (eval_get a 0).trans ((hA.eval (by simp)).trans rfl)
      go_simp
    · refine ⟨rfl, IsR.mono _, fun a W hA hb hd => takes_plain rfl (yields_value _ ?_ rfl)⟩
      have h4 : a.tmps[4]?.getD undef = .pointer (some ⟨w.heap.size, 0, none⟩) := (eval_get a 4).trans ((hA.eval (by simp)).trans rfl)
      obtain ⟨x0, x1, x2, x3, x4, x5⟩ := (X8.out.ab hb).cells
      go_simp
    · refine ⟨rfl, OwR.mono _ _, fun a W hA hb hd => takes_plain rfl ?_⟩
      have h29 : a.tmps[29]?.getD undef = .agg #[.int .u32 (l.ten : Int), .int .u8 (l.k : Int), .int .u8 (l.lv : Int), .int .u32 (l.pg : Int), .int .u64 (l.cm : Int), .int .u16 (l.gn : Int)] := (eval_get a 29).trans (hd 1 (by simp) _ rfl)
      refine yields_call 191 #[.agg #[.int .u32 (l.ten : Int), .int .u8 (l.k : Int), .int .u8 (l.lv : Int), .int .u32 (l.pg : Int), .int .u64 (l.cm : Int), .int .u16 (l.gn : Int)]] (by go_simp) ((rnonceOf_any l W HOK.out).mono ?_)
      rintro e W' ⟨v, rfl, hv, hb'⟩
      exact ⟨v, rfl, hv.lower hb.size, hb'⟩
    · refine ⟨rfl, IsR.mono _, fun a W hA hb hd => takes_plain rfl (yields_value _ ?_ rfl)⟩
      have h4 : a.tmps[4]?.getD undef = .pointer (some ⟨w.heap.size, 0, none⟩) := (eval_get a 4).trans ((hA.eval (by simp)).trans rfl)
      obtain ⟨x0, x1, x2, x3, x4, x5⟩ := (X8.out.ab hb).cells
      go_simp
    · refine ⟨rfl, OwR.mono _ _, fun a W hA hb hd => takes_plain rfl ?_⟩
      have h31 : a.tmps[31]?.getD undef = .agg #[.int .u32 (l.ten : Int), .int .u8 (l.k : Int), .int .u8 (l.lv : Int), .int .u32 (l.pg : Int), .int .u64 (l.cm : Int), .int .u16 (l.gn : Int)] := (eval_get a 31).trans (hd 3 (by simp) _ rfl)
      refine yields_call 192 #[.agg #[.int .u32 (l.ten : Int), .int .u8 (l.k : Int), .int .u8 (l.lv : Int), .int .u32 (l.pg : Int), .int .u64 (l.cm : Int), .int .u16 (l.gn : Int)]] (by go_simp) ((raadOf_any l W HOK.out).mono ?_)
      rintro e W' ⟨v, rfl, hv, hb'⟩
      exact ⟨v, rfl, hv.lower hb.size, hb'⟩
    · refine ⟨rfl, IsR.mono _, fun a W hA hb hd => takes_plain rfl (yields_value _ ?_ rfl)⟩
      have h2 : a.tmps[2]?.getD undef = .slice tA 256 tc := (eval_get a 2).trans ((hA.eval (by simp)).trans rfl)
      go_simp
    · refine ⟨rfl, IsR.mono _, fun a W hA hb hd => takes_plain rfl (yields_value _ ?_ rfl)⟩
      have h33 : a.tmps[33]?.getD undef = .slice tA 256 tc := (eval_get a 33).trans (hd 5 (by simp) _ rfl)
      have hs := HS2.out W
      go_simp
    · refine ⟨rfl, TupB.mono _ _ _, fun a W hA hb hd => ?_⟩
      have hk : a.tmps[28]?.getD undef = .slice kA kn kc := (eval_get a 28).trans (hd 0 (by simp) _ rfl)
      have ht : a.tmps[34]?.getD undef = .slice DA 240 (tc - 16) := (eval_get a 34).trans (hd 6 (by simp) _ rfl)
      have on : OwB W W8.heap.size (a.eval (.tmp 30)) (nonceL l) := hd 2 (by simp) _ rfl
      have oa : OwB W W8.heap.size (a.eval (.tmp 32)) (aadL l) := hd 4 (by simp) _ rfl
      have en := eval_get a 30
      have ea := eval_get a 32
      generalize a.eval (.tmp 30) = vn at *
      generalize a.eval (.tmp 32) = va at *
      obtain ⟨An, cn, rfl, -, -⟩ := on.shape
      obtain ⟨Aa, ca, rfl, -, -⟩ := oa.shape
      have jn := on.isB rfl
      have ja := oa.isB rfl
      rw [nonceL_len] at en jn
      rw [aadL_len] at ea ja
      refine takes_plain rfl (yields_call 190 #[.slice kA kn kc, .slice An 12 cn, .slice Aa 8 ca, .slice DA 240 (tc - 16)] (by go_simp) ((HOP.out An Aa cn ca W (K8.out.ab hb) jn ja (T8.out.ab hb)).mono ?_))
      rintro e W' ⟨v, rfl, hv, hb'⟩
      exact ⟨_, rfl, ⟨v, rfl, hv.lower hb.size⟩, hb'⟩
    · refine ⟨rfl, OwR.mono _ _, fun a W hA hb hd => takes_plain rfl ?_⟩
      obtain ⟨v0, e0, ho⟩ := hd 7 (by simp) _ rfl
      have h0 : a.tmps[35]?.getD undef = .tuple #[v0, .int .i64 ((err : Nat) : Int)] := (eval_get a 35).trans e0
      refine yields_value v0 ?_ ho
      go_simp
    · refine ⟨rfl, IsR.mono _, fun a W hA hb hd => takes_plain rfl ?_⟩
      obtain ⟨v0, e0, ho⟩ := hd 7 (by simp) _ rfl
      have h0 : a.tmps[35]?.getD undef = .tuple #[v0, .int .i64 ((err : Nat) : Int)] := (eval_get a 35).trans e0
      refine yields_value (.int .i64 (err : Int)) ?_ rfl
      go_simp
    · refine ⟨rfl, OwR.mono _ _, fun a W hA hb hd => takes_plain rfl ?_⟩
      have ho : OwB W W8.heap.size (a.eval (.tmp 36)) (out) := hd 8 (by simp) _ rfl
      exact yields_value (a.eval (.tmp 36)) (exec_assign (.tmp 36) rfl W) ho
    intro vs W9 hR hF hb
    have hV : OwB W9 W8.heap.size (vs 6) out := hR 10 _ rfl
    have e37 : vs 37 = .int .i64 (err : Int) := hR 9 _ rfl
    simp only [List.map_cons, List.map_nil, List.foldl_cons, List.foldl_nil, List.length_cons, List.length_nil, List.drop_succ_cons, List.drop_zero, Act.put, List.setIfInBounds_toArray, List.set_cons_zero, List.set_cons_succ, e37]
    generalize vs 28 = q28 at *
    generalize vs 29 = q29 at *
    generalize vs 30 = q30 at *
    generalize vs 31 = q31 at *
    generalize vs 32 = q32 at *
    generalize vs 33 = q33 at *
    generalize vs 34 = q34 at *
    generalize vs 35 = q35 at *
    generalize vs 36 = q36 at *
    generalize vs 6 = v6 at *
    have V9 := Lib.hid (hV.lower (B' := w.heap.size) B8.out.size)
    have B9 := Lib.hid (below_tr B8.out hb B8.out.size)
    clear hV hR hF hb e37
    go_wp2_with fail
    go_ret2
    exact ⟨_, rfl, V9.out, B9.out⟩
  · rw [if_neg hTD, if_neg hTD]
    have hde : decide (H16 = headL l) = false := decide_eq_false hTD
    clear hTD
    go_enter Tryz.func134, Tryz.ntmps134
    go_wp2_with fail
    refine (may_yes kA kn kc _ HKN.out).mono ?_
    rintro e w' ⟨rfl, rfl⟩
    go_wp2_with fail
    refine (HMAY.out _).mono ?_
    rintro e w' ⟨rfl, rfl⟩
    go_wp2_with fail
    obtain ⟨W0, hW0⟩ : ∃ W0, W0 = w.alloc (.cells (lab l) 149) := ⟨_, rfl⟩
    change Code.wp _ _ _ _ (w.alloc (.cells (lab l) 149))
    rw [← hW0] at XB IK IT ITK B0 x0 x1 x2 x3 x4 x5 ⊢
    clear hW0
    refine wp_wide3 [⟨22, IsR (.slice tA 256 tc), [], false⟩, ⟨23, IsR (.slice tA 16 tc), [0], false⟩, ⟨24, IsR (.agg #[.int .u32 (l.ten : Int), .int .u8 (l.k : Int), .int .u8 (l.lv : Int), .int .u32 (l.pg : Int), .int .u64 (l.cm : Int), .int .u16 (l.gn : Int)]), [], false⟩, ⟨25, OwR W0.heap.size (headL l), [2], false⟩, ⟨26, IsR (.bool false), [1, 3], false⟩] (by kernel_rfl) (by kernel_rfl) rfl rfl rfl ⟨?_, ?_, ?_, ?_, ?_, trivial⟩ ?_
    · refine ⟨rfl, IsR.mono _, fun a W hA hb hd => takes_plain rfl (yields_value _ ?_ rfl)⟩
      have h2 : a.tmps[2]?.getD undef = .slice tA 256 tc := (eval_get a 2).trans ((hA.eval (by simp)).trans rfl)
      go_simp
    · refine ⟨rfl, IsR.mono _, fun a W hA hb hd => takes_plain rfl (yields_value _ ?_ rfl)⟩
      have h22 : a.tmps[22]?.getD undef = .slice tA 256 tc := (eval_get a 22).trans (hd 0 (by simp) _ rfl)
      have hs := HS1.out W
      go_simp
    · refine ⟨rfl, IsR.mono _, fun a W hA hb hd => takes_plain rfl (yields_value _ ?_ rfl)⟩
      have h4 : a.tmps[4]?.getD undef = .pointer (some ⟨w.heap.size, 0, none⟩) := (eval_get a 4).trans ((hA.eval (by simp)).trans rfl)
      obtain ⟨x0, x1, x2, x3, x4, x5⟩ := (XB.out.ab hb).cells
      go_simp
    · refine ⟨rfl, OwR.mono _ _, fun a W hA hb hd => takes_plain rfl ?_⟩
      have h24 : a.tmps[24]?.getD undef = .agg #[.int .u32 (l.ten : Int), .int .u8 (l.k : Int), .int .u8 (l.lv : Int), .int .u32 (l.pg : Int), .int .u64 (l.cm : Int), .int .u16 (l.gn : Int)] := (eval_get a 24).trans (hd 2 (by simp) _ rfl)
      refine yields_call 189 #[.agg #[.int .u32 (l.ten : Int), .int .u8 (l.k : Int), .int .u8 (l.lv : Int), .int .u32 (l.pg : Int), .int .u64 (l.cm : Int), .int .u16 (l.gn : Int)]] (by go_simp) ((rheadOf_any l W HOK.out).mono ?_)
      rintro e W' ⟨v, rfl, hv, hb'⟩
      exact ⟨v, rfl, hv.lower hb.size, hb'⟩
    · refine ⟨rfl, IsR.mono _, fun a W hA hb hd => ?_⟩
      have h1 : a.tmps[23]?.getD undef = .slice tA 16 tc := (eval_get a 23).trans (hd 1 (by simp) _ rfl)
      have oh : OwB W W0.heap.size (a.eval (.tmp 25)) (headL l) := hd 3 (by simp) _ rfl
      have eh := eval_get a 25
      generalize a.eval (.tmp 25) = v0 at *
      obtain ⟨A0, c0, rfl, -, -⟩ := oh.shape
      have i0 := oh.isB rfl
      rw [headL_len] at eh i0
      refine takes_plain rfl (yields_call 188 #[.slice tA 16 tc, .slice A0 16 c0] (by go_simp) ((same_any _ _ 16 16 tc c0 H16 (headL l) W (ITK.out.ab hb) i0).mono ?_))
      rintro e W' ⟨rfl, rfl⟩
      exact ⟨_, rfl, by rw [hde]; rfl, Below.refl _ _⟩
    intro vs W8 hR hF hb
    have e26 : vs 26 = .bool false := hR 4 _ rfl
    simp only [List.map_cons, List.map_nil, List.foldl_cons, List.foldl_nil, List.length_cons, List.length_nil, List.drop_succ_cons, List.drop_zero, Act.put, List.setIfInBounds_toArray, List.set_cons_zero, List.set_cons_succ, e26]
    generalize vs 22 = q22 at *
    generalize vs 23 = q23 at *
    generalize vs 24 = q24 at *
    generalize vs 25 = q25 at *
    have X8 := Lib.hid (XB.out.ab hb)
    have K8 := Lib.hid (IK.out.ab hb)
    have T8 := Lib.hid (IT.out.ab hb)
    have B8 := Lib.hid (below_tr B0.out hb B0.out.size)
    clear hR hF hb e26 x0 x1 x2 x3 x4 x5 XB IK IT ITK B0
    go_wp2_with fail
    go_ret2
    exact OutB.refused 100 B8.out
set_option maxRecDepth 100000 in
set_option maxHeartbeats 4000000 in
theorem rlopen_arg (kA tA : Option Addr) (kn kc tn tc : Nat) (l : Lb) (w : World) (h : ¬ (((kn = 16 ∨ kn = 32) ∧ 1 ≤ l.k ∧ l.k ≤ 4) ∧ tn = 256)) :
    Calls Tryz.prog 134 #[.slice kA kn kc, .agg (lab l), .slice tA tn tc] w (OutB w [] 2) := by
  have hmay := fun W => rkind_any l.k W
  have XB : Hid (LbB (w.alloc (.cells (lab l) 149)) w.heap.size l) := Lib.hid (heap_alloc_new w _)
  have B0 : Hid (Below w.heap.size w (w.alloc (.cells (lab l) 149))) := Lib.hid ((Below.refl _ _).alloc (Nat.le_refl _) _)
  obtain ⟨x0, x1, x2, x3, x4, x5⟩ := XB.out.cells
  by_cases hk : kn = 16 ∨ kn = 32
  · have HK := Lib.hid hk
    by_cases hm : 1 ≤ l.k ∧ l.k ≤ 4
    · rw [decide_eq_true hm] at hmay
      have hn : ((tn : Int) != 256) = true := by
        have : tn ≠ 256 := fun e => h ⟨⟨hk, hm⟩, e⟩
        simp; omega
      have HM := Lib.hid hmay
      clear hmay hm h hk
      go_enter Tryz.func134, Tryz.ntmps134
      go_wp2_with fail
      refine (may_yes kA kn kc _ HK.out).mono ?_
      rintro e w' ⟨rfl, rfl⟩
      go_wp2_with fail
      refine (HM.out _).mono ?_
      rintro e w' ⟨rfl, rfl⟩
      go_wp2_with fail
      go_ret2
      exact OutB.refused 2 B0.out
    · rw [decide_eq_false hm] at hmay
      have HM := Lib.hid hmay
      clear hmay hm h hk
      go_enter Tryz.func134, Tryz.ntmps134
      go_wp2_with fail
      refine (may_yes kA kn kc _ HK.out).mono ?_
      rintro e w' ⟨rfl, rfl⟩
      go_wp2_with fail
      refine (HM.out _).mono ?_
      rintro e w' ⟨rfl, rfl⟩
      go_wp2_with fail
      go_ret2
      exact OutB.refused 2 B0.out
  · have h1 : kn ≠ 16 := fun e => hk (.inl e)
    have h2 : kn ≠ 32 := fun e => hk (.inr e)
    clear hmay hk h
    go_enter Tryz.func134, Tryz.ntmps134
    go_wp2_with fail
    refine (may_no kA kn kc _ h1 h2).mono ?_
    rintro e w' ⟨rfl, rfl⟩
    go_wp2_with fail
    go_ret2
    exact OutB.refused 2 B0.out
theorem rlopen_any (kA tA : Option Addr) (kn kc tn tc : Nat) (l : Lb) (key s : List Nat) (w : World) (hl : l.Ok) (ik : IsB w kA kn kc key) (it : IsB w tA tn tc s) :
    Calls Tryz.prog 134 #[.slice kA kn kc, .agg (lab l), .slice tA tn tc] w (OutB w (openP key l s).1 (openP key l s).2) := by
  have lk := ik.len
  have lt := it.len
  unfold openP
  by_cases h : SOk key l ∧ s.length = 256
  · rw [if_pos h]
    obtain rfl : tn = 256 := by omega
    have := rlopen_ok kA tA kn kc tc l key s w hl h.1 ik it
    by_cases hT : s.take 16 = headL l
    · rw [if_pos hT]
      rw [if_pos hT, if_pos hT] at this
      exact this
    · rw [if_neg hT]
      rw [if_neg hT, if_neg hT] at this
      exact this
  · rw [if_neg h]
    exact rlopen_arg kA tA kn kc tn tc l w (fun hh => h ⟨⟨by unfold KeyOk; omega, hh.1.2⟩, by omega⟩)
end Go.Proofs.YtakgebbeknfplaaGreat
