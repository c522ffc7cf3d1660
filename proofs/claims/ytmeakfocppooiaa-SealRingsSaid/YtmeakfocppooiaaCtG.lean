/-
  WALKS: the reference's First and Next (ref05).
-/
import Derived.Test.YtmeakfocppooiaaCtF
import Derived.Test.YtmeakfocppooiaaGhA
namespace Go.Proofs.Ytmeakfocppooiaa
open Go.RowKit
set_option linter.unusedVariables false

theorem upd_same (f : Nat → Nat) (s : List Nat) (k : Nat) (h : ∀ i, i < k → i < s.length → f i = at' s i) : upd f s k = s := by
  refine at'_ext (upd_len f s k) fun i hi => ?_
  rw [upd_len] at hi
  show (upd f s k)[i]?.getD 0 = _
  rw [upd_get f s k i hi]
  by_cases hk : i < k
  · rw [if_pos hk]; exact h i hk hi
  · rw [if_neg hk]; rfl
theorem at_right (l m : List Nat) {j : Nat} (h : l.length ≤ j) : at' (l ++ m) j = at' m (j - l.length) := by simp [at', List.getElem?_append_right h]
theorem firstC_at {l : List Nat} (hl : l.length = 12) {i : Nat} (hi : i < 12) : at' (firstC l) i = at' l i := by simp [firstC, at', List.getElem?_append_left (show i < l.length by omega)]
theorem first_upd {l : List Nat} (hl : l.length = 12) : (upd (at' l) z16 12).set 15 1 = firstC l := by
  refine at'_ext (by rw [List.length_set, upd_len, firstC_len hl]; rfl) fun i hi => ?_
  rw [List.length_set, upd_len] at hi
  have hi : i < 16 := hi
  have e1 : at' ((upd (at' l) z16 12).set 15 1) i = if i = 15 then 1 else at' (upd (at' l) z16 12) i := at_set _ _ _ _ (by rw [upd_len]; decide)
  rw [e1]
  have e2 : at' (upd (at' l) z16 12) i = if i < 12 then at' l i else at' z16 i := upd_get (at' l) z16 12 i hi
  by_cases h15 : i = 15
  · subst h15
    rw [if_pos rfl, firstC, at_right l _ (by omega), hl]
    rfl
  · rw [if_neg h15, e2]
    by_cases h12 : i < 12
    · rw [if_pos h12, firstC_at hl h12]
    · rw [if_neg h12]
      have : i = 12 ∨ i = 13 ∨ i = 14 := by omega
      rcases this with rfl | rfl | rfl <;> (rw [firstC, at_right l _ (by omega), hl]; rfl)

set_option maxRecDepth 100000 in
set_option maxHeartbeats 2000000 in
theorem rFirst_any (A : Option Addr) (c : Nat) (l : List Nat) (w : World) (hin : IsB w A 12 c l) :
    Calls Try.prog 120 #[.slice A 12 c] w fun e w' => e = .returned (.agg (bts (firstC l))) ∧ Below w.heap.size w w' := by
  have hl := hin.len
  obtain ⟨x, rfl, hxb, hxc⟩ := hin.cell (by decide)
  have hsp := first_upd hl
  have h16 : (firstC l).length = 16 := firstC_len hl
  have hb1 : Bk ((w.alloc (.cells (bts z16) 205)).alloc (.cells (bts z16) 205)) w.heap.size 205 z16 := (Bk.newAt _ z16 rfl).alloc _
  have hb2 : Bk ((w.alloc (.cells (bts z16) 205)).alloc (.cells (bts z16) 205)) (w.heap.size + 1) 205 (upd (at' l) z16 0) := by rw [upd_zero]; exact Bk.newAt _ z16 (by simp)
  have hbl : Below w.heap.size w ((w.alloc (.cells (bts z16) 205)).alloc (.cells (bts z16) 205)) := ((Below.refl _ _).alloc (Nat.le_refl _) _).alloc (Nat.le_of_lt (by simp)) _
  have HXC := Lib.hid hxc
  have HXB := Lib.hid hxb
  have HSP := Lib.hid hsp
  have H16 := Lib.hid h16
  have B1 := Lib.hid hb1
  have B2 := Lib.hid hb2
  have BL := Lib.hid hbl
  have HBY := Lib.hid hin.2
  clear hin hl hxc hxb hsp h16 hb1 hb2 hbl
  generalize firstC l = y at *
  go_enter Try.func120, Try.ntmps120
  go_wp2_with fail
  go_loopw [4] (fun j wr => ∃ i : Nat, i ≤ 12 ∧ j = .int .i64 i ∧ Bk wr w.heap.size 205 z16 ∧ Bk wr (w.heap.size + 1) 205 (upd (at' l) z16 i) ∧ Below w.heap.size w wr) (fun j _ => 12 - (intOf j).toNat)
  case atStart => exact ⟨0, by omega, rfl, B1.out, B2.out, BL.out⟩
  case round =>
    obtain ⟨i, hi, rfl, k1, k2, kb⟩ := hrel
    by_cases hlt : i < 12
    · have hii : (i : Int) < 12 := by omega
      have hcl : wr.cell? (x.add i) = some (.int .u8 (at' l i : Nat)) := (kb.cell (by rw [add_block]; exact HXB.out)).trans (HXC.out i hlt)
      have hoc := k2.cell (k := i) (by rw [upd_len]; show i < 16; omega)
      have hof := k2.free i
      have hst := k2.set i (at' l i)
      rw [upd_step (at' l) z16 i (by show i < 16; omega)] at hst
      generalize (upd (at' l) z16 i)[i]?.getD 0 = u at hoc
      have N1 := Lib.hid (k1.far (c := w.heap.size + 1) (k := i) (by omega) (.int .u8 (at' l i : Nat)))
      have N2 := Lib.hid hst
      have N3 := Lib.hid (kb.setCell (p := ⟨w.heap.size + 1, i, none⟩) (by show w.heap.size ≤ w.heap.size + 1; omega) (.int .u8 (at' l i : Nat)))
      generalize at' l i = v at *
      clear hst k1 k2 kb
      go_wp2_with fail
      go_roundw
      case rel => exact ⟨i + 1, by omega, by go_num, N1.out, N2.out, N3.out⟩
      case measure => simp [intOf]; omega
    · obtain rfl : i = 12 := by omega
      have hoc := k2.cell (k := 15) (by rw [upd_len]; decide)
      have hof := k2.free 15
      have hst := k2.set 15 1
      rw [HSP.out] at hst
      generalize (upd (at' l) z16 12)[15]?.getD 0 = u at hoc
      have T1 := Lib.hid hst
      have T2 := Lib.hid (k1.far (c := w.heap.size + 1) (k := 15) (by omega) (.int .u8 ((1 : Nat) : Int)))
      have T3 := Lib.hid (kb.setCell (p := ⟨w.heap.size + 1, 15, none⟩) (by show w.heap.size ≤ w.heap.size + 1; omega) (.int .u8 ((1 : Nat) : Int)))
      clear hst k1 k2 kb
      go_wp2_with (refine wpList_loadB (l := y) (o := ⟨some 16, _, _, _, _, _⟩) rfl 205 (.tmp 3) rfl (w.heap.size + 1) rfl (t := 205) ?_ Try.underlying205 (by rw [H16.out]; exact sz16) ?_
                   · exact T1.out
                   refine wpList_storeB (l := z16) (o := ⟨none, .store _ (.tmp 2) (.tmp 16), _, _, _, _⟩) rfl 205 (.tmp 2) (.tmp 16) rfl w.heap.size rfl y rfl (t := 205) ?_ (by rw [H16.out]; exact sz16) (by rw [H16.out]; rfl) ?_
                   · exact T2.out)
      refine bodyPost_ret (results_bts Try.results120 _ _ _ rfl (T2.out.row y) Try.underlying205 (by rw [H16.out]; exact sz16)) rfl ?_
      exact ⟨rfl, Below.row T3.out (Nat.le_refl _) _⟩

theorem nextC_at_lo {c : List Nat} (lc : c.length = 16) {i : Nat} (hi : i < 12) : at' (nextC c) i = at' c i := by
  have : at' (c.take 12 ++ digB ((numB (c.drop 12) + 1) % 4294967296) 4) i = at' (c.take 12) i := by simp [at', List.getElem?_append_left (show i < (c.take 12).length by simp; omega)]
  rw [nextC, this]
  simp [at', hi]
theorem nextC_at_hi {c : List Nat} (lc : c.length = 16) {i : Nat} : at' (nextC c) (12 + i) = at' (digB ((numB (c.drop 12) + 1) % 4294967296) 4) i := by
  rw [nextC, at_right _ _ (by simp; omega)]
  simp [lc]
set_option maxRecDepth 100000 in
set_option maxHeartbeats 2000000 in
theorem rNext_any (c : List Nat) (hc : Byt c) (lc : c.length = 16) (w : World) :
    Calls Try.prog 121 #[.agg (bts c)] w fun e w' => e = .returned (.agg (bts (nextC c))) ∧ Below w.heap.size w w' := by
  have hk1 : Bk ((w.alloc (.cells (bts c) 205)).alloc (.cells (bts z16) 205)) w.heap.size 205 c := (Bk.new w _ c).alloc _
  have hk2 : Bk ((w.alloc (.cells (bts c) 205)).alloc (.cells (bts z16) 205)) (w.heap.size + 1) 205 z16 := Bk.newAt _ z16 (by simp)
  have hbl : Below w.heap.size w ((w.alloc (.cells (bts c) 205)).alloc (.cells (bts z16) 205)) := ((Below.refl _ _).alloc (Nat.le_refl _) _).alloc (Nat.le_of_lt (by simp)) _
  have c12 : (bts c)[12]? = some (.int .u8 (at' c 12 : Nat)) := bts_get c 12 (by omega)
  have c13 : (bts c)[13]? = some (.int .u8 (at' c 13 : Nat)) := bts_get c 13 (by omega)
  have c14 : (bts c)[14]? = some (.int .u8 (at' c 14 : Nat)) := bts_get c 14 (by omega)
  have c15 : (bts c)[15]? = some (.int .u8 (at' c 15 : Nat)) := bts_get c 15 (by omega)
  obtain ⟨D, hD⟩ : ∃ D, D = [at' c 12, at' c 13, at' c 14, at' c 15] := ⟨_, rfl⟩
  have hDc : c.drop 12 = D := by
    rw [hD]
    refine at'_ext (by simp [lc]) fun i hi => ?_
    have hi : i < 4 := by simpa [lc] using hi
    rw [at'_drop]
    have : i = 0 ∨ i = 1 ∨ i = 2 ∨ i = 3 := by omega
    rcases this with rfl | rfl | rfl | rfl <;> rfl
  have hDb : Byt D := by rw [← hDc]; exact fun x hx => hc x (List.mem_of_mem_drop hx)
  have hm := numB_drop12 hc lc
  have hlo := fun i (hi : i < 12) => nextC_at_lo lc hi
  have hhi := fun i => nextC_at_hi (i := i) lc
  have lz : (nextC c).length = 16 := nextC_len lc
  obtain ⟨q, hq⟩ : ∃ q, q = (numB (c.drop 12) + 1) % 4294967296 := ⟨_, rfl⟩
  have hq32 : q < 4294967296 := by rw [hq]; exact Nat.mod_lt _ (by decide)
  rw [← hq] at hhi
  have hK3 : IsB ((((w.alloc (.cells (bts c) 205)).alloc (.cells (bts z16) 205))).alloc (.cells (bts D) 5)) (some ⟨w.heap.size + 1 + 1, 0, none⟩) 4 4 D := isB_whole (Bk.newAt _ D (by simp)) hDb (by rw [hD]; rfl) (by decide)
  rw [hDc] at hm hq
  obtain ⟨m, hM⟩ : ∃ m, numB D = m := ⟨_, rfl⟩
  rw [hM] at hm hq
  have hw1 := wrap_u64' (n := 4294967297) (by decide) ((m : Int) + 1) (by omega) (by omega)
  have hw2 : ((m : Int) + 1) % 4294967296 = (q : Int) := by omega
  have K1 := Lib.hid (hk1.alloc (.cells (bts D) 5))
  have K2 := Lib.hid (hk2.alloc (.cells (bts D) 5))
  have KB := Lib.hid (hbl.alloc hbl.size (.cells (bts D) 5))
  have HM := Lib.hid hM
  have HLO := Lib.hid hlo
  have HHI := Lib.hid hhi
  have LZ := Lib.hid lz
  have LC := Lib.hid lc
  have HQ : Hid (q < 256 ^ 4) := Lib.hid hq32
  subst hD
  have H3 := Lib.hid hK3
  clear hk1 hk2 hbl hDc hDb hlo hhi lz hq hM hK3
  generalize nextC c = z at *
  go_enter Try.func121, Try.ntmps121
  go_wp2_with fail
  refine (number_any (some ⟨w.heap.size + 1 + 1, 0, none⟩) 4 4 [at' c 12, at' c 13, at' c 14, at' c 15] _ H3.out (by decide) (by decide)).mono ?_
  rintro e w' ⟨rfl, rfl⟩
  rw [HM.out]
  go_wp2_with fail
  refine (of_any q 4 _ (by omega) (by decide) (by decide)).mono ?_
  rintro e w1 ⟨rfl, hbk, hbw⟩
  have R1 : Hid (Bk w1 w.heap.size 205 (upd (at' z) c (12 + 0))) := Lib.hid (by
    rw [upd_same _ _ _ (fun i hi _ => HLO.out i (by omega))]
    exact K1.out.ab hbw)
  have R2 : Hid (Bk w1 (w.heap.size + 1) 205 z16) := Lib.hid (K2.out.ab hbw)
  have R3 : Hid (Below w.heap.size w w1) := Lib.hid (below_tr KB.out hbw KB.out.size)
  have R4 : Hid (Bk w1 (w.heap.size + 1 + 1 + 1) 5 (digB q 4)) := Lib.hid (by simpa using hbk)
  clear hbk hbw K1 K2 KB H3 c12 c13 c14 c15
  go_wp2_with fail
  go_loopw [6] (fun j wr => ∃ i : Nat, i ≤ 4 ∧ j = .int .i64 i ∧ Bk wr w.heap.size 205 (upd (at' z) c (12 + i)) ∧ Bk wr (w.heap.size + 1) 205 z16 ∧ Bk wr (w.heap.size + 1 + 1 + 1) 5 (digB q 4) ∧ Below w.heap.size w wr) (fun j _ => 4 - (intOf j).toNat)
  case atStart => exact ⟨0, by omega, rfl, R1.out, R2.out, R4.out, R3.out⟩
  case round =>
    obtain ⟨i, hi, rfl, k1, k2, k3, kb⟩ := hrel
    by_cases hlt : i < 4
    · have hii : (i : Int) < 4 := by omega
      have hcl := k3.cell (k := i) (by rw [digB_len]; exact hlt)
      have hoc := k1.cell (k := 12 + i) (by rw [upd_len, LC.out]; omega)
      have hof := k1.free (12 + i)
      have hst := k1.set (12 + i) (at' z (12 + i))
      rw [upd_step (at' z) c (12 + i) (by rw [LC.out]; omega)] at hst
      have e : (digB q 4)[i]?.getD 0 = at' z (12 + i) := (HHI.out i).symm
      rw [e] at hcl
      generalize (upd (at' z) c (12 + i))[12 + i]?.getD 0 = u at hoc
      have N1 := Lib.hid hst
      have N2 := Lib.hid (k2.far (c := w.heap.size) (k := 12 + i) (by omega) (.int .u8 (at' z (12 + i) : Nat)))
      have N3 := Lib.hid (k3.far (c := w.heap.size) (k := 12 + i) (by omega) (.int .u8 (at' z (12 + i) : Nat)))
      have N4 := Lib.hid (kb.setCell (p := ⟨w.heap.size, 12 + i, none⟩) (Nat.le_refl _) (.int .u8 (at' z (12 + i) : Nat)))
      have hi1 : IntKind.i64.wrap (12 + (i : Int)) = 12 + (i : Int) := IntWalk.i64_in _ (by omega)
      have hi2 : (12 + (i : Int)).toNat = 12 + i := by omega
      generalize at' z (12 + i) = v at *
      clear hst k1 k2 k3 kb e
      go_wp2_with fail
      go_roundw
      case rel => exact ⟨i + 1, by omega, by go_num, N1.out, N2.out, N3.out, N4.out⟩
      case measure => simp [intOf]; omega
    · obtain rfl : i = 4 := by omega
      have hall : upd (at' z) c (12 + 4) = z := by
        refine at'_ext (by rw [upd_len, LC.out, LZ.out]) fun i hi => ?_
        rw [upd_len] at hi
        show (upd (at' z) c (12 + 4))[i]?.getD 0 = _
        rw [upd_get _ _ _ _ hi, if_pos (by rw [LC.out] at hi; omega)]
      rw [hall] at k1
      have T1 := Lib.hid k1
      have T2 := Lib.hid k2
      have T3 := Lib.hid kb
      clear k1 k2 k3 kb hall
      go_wp2_with (refine wpList_loadB (l := z) (o := ⟨some 35, _, _, _, _, _⟩) rfl 205 (.tmp 1) rfl w.heap.size rfl (t := 205) ?_ Try.underlying205 (by rw [LZ.out]; exact sz16) ?_
                   · exact T1.out
                   refine wpList_storeB (l := z16) (o := ⟨none, .store _ (.tmp 2) (.tmp 35), _, _, _, _⟩) rfl 205 (.tmp 2) (.tmp 35) rfl (w.heap.size + 1) rfl z rfl (t := 205) ?_ (by rw [LZ.out]; exact sz16) (by rw [LZ.out]; rfl) ?_
                   · exact T2.out)
      refine bodyPost_ret (results_bts Try.results121 _ _ _ rfl (T2.out.row z) Try.underlying205 (by rw [LZ.out]; exact sz16)) rfl ?_
      exact ⟨rfl, Below.row T3.out (by omega) _⟩
end Go.Proofs.Ytmeakfocppooiaa
