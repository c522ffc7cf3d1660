/-
  WALKS: octet.Put, the reference's Of: a number's bytes, the highest first, in memory of their own.
-/
import Derived.Test.YtpofndciepoooaaCtA
namespace Go.Proofs.Ytpofndciepoooaa
open Go.RowKit
set_option linter.unusedVariables false

theorem digB_succ (n : Nat) : ∀ k, digB n (k + 1) = n / 256 ^ k % 256 :: digB n k
  | 0 => by simp [digB]
  | k + 1 => by
    have h := digB_succ (n / 256) k
    rw [digB, h]
    have e : n / 256 / 256 ^ k = n / 256 ^ (k + 1) := by rw [Nat.div_div_eq_div_mul, Nat.pow_succ, Nat.mul_comm]
    rw [e]
    rfl
/-- behind j rounds from the end -/
def putB (n size j : Nat) : List Nat := zeros (size - j) ++ digB n j
theorem putB_len {n size j : Nat} (h : j ≤ size) : (putB n size j).length = size := by simp [putB, zeros_len, digB_len]; omega
theorem putB_set {n size j : Nat} (h : j < size) : (putB n size j).set (size - 1 - j) (n / 256 ^ j % 256) = putB n size (j + 1) := by
  unfold putB
  rw [List.set_append_left _ _ (by rw [zeros_len]; omega), digB_succ]
  have e : zeros (size - j) = zeros (size - (j + 1)) ++ [0] := by
    have : size - j = (size - (j + 1)) + 1 := by omega
    rw [this]
    exact List.replicate_succ'
  rw [e, List.set_append_right _ _ (by rw [zeros_len]; omega)]
  have e2 : size - 1 - j - (zeros (size - (j + 1))).length = 0 := by rw [zeros_len]; omega
  rw [e2]
  simp
theorem putB_all (n size : Nat) : putB n size size = digB n size := by simp [putB, zeros]
theorem div256 (n j : Nat) : n / 256 ^ j / 256 = n / 256 ^ (j + 1) := by rw [Nat.div_div_eq_div_mul, Nat.pow_succ]
theorem wrap_u8m (m : Nat) : IntKind.u8.wrap (m : Int) = ((m % 256 : Nat) : Int) := by
  show (m : Int) % 256 = _
  omega

set_option maxRecDepth 100000 in
set_option maxHeartbeats 1000000 in
theorem of_any (m n : Nat) (w : World) (hm : m < 18446744073709551616) (h1 : 1 ≤ n) (h8 : n ≤ 8) :
    Calls Try.prog 68 #[.int .u64 (m : Int), .int .i64 (n : Int)] w fun e w' => e = .returned (.tuple #[.slice (some ⟨w.heap.size, 0, none⟩) n n, .bool (decide (m < 256 ^ n))]) ∧ Bk w' w.heap.size 5 (digB m n) ∧ Below w.heap.size w w' := by
  have hmk : ∀ W : World, (Instr.makeSlice 22 (.int .i64 (n : Int)) (.int .i64 (n : Int))).run Try.prog W = .ok (.slice (some ⟨W.heap.size, 0, none⟩) n n) (W.alloc (.cells (bts (zeros n)) 5)) := fun W => make_u8 n n (by omega) (by omega) W
  have hbk0 : Bk (w.alloc (.cells (bts (zeros n)) 5)) w.heap.size 5 (putB m n 0) := by
    have := Bk.new w 5 (zeros n)
    simpa [putB, digB] using this
  have HB0 := Lib.hid hbk0
  clear hbk0
  go_enter Try.func68, Try.ntmps68
  go_wp2_with fail
  go_loopw [0, 7] (fun u v wr => ∃ j : Nat, j ≤ n ∧ v = .int .i64 j ∧ u = .int .u64 (m / 256 ^ j : Nat) ∧ Bk wr w.heap.size 5 (putB m n j) ∧ Below w.heap.size w wr) (fun _ v _ => n - (intOf v).toNat)
  case atStart => exact ⟨0, by omega, rfl, by simp, HB0.out, (Below.refl _ _).alloc (Nat.le_refl _) _⟩
  case round =>
    obtain ⟨j, hj, rfl, rfl, hbk, hbw⟩ := hrel
    by_cases hlt : j < n
    · have hji : (j : Int) < (n : Int) := by omega
      have hfr := hbk.free (n - 1 - j)
      have hcl := hbk.cell (k := n - 1 - j) (by rw [putB_len hj]; omega)
      generalize (putB m n j)[n - 1 - j]?.getD 0 = y at hcl
      have hst := hbk.set (n - 1 - j) (m / 256 ^ j % 256)
      rw [putB_set hlt] at hst
      have hd := div256 m j
      have hmj : m / 256 ^ j ≤ m := Nat.div_le_self _ _
      generalize hq : m / 256 ^ j = q at *
      have hq2 : q % 256 < 256 := Nat.mod_lt _ (by omega)
      have HQ := Lib.hid hd
      have H1 := Lib.hid hst
      have H2 := Lib.hid (hbw.setCell (p := ⟨w.heap.size, n - 1 - j, none⟩) (by show w.heap.size ≤ w.heap.size; omega) (.int .u8 ((q % 256 : Nat) : Int)))
      have hi1 : IntKind.i64.wrap ((n : Int) - 1) = (n : Int) - 1 := IntWalk.i64_in _ (by omega)
      have hi2 : IntKind.i64.wrap ((n : Int) - 1 - (j : Int)) = (n : Int) - 1 - (j : Int) := IntWalk.i64_in _ (by omega)
      have hi3 : 0 ≤ (n : Int) - 1 - (j : Int) := by omega
      have hi4 : (n : Int) - 1 - (j : Int) < (n : Int) := by omega
      have hi5 : ((n : Int) - 1 - (j : Int)).toNat = n - 1 - j := by omega
      have hr1 : IntKind.u64.wrap ((q % 256 : Nat) : Int) = ((q % 256 : Nat) : Int) := wrap_u64' (n := 256) (by decide) _ (by omega) (by omega)
      have hr2 : IntKind.u8.wrap ((q % 256 : Nat) : Int) = ((q % 256 : Nat) : Int) := by rw [wrap_u8m, Nat.mod_eq_of_lt hq2]
      clear hst hbk hbw hd hq
      go_wp2_with fail
      go_roundw
      case rel => exact ⟨j + 1, by omega, by go_num, by rw [← HQ.out]; go_num, H1.out, H2.out⟩
      case measure => simp [intOf]; omega
    · obtain rfl : j = n := by omega
      have hji : ¬ (j : Int) < (j : Int) := by omega
      rw [putB_all] at hbk
      generalize hq : m / 256 ^ j = q at *
      have HBK := Lib.hid hbk
      have HBW := Lib.hid hbw
      have HQ := Lib.hid hq
      clear hbk hbw hq
      go_wp2_with fail
      go_ret2
      refine ⟨?_, HBK.out, HBW.out⟩
      have e : (((q : Nat) : Int) == 0) = decide (m < 256 ^ j) := by
        have h1 : (q = 0) ↔ m < 256 ^ j := by rw [← HQ.out, Nat.div_eq_zero_iff]; simp
        by_cases h0 : q = 0
        · have h2 := h1.1 h0
          rw [h0, decide_eq_true h2]
          rfl
        · have h2 := fun h => h0 (h1.2 h)
          rw [decide_eq_false h2, beq_eq_false_iff_ne]
          omega
      rw [← e]
      rfl
theorem fits_shift (m n : Nat) (h : m < 256 ^ n) : (((m : Int) / 2 ^ (8 * n)) != 0) = false := by
  have e : (256 : Nat) ^ n = 2 ^ (8 * n) := by rw [Nat.pow_mul]
  rw [e] at h
  have h2 : ((m : Int) / 2 ^ (8 * n)) = ((m / 2 ^ (8 * n) : Nat) : Int) := by simp
  rw [h2, Nat.div_eq_of_lt h]
  rfl

set_option maxRecDepth 100000 in
set_option maxHeartbeats 1000000 in
theorem put_lt (m n : Nat) (w : World) (hm : m < 18446744073709551616) (h1 : 1 ≤ n) (h8 : n < 8) (hfit : m < 256 ^ n) :
    Calls Try.prog 66 #[.int .u64 (m : Int), .int .i64 (n : Int)] w fun e w' => e = .returned (.tuple #[.slice (some ⟨w.heap.size, 0, none⟩) n n, .int .i64 0]) ∧ Bk w' w.heap.size 5 (digB m n) ∧ Below w.heap.size w w' := by
  have hmk : ∀ W : World, (Instr.makeSlice 22 (.int .i64 (n : Int)) (.int .i64 (n : Int))).run Try.prog W = .ok (.slice (some ⟨W.heap.size, 0, none⟩) n n) (W.alloc (.cells (bts (zeros n)) 5)) := fun W => make_u8 n n (by omega) (by omega) W
  have hbk0 : Bk (w.alloc (.cells (bts (zeros n)) 5)) w.heap.size 5 (putB m n 0) := by
    have := Bk.new w 5 (zeros n)
    simpa [putB, digB] using this
  have HB0 := Lib.hid hbk0
  clear hbk0
  have hd1 : decide ((n : Int) < 1) = false := by simp; omega
  have hd2 : decide (8 < (n : Int)) = false := by simp; omega
  have hd3 : decide ((n : Int) < 8) = true := by simp; omega
  have hi0 : IntKind.i64.wrap ((n : Int) - 1) = (n : Int) - 1 := IntWalk.i64_in _ (by omega)
  have hsh := fits_shift m n hfit
  clear hfit
  go_enter Try.func66, Try.ntmps66
  go_wp2_with fail
  clear hd1 hd2 hd3 hsh hi0
  go_loopw [0, 7] (fun u v wr => ∃ j : Nat, j ≤ n ∧ v = .int .i64 ((n : Int) - 1 - (j : Int)) ∧ u = .int .u64 (m / 256 ^ j : Nat) ∧ Bk wr w.heap.size 5 (putB m n j) ∧ Below w.heap.size w wr) (fun _ v _ => (intOf v + 1).toNat)
  case atStart => exact ⟨0, by omega, by simp, by simp, HB0.out, (Below.refl _ _).alloc (Nat.le_refl _) _⟩
  case round =>
    obtain ⟨j, hj, rfl, rfl, hbk, hbw⟩ := hrel
    by_cases hlt : j < n
    · have hge : 0 ≤ (n : Int) - 1 - (j : Int) := by omega
      have hfr := hbk.free (n - 1 - j)
      have hcl := hbk.cell (k := n - 1 - j) (by rw [putB_len hj]; omega)
      generalize (putB m n j)[n - 1 - j]?.getD 0 = y at hcl
      have hst := hbk.set (n - 1 - j) (m / 256 ^ j % 256)
      rw [putB_set hlt] at hst
      have hd := div256 m j
      have hmj : m / 256 ^ j ≤ m := Nat.div_le_self _ _
      generalize hq : m / 256 ^ j = q at *
      have hq2 : q % 256 < 256 := Nat.mod_lt _ (by omega)
      have HQ := Lib.hid hd
      have H1 := Lib.hid hst
      have H2 := Lib.hid (hbw.setCell (p := ⟨w.heap.size, n - 1 - j, none⟩) (by show w.heap.size ≤ w.heap.size; omega) (.int .u8 ((q % 256 : Nat) : Int)))
      have hi4 : (n : Int) - 1 - (j : Int) < (n : Int) := by omega
      have hi5 : ((n : Int) - 1 - (j : Int)).toNat = n - 1 - j := by omega
      have hi6 : IntKind.i64.wrap ((n : Int) - 1 - (j : Int) - 1) = (n : Int) - 1 - (j : Int) - 1 := IntWalk.i64_in _ (by omega)
      have hr2 : IntKind.u8.wrap (q : Int) = ((q % 256 : Nat) : Int) := wrap_u8m q
      clear hst hbk hbw hd hq
      go_wp2_with fail
      go_roundw
      case rel => exact ⟨j + 1, by omega, by go_num, by rw [← HQ.out]; go_num, H1.out, H2.out⟩
      case measure => simp [intOf]; omega
    · obtain rfl : j = n := by omega
      have hge : ¬ 0 ≤ (j : Int) - 1 - (j : Int) := by omega
      rw [putB_all] at hbk
      have HBK := Lib.hid hbk
      have HBW := Lib.hid hbw
      generalize m / 256 ^ j = q at *
      clear hbk hbw
      go_wp2_with fail
      go_ret2
      exact ⟨rfl, HBK.out, HBW.out⟩

set_option maxRecDepth 100000 in
set_option maxHeartbeats 1000000 in
theorem put_8 (m n : Nat) (w : World) (hm : m < 18446744073709551616) (h1 : 1 ≤ n) (h8 : 8 ≤ n) (h9 : n ≤ 8) (hfit : m < 256 ^ n) :
    Calls Try.prog 66 #[.int .u64 (m : Int), .int .i64 (n : Int)] w fun e w' => e = .returned (.tuple #[.slice (some ⟨w.heap.size, 0, none⟩) n n, .int .i64 0]) ∧ Bk w' w.heap.size 5 (digB m n) ∧ Below w.heap.size w w' := by
  have hmk : ∀ W : World, (Instr.makeSlice 22 (.int .i64 (n : Int)) (.int .i64 (n : Int))).run Try.prog W = .ok (.slice (some ⟨W.heap.size, 0, none⟩) n n) (W.alloc (.cells (bts (zeros n)) 5)) := fun W => make_u8 n n (by omega) (by omega) W
  have hbk0 : Bk (w.alloc (.cells (bts (zeros n)) 5)) w.heap.size 5 (putB m n 0) := by
    have := Bk.new w 5 (zeros n)
    simpa [putB, digB] using this
  have HB0 := Lib.hid hbk0
  clear hbk0
  have hd1 : decide ((n : Int) < 1) = false := by simp; omega
  have hd2 : decide (8 < (n : Int)) = false := by simp; omega
  have hd3 : decide ((n : Int) < 8) = false := by simp; omega
  have hi0 : IntKind.i64.wrap ((n : Int) - 1) = (n : Int) - 1 := IntWalk.i64_in _ (by omega)
  have hsh := fits_shift m n hfit
  clear hfit
  go_enter Try.func66, Try.ntmps66
  go_wp2_with fail
  clear hd1 hd2 hd3 hsh hi0
  go_loopw [0, 7] (fun u v wr => ∃ j : Nat, j ≤ n ∧ v = .int .i64 ((n : Int) - 1 - (j : Int)) ∧ u = .int .u64 (m / 256 ^ j : Nat) ∧ Bk wr w.heap.size 5 (putB m n j) ∧ Below w.heap.size w wr) (fun _ v _ => (intOf v + 1).toNat)
  case atStart => exact ⟨0, by omega, by simp, by simp, HB0.out, (Below.refl _ _).alloc (Nat.le_refl _) _⟩
  case round =>
    obtain ⟨j, hj, rfl, rfl, hbk, hbw⟩ := hrel
    by_cases hlt : j < n
    · have hge : 0 ≤ (n : Int) - 1 - (j : Int) := by omega
      have hfr := hbk.free (n - 1 - j)
      have hcl := hbk.cell (k := n - 1 - j) (by rw [putB_len hj]; omega)
      generalize (putB m n j)[n - 1 - j]?.getD 0 = y at hcl
      have hst := hbk.set (n - 1 - j) (m / 256 ^ j % 256)
      rw [putB_set hlt] at hst
      have hd := div256 m j
      have hmj : m / 256 ^ j ≤ m := Nat.div_le_self _ _
      generalize hq : m / 256 ^ j = q at *
      have hq2 : q % 256 < 256 := Nat.mod_lt _ (by omega)
      have HQ := Lib.hid hd
      have H1 := Lib.hid hst
      have H2 := Lib.hid (hbw.setCell (p := ⟨w.heap.size, n - 1 - j, none⟩) (by show w.heap.size ≤ w.heap.size; omega) (.int .u8 ((q % 256 : Nat) : Int)))
      have hi4 : (n : Int) - 1 - (j : Int) < (n : Int) := by omega
      have hi5 : ((n : Int) - 1 - (j : Int)).toNat = n - 1 - j := by omega
      have hi6 : IntKind.i64.wrap ((n : Int) - 1 - (j : Int) - 1) = (n : Int) - 1 - (j : Int) - 1 := IntWalk.i64_in _ (by omega)
      have hr2 : IntKind.u8.wrap (q : Int) = ((q % 256 : Nat) : Int) := wrap_u8m q
      clear hst hbk hbw hd hq
      go_wp2_with fail
      go_roundw
      case rel => exact ⟨j + 1, by omega, by go_num, by rw [← HQ.out]; go_num, H1.out, H2.out⟩
      case measure => simp [intOf]; omega
    · obtain rfl : j = n := by omega
      have hge : ¬ 0 ≤ (j : Int) - 1 - (j : Int) := by omega
      rw [putB_all] at hbk
      have HBK := Lib.hid hbk
      have HBW := Lib.hid hbw
      generalize m / 256 ^ j = q at *
      clear hbk hbw
      go_wp2_with fail
      go_ret2
      exact ⟨rfl, HBK.out, HBW.out⟩

theorem put_any (m n : Nat) (w : World) (hm : m < 18446744073709551616) (h1 : 1 ≤ n) (h8 : n ≤ 8) (hfit : m < 256 ^ n) :
    Calls Try.prog 66 #[.int .u64 (m : Int), .int .i64 (n : Int)] w fun e w' => e = .returned (.tuple #[.slice (some ⟨w.heap.size, 0, none⟩) n n, .int .i64 0]) ∧ Bk w' w.heap.size 5 (digB m n) ∧ Below w.heap.size w w' := by
  rcases Nat.lt_or_ge n 8 with h | h
  · exact put_lt m n w hm h1 h hfit
  · exact put_8 m n w hm h1 (by omega) (by omega) hfit
end Go.Proofs.Ytpofndciepoooaa
