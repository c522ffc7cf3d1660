/-
  WALKS: the share: the program's, the reference's length, size, near.
-/
import Derived.Test.YtlbpddkhfoddkaaShA
import Derived.WalkKit
import Derived.WalkSpells
import Derived.WalkLawsBesides
import Derived.Lib.Hide
import Derived.Deep.QuietTactic
import Derived.BigQuiet
import Derived.Laws.Externs
namespace Go.Proofs.Ytlbpddkhfoddkaa
open Go.RowKit
set_option linter.unusedVariables false

def lenN (n : Nat) : Nat := if n = 0 then 0 else n.log2 + 1
theorem lenN_half (c : Nat) (h : 0 < c) : lenN c = lenN (c / 2) + 1 := by
  unfold lenN
  rw [if_neg (by omega)]
  by_cases h1 : c / 2 = 0
  · rw [if_pos h1]
    have : c = 1 := by omega
    subst this
    rfl
  · rw [if_neg h1]
    have a := Nat.log2_self_le h1
    have b : c / 2 < 2 ^ ((c / 2).log2 + 1) := Nat.lt_log2_self
    have e := Nat.pow_succ 2 (c / 2).log2
    have e2 := Nat.pow_succ 2 ((c / 2).log2 + 1)
    rw [log2_is (n := c) (k := (c / 2).log2 + 1) (by omega) (by omega)]
theorem lenN_lt (n : Nat) (h : n < 2 ^ 64) : lenN n ≤ 64 := by
  unfold lenN
  split
  · omega
  · rename_i h0
    have : n.log2 < 64 := (Nat.log2_lt h0).2 h
    omega

theorem wrap_u64 {n : Nat} (hn : n < 2 ^ 64) (z : Int) (h0 : 0 ≤ z) (h : z ≤ n) : IntKind.u64.wrap z = z := by
  show z % 18446744073709551616 = z
  omega

set_option maxHeartbeats 400000 in
theorem length_any (n : Nat) (hn : n < 2 ^ 64) (w : World) :
    Calls Try.prog 34 #[.int .u64 (n : Int)] w fun e w' => e = .returned (.int .i64 (lenN n : Nat)) ∧ w = w' := by
  have hl := lenN_lt n hn
  have HN := Lib.hid hn
  generalize hr : lenN n = R at hl
  have HR := Lib.hid hr
  clear hr hn
  go_enter Try.func34, Try.ntmps34
  go_wp2
  go_loop [0, 3] (fun x k => ∃ c j : Nat, c ≤ n ∧ j + lenN c = R ∧ x = .int .u64 c ∧ k = .int .i64 j) (fun x _ => (intOf x).toNat)
  case atStart => exact ⟨n, 0, Nat.le_refl _, by rw [Nat.zero_add]; exact HR.out, rfl, rfl⟩
  case round =>
    obtain ⟨c, j, hc, hj, rfl, rfl⟩ := hrel
    by_cases h0 : c = 0
    · subst h0
      have : j = R := by simpa [lenN] using hj
      subst this
      clear hj
      go_wp2
      go_ret
      exact ⟨rfl, rfl⟩
    · have h1 := lenN_half c (by omega)
      have h2 : (0 : Int) < (c : Int) := by omega
      rw [h1] at hj
      have hj2 : j < 64 := by omega
      have hw := wrap_u64 HN.out ((c : Int) / 2) (by omega) (by omega)
      have HJ := Lib.hid hj
      clear hj h1 h0
      go_wp2
      go_round
      case rel => exact ⟨c / 2, j + 1, by omega, by have := HJ.out; omega, by go_num, by go_num⟩
      case measure => simp [intOf]; omega

set_option maxHeartbeats 400000 in
theorem near_small (n : Nat) (hn : n < 2 ^ 64) (hl : lenN n ≤ 53) (w : World) :
    Calls Try.prog 28 #[.int .u64 (n : Int)] w fun e w' => e = .returned (.tuple #[.int .u64 (n : Int), .int .i64 0]) ∧ w = w' := by
  have HN := Lib.hid hn
  have hd : decide ((lenN n : Int) - 53 ≤ 0) = true := by simp; omega
  have hb : (lenN n : Int) ≤ 53 := by omega
  clear hn hl
  go_enter Try.func28, Try.ntmps28
  go_wp2_with (go_at_call 34; refine (length_any n HN.out _).mono ?_; rintro e w' ⟨rfl, rfl⟩)
  go_ret2
  exact ⟨rfl, rfl⟩
theorem ret_ui {a b c d : Int} (h : a = c) (h' : b = d) : Ending.returned (.tuple #[.int .u64 a, .int .i64 b]) = .returned (.tuple #[.int .u64 c, .int .i64 d]) := by rw [h, h']
theorem nearP_great (n d H : Nat) (hl : lenN n = 53 + d) (hd : 1 ≤ d) (hH : H = 2 ^ (d - 1)) :
    nearP n = if n / (2 * H) + (if H < n % (2 * H) ∨ n % (2 * H) = H ∧ n / (2 * H) % 2 = 1 then 1 else 0) = 9007199254740992 then (4503599627370496, d + 1)
      else (n / (2 * H) + (if H < n % (2 * H) ∨ n % (2 * H) = H ∧ n / (2 * H) % 2 = 1 then 1 else 0), d) := by
  have h0 : n ≠ 0 := by intro h; subst h; simp [lenN] at hl; omega
  have h1 : n.log2 = 52 + d := by unfold lenN at hl; rw [if_neg h0] at hl; omega
  have h2 : 2 ^ d = 2 * H := by
    rw [hH]
    conv => lhs; rw [show d = (d - 1) + 1 from by omega, Nat.pow_succ, Nat.mul_comm]
  have h3 : cutE n d = n / (2 * H) + (if H < n % (2 * H) ∨ n % (2 * H) = H ∧ n / (2 * H) % 2 = 1 then 1 else 0) := by
    unfold cutE
    rw [h2]
    generalize n / (2 * H) = q
    generalize n % (2 * H) = r
    have e : (2 * H < 2 * r ∨ 2 * H = 2 * r ∧ q % 2 = 1) ↔ (H < r ∨ r = H ∧ q % 2 = 1) := by omega
    simp only [e]
  rw [← h3]
  unfold nearP
  rw [if_neg (by omega), h1]
  simp only [show 52 + d - 52 = d from by omega]
set_option maxHeartbeats 400000 in
theorem near_walk (n d H g q r : Nat) (hn : n < 2 ^ 64) (hl : lenN n = 53 + d) (hd : 1 ≤ d) (hH : IntKind.u64.wrap (2 ^ (d - 1)) = (H : Int)) (hg : IntKind.u64.wrap (2 * (H : Int)) = (g : Int)) (hg0 : 0 < g)
    (hr : (n : Int) % (g : Int) = (r : Int)) (hq : IntKind.u64.wrap ((n : Int) / (g : Int)) = (q : Int)) (hqn : q ≤ 9007199254740992) (w : World) :
    Calls Try.prog 28 #[.int .u64 (n : Int)] w fun e w' => e = .returned (.tuple #[.int .u64 ((if q + (if H < r ∨ r = H ∧ q % 2 = 1 then 1 else 0) = 9007199254740992 then 4503599627370496 else q + (if H < r ∨ r = H ∧ q % 2 = 1 then 1 else 0) : Nat) : Int), .int .i64 ((if q + (if H < r ∨ r = H ∧ q % 2 = 1 then 1 else 0) = 9007199254740992 then d + 1 else d : Nat) : Int)]) ∧ w = w' := by
  have hl2 := lenN_lt n hn
  have hb : (d : Int) ≤ 11 := by omega
  have hb1 : 1 ≤ (d : Int) := by omega
  have hq2 : (q : Int).tmod 2 = ((q % 2 : Nat) : Int) := by rw [Int.tmod_eq_emod_of_nonneg (by omega)]; omega
  have hg1 : 0 < (g : Int) := by omega
  have hg2 : ¬ ((g : Int) = 0) := by omega
  have hw1 : IntKind.u64.wrap ((q : Int) + 1) = (q : Int) + 1 := wrap_u64 (n := 9007199254740993) (by decide) _ (by omega) (by omega)
  have HN := Lib.hid hn
  have HL := Lib.hid hl
  clear hn hl hl2
  by_cases h1 : H < r
  · rw [show (if H < r ∨ r = H ∧ q % 2 = 1 then 1 else 0) = 1 from if_pos (.inl h1)]
    have h1' : (H : Int) < (r : Int) := by omega
    clear hq2
    by_cases h4 : q + 1 = 9007199254740992
    · have h5 : ((q : Int) + 1 == 9007199254740992) = true := by rw [beq_iff_eq]; omega
      have h6 : IntKind.u64.wrap (((q : Int) + 1) / 2) = 4503599627370496 := by rw [wrap_u64 (n := 9007199254740992) (by decide) _ (by omega) (by omega)]; omega
      rw [if_pos h4, if_pos h4]
      have H4 := Lib.hid h4
      clear h4
      go_enter Try.func28, Try.ntmps28
      go_wp2_with fail
      refine (length_any n HN.out _).mono ?_
      rintro e w' ⟨rfl, rfl⟩
      rw [HL.out, show ((53 + d : Nat) : Int) = 53 + (d : Int) from by omega]
      go_wp2_with fail
      go_ret2
      exact ⟨ret_ui (by have := H4.out; omega) (by omega), rfl⟩
    · have h5 : ((q : Int) + 1 == 9007199254740992) = false := by rw [beq_eq_false_iff_ne]; omega
      rw [if_neg h4, if_neg h4]
      have H4 := Lib.hid h4
      clear h4
      go_enter Try.func28, Try.ntmps28
      go_wp2_with fail
      refine (length_any n HN.out _).mono ?_
      rintro e w' ⟨rfl, rfl⟩
      rw [HL.out, show ((53 + d : Nat) : Int) = 53 + (d : Int) from by omega]
      go_wp2_with fail
      go_ret2
      exact ⟨ret_ui (by have := H4.out; omega) (by omega), rfl⟩
  · by_cases h2 : r = H
    · subst h2
      by_cases h3 : q % 2 = 1
      · rw [show (if r < r ∨ r = r ∧ q % 2 = 1 then 1 else 0) = 1 from if_pos (.inr ⟨rfl, h3⟩)]
        have h3' : ((q : Int) % 2 == 1) = true := by rw [beq_iff_eq]; omega
        clear hq2 h3 h1
        by_cases h4 : q + 1 = 9007199254740992
        · have h5 : ((q : Int) + 1 == 9007199254740992) = true := by rw [beq_iff_eq]; omega
          have h6 : IntKind.u64.wrap (((q : Int) + 1) / 2) = 4503599627370496 := by rw [wrap_u64 (n := 9007199254740992) (by decide) _ (by omega) (by omega)]; omega
          rw [if_pos h4, if_pos h4]
          have H4 := Lib.hid h4
          clear h4
          go_enter Try.func28, Try.ntmps28
          go_wp2_with fail
          refine (length_any n HN.out _).mono ?_
          rintro e w' ⟨rfl, rfl⟩
          rw [HL.out, show ((53 + d : Nat) : Int) = 53 + (d : Int) from by omega]
          go_wp2_with fail
          go_ret2
          exact ⟨ret_ui (by have := H4.out; omega) (by omega), rfl⟩
        · have h5 : ((q : Int) + 1 == 9007199254740992) = false := by rw [beq_eq_false_iff_ne]; omega
          rw [if_neg h4, if_neg h4]
          have H4 := Lib.hid h4
          clear h4
          go_enter Try.func28, Try.ntmps28
          go_wp2_with fail
          refine (length_any n HN.out _).mono ?_
          rintro e w' ⟨rfl, rfl⟩
          rw [HL.out, show ((53 + d : Nat) : Int) = 53 + (d : Int) from by omega]
          go_wp2_with fail
          go_ret2
          exact ⟨ret_ui (by have := H4.out; omega) (by omega), rfl⟩
      · rw [show (if r < r ∨ r = r ∧ q % 2 = 1 then 1 else 0) = 0 from if_neg (by omega), Nat.add_zero]
        have h3' : ((q : Int) % 2 == 1) = false := by rw [beq_eq_false_iff_ne]; omega
        clear hq2 h3 h1
        by_cases h4 : q = 9007199254740992
        · have h5 : ((q : Int) == 9007199254740992) = true := by rw [beq_iff_eq]; omega
          have h6 : IntKind.u64.wrap (((q : Int)) / 2) = 4503599627370496 := by rw [wrap_u64 (n := 9007199254740992) (by decide) _ (by omega) (by omega)]; omega
          rw [if_pos h4, if_pos h4]
          have H4 := Lib.hid h4
          clear h4
          go_enter Try.func28, Try.ntmps28
          go_wp2_with fail
          refine (length_any n HN.out _).mono ?_
          rintro e w' ⟨rfl, rfl⟩
          rw [HL.out, show ((53 + d : Nat) : Int) = 53 + (d : Int) from by omega]
          go_wp2_with fail
          go_ret2
          exact ⟨ret_ui (by have := H4.out; omega) (by omega), rfl⟩
        · have h5 : ((q : Int) == 9007199254740992) = false := by rw [beq_eq_false_iff_ne]; omega
          rw [if_neg h4, if_neg h4]
          have H4 := Lib.hid h4
          clear h4
          go_enter Try.func28, Try.ntmps28
          go_wp2_with fail
          refine (length_any n HN.out _).mono ?_
          rintro e w' ⟨rfl, rfl⟩
          rw [HL.out, show ((53 + d : Nat) : Int) = 53 + (d : Int) from by omega]
          go_wp2_with fail
          go_ret2
          exact ⟨ret_ui (by have := H4.out; omega) (by omega), rfl⟩
    · rw [show (if H < r ∨ r = H ∧ q % 2 = 1 then 1 else 0) = 0 from if_neg (by omega), Nat.add_zero]
      have h1' : (r : Int) < (H : Int) := by omega
      have h2' : ((r : Int) == (H : Int)) = false := by rw [beq_eq_false_iff_ne]; omega
      clear hq2 h2
      by_cases h4 : q = 9007199254740992
      · have h5 : ((q : Int) == 9007199254740992) = true := by rw [beq_iff_eq]; omega
        have h6 : IntKind.u64.wrap (((q : Int)) / 2) = 4503599627370496 := by rw [wrap_u64 (n := 9007199254740992) (by decide) _ (by omega) (by omega)]; omega
        rw [if_pos h4, if_pos h4]
        have H4 := Lib.hid h4
        clear h4
        go_enter Try.func28, Try.ntmps28
        go_wp2_with fail
        refine (length_any n HN.out _).mono ?_
        rintro e w' ⟨rfl, rfl⟩
        rw [HL.out, show ((53 + d : Nat) : Int) = 53 + (d : Int) from by omega]
        go_wp2_with fail
        go_ret2
        exact ⟨ret_ui (by have := H4.out; omega) (by omega), rfl⟩
      · have h5 : ((q : Int) == 9007199254740992) = false := by rw [beq_eq_false_iff_ne]; omega
        rw [if_neg h4, if_neg h4]
        have H4 := Lib.hid h4
        clear h4
        go_enter Try.func28, Try.ntmps28
        go_wp2_with fail
        refine (length_any n HN.out _).mono ?_
        rintro e w' ⟨rfl, rfl⟩
        rw [HL.out, show ((53 + d : Nat) : Int) = 53 + (d : Int) from by omega]
        go_wp2_with fail
        go_ret2
        exact ⟨ret_ui (by have := H4.out; omega) (by omega), rfl⟩
theorem near_great (n d : Nat) (hn : n < 2 ^ 64) (hl : lenN n = 53 + d) (hd : 1 ≤ d) (w : World) :
    Calls Try.prog 28 #[.int .u64 (n : Int)] w fun e w' => e = .returned (.tuple #[.int .u64 ((nearP n).1 : Int), .int .i64 ((nearP n).2 : Int)]) ∧ w = w' := by
  have hl2 := lenN_lt n hn
  have h0 : n ≠ 0 := by intro h; subst h; simp [lenN] at hl; omega
  have hn2 : n < 2 ^ (53 + d) := by
    have : n < 2 ^ (n.log2 + 1) := Nat.lt_log2_self
    unfold lenN at hl
    rw [if_neg h0] at hl
    rwa [hl] at this
  obtain ⟨H, hH⟩ : ∃ H, H = 2 ^ (d - 1) := ⟨_, rfl⟩
  have h2 : 2 ^ d = 2 * H := by
    rw [hH]
    conv => lhs; rw [show d = (d - 1) + 1 from by omega, Nat.pow_succ, Nat.mul_comm]
  have hHl : H ≤ 1024 := by
    rw [hH]
    exact Nat.pow_le_pow_right (n := 2) (show 2 > 0 by omega) (show d - 1 ≤ 10 by omega)
  have hHp : 0 < H := by rw [hH]; exact Nat.two_pow_pos _
  have e := nearP_great n d H hl hd hH
  have hq : n / (2 * H) < 2 ^ 53 := by
    rw [Nat.div_lt_iff_lt_mul (by omega), ← h2, ← Nat.pow_add]
    exact hn2
  have hw := near_walk n d H (2 * H) (n / (2 * H)) (n % (2 * H)) hn hl hd
    (by rw [hH, wrap_u64 (n := 1024) (by decide) _ (Int.le_of_lt (Int.pow_pos (by omega))) (by
          have : ((2 ^ (d - 1) : Nat) : Int) ≤ ((1024 : Nat) : Int) := by rw [← hH]; omega
          rw [Int.natCast_pow] at this
          exact this), Int.natCast_pow]; rfl)
    (by rw [wrap_u64 (n := 2048) (by decide) _ (by omega) (by omega)]; omega) (by omega) (by omega)
    (by rw [← Int.natCast_ediv]; exact wrap_u64 (n := 9007199254740992) (by decide) _ (Int.natCast_nonneg _) (Int.ofNat_le.2 (Nat.le_of_lt hq))) (Nat.le_of_lt hq) w
  rw [e]
  refine hw.mono fun e w' ⟨he, hw⟩ => ⟨?_, hw⟩
  rw [he]
  generalize (if H < n % (2 * H) ∨ n % (2 * H) = H ∧ n / (2 * H) % 2 = 1 then 1 else 0) = u
  split <;> rfl

set_option maxHeartbeats 400000 in
theorem size_any (p : Int) (hp : -9223372036854775808 ≤ p ∧ p ≤ 9223372036854775807) (w : World) :
    Calls Try.prog 27 #[.int .i64 p] w fun e w' => e = .returned (.tuple #[.int .u64 (p.natAbs : Int), .bool (decide (p < 0))]) ∧ w = w' := by
  obtain ⟨l, h⟩ := hp
  by_cases h0 : p < 0
  · have hd : decide (p < 0) = true := by simpa using h0
    have e1 : IntKind.u64.wrap (-(p + 1)) = -(p + 1) := wrap_u64 (n := 9223372036854775808) (by decide) _ (by omega) (by omega)
    have e2 : IntKind.u64.wrap (-(p + 1) + 1) = (p.natAbs : Int) := by rw [wrap_u64 (n := 9223372036854775808) (by decide) _ (by omega) (by omega)]; omega
    rw [hd]
    generalize p.natAbs = a at e2 ⊢
    go_enter Try.func27, Try.ntmps27
    go_wp2
    go_ret2
    exact ⟨rfl, rfl⟩
  · have hd : decide (p < 0) = false := by simpa using h0
    have e2 : IntKind.u64.wrap p = (p.natAbs : Int) := by rw [wrap_u64 (n := 9223372036854775808) (by decide) _ (by omega) (by omega)]; omega
    rw [hd]
    generalize p.natAbs = a at e2 ⊢
    go_enter Try.func27, Try.ntmps27
    go_wp2
    go_ret2
    exact ⟨rfl, rfl⟩
theorem near_any (n : Nat) (hn : n < 2 ^ 64) (w : World) :
    Calls Try.prog 28 #[.int .u64 (n : Int)] w fun e w' => e = .returned (.tuple #[.int .u64 ((nearP n).1 : Int), .int .i64 ((nearP n).2 : Int)]) ∧ w = w' := by
  by_cases h : lenN n ≤ 53
  · have e : nearP n = (n, 0) := by
      unfold nearP
      unfold lenN at h
      rw [if_pos (by split at h <;> omega)]
    rw [e]
    exact near_small n hn h w
  · exact near_great n (lenN n - 53) hn (by omega) (by omega) w
theorem bits_run (r : Nat) (w : World) : (callFunc 26 #[.float .f64 r]).run Try.prog w = .ok (.value (.int .u64 (r : Int))) w := by
  rw [run_callFunc_extern (e := Extern.MathFloatBits.float64bits) Try.func26 (by kernel_rfl) (by kernel_rfl) (by kernel_rfl) (by kernel_rfl)]
  rfl
/-- the program's: where the quotient is a number or an infinity -/
theorem share_some (p q : Int) (r : Nat) (h : ¬ (q = 0 ∧ p = 0)) (hr : floatBits .quo .f64 (floatOfInt .f64 p) (floatOfInt .f64 q) = some r) (w : World) :
    Calls Try.prog 9 #[.int .i64 p, .int .i64 q] w fun e w' => e = .returned (.int .u64 (r : Int)) ∧ w = w' := by
  have hbits := bits_run r
  have hrun := fun w t => run_float_arith (P := Try.prog) w .quo t .f64 _ _ r hr
  clear hr
  by_cases hq : q = 0
  · subst hq
    have h1 : (p == 0) = false := by rw [beq_eq_false_iff_ne]; omega
    clear h
    go_enter Try.func9, Try.ntmps9
    go_wp2
    go_ret
    exact ⟨rfl, rfl⟩
  · have h1 : (q == 0) = false := by rw [beq_eq_false_iff_ne]; omega
    clear h hq
    go_enter Try.func9, Try.ntmps9
    go_wp2
    go_ret
    exact ⟨rfl, rfl⟩
theorem share_none (w : World) :
    Calls Try.prog 9 #[.int .i64 0, .int .i64 0] w fun e w' => e = .returned (.int .u64 9221120237041090560) ∧ w = w' := by
  go_enter Try.func9, Try.ntmps9
  go_wp2
  go_ret
  exact ⟨rfl, rfl⟩
end Go.Proofs.Ytlbpddkhfoddkaa
