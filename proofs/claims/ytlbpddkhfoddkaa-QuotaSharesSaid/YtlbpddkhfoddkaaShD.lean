/-
  QuotaShares: both shares are one, whatever the part and the whole: the plain join, and the walk.
-/
import Derived.Test.YtlbpddkhfoddkaaShC
import Derived.Test.YtlbpddkhfoddkaaQuA
namespace Go.Proofs.Ytlbpddkhfoddkaa
open Go.RowKit
set_option linter.unusedVariables false

theorem float_of (p : Int) : floatOfInt .f64 p = Ieee.double.nearest (decide (p < 0)) p.natAbs 0 := rfl
theorem read_nought (s : Bool) : Ieee.double.read (Ieee.double.nearest s 0 0) = .number s 0 (-1074) := by cases s <;> decide +kernel
theorem same_pow {m0 n0 M N m N1 : Nat} {a b c d : Nat} (hm0 : 0 < m0) (hn0 : 0 < n0) (hM : M = m0 * 2 ^ a) (hN : N = n0 * 2 ^ b) (hm : m = m0 * 2 ^ c) (hN1 : N1 = n0 * 2 ^ d) (h1 : N1 ≤ M) (h2 : M < 2 * N1) (h3 : N ≤ m) (h4 : m < 2 * N) :
    a + b = c + d ∧ M * N = m * N1 := by
  have e1 : M * N = m0 * n0 * 2 ^ (a + b) := by rw [hM, hN, Nat.pow_add]; simp only [Nat.mul_assoc, Nat.mul_left_comm]
  have e2 : m * N1 = m0 * n0 * 2 ^ (c + d) := by rw [hm, hN1, Nat.pow_add]; simp only [Nat.mul_assoc, Nat.mul_left_comm]
  have hpos : 0 < m0 * n0 := Nat.mul_pos hm0 hn0
  have hN0 : 0 < N := by rw [hN]; exact Nat.mul_pos hn0 (Nat.two_pow_pos _)
  have hN10 : 0 < N1 := by rw [hN1]; exact Nat.mul_pos hn0 (Nat.two_pow_pos _)
  have key : a + b = c + d := by
    rcases Nat.lt_trichotomy (a + b) (c + d) with h | h | h
    · exfalso
      have h5 : 2 ^ (a + b) * 2 ≤ 2 ^ (c + d) := by rw [← Nat.pow_succ]; exact Nat.pow_le_pow_right (by omega) h
      have h6 : M * N * 2 ≤ m * N1 := by
        rw [e1, e2, Nat.mul_assoc]
        exact Nat.mul_le_mul_left _ h5
      have h7 : m * N1 < 2 * N * N1 := Nat.mul_lt_mul_of_pos_right h4 hN10
      have h8 : N1 * N ≤ M * N := Nat.mul_le_mul_right _ h1
      have h9 : 2 * N * N1 = N1 * N * 2 := by rw [Nat.mul_comm N1 N, Nat.mul_assoc, Nat.mul_comm 2]
      omega
    · exact h
    · exfalso
      have h5 : 2 ^ (c + d) * 2 ≤ 2 ^ (a + b) := by rw [← Nat.pow_succ]; exact Nat.pow_le_pow_right (by omega) h
      have h6 : m * N1 * 2 ≤ M * N := by
        rw [e1, e2, Nat.mul_assoc]
        exact Nat.mul_le_mul_left _ h5
      have h7 : M * N < 2 * N1 * N := Nat.mul_lt_mul_of_pos_right h2 hN0
      have h8 : N * N1 ≤ m * N1 := Nat.mul_le_mul_right _ h3
      have h9 : 2 * N1 * N = N * N1 * 2 := by rw [Nat.mul_comm N N1, Nat.mul_assoc, Nat.mul_comm 2]
      omega
  exact ⟨key, by rw [e1, e2, key]⟩
theorem same_quot {M N m N1 : Nat} (C : Nat) (hN : 0 < N) (hN1 : 0 < N1) (h : M * N = m * N1) : M * C / N1 = m * C / N ∧ (M * C % N1 ≠ 0 ↔ m * C % N ≠ 0) := by
  have e : M * C * N = m * C * N1 := by rw [Nat.mul_right_comm, h, Nat.mul_right_comm]
  refine ⟨?_, not_congr ?_⟩
  · rw [← Nat.mul_div_mul_right (M * C) N1 hN, e, Nat.mul_comm N1 N, Nat.mul_div_mul_right _ _ hN1]
  · rw [← Nat.dvd_iff_mod_eq_zero, ← Nat.dvd_iff_mod_eq_zero]
    rw [← Nat.mul_dvd_mul_iff_right hN, e, Nat.mul_comm N1 N, Nat.mul_dvd_mul_iff_right hN1]

theorem word_eq (neg : Bool) (R : Nat) : Ieee.double.word neg R = (if neg then 9223372036854775808 else 0) + R := by
  cases neg
  · simp [Ieee.Format.word]
  · rfl

set_option maxRecDepth 100000 in
/-- the model's quotient is what the reference tells -/
theorem share_main (p q : Int) (hp : p ≠ 0) (hq : q ≠ 0) (hp1 : p.natAbs ≤ 9223372036854775808) (hq1 : q.natAbs ≤ 9223372036854775808) (v : Int)
    (h : ShOut (if (decide (p < 0) != decide (q < 0)) then 9223372036854775808 else 0) (nearP p.natAbs).1 (nearP p.natAbs).2 (nearP q.natAbs).1 (nearP q.natAbs).2 v) :
    ∃ r : Nat, floatBits .quo .f64 (floatOfInt .f64 p) (floatOfInt .f64 q) = some r ∧ v = (r : Int) := by
  obtain ⟨s, hr1, hm1, hm2, hs, he⟩ := read_near (decide (p < 0)) p.natAbs (by omega) hp1
  obtain ⟨t, hr2, hn1, hn2, ht, hf⟩ := read_near (decide (q < 0)) q.natAbs (by omega) hq1
  have hfb : floatBits .quo .f64 (floatOfInt .f64 p) (floatOfInt .f64 q) = ((Ieee.double.read (floatOfInt .f64 p)).quotient 54 (Ieee.double.read (floatOfInt .f64 q))).map Ieee.double.write := rfl
  rw [hfb, float_of, float_of, hr1, hr2]
  obtain ⟨i, k, M, N, B, more, X, hM, hN, hX, h1, h2, hB, hmore, hv⟩ := h
  generalize decide (p < 0) = sp at *
  generalize decide (q < 0) = sq at *
  generalize (nearP p.natAbs).1 = m0 at *
  generalize (nearP p.natAbs).2 = e at *
  generalize (nearP q.natAbs).1 = n0 at *
  generalize (nearP q.natAbs).2 = f at *
  have hm0 : 0 < m0 := by
    rcases Nat.eq_zero_or_pos m0 with h | h
    · rw [h, Nat.zero_mul] at hm1; omega
    · exact h
  have hn0 : 0 < n0 := by
    rcases Nat.eq_zero_or_pos n0 with h | h
    · rw [h, Nat.zero_mul] at hn1; omega
    · exact h
  clear hr1 hr2 hfb hp hq hp1 hq1
  generalize hA : m0 * 2 ^ s = A at *
  generalize hD : n0 * 2 ^ t = D at *
  have hN0 : 0 < N := by omega
  have hD0 : 0 < D := by omega
  have key : ∃ (m c : Nat), m = m0 * 2 ^ (s + c) ∧ m = (if A < D then 2 * A else A) ∧ c = (if A < D then 1 else 0) ∧ D ≤ m ∧ m < 2 * D := by
    by_cases hlt : A < D
    · refine ⟨2 * A, 1, by rw [Nat.pow_succ, ← Nat.mul_assoc, hA, Nat.mul_comm], by rw [if_pos hlt], by rw [if_pos hlt], by omega, by omega⟩
    · exact ⟨A, 0, by rw [Nat.add_zero, hA], by rw [if_neg hlt], by rw [if_neg hlt], by omega, by omega⟩
  obtain ⟨m, c, hm, hmA, hc, hm3, hm4⟩ := key
  obtain ⟨k1, k2⟩ := same_pow hm0 hn0 hM hD.symm hm hN h1 h2 hm3 hm4
  obtain ⟨q1, q2⟩ := same_quot 9007199254740992 hD0 hN0 k2
  have hc1 : c ≤ 1 := by rw [hc]; split <;> omega
  have hi : i ≤ 200 ∧ k ≤ 200 ∨ True := .inr trivial
  have hXx : X = if A < D then (e : Int) - s - (f - t) - 1 else (e : Int) - s - (f - t) := by
    split <;> rename_i hlt
    · rw [if_pos hlt] at hc; omega
    · rw [if_neg hlt] at hc; omega
  have hXb : 0 ≤ X + 1022 ∧ X + 1022 ≤ 2000 := by split at hXx <;> omega
  obtain ⟨P, hP⟩ : ∃ P : Nat, X + 1022 = (P : Int) := ⟨(X + 1022).toNat, by omega⟩
  have := div_is sp sq A D ((e : Int) - s) ((f : Int) - t) hm1 hm2 hn1 hn2 P X hXx hP (by omega) m hmA
  refine ⟨_, this, ?_⟩
  have hxor : (sp ^^ sq) = (sp != sq) := by cases sp <;> cases sq <;> rfl
  have hmore2 : more = decide (m * 9007199254740992 % D ≠ 0) := by rw [hmore, Bool.eq_iff_iff]; simp only [decide_eq_true_eq]; exact q2
  rw [word_eq, hv, hP, ← q1, ← hmore2, ← hB, hxor]
  generalize roundQ B more = R
  generalize (if (sp != sq) = true then 9223372036854775808 else 0 : Nat) = S
  omega

theorem share_nought (q : Int) (hq : q ≠ 0) (hq1 : q.natAbs ≤ 9223372036854775808) : floatBits .quo .f64 (floatOfInt .f64 0) (floatOfInt .f64 q) = some (if decide (q < 0) then 9223372036854775808 else 0) := by
  obtain ⟨t, hr2, hn1, hn2, ht, hf⟩ := read_near (decide (q < 0)) q.natAbs (by omega) hq1
  have hfb : floatBits .quo .f64 (floatOfInt .f64 0) (floatOfInt .f64 q) = ((Ieee.double.read (floatOfInt .f64 0)).quotient 54 (Ieee.double.read (floatOfInt .f64 q))).map Ieee.double.write := rfl
  rw [hfb, float_of, float_of, hr2]
  rw [show Ieee.double.read (Ieee.double.nearest (decide ((0 : Int) < 0)) (0 : Int).natAbs 0) = .number false 0 (-1074) from read_nought false]
  generalize (nearP q.natAbs).1 * 2 ^ t = D at *
  have h0 : D ≠ 0 := by omega
  simp only [Ieee.Datum.quotient, if_neg h0, Nat.zero_shiftLeft, Nat.zero_div, Nat.zero_mod, Option.map_some, Ieee.Format.write, Bool.false_xor]
  rw [show (2 * 0 + ((0 : Nat) != 0).toNat) = 0 from rfl]
  unfold Ieee.Format.nearest
  rw [if_pos rfl, word_eq, Nat.add_zero]
theorem share_inf (p : Int) (hp : p ≠ 0) (hp1 : p.natAbs ≤ 9223372036854775808) : floatBits .quo .f64 (floatOfInt .f64 p) (floatOfInt .f64 0) = some (if decide (p < 0) then 18442240474082181120 else 9218868437227405312) := by
  obtain ⟨t, hr2, hn1, hn2, ht, hf⟩ := read_near (decide (p < 0)) p.natAbs (by omega) hp1
  have hfb : floatBits .quo .f64 (floatOfInt .f64 p) (floatOfInt .f64 0) = ((Ieee.double.read (floatOfInt .f64 p)).quotient 54 (Ieee.double.read (floatOfInt .f64 0))).map Ieee.double.write := rfl
  rw [hfb, float_of, float_of, hr2]
  rw [show Ieee.double.read (Ieee.double.nearest (decide ((0 : Int) < 0)) (0 : Int).natAbs 0) = .number false 0 (-1074) from read_nought false]
  generalize (nearP p.natAbs).1 * 2 ^ t = D at *
  have h0 : D ≠ 0 := by omega
  simp only [Ieee.Datum.quotient, if_pos, if_neg h0, Option.map_some, Ieee.Format.write, Bool.xor_false, word_eq]
  rw [show Ieee.double.infRung = 9218868437227405312 by decide]
  split <;> rfl

theorem rshare_nan (w : World) : Calls Try.prog 10 #[.int .i64 0, .int .i64 0] w fun e w' => e = .returned (.int .u64 9221120237041090560) ∧ w = w' := by
  go_enter Try.func10, Try.ntmps10
  go_wp2_with (go_at_call 27; refine (size_any 0 (by omega) _).mono ?_; rintro e w' ⟨rfl, rfl⟩)
  go_ret
  exact ⟨rfl, rfl⟩
theorem rshare_nought (q : Int) (hq : q ≠ 0) (hq1 : -9223372036854775808 ≤ q ∧ q ≤ 9223372036854775807) (w : World) : Calls Try.prog 10 #[.int .i64 0, .int .i64 q] w fun e w' => e = .returned (.int .u64 (((if decide (q < 0) then 9223372036854775808 else 0) : Nat) : Int)) ∧ w = w' := by
  have c0 := fun w => size_any 0 (by omega) w
  have c := fun w => size_any q hq1 w
  have hb : ((q.natAbs : Int) == 0) = false := by rw [beq_eq_false_iff_ne]; omega
  have C0 := Lib.hid c0
  have C := Lib.hid c
  clear c0 c hq hq1
  generalize q.natAbs = b at hb C
  generalize decide (q < 0) = sq at C ⊢
  cases sq
  all_goals
    go_enter Try.func10, Try.ntmps10
    go_wp2_with fail
    refine (C0.out _).mono ?_
    rintro e w' ⟨rfl, rfl⟩
    go_wp2_with fail
    refine (C.out _).mono ?_
    rintro e w' ⟨rfl, rfl⟩
    go_wp2_with fail
    go_ret
    exact ⟨rfl, rfl⟩
theorem rshare_inf (p : Int) (hp : p ≠ 0) (hp1 : -9223372036854775808 ≤ p ∧ p ≤ 9223372036854775807) (w : World) : Calls Try.prog 10 #[.int .i64 p, .int .i64 0] w fun e w' => e = .returned (.int .u64 (((if decide (p < 0) then 18442240474082181120 else 9218868437227405312) : Nat) : Int)) ∧ w = w' := by
  have c0 := fun w => size_any 0 (by omega) w
  have c := fun w => size_any p hp1 w
  have hb : ((p.natAbs : Int) == 0) = false := by rw [beq_eq_false_iff_ne]; omega
  have C0 := Lib.hid c0
  have C := Lib.hid c
  clear c0 c hp hp1
  generalize p.natAbs = b at hb C
  generalize decide (p < 0) = sq at C ⊢
  cases sq
  all_goals
    go_enter Try.func10, Try.ntmps10
    go_wp2_with fail
    refine (C.out _).mono ?_
    rintro e w' ⟨rfl, rfl⟩
    go_wp2_with fail
    refine (C0.out _).mono ?_
    rintro e w' ⟨rfl, rfl⟩
    go_wp2_with fail
    go_ret
    exact ⟨rfl, rfl⟩

theorem share_is (p q : Int) (hp : p ≠ 0) (hq : q ≠ 0) (hp1 : p.natAbs ≤ 9223372036854775808) (hq1 : q.natAbs ≤ 9223372036854775808) : ∃ r, floatBits .quo .f64 (floatOfInt .f64 p) (floatOfInt .f64 q) = some r := by
  obtain ⟨s, hr1, hm1, hm2, hs, he⟩ := read_near (decide (p < 0)) p.natAbs (by omega) hp1
  obtain ⟨t, hr2, hn1, hn2, ht, hf⟩ := read_near (decide (q < 0)) q.natAbs (by omega) hq1
  have hfb : floatBits .quo .f64 (floatOfInt .f64 p) (floatOfInt .f64 q) = ((Ieee.double.read (floatOfInt .f64 p)).quotient 54 (Ieee.double.read (floatOfInt .f64 q))).map Ieee.double.write := rfl
  rw [hfb, float_of, float_of, hr1, hr2]
  generalize (nearP q.natAbs).1 * 2 ^ t = D at *
  have h0 : D ≠ 0 := by omega
  simp only [Ieee.Datum.quotient, if_neg h0, Option.map_some]
  exact ⟨_, rfl⟩
theorem rshare_main (p q : Int) (hp : p ≠ 0) (hq : q ≠ 0) (hp1 : -9223372036854775808 ≤ p ∧ p ≤ 9223372036854775807) (hq1 : -9223372036854775808 ≤ q ∧ q ≤ 9223372036854775807) (r : Nat) (hr : floatBits .quo .f64 (floatOfInt .f64 p) (floatOfInt .f64 q) = some r) (w : World) :
    Calls Try.prog 10 #[.int .i64 p, .int .i64 q] w fun e w' => e = .returned (.int .u64 (r : Int)) ∧ w = w' := by
  obtain ⟨s, _, hm1, hm2, hs, he⟩ := read_near (decide (p < 0)) p.natAbs (by omega) (by omega)
  obtain ⟨t, _, hn1, hn2, ht, hf⟩ := read_near (decide (q < 0)) q.natAbs (by omega) (by omega)
  have pos : ∀ {m s : Nat}, 4503599627370496 ≤ m * 2 ^ s → m * 2 ^ s < 9007199254740992 → 0 < m ∧ m < 9007199254740992 := by
    intro m s h1 h2
    have h3 : m * 1 ≤ m * 2 ^ s := Nat.mul_le_mul_left _ (Nat.two_pow_pos s)
    rcases Nat.eq_zero_or_pos m with h | h
    · rw [h, Nat.zero_mul] at h1; omega
    · omega
  obtain ⟨a1, a2⟩ := pos hm1 hm2
  obtain ⟨b1, b2⟩ := pos hn1 hn2
  have hw := rshare_walk p q (decide (p < 0)) (decide (q < 0)) p.natAbs q.natAbs (nearP p.natAbs).1 (nearP p.natAbs).2 (nearP q.natAbs).1 (nearP q.natAbs).2 (if (decide (p < 0) != decide (q < 0)) then 9223372036854775808 else 0) w
    (Lib.hid fun w => size_any p hp1 w) (Lib.hid fun w => size_any q hq1 w) (Lib.hid fun w => near_any _ (by omega) w) (Lib.hid fun w => near_any _ (by omega) w) (by omega) (by omega) a1 a2 b1 b2 he hf
    (by generalize decide (p < 0) = x; generalize decide (q < 0) = y; cases x <;> cases y <;> rfl) (by split <;> omega)
  refine hw.mono ?_
  rintro e w' ⟨⟨v, rfl, hv⟩, rfl⟩
  obtain ⟨r', h1, h2⟩ := share_main p q hp hq (by omega) (by omega) v hv
  rw [hr] at h1
  injection h1 with h1
  rw [h2, h1]
  exact ⟨rfl, rfl⟩
/-- both tell one number -/
theorem both_tell (p q : Int) (hp1 : -9223372036854775808 ≤ p ∧ p ≤ 9223372036854775807) (hq1 : -9223372036854775808 ≤ q ∧ q ≤ 9223372036854775807) :
    ∃ r : Int, (∀ w, Calls Try.prog 9 #[.int .i64 p, .int .i64 q] w fun e w' => e = .returned (.int .u64 r) ∧ w = w') ∧ (∀ w, Calls Try.prog 10 #[.int .i64 p, .int .i64 q] w fun e w' => e = .returned (.int .u64 r) ∧ w = w') := by
  by_cases hp : p = 0
  · subst hp
    by_cases hq : q = 0
    · subst hq
      exact ⟨_, share_none, rshare_nan⟩
    · exact ⟨_, fun w => share_some 0 q _ (by omega) (share_nought q hq (by omega)) w, fun w => rshare_nought q hq hq1 w⟩
  · by_cases hq : q = 0
    · subst hq
      exact ⟨_, fun w => share_some p 0 _ (by omega) (share_inf p hp (by omega)) w, fun w => rshare_inf p hp hp1 w⟩
    · obtain ⟨r, hr⟩ := share_is p q hp hq (by omega) (by omega)
      exact ⟨_, fun w => share_some p q r (by omega) hr w, fun w => rshare_main p q hp hq hp1 hq1 r hr w⟩
set_option maxHeartbeats 400000 in
theorem shares_walk (p q : Int) (w : World) (hp : (Lit.int .i64 p).wf = true) (hq : (Lit.int .i64 q).wf = true) :
    Calls Try.prog 3 #[.int .i64 p, .int .i64 q] w fun e w' => e = .returned (.bool true) ∧ Below w.heap.size w w' := by
  have b : ∀ {z : Int}, (Lit.int .i64 z).wf = true → -9223372036854775808 ≤ z ∧ z ≤ 9223372036854775807 := fun {z} h => by
    simp only [Lit.wf, Bool.and_eq_true, decide_eq_true_eq] at h
    have e1 : IntKind.i64.min = -9223372036854775808 := rfl
    have e2 : IntKind.i64.max = 9223372036854775807 := rfl
    omega
  obtain ⟨r, h1, h2⟩ := both_tell p q (b hp) (b hq)
  have H1 := Lib.hid h1
  have H2 := Lib.hid h2
  clear h1 h2 b hp hq
  go_enter Try.func3, Try.ntmps3
  go_wp2_with first
    | (go_at_call 9; refine (H1.out _).mono ?_; rintro e w' ⟨rfl, rfl⟩)
    | (go_at_call 10; refine (H2.out _).mono ?_; rintro e w' ⟨rfl, rfl⟩)
    | (go_at_call 11; refine (known_any _).mono ?_; rintro e w' ⟨rfl, hb⟩)
  go_ret
  exact ⟨rfl, hb⟩
end Go.Proofs.Ytlbpddkhfoddkaa
