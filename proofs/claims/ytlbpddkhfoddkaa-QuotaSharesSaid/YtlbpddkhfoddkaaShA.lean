/-
  PLAIN: the share of a part: what the model's floats give is what the reference's whole numbers give.
-/
import Derived.Test.YtlbpddkhfoddkaaFrame
import Derived.Laws.FloatArith
namespace Go.Proofs.Ytlbpddkhfoddkaa
set_option linter.unusedVariables false

theorem number_eq {s : Bool} {m m' : Nat} {i i' : Int} (h : m = m') (h' : i = i') : Ieee.Datum.number s m i = .number s m' i' := by rw [h, h']
theorem halves (X N : Nat) (hN : 0 < N) : X % N = 0 ↔ (2 * X / N % 2 = 0 ∧ 2 * X % N = 0) := by
  have h1 := Nat.div_add_mod (2 * X) N
  have h2 := Nat.div_add_mod X N
  have h3 := Nat.mod_lt X hN
  have h4 := Nat.mod_lt (2 * X) hN
  have h5 : 2 * X / N / 2 = X / N := by
    rw [Nat.div_div_eq_div_mul, Nat.mul_comm 2 X, Nat.mul_div_mul_right _ _ (by omega)]
  generalize 2 * X / N = q at h1 h5 ⊢
  generalize 2 * X % N = r at h1 h4 ⊢
  generalize X % N = b at h2 h3 ⊢
  rw [← h5] at h2
  rcases Nat.mod_two_eq_zero_or_one q with hq | hq
  · have e1 : N * q = 2 * (N * (q / 2)) := by
      have : q = 2 * (q / 2) := by omega
      conv => lhs; rw [this]
      rw [Nat.mul_left_comm]
    omega
  · have e1 : N * q = 2 * (N * (q / 2)) + N := by
      have : q = 2 * (q / 2) + 1 := by omega
      conv => lhs; rw [this]
      rw [Nat.mul_add, Nat.mul_left_comm, Nat.mul_one]
    omega
theorem halves_div (X N : Nat) : 2 * X / N / 2 = X / N := by
  rw [Nat.div_div_eq_div_mul, Nat.mul_comm 2 X, Nat.mul_div_mul_right _ _ (by omega)]

open Ieee in
theorem read_word (neg : Bool) (P M : Nat) (hM : 4503599627370496 ≤ M) (hM2 : M < 9007199254740992) (hP : P ≤ 2000) :
    double.read (double.word neg (P * 4503599627370496 + M)) = .number neg M ((P : Int) - 1074) := by
  have e1 : double.signWeight = 9223372036854775808 := by decide
  have e2 : double.binade = 4503599627370496 := by decide
  have e3 : double.infRung = 2047 * 4503599627370496 := by decide
  have e4 : double.leastPlace = -1074 := by decide
  unfold Format.read Format.word
  rw [e1, e2, e3, e4]
  have h1 : (if neg then 9223372036854775808 + (P * 4503599627370496 + M) else P * 4503599627370496 + M) % 9223372036854775808 = P * 4503599627370496 + M := by
    split <;> omega
  have h2 : ((if neg then 9223372036854775808 + (P * 4503599627370496 + M) else P * 4503599627370496 + M) / 9223372036854775808 % 2 == 1) = neg := by
    cases neg
    · simp only [Bool.false_eq_true, if_false, beq_eq_false_iff_ne]; omega
    · simp only [if_true, beq_iff_eq]; omega
  simp only [h1, h2]
  rw [if_neg (by omega), if_pos (by omega)]
  have h3 : (P * 4503599627370496 + M) / 4503599627370496 = P + 1 := by omega
  have h4 : 4503599627370496 + (P * 4503599627370496 + M) % 4503599627370496 = M := by omega
  rw [h3, h4]
  exact number_eq rfl (by omega)

/-- a cut, to the nearest, half to even -/
def cutE (n d : Nat) : Nat := n / 2 ^ d + (if 2 ^ d < 2 * (n % 2 ^ d) ∨ 2 ^ d = 2 * (n % 2 ^ d) ∧ n / 2 ^ d % 2 = 1 then 1 else 0)
theorem cut_even (neg : Bool) (n d : Nat) (h : d ≤ n.log2 + 2) : Ieee.Toward.even.cut neg n d = cutE n d := by
  unfold Ieee.Toward.cut cutE
  rw [Nat.min_eq_left h, Nat.one_shiftLeft]
  simp only []
  congr 1
  generalize n / 2 ^ d = q
  generalize n % 2 ^ d = r
  generalize 2 ^ d = g
  by_cases h1 : g < 2 * r
  · rw [decide_eq_true h1, if_pos (.inl h1)]; rfl
  · by_cases h2 : g = 2 * r ∧ q % 2 = 1
    · rw [if_pos (.inr h2), beq_iff_eq.2 h2.1, beq_iff_eq.2 h2.2]; simp
    · rw [if_neg (fun h => h.elim h1 h2), decide_eq_false h1, Bool.false_or]
      have : (g == 2 * r && q % 2 == 1) = false := by
        rw [Bool.and_eq_false_iff]
        by_cases h3 : g = 2 * r
        · right; simp; omega
        · left; simp [h3]
      rw [this]; rfl
theorem cutE_zero (n : Nat) : cutE n 0 = n := by
  unfold cutE
  rw [Nat.pow_zero, Nat.div_one, Nat.mod_one, if_neg (by omega)]
  rfl
theorem log2_is {n k : Nat} (h1 : 2 ^ k ≤ n) (h2 : n < 2 ^ (k + 1)) : n.log2 = k := by
  have : n ≠ 0 := by have := Nat.two_pow_pos k; omega
  exact (Nat.log2_eq_iff this).2 ⟨h1, h2⟩

/-- the nearest word of a number whose last kept place is not below the least -/
theorem nearest_is (neg : Bool) (n : Nat) (place : Int) (d : Nat) (hn : n ≠ 0) (hd : n.log2 = 52 + d) (P : Nat) (hP : place + d = (P : Int) - 1074) (hP2 : P ≤ 2000) :
    Ieee.double.nearest neg n place = Ieee.double.word neg (P * 4503599627370496 + cutE n d) := by
  have e2 : Ieee.double.binade = 4503599627370496 := by decide
  have e3 : Ieee.double.infRung = 2047 * 4503599627370496 := by decide
  have e4 : Ieee.double.leastPlace = -1074 := by decide
  have e5 : Ieee.double.fractionBits = 52 := rfl
  unfold Ieee.Format.nearest
  rw [if_neg hn, e2, e3, e4, e5, hd]
  have hl : max (place + ((52 + d : Nat) : Int) - ((52 : Nat) : Int)) (-1074) = (P : Int) - 1074 := by omega
  simp only [hl]
  have h1 : (place - ((P : Int) - 1074)).toNat = 0 := by omega
  have h2 : ((P : Int) - 1074 - place).toNat = d := by omega
  have h3 : ((P : Int) - 1074 - -1074).toNat = P := by omega
  rw [h1, h2, h3, Nat.shiftLeft_zero, cut_even _ _ _ (by omega)]
  have hc : cutE n d ≤ 2 * 4503599627370496 := by
    have h5 : n < 2 ^ (n.log2 + 1) := Nat.lt_log2_self
    rw [hd, show 52 + d + 1 = 53 + d from by omega, Nat.pow_add] at h5
    have h6 : n / 2 ^ d < 2 ^ 53 := by
      rw [Nat.div_lt_iff_lt_mul (Nat.two_pow_pos d)]
      exact h5
    unfold cutE
    split <;> omega
  rw [Nat.min_eq_left (by omega)]

/-- .. of a number below 2^53 -/
theorem nearest_small (neg : Bool) (a : Nat) (h0 : 0 < a) (L : Nat) (hL : a.log2 = L) (h : L ≤ 52) :
    Ieee.double.nearest neg a 0 = Ieee.double.word neg ((L + 1022) * 4503599627370496 + a * 2 ^ (52 - L)) := by
  have e2 : Ieee.double.binade = 4503599627370496 := by decide
  have e3 : Ieee.double.infRung = 2047 * 4503599627370496 := by decide
  have e4 : Ieee.double.leastPlace = -1074 := by decide
  have e5 : Ieee.double.fractionBits = 52 := rfl
  unfold Ieee.Format.nearest
  rw [if_neg (by omega), e2, e3, e4, e5, hL]
  have hl : max (0 + (L : Int) - ((52 : Nat) : Int)) (-1074) = (L : Int) - 52 := by omega
  simp only [hl]
  have h1 : (0 - ((L : Int) - 52)).toNat = 52 - L := by omega
  have h2 : ((L : Int) - 52 - 0).toNat = 0 := by omega
  have h3 : ((L : Int) - 52 - -1074).toNat = L + 1022 := by omega
  rw [h1, h2, h3, cut_even _ _ _ (by omega), cutE_zero, Nat.shiftLeft_eq]
  have hc : a * 2 ^ (52 - L) < 2 * 4503599627370496 := by
    have h5 : a < 2 ^ (a.log2 + 1) := Nat.lt_log2_self
    rw [hL] at h5
    have h6 : a * 2 ^ (52 - L) < 2 ^ (L + 1) * 2 ^ (52 - L) := Nat.mul_lt_mul_of_pos_right h5 (Nat.two_pow_pos _)
    rw [← Nat.pow_add, show L + 1 + (52 - L) = 53 from by omega] at h6
    exact h6
  rw [Nat.min_eq_left (by omega)]

/-! the reference's way -/
def nearP (n : Nat) : Nat × Nat :=
  if n.log2 + 1 ≤ 53 ∨ n = 0 then (n, 0)
  else
    let d := n.log2 - 52
    if cutE n d = 9007199254740992 then (4503599627370496, d + 1) else (cutE n d, d)
set_option maxRecDepth 100000 in
/-- what is read is the reference's, brought to 53 digits -/
theorem read_near (neg : Bool) (a : Nat) (h0 : 0 < a) (h : a ≤ 9223372036854775808) :
    ∃ s : Nat, Ieee.double.read (Ieee.double.nearest neg a 0) = .number neg ((nearP a).1 * 2 ^ s) (((nearP a).2 : Int) - s) ∧ 4503599627370496 ≤ (nearP a).1 * 2 ^ s ∧ (nearP a).1 * 2 ^ s < 9007199254740992 ∧ s ≤ 52 ∧ (nearP a).2 ≤ 12 := by
  have hb1 : 2 ^ a.log2 ≤ a := Nat.log2_self_le (by omega)
  have hb2 : a < 2 ^ (a.log2 + 1) := Nat.lt_log2_self
  have hl : a.log2 ≤ 63 := by
    rcases Nat.lt_or_ge a.log2 64 with h' | h'
    · omega
    · have : 2 ^ 64 ≤ 2 ^ a.log2 := Nat.pow_le_pow_right (by omega) h'
      omega
  by_cases hs : a.log2 ≤ 52
  · have e : nearP a = (a, 0) := by unfold nearP; rw [if_pos (by omega)]
    rw [e]
    have g1 : 2 ^ 52 ≤ a * 2 ^ (52 - a.log2) := by
      have := Nat.mul_le_mul_right (2 ^ (52 - a.log2)) hb1
      rw [← Nat.pow_add, show a.log2 + (52 - a.log2) = 52 from by omega] at this
      exact this
    have g2 : a * 2 ^ (52 - a.log2) < 2 ^ 53 := by
      have h6 : a * 2 ^ (52 - a.log2) < 2 ^ (a.log2 + 1) * 2 ^ (52 - a.log2) := Nat.mul_lt_mul_of_pos_right hb2 (Nat.two_pow_pos _)
      rw [← Nat.pow_add, show a.log2 + 1 + (52 - a.log2) = 53 from by omega] at h6
      exact h6
    refine ⟨52 - a.log2, ?_, g1, g2, by omega, by simp⟩
    rw [nearest_small neg a h0 _ rfl hs, read_word neg _ _ g1 g2 (by omega)]
    exact number_eq rfl (by simp only []; omega)
  · have hd : a.log2 = 52 + (a.log2 - 52) := by omega
    generalize hdd : a.log2 - 52 = d at hd
    have e : nearP a = if cutE a d = 9007199254740992 then (4503599627370496, d + 1) else (cutE a d, d) := by
      unfold nearP
      rw [if_neg (by omega), hdd]
    have hn := nearest_is neg a 0 d (by omega) hd (d + 1074) (by omega) (by omega)
    have g1 : 2 ^ 52 ≤ a / 2 ^ d := by
      rw [Nat.le_div_iff_mul_le (Nat.two_pow_pos d), ← Nat.pow_add, ← hd]
      exact hb1
    have g2 : a / 2 ^ d < 2 ^ 53 := by
      rw [Nat.div_lt_iff_lt_mul (Nat.two_pow_pos d), ← Nat.pow_add, show 53 + d = a.log2 + 1 from by omega]
      exact hb2
    have hc1 : 4503599627370496 ≤ cutE a d := by unfold cutE; omega
    have hc2 : cutE a d ≤ 9007199254740992 := by unfold cutE; split <;> omega
    refine ⟨0, ?_⟩
    rw [hn, e]
    generalize cutE a d = q at hc1 hc2
    simp only [Nat.pow_zero, Nat.mul_one]
    by_cases hc : q = 9007199254740992
    · rw [if_pos hc, hc]
      refine ⟨?_, Nat.le_refl _, by show 4503599627370496 < 9007199254740992; omega, by omega, by show d + 1 ≤ 12; omega⟩
      rw [show (d + 1074) * 4503599627370496 + 9007199254740992 = (d + 1075) * 4503599627370496 + 4503599627370496 from by omega, read_word neg _ _ (by omega) (by omega) (by omega)]
      exact number_eq rfl (by simp only []; omega)
    · rw [if_neg hc]
      refine ⟨?_, hc1, by show q < 9007199254740992; omega, by omega, by show d ≤ 12; omega⟩
      rw [read_word neg _ _ (by omega) (by omega) (by omega)]
      exact number_eq rfl (by simp only []; omega)

/-- 54 digits of a quotient, and whether something is left: to the nearest -/
def roundQ (bits : Nat) (more : Bool) : Nat := bits / 2 + (if bits % 2 = 1 ∧ (more = true ∨ bits / 2 % 2 = 1) then 1 else 0)
set_option maxRecDepth 100000 in
/-- the quotient of two numbers of 53 digits -/
theorem div_is (s t : Bool) (M N : Nat) (I J : Int) (hM : 4503599627370496 ≤ M) (hM2 : M < 9007199254740992) (hN : 4503599627370496 ≤ N) (hN2 : N < 9007199254740992) (P : Nat) (x : Int)
    (hx : x = if M < N then I - J - 1 else I - J) (hP : x + 1022 = (P : Int)) (hP2 : P ≤ 2000) (m : Nat) (hm : m = if M < N then 2 * M else M) :
    ((Ieee.Datum.number s M I).quotient 54 (.number t N J)).map Ieee.double.write = some (Ieee.double.word (s ^^ t) (P * 4503599627370496 + roundQ (m * 9007199254740992 / N) (decide (m * 9007199254740992 % N ≠ 0)))) := by
  have lM : M.log2 = 52 := log2_is hM hM2
  have lN : N.log2 = 52 := log2_is hN hN2
  unfold Ieee.Datum.quotient
  simp only [lM, lN, Nat.shiftLeft_eq]
  rw [if_neg (by omega)]
  simp only [Option.map_some, Ieee.Format.write]
  have e54 : 2 ^ (54 + 52 - 52) = 18014398509481984 := by decide
  rw [e54]
  generalize hst : (M * 18014398509481984 % N != 0).toNat = st
  have hst1 : st = if M * 18014398509481984 % N = 0 then 0 else 1 := by
    rw [← hst]
    by_cases h : M * 18014398509481984 % N = 0 <;> simp [h]
  have hpl : I - J - ((54 + 52 - 52 : Nat) : Int) - 1 = I - J - 55 := by omega
  rw [hpl]
  by_cases h : M < N
  · rw [if_pos h] at hx hm
    subst hm
    have e : 2 * M * 9007199254740992 = M * 18014398509481984 := by omega
    rw [e]
    have q1 : 2 ^ 53 ≤ M * 18014398509481984 / N := by
      rw [Nat.le_div_iff_mul_le (by omega)]; omega
    have q2 : M * 18014398509481984 / N < 2 ^ 54 := by
      rw [Nat.div_lt_iff_lt_mul (by omega)]; omega
    generalize M * 18014398509481984 / N = q at q1 q2
    generalize M * 18014398509481984 % N = r at hst1
    have hq : (2 * q + st).log2 = 52 + 2 := log2_is (by split at hst1 <;> omega) (by split at hst1 <;> omega)
    rw [nearest_is (s ^^ t) (2 * q + st) (I - J - 55) 2 (by omega) hq P (by omega) hP2]
    congr 3
    unfold cutE roundQ
    have hd : (2 * q + st) / 2 ^ 2 = q / 2 := by split at hst1 <;> omega
    rw [hd]
    congr 1
    by_cases hr : r = 0
    · rw [if_pos hr] at hst1
      subst hst1
      have : (2 ^ 2 < 2 * ((2 * q + 0) % 2 ^ 2) ∨ 2 ^ 2 = 2 * ((2 * q + 0) % 2 ^ 2) ∧ q / 2 % 2 = 1) ↔ (q % 2 = 1 ∧ (decide (r ≠ 0) = true ∨ q / 2 % 2 = 1)) := by
        simp only [hr, ne_eq, not_true_eq_false, decide_false, Bool.false_eq_true, false_or]
        omega
      simp only [this]
    · rw [if_neg hr] at hst1
      subst hst1
      have : (2 ^ 2 < 2 * ((2 * q + 1) % 2 ^ 2) ∨ 2 ^ 2 = 2 * ((2 * q + 1) % 2 ^ 2) ∧ q / 2 % 2 = 1) ↔ (q % 2 = 1 ∧ (decide (r ≠ 0) = true ∨ q / 2 % 2 = 1)) := by
        simp only [hr, ne_eq, not_false_eq_true, decide_true, true_or, and_true]
        omega
      simp only [this]
  · rw [if_neg h] at hx hm
    subst hm
    have q1 : 2 ^ 54 ≤ m * 18014398509481984 / N := by
      rw [Nat.le_div_iff_mul_le (by omega)]; omega
    have q2 : m * 18014398509481984 / N < 2 ^ 55 := by
      rw [Nat.div_lt_iff_lt_mul (by omega)]; omega
    have e : m * 18014398509481984 = 2 * (m * 9007199254740992) := by omega
    have hmm := halves (m * 9007199254740992) N (by omega)
    have hqq := halves_div (m * 9007199254740992) N
    rw [e] at q1 q2 hst1 ⊢
    obtain ⟨X, hX⟩ : ∃ X, X = m * 9007199254740992 := ⟨_, rfl⟩
    rw [← hX] at q1 q2 hst1 hmm hqq ⊢
    clear hX e
    rw [← hqq]
    have hdec : decide (X % N ≠ 0) = decide (¬ (2 * X / N % 2 = 0 ∧ 2 * X % N = 0)) := by
      rw [Bool.eq_iff_iff]; simp only [decide_eq_true_eq, ne_eq]; rw [hmm]
    rw [hdec]
    clear hdec hmm hqq
    generalize 2 * X / N = q at q1 q2
    generalize 2 * X % N = r at hst1
    have hq : (2 * q + st).log2 = 52 + 3 := log2_is (by split at hst1 <;> omega) (by split at hst1 <;> omega)
    rw [nearest_is (s ^^ t) (2 * q + st) (I - J - 55) 3 (by omega) hq P (by omega) hP2]
    congr 3
    unfold cutE roundQ
    have hd : (2 * q + st) / 2 ^ 3 = q / 2 / 2 := by split at hst1 <;> omega
    rw [hd]
    congr 1
    by_cases hr : r = 0
    · rw [if_pos hr] at hst1
      subst hst1
      have : (2 ^ 3 < 2 * ((2 * q + 0) % 2 ^ 3) ∨ 2 ^ 3 = 2 * ((2 * q + 0) % 2 ^ 3) ∧ q / 2 / 2 % 2 = 1) ↔ (q / 2 % 2 = 1 ∧ (decide (¬ (q % 2 = 0 ∧ r = 0)) = true ∨ q / 2 / 2 % 2 = 1)) := by
        simp only [hr, and_true, decide_eq_true_eq]
        omega
      simp only [this]
    · rw [if_neg hr] at hst1
      subst hst1
      have : (2 ^ 3 < 2 * ((2 * q + 1) % 2 ^ 3) ∨ 2 ^ 3 = 2 * ((2 * q + 1) % 2 ^ 3) ∧ q / 2 / 2 % 2 = 1) ↔ (q / 2 % 2 = 1 ∧ (decide (¬ (q % 2 = 0 ∧ r = 0)) = true ∨ q / 2 / 2 % 2 = 1)) := by
        simp only [hr, and_false, not_false_eq_true, decide_true, true_or, and_true]
        omega
      simp only [this]

end Go.Proofs.Ytlbpddkhfoddkaa
