/-
  WALKS: the reference's share.
-/
import Derived.Test.YtlbpddkhfoddkaaShB
namespace Go.Proofs.Ytlbpddkhfoddkaa
open Go.RowKit
set_option linter.unusedVariables false

theorem bits_or_u64 (a b : Nat) (ha : a < 2 ^ 64) (hb : b < 2 ^ 64) : bits .or .u64 (a : Int) (b : Int) = ((a ||| b : Nat) : Int) := by
  have h : a ||| b < 2 ^ 64 := Nat.or_lt_two_pow ha hb
  show IntKind.u64.wrap ((BitVec.ofInt 64 (a : Int) ||| BitVec.ofInt 64 (b : Int)).toNat : Int) = _
  rw [BitVec.toNat_or, BitVec.ofInt_natCast, BitVec.ofInt_natCast, BitVec.toNat_ofNat, BitVec.toNat_ofNat, Nat.mod_eq_of_lt ha, Nat.mod_eq_of_lt hb]
  exact wrap_u64 h _ (Int.natCast_nonneg _) (Int.le_refl _)
/-- sign, exponent and fraction lie apart -/
theorem or_three (S E F : Nat) (hS : S = 0 ∨ S = 9223372036854775808) (hE : E < 2048) (hF : F < 4503599627370496) : bits .or .u64 (bits .or .u64 (S : Int) ((E : Int) * 4503599627370496)) (F : Int) = ((S + E * 4503599627370496 + F : Nat) : Int) := by
  have e1 : E * 4503599627370496 ||| F = E * 4503599627370496 + F := by
    have := Nat.shiftLeft_add_eq_or_of_lt (a := E) (b := F) (i := 52) hF
    rw [Nat.shiftLeft_eq] at this
    exact this.symm
  have e2 : S ||| (E * 4503599627370496 + F) = S + (E * 4503599627370496 + F) := by
    rcases hS with rfl | rfl
    · simp
    · have := Nat.shiftLeft_add_eq_or_of_lt (a := 1) (b := E * 4503599627370496 + F) (i := 63) (show E * 4503599627370496 + F < 9223372036854775808 by omega)
      rw [Nat.shiftLeft_eq] at this
      exact this.symm
  have hS64 : S < 2 ^ 64 := by omega
  have e0 : bits .or .u64 (S : Int) ((E : Int) * 4503599627370496) = ((S ||| E * 4503599627370496 : Nat) : Int) := by
    have := bits_or_u64 S (E * 4503599627370496) hS64 (by omega)
    rw [Int.natCast_mul] at this
    exact this
  rw [e0, bits_or_u64 _ F (Nat.or_lt_two_pow hS64 (by omega)) (by omega), Nat.or_assoc, e1, e2, Nat.add_assoc]

theorem bits_yes {B N M M1 i : Nat} (h : B * (2 * N) + M = M1 * 2 ^ i) (hM : N ≤ M) : (B * 2 + 1) * (2 * N) + (M - N) * 2 = M1 * 2 ^ (i + 1) := by
  have e1 : M1 * 2 ^ (i + 1) = M1 * 2 ^ i * 2 := by rw [Nat.pow_succ, Nat.mul_assoc]
  have e2 : (B * 2 + 1) * (2 * N) = B * (2 * N) * 2 + 2 * N := by rw [Nat.add_mul, Nat.one_mul, Nat.mul_right_comm]
  rw [e1, e2, ← h]
  omega
theorem bits_no {B N M M1 i : Nat} (h : B * (2 * N) + M = M1 * 2 ^ i) : (B * 2) * (2 * N) + M * 2 = M1 * 2 ^ (i + 1) := by
  have e1 : M1 * 2 ^ (i + 1) = M1 * 2 ^ i * 2 := by rw [Nat.pow_succ, Nat.mul_assoc]
  have e2 : (B * 2) * (2 * N) = B * (2 * N) * 2 := by rw [Nat.mul_right_comm]
  rw [e1, e2, ← h]
  omega
theorem bits_lt {B N M M1 i : Nat} (h : B * (2 * N) + M = M1 * 2 ^ i) (hM : M1 < 2 * N) : B < 2 ^ i := by
  have h1 : B * (2 * N) < 2 ^ i * (2 * N) := by
    have : M1 * 2 ^ i < 2 * N * 2 ^ i := Nat.mul_lt_mul_of_pos_right hM (Nat.two_pow_pos i)
    rw [Nat.mul_comm (2 ^ i)]
    omega
  exact Nat.lt_of_mul_lt_mul_right h1
theorem bits_end {B N M M1 : Nat} (h : B * (2 * N) + M = M1 * 2 ^ 54) (hM : M < 2 * N) : B = M1 * 9007199254740992 / N ∧ (M1 * 9007199254740992 % N ≠ 0 ↔ 0 < M) := by
  have h1 : B * N * 2 + M = M1 * 9007199254740992 * 2 := by
    have : B * (2 * N) = B * N * 2 := by rw [Nat.mul_comm 2 N, ← Nat.mul_assoc]
    omega
  obtain ⟨c, rfl⟩ : ∃ c, M = 2 * c := ⟨M / 2, by omega⟩
  have h2 : M1 * 9007199254740992 = N * B + c := by rw [Nat.mul_comm N B]; omega
  rw [h2]
  refine ⟨?_, ?_⟩
  · rw [Nat.mul_add_div (by omega), Nat.div_eq_of_lt (by omega), Nat.add_zero]
  · rw [Nat.mul_add_mod, Nat.mod_eq_of_lt (by omega)]
    omega

theorem fin_eq {s s' x x' y y' : Int} (h1 : s = s') (h2 : x = x') (h3 : y = y') : bits .or .u64 (bits .or .u64 s x) y = bits .or .u64 (bits .or .u64 s' x') y' := by rw [h1, h2, h3]
/-- what the reference tells of two numbers that are not nought -/
def ShOut (S m0 e n0 f : Nat) (v : Int) : Prop :=
  ∃ (i k M N B : Nat) (more : Bool) (X : Int), M = m0 * 2 ^ i ∧ N = n0 * 2 ^ k ∧ X = (e : Int) - f - i + k ∧ N ≤ M ∧ M < 2 * N ∧ B = M * 9007199254740992 / N ∧ more = decide (M * 9007199254740992 % N ≠ 0) ∧
    v = (S : Int) + (X + 1022) * 4503599627370496 + (roundQ B more : Nat)

theorem sh_end {S m0 e n0 f i k M N B M' : Nat} {X : Int} (hS : S = 0 ∨ S = 9223372036854775808) (hM : M = m0 * 2 ^ i) (hN : N = n0 * 2 ^ k) (hX : X = (e : Int) - f - i + k) (h1 : N ≤ M) (h2 : M < 2 * N) (hB : B * (2 * N) + M' = M * 2 ^ 54) (hM' : M' < 2 * N)
    (hX1 : -200 ≤ X) (hX2 : X ≤ 200) {R : Nat} (hR : R = roundQ B (decide (0 < M'))) :
    (R ≠ 9007199254740992 → ∀ v : Int, v = bits .or .u64 (bits .or .u64 (S : Int) ((X + 1023) * 4503599627370496)) ((R : Int) - 4503599627370496) → ShOut S m0 e n0 f v) ∧
    (R = 9007199254740992 → ∀ v : Int, v = bits .or .u64 (bits .or .u64 (S : Int) ((X + 1 + 1023) * 4503599627370496)) 0 → ShOut S m0 e n0 f v) ∧ 4503599627370496 ≤ R ∧ R ≤ 9007199254740992 ∧ 9007199254740992 ≤ B ∧ B < 18014398509481984 := by
  obtain ⟨e1, e2⟩ := bits_end hB hM'
  have em : decide (0 < M') = decide (M * 9007199254740992 % N ≠ 0) := by rw [Bool.eq_iff_iff]; simp only [decide_eq_true_eq]; exact e2.symm
  have b1 : 9007199254740992 ≤ B := by rw [e1, Nat.le_div_iff_mul_le (by omega)]; omega
  have b2 : B < 18014398509481984 := by
    rw [e1, Nat.div_lt_iff_lt_mul (by omega)]; omega
  have r1 : 4503599627370496 ≤ R ∧ R ≤ 9007199254740992 := by
    rw [hR]; unfold roundQ; split <;> omega
  obtain ⟨E, hE⟩ : ∃ E : Nat, (E : Int) = X + 1023 := ⟨(X + 1023).toNat, by omega⟩
  refine ⟨fun hne v hv => ?_, fun he v hv => ?_, r1.1, r1.2, b1, b2⟩
  · refine ⟨i, k, M, N, B, _, X, hM, hN, hX, h1, h2, e1, em, ?_⟩
    rw [hv, ← hE, show (R : Int) - 4503599627370496 = ((R - 4503599627370496 : Nat) : Int) from by omega, or_three S E _ hS (by omega) (by omega), ← hR]
    omega
  · refine ⟨i, k, M, N, B, _, X, hM, hN, hX, h1, h2, e1, em, ?_⟩
    rw [hv, show X + 1 + 1023 = ((E + 1 : Nat) : Int) from by omega]
    have := or_three S (E + 1) 0 hS (by omega) (by omega)
    rw [show ((0 : Nat) : Int) = 0 from rfl] at this
    rw [this, ← hR, he]
    omega

def ShPost (S m0 e n0 f : Nat) (w : World) (x : Ending) (w' : World) : Prop := (∃ v, x = .returned (.int .u64 v) ∧ ShOut S m0 e n0 f v) ∧ w = w'

set_option maxRecDepth 100000 in
set_option maxHeartbeats 1000000 in
theorem rshare_walk (p q : Int) (sp sq : Bool) (a b m0 e n0 f S : Nat) (w : World)
    (hp : Hid (∀ w, Calls Try.prog 27 #[.int .i64 p] w fun e w' => e = .returned (.tuple #[.int .u64 (a : Int), .bool sp]) ∧ w = w'))
    (hq : Hid (∀ w, Calls Try.prog 27 #[.int .i64 q] w fun e w' => e = .returned (.tuple #[.int .u64 (b : Int), .bool sq]) ∧ w = w'))
    (hm : Hid (∀ w, Calls Try.prog 28 #[.int .u64 (a : Int)] w fun x w' => x = .returned (.tuple #[.int .u64 (m0 : Int), .int .i64 (e : Int)]) ∧ w = w'))
    (hn : Hid (∀ w, Calls Try.prog 28 #[.int .u64 (b : Int)] w fun x w' => x = .returned (.tuple #[.int .u64 (n0 : Int), .int .i64 (f : Int)]) ∧ w = w'))
    (ha : 0 < a) (hb : 0 < b) (hm0 : 0 < m0) (hm1 : m0 < 9007199254740992) (hn0 : 0 < n0) (hn1 : n0 < 9007199254740992) (he : e ≤ 12) (hf : f ≤ 12) (hsg : (sp != sq) = decide (S ≠ 0)) (hS : S = 0 ∨ S = 9223372036854775808) :
    Calls Try.prog 10 #[.int .i64 p, .int .i64 q] w (ShPost S m0 e n0 f w) := by
  have ha1 : ((a : Int) == 0) = false := by rw [beq_eq_false_iff_ne]; omega
  have hb1 : ((b : Int) == 0) = false := by rw [beq_eq_false_iff_ne]; omega
  have hef : (e : Int) - f ≤ 12 := by omega
  have hfe : -12 ≤ (e : Int) - f := by omega
  have hsd : ∃ c : Bool, (sp != sq) = c ∧ S = if c then 9223372036854775808 else 0 := ⟨_, hsg, by rcases hS with h | h <;> subst h <;> rfl⟩
  obtain ⟨c, hc, hSc⟩ := hsd
  have HS := Lib.hid hS
  have HSC := Lib.hid hSc
  clear hsg hS hSc ha hb
  have hc2 : (sp == sq) = !c := by rw [← hc]; cases sp <;> cases sq <;> rfl
  clear hc
  cases c
  all_goals
    simp only [Bool.not_true, Bool.not_false] at hc2
    go_enter Try.func10, Try.ntmps10
    go_wp2_with fail
    refine (hp.out _).mono ?_
    rintro e w' ⟨rfl, rfl⟩
    go_wp2_with fail
    refine (hq.out _).mono ?_
    rintro e w' ⟨rfl, rfl⟩
    go_wp2_with fail
    refine (hm.out _).mono ?_
    rintro e w' ⟨rfl, rfl⟩
    go_wp2_with fail
    refine (hn.out _).mono ?_
    rintro e w' ⟨rfl, rfl⟩
    go_wp2_with fail
    go_loop [10, 14] (fun x y => ∃ (i M : Nat) (X : Int), x = .int .u64 M ∧ y = .int .i64 X ∧ 0 < M ∧ (i = 0 ∨ M < 2 * n0) ∧ M < 18014398509481984 ∧ M = m0 * 2 ^ i ∧ X = (e : Int) - f - i ∧ i ≤ 53) (fun x _ => n0 - (intOf x).toNat)
    case atStart => exact ⟨0, m0, (e : Int) - f, rfl, rfl, hm0, .inl rfl, by omega, by omega, by omega, by omega⟩
    case round =>
      obtain ⟨i, M, X, rfl, rfl, hM0, hM1, hM2, hM3, hX, hi⟩ := hrel
      by_cases hlt : M < n0
      · have hw := wrap_u64 (n := 18014398509481984) (by decide) ((M : Int) * 2) (by omega) (by omega)
        have hlti : (M : Int) < (n0 : Int) := by omega
        have hi52 : i < 53 := by
          rcases Nat.lt_or_ge i 53 with h | h
          · exact h
          · have : 2 ^ 53 ≤ 2 ^ i := Nat.pow_le_pow_right (by omega) h
            have h2 : 2 ^ i ≤ M := by rw [hM3]; exact Nat.le_mul_of_pos_left _ hm0
            omega
        have HX := Lib.hid hX
        have HM3 := Lib.hid hM3
        have hX1 : -100 ≤ X := by omega
        have hX2 : X ≤ 100 := by omega
        clear hX hM3
        go_wp2_with fail
        go_round
        case rel => exact ⟨i + 1, M * 2, X - 1, by go_num, rfl, by omega, .inr (by omega), by omega, by rw [HM3.out, Nat.pow_succ, Nat.mul_assoc], by have := HX.out; omega, by omega⟩
        case measure => simp [intOf]; omega
      · have hge : (n0 : Int) ≤ (M : Int) := by omega
        have HX := Lib.hid hX
        have HM3 := Lib.hid hM3
        have hX1 : -100 ≤ X := by omega
        have hX2 : X ≤ 100 := by omega
        clear hX hM3
        go_wp2_with fail
        have hM54 : M < 18014398509481984 := hM2
        clear hM2
        go_loop [12, 14] (fun x y => ∃ (k N : Nat) (Y : Int), x = .int .u64 N ∧ y = .int .i64 Y ∧ 0 < N ∧ N ≤ M ∧ (k = 0 → M < 2 * n0 ∨ i = 0) ∧ N = n0 * 2 ^ k ∧ Y = X + k ∧ k ≤ 53) (fun x _ => M - (intOf x).toNat)
        case atStart => exact ⟨0, n0, X, rfl, rfl, hn0, by omega, fun _ => by omega, by omega, by omega, by omega⟩
        case round =>
          obtain ⟨k, N, Y, rfl, rfl, hN0, hN1, hN2, hN3, hY, hk⟩ := hrel
          by_cases hlt2 : 2 * N ≤ M
          · have hw2 := wrap_u64 (n := 36028797018963968) (by decide) (2 * (N : Int)) (by omega) (by omega)
            have hw3 := wrap_u64 (n := 36028797018963968) (by decide) ((N : Int) * 2) (by omega) (by omega)
            have hlt2i : 2 * (N : Int) ≤ (M : Int) := by omega
            have hk52 : k < 53 := by
              rcases Nat.lt_or_ge k 53 with h | h
              · exact h
              · have : 2 ^ 53 ≤ 2 ^ k := Nat.pow_le_pow_right (by omega) h
                have h2 : 2 ^ k ≤ N := by rw [hN3]; exact Nat.le_mul_of_pos_left _ hn0
                omega
            have HY := Lib.hid hY
            have HN3 := Lib.hid hN3
            have hY1 : -200 ≤ Y := by omega
            have hY2 : Y ≤ 200 := by omega
            clear hY hN3 hN2
            go_wp2_with fail
            go_round
            case rel => exact ⟨k + 1, N * 2, Y + 1, by go_num, rfl, by omega, by omega, fun h => by omega, by rw [HN3.out, Nat.pow_succ, Nat.mul_assoc], by have := HY.out; omega, by omega⟩
            case measure => simp [intOf]; omega
          · have hw2 := wrap_u64 (n := 36028797018963968) (by decide) (2 * (N : Int)) (by omega) (by omega)
            have hlt2i : (M : Int) < 2 * (N : Int) := by omega
            have HY := Lib.hid hY
            have HN3 := Lib.hid hN3
            have hY1 : -153 ≤ Y := by omega
            have hY2 : Y ≤ 153 := by omega
            clear hY hN3 hN2
            go_wp2_with fail
            clear hw2
            go_loop [10, 15, 16] (fun x y z => ∃ (j B m : Nat), x = .int .u64 m ∧ y = .int .u64 B ∧ z = .int .i64 j ∧ j ≤ 54 ∧ m < 2 * N ∧ B * (2 * N) + m = M * 2 ^ j) (fun _ _ z => 54 - (intOf z).toNat)
            case atStart => exact ⟨0, 0, M, rfl, rfl, rfl, by omega, by omega, by omega⟩
            case round =>
              obtain ⟨j, B, m, rfl, rfl, rfl, hj, hm2, hB⟩ := hrel
              have hB2 : B < 2 ^ j := bits_lt hB (by omega)
              have hB3 : B < 18014398509481984 := Nat.lt_of_lt_of_le hB2 (Nat.pow_le_pow_right (n := 2) (show 2 > 0 by omega) hj)
              by_cases hlt3 : j < 54
              · have hj3 : (j : Int) < 54 := by omega
                have hv1 := wrap_u64 (n := 72057594037927936) (by decide) ((B : Int) * 2) (by omega) (by omega)
                have hv2 := wrap_u64 (n := 72057594037927936) (by decide) ((B : Int) * 2 + 1) (by omega) (by omega)
                have hv4 := wrap_u64 (n := 72057594037927936) (by decide) ((m : Int) * 2) (by omega) (by omega)
                by_cases hyes : N ≤ m
                · have hv3 := wrap_u64 (n := 72057594037927936) (by decide) ((m : Int) - (N : Int)) (by omega) (by omega)
                  have hv5 := wrap_u64 (n := 72057594037927936) (by decide) (((m : Int) - (N : Int)) * 2) (by omega) (by omega)
                  have hyi : (N : Int) ≤ (m : Int) := by omega
                  have HB := Lib.hid (bits_yes hB hyes)
                  clear hB hB2
                  go_wp2_with fail
                  go_round
                  case rel => exact ⟨j + 1, B * 2 + 1, (m - N) * 2, by go_num, by go_num, by go_num, by omega, by omega, HB.out⟩
                  case measure => simp [intOf]; omega
                · have hyi : (m : Int) < (N : Int) := by omega
                  have HB := Lib.hid (bits_no hB)
                  clear hB hB2
                  go_wp2_with fail
                  go_round
                  case rel => exact ⟨j + 1, B * 2, m * 2, by go_num, by go_num, by go_num, by omega, by omega, HB.out⟩
                  case measure => simp [intOf]; omega
              · obtain rfl : j = 54 := by omega
                have hfin := sh_end HS.out HM3.out HN3.out (show Y = (e : Int) - f - i + k by have := HX.out; have := HY.out; omega) (by omega) (by omega) hB hm2 (by omega) (by omega) rfl
                have HF := Lib.hid hfin
                clear hB hB2 hfin
                have f1 := wrap_u64 (n := 18014398509481984) (by decide) ((B : Int) / 2) (by omega) (by omega)
                have f2 := wrap_u64 (n := 18014398509481984) (by decide) ((B : Int) / 2 + 1) (by omega) (by omega)
                have f3 := wrap_u64 (n := 18014398509481984) (by decide) (Y + 1023) (by omega) (by omega)
                have f4 := wrap_u64 (n := 18014398509481984) (by decide) (Y + 1 + 1023) (by omega) (by omega)
                have f5 := HF.out.2.2.2.2.1
                have f6 := HF.out.2.2.2.2.2
                have hRo : roundQ B (decide (0 < m)) = B / 2 + (if B % 2 = 1 ∧ (decide (0 < m) = true ∨ B / 2 % 2 = 1) then 1 else 0) := rfl
                by_cases g1 : B % 2 = 1
                · have g1' : ((B : Int) % 2 == 1) = true := by rw [beq_iff_eq]; omega
                  by_cases g2 : 0 < m
                  · have g2' : (0 : Int) < (m : Int) := by omega
                    rw [if_pos ⟨g1, .inl (by simpa using g2)⟩] at hRo
                    have HR := Lib.hid hRo
                    clear hRo g1
                    by_cases h4 : B / 2 + 1 = 9007199254740992
                    · have h5 : ((B : Int) / 2 + 1 == 9007199254740992) = true := by rw [beq_iff_eq]; omega
                      have h6 := wrap_u64 (n := 9007199254740992) (by decide) (((B : Int) / 2 + 1) / 2) (by omega) (by omega)
                      have H4 := Lib.hid h4
                      clear h4
                      go_wp2_with fail
                      go_ret
                      exact ⟨⟨_, rfl, HF.out.2.1 (by rw [HR.out]; exact H4.out) _ (fin_eq (by rw [HSC.out]; rfl) (by omega) (by have := H4.out; first | rfl | omega | (rw [wrap_u64 (n := 9007199254740992) (by decide) _ (by omega) (by omega)]; omega)))⟩, rfl⟩
                    · have h5 : ((B : Int) / 2 + 1 == 9007199254740992) = false := by rw [beq_eq_false_iff_ne]; omega
                      have H4 := Lib.hid h4
                      clear h4
                      go_wp2_with fail
                      go_ret
                      exact ⟨⟨_, rfl, HF.out.1 (by rw [HR.out]; exact H4.out) _ (fin_eq (by rw [HSC.out]; rfl) (by omega) (by have := H4.out; have := HF.out.2.2.1; rw [HR.out] at this ⊢; first | omega | (rw [wrap_u64 (n := 9007199254740992) (by decide) _ (by omega) (by omega)]; omega)))⟩, rfl⟩
                  · obtain rfl : m = 0 := by omega
                    by_cases g3 : B / 2 % 2 = 1
                    · have g3' : ((B : Int) / 2 % 2 == 1) = true := by rw [beq_iff_eq]; omega
                      rw [if_pos ⟨g1, .inr g3⟩] at hRo
                      have HR := Lib.hid hRo
                      clear hRo g1 g3
                      by_cases h4 : B / 2 + 1 = 9007199254740992
                      · have h5 : ((B : Int) / 2 + 1 == 9007199254740992) = true := by rw [beq_iff_eq]; omega
                        have h6 := wrap_u64 (n := 9007199254740992) (by decide) (((B : Int) / 2 + 1) / 2) (by omega) (by omega)
                        have H4 := Lib.hid h4
                        clear h4
                        go_wp2_with fail
                        go_ret
                        exact ⟨⟨_, rfl, HF.out.2.1 (by rw [HR.out]; exact H4.out) _ (fin_eq (by rw [HSC.out]; rfl) (by omega) (by have := H4.out; first | rfl | omega | (rw [wrap_u64 (n := 9007199254740992) (by decide) _ (by omega) (by omega)]; omega)))⟩, rfl⟩
                      · have h5 : ((B : Int) / 2 + 1 == 9007199254740992) = false := by rw [beq_eq_false_iff_ne]; omega
                        have H4 := Lib.hid h4
                        clear h4
                        go_wp2_with fail
                        go_ret
                        exact ⟨⟨_, rfl, HF.out.1 (by rw [HR.out]; exact H4.out) _ (fin_eq (by rw [HSC.out]; rfl) (by omega) (by have := H4.out; have := HF.out.2.2.1; rw [HR.out] at this ⊢; first | omega | (rw [wrap_u64 (n := 9007199254740992) (by decide) _ (by omega) (by omega)]; omega)))⟩, rfl⟩
                    · have g3' : ((B : Int) / 2 % 2 == 1) = false := by rw [beq_eq_false_iff_ne]; omega
                      rw [if_neg (fun h => by rcases h with ⟨_, h | h⟩; (· simp at h); exact g3 h), Nat.add_zero] at hRo
                      have HR := Lib.hid hRo
                      clear hRo g1 g3
                      by_cases h4 : B / 2 = 9007199254740992
                      · have h5 : ((B : Int) / 2 == 9007199254740992) = true := by rw [beq_iff_eq]; omega
                        have h6 := wrap_u64 (n := 9007199254740992) (by decide) (((B : Int) / 2) / 2) (by omega) (by omega)
                        have H4 := Lib.hid h4
                        clear h4
                        go_wp2_with fail
                        go_ret
                        exact ⟨⟨_, rfl, HF.out.2.1 (by rw [HR.out]; exact H4.out) _ (fin_eq (by rw [HSC.out]; rfl) (by omega) (by have := H4.out; first | rfl | omega | (rw [wrap_u64 (n := 9007199254740992) (by decide) _ (by omega) (by omega)]; omega)))⟩, rfl⟩
                      · have h5 : ((B : Int) / 2 == 9007199254740992) = false := by rw [beq_eq_false_iff_ne]; omega
                        have H4 := Lib.hid h4
                        clear h4
                        go_wp2_with fail
                        go_ret
                        exact ⟨⟨_, rfl, HF.out.1 (by rw [HR.out]; exact H4.out) _ (fin_eq (by rw [HSC.out]; rfl) (by omega) (by have := H4.out; have := HF.out.2.2.1; rw [HR.out] at this ⊢; first | omega | (rw [wrap_u64 (n := 9007199254740992) (by decide) _ (by omega) (by omega)]; omega)))⟩, rfl⟩
                · have g1' : ((B : Int) % 2 == 1) = false := by rw [beq_eq_false_iff_ne]; omega
                  rw [if_neg (fun h => g1 h.1), Nat.add_zero] at hRo
                  have HR := Lib.hid hRo
                  clear hRo g1
                  by_cases h4 : B / 2 = 9007199254740992
                  · have h5 : ((B : Int) / 2 == 9007199254740992) = true := by rw [beq_iff_eq]; omega
                    have h6 := wrap_u64 (n := 9007199254740992) (by decide) (((B : Int) / 2) / 2) (by omega) (by omega)
                    have H4 := Lib.hid h4
                    clear h4
                    go_wp2_with fail
                    go_ret
                    exact ⟨⟨_, rfl, HF.out.2.1 (by rw [HR.out]; exact H4.out) _ (fin_eq (by rw [HSC.out]; rfl) (by omega) (by have := H4.out; first | rfl | omega | (rw [wrap_u64 (n := 9007199254740992) (by decide) _ (by omega) (by omega)]; omega)))⟩, rfl⟩
                  · have h5 : ((B : Int) / 2 == 9007199254740992) = false := by rw [beq_eq_false_iff_ne]; omega
                    have H4 := Lib.hid h4
                    clear h4
                    go_wp2_with fail
                    go_ret
                    exact ⟨⟨_, rfl, HF.out.1 (by rw [HR.out]; exact H4.out) _ (fin_eq (by rw [HSC.out]; rfl) (by omega) (by have := H4.out; have := HF.out.2.2.1; rw [HR.out] at this ⊢; first | omega | (rw [wrap_u64 (n := 9007199254740992) (by decide) _ (by omega) (by omega)]; omega)))⟩, rfl⟩
end Go.Proofs.Ytlbpddkhfoddkaa
