/-
  WALKS of the field of 256: the reference's functions of bytes.
-/
import Derived.Test.YthcjemcimfbnhaaAeA
namespace Go.Proofs.Ythcjemcimfbnhaa
open Go.RowKit
set_option linter.unusedVariables false

theorem ret_i64 {a : Int} {b : Nat} (h : a = b) : Ending.returned (.int .i64 a) = .returned (.int .i64 (b : Int)) := by rw [h]
theorem bits_xor_i64 (a b : Nat) (ha : a < 4294967296) (hb : b < 4294967296) : bits .xor .i64 (a : Int) (b : Int) = ((a ^^^ b : Nat) : Int) := by
  have h : a ^^^ b < 2 ^ 32 := Nat.xor_lt_two_pow (by omega) (by omega)
  show IntKind.i64.wrap ((BitVec.ofInt 64 (a : Int) ^^^ BitVec.ofInt 64 (b : Int)).toNat : Int) = _
  rw [BitVec.toNat_xor, BitVec.ofInt_natCast, BitVec.ofInt_natCast, BitVec.toNat_ofNat, BitVec.toNat_ofNat, Nat.mod_eq_of_lt (by omega), Nat.mod_eq_of_lt (by omega), IntKind.wrap_i64]
  omega

theorem rbit_walk (a i : Nat) (ha : a < 256) : (wrap64 ((a : Int) / 2 ^ (i % 8))).tmod 2 = ((rbit a i : Nat) : Int) := by
  have h2 : (a : Int) / 2 ^ (i % 8) = ((a / 2 ^ (i % 8) : Nat) : Int) := by simp
  have h3 : a / 2 ^ (i % 8) ≤ a := Nat.div_le_self _ _
  rw [h2]
  unfold rbit
  generalize a / 2 ^ (i % 8) = q at h3
  rw [IntWalk.wrap64_in (q : Int) (by omega), Int.tmod_eq_emod_of_nonneg (by omega)]
  omega
theorem rbit_lt (a i : Nat) : rbit a i < 2 := Nat.mod_lt _ (by omega)

set_option maxRecDepth 100000 in
set_option maxHeartbeats 400000 in
theorem rBit_any (a i : Nat) (ha : a < 256) (hi : i < 16) (w : World) :
    Calls Try.prog 162 #[.int .u8 (a : Int), .int .i64 (i : Int)] w fun e w' => e = .returned (.int .i64 (rbit a i : Nat)) ∧ w = w' := by
  have H := Lib.hid (rbit_walk a i ha)
  have h9 : ((i : Int) % 8).toNat = i % 8 := by omega
  go_enter Try.func162, Try.ntmps162
  go_wp2
  go_ret
  exact ⟨ret_i64 H.out, rfl⟩

theorem rmulA_lt (a b : Nat) (ha : a < 256) : ∀ i, i ≤ 8 → rmulA a b i < 32768
  | 0, _ => by simp [rmulA]
  | i + 1, hi => by
    have h1 := rmulA_lt a b ha i (by omega)
    have h2 : a * 2 ^ i < 32768 := by
      have : (2 : Nat) ^ i ≤ 2 ^ 7 := Nat.pow_le_pow_right (by omega) (by omega)
      calc a * 2 ^ i ≤ 255 * 2 ^ 7 := Nat.mul_le_mul (by omega) this
        _ < 32768 := by decide
    simp only [rmulA]
    split
    · exact Nat.xor_lt_two_pow (n := 15) h1 h2
    · exact h1
theorem rmulB_lt (p : Nat) (hp : p < 32768) : ∀ k, k ≤ 7 → rmulB p k < 32768
  | 0, _ => hp
  | k + 1, hk => by
    have h1 := rmulB_lt p hp k (by omega)
    have h2 : 283 * 2 ^ (6 - k) < 32768 := by
      have : (2 : Nat) ^ (6 - k) ≤ 2 ^ 6 := Nat.pow_le_pow_right (by omega) (by omega)
      calc 283 * 2 ^ (6 - k) ≤ 283 * 2 ^ 6 := Nat.mul_le_mul (by omega) this
        _ < 32768 := by decide
    simp only [rmulB]
    split
    · exact Nat.xor_lt_two_pow (n := 15) h1 h2
    · exact h1
theorem rmul_lt (a b : Nat) : rmul a b < 256 := Nat.mod_lt _ (by omega)

set_option maxRecDepth 100000 in
set_option maxHeartbeats 1000000 in
theorem rMul_any (a b : Nat) (ha : a < 256) (hb : b < 256) (w : World) :
    Calls Try.prog 182 #[.int .u8 (a : Int), .int .u8 (b : Int)] w fun e w' => e = .returned (.int .u8 (rmul a b : Nat)) ∧ w = w' := by
  go_enter Try.func182, Try.ntmps182
  go_wp2
  go_loop [5, 6] (fun p i => ∃ k : Nat, k ≤ 8 ∧ i = .int .i64 k ∧ p = .int .i64 (rmulA a b k : Nat)) (fun _ i => 8 - (intOf i).toNat)
  case atStart => exact ⟨0, by omega, rfl, rfl⟩
  case round =>
    obtain ⟨k, hk, rfl, rfl⟩ := hrel
    by_cases hlt : k < 8
    · have hp := rmulA_lt a b ha k hk
      have hsh : (a : Int) * 2 ^ k = ((a * 2 ^ k : Nat) : Int) := by simp
      have hshl : a * 2 ^ k < 32768 := by
        have : (2 : Nat) ^ k ≤ 2 ^ 7 := Nat.pow_le_pow_right (by omega) (by omega)
        calc a * 2 ^ k ≤ 255 * 2 ^ 7 := Nat.mul_le_mul (by omega) this
          _ < 32768 := by decide
      have hs : rmulA a b (k + 1) = if rbit b k = 1 then rmulA a b k ^^^ (a * 2 ^ k) else rmulA a b k := rfl
      generalize a * 2 ^ k = sh at hsh hshl hs
      have hx := bits_xor_i64 (rmulA a b k) sh (by omega) (by omega)
      generalize rmulA a b k = p at hp hs hx
      have HS := Lib.hid hs
      clear hs
      have hbl := rbit_lt b k
      by_cases hbit : rbit b k = 1
      · have HB := Lib.hid hbit
        have hbit' : ((rbit b k : Nat) : Int) = 1 := by rw [hbit]; rfl
        clear hbit
        go_wp2_with (go_at_call 162; refine (rBit_any b k hb (by omega) _).mono ?_; rintro e w' ⟨rfl, rfl⟩)
        go_round
        case rel => exact ⟨k + 1, by omega, by go_num, by rw [HS.out, if_pos HB.out]⟩
        case measure => simp [intOf]; omega
      · have HB := Lib.hid hbit
        have hbit' : ((rbit b k : Nat) : Int) = 0 := by omega
        clear hbit
        go_wp2_with (go_at_call 162; refine (rBit_any b k hb (by omega) _).mono ?_; rintro e w' ⟨rfl, rfl⟩)
        go_round
        case rel => exact ⟨k + 1, by omega, by go_num, by rw [HS.out, if_neg HB.out]⟩
        case measure => simp [intOf]; omega
    · obtain rfl : k = 8 := by omega
      have hp0 := rmulA_lt a b ha 8 (by omega)
      have hr : rmul a b = rmulB (rmulA a b 8) 7 % 256 := rfl
      generalize rmulA a b 8 = P at hp0 hr
      have HR := Lib.hid hr
      clear hr
      go_wp2
      go_loop [5, 7] (fun p i => ∃ k : Nat, k ≤ 7 ∧ i = .int .i64 (14 - (k : Int)) ∧ p = .int .i64 (rmulB P k : Nat)) (fun _ i => (intOf i - 7).toNat)
      case atStart => exact ⟨0, by omega, rfl, rfl⟩
      case round =>
        obtain ⟨j, hj, rfl, rfl⟩ := hrel
        by_cases hlt2 : j < 7
        · have hq := rmulB_lt P hp0 j (by omega)
          have hs : rmulB P (j + 1) = if rmulB P j / 2 ^ (14 - j) % 2 = 1 then rmulB P j ^^^ (283 * 2 ^ (6 - j)) else rmulB P j := rfl
          have hshl : 283 * 2 ^ (6 - j) < 32768 := by
            have : (2 : Nat) ^ (6 - j) ≤ 2 ^ 6 := Nat.pow_le_pow_right (by omega) (by omega)
            calc 283 * 2 ^ (6 - j) ≤ 283 * 2 ^ 6 := Nat.mul_le_mul (by omega) this
              _ < 32768 := by decide
          have hsh : (283 : Int) * 2 ^ (6 - j) = ((283 * 2 ^ (6 - j) : Nat) : Int) := by simp
          generalize 283 * 2 ^ (6 - j) = sh at hsh hshl hs
          have hdv : ((rmulB P j : Nat) : Int) / 2 ^ (14 - j) = ((rmulB P j / 2 ^ (14 - j) : Nat) : Int) := by simp
          have hdl : rmulB P j / 2 ^ (14 - j) ≤ rmulB P j := Nat.div_le_self _ _
          generalize rmulB P j / 2 ^ (14 - j) = dv at hdv hdl hs
          have hx := bits_xor_i64 (rmulB P j) sh (by omega) (by omega)
          generalize rmulB P j = p at hq hs hx hdv hdl
          have t1 : (14 - (j : Int)).toNat = 14 - j := by omega
          have t2 : (14 - (j : Int) - 8).toNat = 6 - j := by omega
          have t3 : (6 - (j : Int)).toNat = 6 - j := by omega
          have HS := Lib.hid hs
          clear hs
          by_cases hbit : dv % 2 = 1
          · have HB := Lib.hid hbit
            have hbit' : (dv : Int) % 2 = 1 := by omega
            clear hbit
            go_wp2
            go_round
            case rel => exact ⟨j + 1, by omega, by go_num, by rw [HS.out, if_pos HB.out]⟩
            case measure => simp [intOf]; omega
          · have HB := Lib.hid hbit
            have hbit' : (dv : Int) % 2 = 0 := by omega
            clear hbit
            go_wp2
            go_round
            case rel => exact ⟨j + 1, by omega, by go_num, by rw [HS.out, if_neg HB.out]⟩
            case measure => simp [intOf]; omega
        · obtain rfl : j = 7 := by omega
          go_wp2
          go_ret
          exact ⟨ret_u8 (by rw [HR.out]; omega), rfl⟩

/-- a search: what it has come to -/
theorem findGo_start (p : Nat → Bool) (n : Nat) (h : findGo p n 0 = findGo p n 0) : True := trivial
theorem findGo_yes (p : Nat → Bool) {f i : Nat} (h : p i = true) : findGo p (f + 1) i = i := by simp [findGo, h]
theorem findGo_no (p : Nat → Bool) {f i : Nat} (h : p i = false) : findGo p (f + 1) i = findGo p f (i + 1) := by simp [findGo, h]
theorem findGo_lt (p : Nat → Bool) : ∀ f i, i + f ≤ 256 → findGo p f i < 256
  | 0, i, _ => by simp [findGo]
  | f + 1, i, h => by
    simp only [findGo]
    split
    · omega
    · exact findGo_lt p f (i + 1) (by omega)

set_option maxRecDepth 100000 in
set_option maxHeartbeats 1000000 in
theorem rInv_any (a : Nat) (ha : a < 256) (w : World) :
    Calls Try.prog 161 #[.int .u8 (a : Int)] w fun e w' => e = .returned (.int .u8 (rinv a : Nat)) ∧ w = w' := by
  have hr : rinv a = findGo (fun i => rmul a i == 1) 256 0 := rfl
  generalize rinv a = R at hr
  have HR := Lib.hid hr.symm
  clear hr
  go_enter Try.func161, Try.ntmps161
  go_wp2
  go_loop [3] (fun i => ∃ k : Nat, k ≤ 256 ∧ i = .int .i64 k ∧ findGo (fun i => rmul a i == 1) (256 - k) k = R) (fun i => 256 - (intOf i).toNat)
  case atStart => exact ⟨0, by omega, rfl, HR.out⟩
  case round =>
    obtain ⟨k, hk, rfl, hf⟩ := hrel
    by_cases hlt : k < 256
    · have hkm : (k : Int) % 256 = (k : Int) := by omega
      obtain ⟨f, hf0⟩ : ∃ f, 256 - k = f + 1 := ⟨255 - k, by omega⟩
      rw [hf0] at hf
      have HF0 := Lib.hid hf0
      clear hf0
      have hrl := rmul_lt a k
      by_cases hy : rmul a k = 1
      · rw [findGo_yes _ (by simp [hy])] at hf
        have HF := Lib.hid hf
        have hy' : ((rmul a k : Nat) : Int) = 1 := by rw [hy]; rfl
        clear hf hy
        go_wp2_with (go_at_call 182; refine (rMul_any a k ha hlt _).mono ?_; rintro e w' ⟨rfl, rfl⟩)
        go_ret
        exact ⟨ret_u8 (by rw [HF.out]), rfl⟩
      · rw [findGo_no _ (by simp [hy])] at hf
        have hz : f = 256 - (k + 1) := by have := HF0.out; omega
        rw [hz] at hf
        have HF := Lib.hid hf
        have hy' : (((rmul a k : Nat) : Int) == 1) = false := by simp; omega
        clear hf hz hy HF0
        go_wp2_with (go_at_call 182; refine (rMul_any a k ha hlt _).mono ?_; rintro e w' ⟨rfl, rfl⟩)
        go_round
        case rel => exact ⟨k + 1, by omega, by go_num, HF.out⟩
        case measure => simp [intOf]; omega
    · obtain rfl : k = 256 := by omega
      have HF := Lib.hid hf
      clear hf
      go_wp2
      go_ret
      exact ⟨ret_u8 (by have := HF.out; simp [findGo] at this; rw [← this]; rfl), rfl⟩

theorem rpowGo_lt (a : Nat) : ∀ k, rpowGo a k < 256
  | 0 => by simp [rpowGo]
  | k + 1 => rmul_lt _ _

set_option maxRecDepth 100000 in
set_option maxHeartbeats 1000000 in
theorem rPow_any (n : Nat) (hn : n < 16) (w : World) :
    Calls Try.prog 160 #[.int .u8 2, .int .u32 (n : Int)] w fun e w' => e = .returned (.int .u8 (gpow 2 n : Nat)) ∧ w = w' := by
  have hr := rpow_gpow n hn
  generalize gpow 2 n = R at hr
  by_cases h0 : n = 0
  · subst h0
    have e : R = 1 := hr.symm
    subst e
    clear hr
    go_enter Try.func160, Try.ntmps160
    go_wp2
    go_ret
    exact ⟨rfl, rfl⟩
  · have h1 : ((n : Int) == 0) = false := by simp; omega
    have e : rpow 2 n = rpowGo 2 n := by unfold rpow; rw [if_neg h0, if_neg (by omega), Nat.mod_eq_of_lt (by omega)]
    rw [e] at hr
    have HR := Lib.hid hr
    clear hr e
    have hm : (n : Int) % 255 = (n : Int) := by omega
    go_enter Try.func160, Try.ntmps160
    go_wp2
    go_loop [5, 6] (fun c i => ∃ k : Nat, k ≤ n ∧ i = .int .u32 k ∧ c = .int .u8 (rpowGo 2 k : Nat)) (fun _ i => n - (intOf i).toNat)
    case atStart => exact ⟨0, by omega, rfl, rfl⟩
    case round =>
      obtain ⟨k, hk, rfl, rfl⟩ := hrel
      by_cases hlt : k < n
      · have hl := rpowGo_lt 2 k
        have hs : rpowGo 2 (k + 1) = rmul (rpowGo 2 k) 2 := rfl
        generalize rpowGo 2 k = c at hl hs
        have HS := Lib.hid hs
        clear hs
        go_wp2_with fail
        refine (rMul_any c 2 hl (by omega) _).mono ?_
        rintro e w' ⟨rfl, rfl⟩
        go_wp2
        go_round
        case rel => exact ⟨k + 1, by omega, by go_num, by rw [HS.out]⟩
        case measure => simp [intOf]; omega
      · obtain rfl : k = n := by omega
        go_wp2
        go_ret
        exact ⟨ret_u8 (by rw [HR.out]), rfl⟩

theorem rsubGo_lt (b : Nat) : ∀ k, k ≤ 8 → rsubGo b k < 2 ^ k
  | 0, _ => by simp [rsubGo]
  | k + 1, hk => by
    have h1 := rsubGo_lt b k (by omega)
    simp only [rsubGo]
    have h2 : 2 ^ (k + 1) = 2 * 2 ^ k := by rw [Nat.pow_succ]; omega
    generalize rbit b (7 - k) + rbit b (7 - k + 4) + rbit b (7 - k + 5) + rbit b (7 - k + 6) + rbit b (7 - k + 7) + rbit 99 (7 - k) = q
    omega

set_option maxRecDepth 100000 in
set_option maxHeartbeats 1000000 in
theorem rSub_any (a : Nat) (ha : a < 256) (w : World) :
    Calls Try.prog 138 #[.int .u8 (a : Int)] w fun e w' => e = .returned (.int .u8 (sbox a : Nat)) ∧ w = w' := by
  have hr : rsubGo (rinv a) 8 = sbox a := rsub_sbox a ha
  have hc := rInv_any a ha
  have hbl : rinv a < 256 := findGo_lt _ 256 0 (by omega)
  generalize rinv a = b at hr hc hbl
  generalize sbox a = R at hr
  have hl8 := rsubGo_lt b 8 (by omega)
  have HR := Lib.hid hr
  have HC := Lib.hid hc
  clear hr hc
  go_enter Try.func138, Try.ntmps138
  go_wp2_with fail
  refine (HC.out _).mono ?_
  rintro e w' ⟨rfl, rfl⟩
  go_wp2
  go_loop [4, 5] (fun s i => ∃ k : Nat, k ≤ 8 ∧ i = .int .i64 (7 - (k : Int)) ∧ s = .int .i64 (rsubGo b k : Nat)) (fun _ i => (intOf i + 1).toNat)
  case atStart => exact ⟨0, by omega, rfl, rfl⟩
  case round =>
    obtain ⟨k, hk, rfl, rfl⟩ := hrel
    by_cases hlt : k < 8
    · have hs0 : rsubGo b k < 256 := Nat.lt_of_lt_of_le (rsubGo_lt b k hk) (Nat.le_trans (Nat.pow_le_pow_right (by omega) hk) (by decide))
      have hs : rsubGo b (k + 1) = 2 * rsubGo b k + (rbit b (7 - k) + rbit b (7 - k + 4) + rbit b (7 - k + 5) + rbit b (7 - k + 6) + rbit b (7 - k + 7) + rbit 99 (7 - k)) % 2 := rfl
      generalize rsubGo b k = s at hs0 hs
      have j0 : 7 - (k : Int) = ((7 - k : Nat) : Int) := by omega
      rw [j0]
      have j1 : 7 - k < 8 := by omega
      generalize hkk : 7 - k = m at hs j1
      have HK := Lib.hid hkk
      clear hkk j0
      have b0 := rbit_lt b m
      have b1 := rbit_lt b (m + 4)
      have b2 := rbit_lt b (m + 5)
      have b3 := rbit_lt b (m + 6)
      have b4 := rbit_lt b (m + 7)
      have b5 := rbit_lt 99 m
      have c0 := rBit_any b m hbl (by omega)
      have c1 := rBit_any b (m + 4) hbl (by omega)
      have c2 := rBit_any b (m + 5) hbl (by omega)
      have c3 := rBit_any b (m + 6) hbl (by omega)
      have c4 := rBit_any b (m + 7) hbl (by omega)
      have c5 := rBit_any 99 m (by omega) (by omega)
      generalize rbit b m = x0 at hs b0 c0
      generalize rbit b (m + 4) = x1 at hs b1 c1
      generalize rbit b (m + 5) = x2 at hs b2 c2
      generalize rbit b (m + 6) = x3 at hs b3 c3
      generalize rbit b (m + 7) = x4 at hs b4 c4
      generalize rbit 99 m = x5 at hs b5 c5
      have HS := Lib.hid hs
      have C0 := Lib.hid c0
      have C1 := Lib.hid c1
      have C2 := Lib.hid c2
      have C3 := Lib.hid c3
      have C4 := Lib.hid c4
      have C5 := Lib.hid c5
      clear hs c0 c1 c2 c3 c4 c5
      go_wp2_with fail
      refine (C0.out _).mono ?_
      rintro e w' ⟨rfl, rfl⟩
      go_wp2_with fail
      refine (C1.out _).mono ?_
      rintro e w' ⟨rfl, rfl⟩
      go_wp2_with fail
      refine (C2.out _).mono ?_
      rintro e w' ⟨rfl, rfl⟩
      go_wp2_with fail
      refine (C3.out _).mono ?_
      rintro e w' ⟨rfl, rfl⟩
      go_wp2_with fail
      refine (C4.out _).mono ?_
      rintro e w' ⟨rfl, rfl⟩
      go_wp2_with fail
      refine (C5.out _).mono ?_
      rintro e w' ⟨rfl, rfl⟩
      go_wp2
      go_round
      case rel => exact ⟨k + 1, by omega, by have := HK.out; go_num, by rw [HS.out]; go_num⟩
      case measure => simp [intOf]
    · obtain rfl : k = 8 := by omega
      go_wp2
      go_ret
      exact ⟨ret_u8 (by rw [HR.out]), rfl⟩

end Go.Proofs.Ythcjemcimfbnhaa
