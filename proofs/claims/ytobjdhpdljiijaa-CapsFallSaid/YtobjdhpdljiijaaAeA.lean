/-
  THE PLAIN SPECIFICATION: the field of 256, the box, the columns: functions on natural numbers; what the program's and the reference's ways have in common, by the kernel's reckoning over all bytes.
  WALKS of the field of 256: the program's functions of bytes.
  WALKS of the field of 256: the reference's functions of bytes.
-/
import Derived.Test.YtobjdhpdljiijaaRows
import Derived.WalkKit
import Derived.WalkSpells
import Derived.WalkLawsBesides
import Derived.Lib.Hide
import Derived.Deep.QuietTactic
import Derived.BigQuiet
namespace Go.Proofs.Ytobjdhpdljiijaa

/-! the program's way -/
def dbl (a : Nat) : Nat := if a < 128 then 2 * a else (2 * a - 256) ^^^ 27
def mulGo : Nat → Nat → Nat → Nat → Nat
  | 0, _, _, c => c
  | f + 1, a, b, c => if b = 0 then c else mulGo f (dbl a) (b / 2) (if b % 2 = 1 then c ^^^ a else c)
def gmul (a b : Nat) : Nat := mulGo 8 a b 0
def powGo : Nat → Nat → Nat → Nat → Nat
  | 0, _, _, c => c
  | f + 1, a, n, c => if n = 0 then c else powGo f (gmul a a) (n / 2) (if n % 2 = 1 then gmul c a else c)
def gpow (a n : Nat) : Nat := powGo 32 a n 1
def ginv (a : Nat) : Nat := gpow a 254
def rot (a n : Nat) : Nat := (a * 2 ^ n % 256) ||| (a / 2 ^ (8 - n))
def gsub (a : Nat) : Nat := ginv a ^^^ rot (ginv a) 1 ^^^ rot (ginv a) 2 ^^^ rot (ginv a) 3 ^^^ rot (ginv a) 4 ^^^ 99

/-! the reference's way -/
def rbit (a i : Nat) : Nat := a / 2 ^ (i % 8) % 2
def rmulA (a b : Nat) : Nat → Nat
  | 0 => 0
  | i + 1 => if rbit b i = 1 then rmulA a b i ^^^ (a * 2 ^ i) else rmulA a b i
/-- the rest: k steps from 14 down -/
def rmulB (p : Nat) : Nat → Nat
  | 0 => p
  | k + 1 => if rmulB p k / 2 ^ (14 - k) % 2 = 1 then rmulB p k ^^^ (283 * 2 ^ (6 - k)) else rmulB p k
def rmul (a b : Nat) : Nat := rmulB (rmulA a b 8) 7 % 256
/-- the first i from i on that answers yes; 0: there is none -/
def findGo (p : Nat → Bool) : Nat → Nat → Nat
  | 0, _ => 0
  | f + 1, i => if p i then i else findGo p f (i + 1)
def rinv (a : Nat) : Nat := findGo (fun i => rmul a i == 1) 256 0
def rpowGo (a : Nat) : Nat → Nat
  | 0 => 1
  | k + 1 => rmul (rpowGo a k) a
def rpow (a n : Nat) : Nat := if n = 0 then 1 else if a = 0 then 0 else rpowGo a (n % 255)
/-- k bits from the highest down -/
def rsubGo (b : Nat) : Nat → Nat
  | 0 => 0
  | k + 1 => 2 * rsubGo b k + (rbit b (7 - k) + rbit b (7 - k + 4) + rbit b (7 - k + 5) + rbit b (7 - k + 6) + rbit b (7 - k + 7) + rbit 99 (7 - k)) % 2
def rsub (a : Nat) : Nat := rsubGo (rinv a) 8

/-! what is common -/
def sboxL : List Nat := [99, 124, 119, 123, 242, 107, 111, 197, 48, 1, 103, 43, 254, 215, 171, 118, 202, 130, 201, 125, 250, 89, 71, 240, 173, 212, 162, 175, 156, 164, 114, 192, 183, 253, 147, 38, 54, 63, 247, 204, 52, 165, 229, 241, 113, 216, 49, 21, 4, 199, 35, 195, 24, 150, 5, 154, 7, 18, 128, 226, 235, 39, 178, 117, 9, 131, 44, 26, 27, 110, 90, 160, 82, 59, 214, 179, 41, 227, 47, 132, 83, 209, 0, 237, 32, 252, 177, 91, 106, 203, 190, 57, 74, 76, 88, 207, 208, 239, 170, 251, 67, 77, 51, 133, 69, 249, 2, 127, 80, 60, 159, 168, 81, 163, 64, 143, 146, 157, 56, 245, 188, 182, 218, 33, 16, 255, 243, 210, 205, 12, 19, 236, 95, 151, 68, 23, 196, 167, 126, 61, 100, 93, 25, 115, 96, 129, 79, 220, 34, 42, 144, 136, 70, 238, 184, 20, 222, 94, 11, 219, 224, 50, 58, 10, 73, 6, 36, 92, 194, 211, 172, 98, 145, 149, 228, 121, 231, 200, 55, 109, 141, 213, 78, 169, 108, 86, 244, 234, 101, 122, 174, 8, 186, 120, 37, 46, 28, 166, 180, 198, 232, 221, 116, 31, 75, 189, 139, 138, 112, 62, 181, 102, 72, 3, 246, 14, 97, 53, 87, 185, 134, 193, 29, 158, 225, 248, 152, 17, 105, 217, 142, 148, 155, 30, 135, 233, 206, 85, 40, 223, 140, 161, 137, 13, 191, 230, 66, 104, 65, 153, 45, 15, 176, 84, 187, 22]
def sbox (a : Nat) : Nat := sboxL.getD a 0
def sinv (a : Nat) : Nat := findGo (fun i => sbox i == a) 256 0

theorem gsub_sbox : ∀ a, a < 256 → gsub a = sbox a := by decide +kernel
theorem sbox_lt : ∀ a, a < 256 → sbox a < 256 := by decide +kernel
theorem sinv_sbox : ∀ a, a < 256 → sinv (sbox a) = a := by decide +kernel
theorem sbox_sinv : ∀ a, a < 256 → sbox (sinv a) = a := by decide +kernel
theorem sinv_lt : ∀ a, a < 256 → sinv a < 256 := by decide +kernel
theorem rsub_sbox : ∀ a, a < 256 → rsub a = sbox a := by decide +kernel
theorem rmul_gmul : ∀ a, a < 16 → ∀ b, b < 256 → rmul a b = gmul a b := by decide +kernel
theorem rpow_gpow : ∀ n, n < 16 → rpow 2 n = gpow 2 n := by decide +kernel
theorem gpow_lt : ∀ n, n < 16 → gpow 2 n < 256 := by decide +kernel

end Go.Proofs.Ytobjdhpdljiijaa

namespace Go.Proofs.Ytobjdhpdljiijaa
open Go.RowKit
set_option linter.unusedVariables false

/-! bytes under the walk's own words -/
theorem bits_xor_u8 (a b : Nat) (ha : a < 256) (hb : b < 256) : bits .xor .u8 (a : Int) (b : Int) = ((a ^^^ b : Nat) : Int) := by
  have h : a ^^^ b < 2 ^ 8 := Nat.xor_lt_two_pow (by omega) (by omega)
  show IntKind.u8.wrap ((BitVec.ofInt 8 (a : Int) ^^^ BitVec.ofInt 8 (b : Int)).toNat : Int) = _
  rw [BitVec.toNat_xor, BitVec.ofInt_natCast, BitVec.ofInt_natCast, BitVec.toNat_ofNat, BitVec.toNat_ofNat, Nat.mod_eq_of_lt (by omega), Nat.mod_eq_of_lt (by omega)]
  show ((a ^^^ b : Nat) : Int) % 256 = _
  omega
theorem bits_or_u8 (a b : Nat) (ha : a < 256) (hb : b < 256) : bits .or .u8 (a : Int) (b : Int) = ((a ||| b : Nat) : Int) := by
  have h : a ||| b < 2 ^ 8 := Nat.or_lt_two_pow (by omega) (by omega)
  show IntKind.u8.wrap ((BitVec.ofInt 8 (a : Int) ||| BitVec.ofInt 8 (b : Int)).toNat : Int) = _
  rw [BitVec.toNat_or, BitVec.ofInt_natCast, BitVec.ofInt_natCast, BitVec.toNat_ofNat, BitVec.toNat_ofNat, Nat.mod_eq_of_lt (by omega), Nat.mod_eq_of_lt (by omega)]
  show ((a ||| b : Nat) : Int) % 256 = _
  omega
theorem xor_lt {a b : Nat} (ha : a < 256) (hb : b < 256) : a ^^^ b < 256 := Nat.xor_lt_two_pow (n := 8) (by omega) (by omega)
theorem or_lt {a b : Nat} (ha : a < 256) (hb : b < 256) : a ||| b < 256 := Nat.or_lt_two_pow (n := 8) (by omega) (by omega)
theorem ret_u8 {a : Int} {b : Nat} (h : a = b) : Ending.returned (.int .u8 a) = .returned (.int .u8 (b : Int)) := by rw [h]

theorem dbl_lt : ∀ a, a < 256 → dbl a < 256 := by decide +kernel
theorem dbl_hi : ∀ a : Nat, a < 256 → (bits BinOp.and IntKind.u8 (a : Int) 128 != 0) = true → bits BinOp.xor IntKind.u8 ((a : Int) * 2 % 256) 27 = ((dbl a : Nat) : Int) := by decide +kernel
theorem dbl_lo : ∀ a : Nat, a < 256 → (bits BinOp.and IntKind.u8 (a : Int) 128 != 0) = false → (a : Int) * 2 % 256 = ((dbl a : Nat) : Int) := by decide +kernel

theorem mulGo_lt : ∀ f a b c, a < 256 → c < 256 → mulGo f a b c < 256
  | 0, a, b, c, ha, hc => hc
  | f + 1, a, b, c, ha, hc => by
    simp only [mulGo]
    split
    · exact hc
    · refine mulGo_lt f _ _ _ (dbl_lt a ha) ?_
      split
      · exact xor_lt hc ha
      · exact hc
theorem gmul_lt {a : Nat} (b : Nat) (ha : a < 256) : gmul a b < 256 := mulGo_lt 8 a b 0 ha (by omega)
theorem mulGo_zero : ∀ f a c, mulGo f a 0 c = c
  | 0, _, _ => rfl
  | f + 1, _, _ => by simp [mulGo]
theorem odd_u8 : ∀ b : Nat, b < 256 → (bits BinOp.and IntKind.u8 (b : Int) 1 != 0) = decide (b % 2 = 1) := by decide +kernel
theorem mulGo_step {f A B C R : Nat} (hf : B < 2 ^ f) (hm : mulGo f A B C = R) (hB : B ≠ 0) : ∃ f', B / 2 < 2 ^ f' ∧ mulGo f' (dbl A) (B / 2) (if B % 2 = 1 then C ^^^ A else C) = R := by
  cases f with
  | zero => omega
  | succ f =>
    simp only [mulGo, if_neg hB] at hm
    exact ⟨f, by rw [Nat.pow_succ] at hf; omega, hm⟩

theorem powGo_zero : ∀ f a c, powGo f a 0 c = c
  | 0, _, _ => rfl
  | f + 1, _, _ => by simp [powGo]
theorem powGo_step {f A n C R : Nat} (hf : n < 2 ^ f) (hm : powGo f A n C = R) (hn : n ≠ 0) : ∃ f', n / 2 < 2 ^ f' ∧ powGo f' (gmul A A) (n / 2) (if n % 2 = 1 then gmul C A else C) = R := by
  cases f with
  | zero => omega
  | succ f =>
    simp only [powGo, if_neg hn] at hm
    exact ⟨f, by rw [Nat.pow_succ] at hf; omega, hm⟩
theorem powGo_lt : ∀ f a n c, a < 256 → c < 256 → powGo f a n c < 256
  | 0, a, n, c, ha, hc => hc
  | f + 1, a, n, c, ha, hc => by
    simp only [powGo]
    split
    · exact hc
    · refine powGo_lt f _ _ _ (gmul_lt _ ha) ?_
      split
      · exact gmul_lt _ hc
      · exact hc
theorem ginv_lt {a : Nat} (ha : a < 256) : ginv a < 256 := powGo_lt 32 a 254 1 ha (by omega)
theorem odd_u32 (n : Nat) (hn : n < 4294967296) : (bits BinOp.and IntKind.u32 (n : Int) 1 != 0) = decide (n % 2 = 1) := by
  have e : bits BinOp.and IntKind.u32 (n : Int) 1 = ((n % 2 : Nat) : Int) := by
    show IntKind.u32.wrap ((BitVec.ofInt 32 (n : Int) &&& BitVec.ofInt 32 1).toNat : Int) = _
    have h1 : (BitVec.ofInt 32 1).toNat = 2 ^ 1 - 1 := by decide
    rw [BitVec.toNat_and, h1, Nat.and_two_pow_sub_one_eq_mod, BitVec.ofInt_natCast, BitVec.toNat_ofNat]
    show ((n % 2 ^ 32 % 2 ^ 1 : Nat) : Int) % 4294967296 = _
    omega
  rw [e]
  rcases Nat.mod_two_eq_zero_or_one n with h | h <;> rw [h] <;> rfl

theorem rot_lt {a n : Nat} (ha : a < 256) : rot a n < 256 := or_lt (Nat.mod_lt _ (by omega)) (Nat.lt_of_le_of_lt (Nat.div_le_self _ _) ha)
theorem rot_eq (a n : Nat) (ha : a < 256) : bits BinOp.or IntKind.u8 ((a : Int) * 2 ^ n % 256) ((a : Int) / 2 ^ (8 - n)) = ((rot a n : Nat) : Int) := by
  have h1 : (a : Int) * 2 ^ n % 256 = ((a * 2 ^ n % 256 : Nat) : Int) := by simp
  have h2 : (a : Int) / 2 ^ (8 - n) = ((a / 2 ^ (8 - n) : Nat) : Int) := by simp
  rw [h1, h2, bits_or_u8 _ _ (Nat.mod_lt _ (by omega)) (Nat.lt_of_le_of_lt (Nat.div_le_self _ _) ha)]
  rfl

end Go.Proofs.Ytobjdhpdljiijaa

namespace Go.Proofs.Ytobjdhpdljiijaa
open Go.RowKit
set_option linter.unusedVariables false

theorem ret_i64 {a : Int} {b : Nat} (h : a = b) : Ending.returned (.int .i64 a) = .returned (.int .i64 (b : Int)) := by rw [h]
theorem bits_xor_i64 (a b : Nat) (ha : a < 4294967296) (hb : b < 4294967296) : bits .xor .i64 (a : Int) (b : Int) = ((a ^^^ b : Nat) : Int) := by
  have h : a ^^^ b < 2 ^ 32 := Nat.xor_lt_two_pow (by omega) (by omega)
  show IntKind.i64.wrap ((BitVec.ofInt 64 (a : Int) ^^^ BitVec.ofInt 64 (b : Int)).toNat : Int) = _
  rw [BitVec.toNat_xor, BitVec.ofInt_natCast, BitVec.ofInt_natCast, BitVec.toNat_ofNat, BitVec.toNat_ofNat, Nat.mod_eq_of_lt (by omega), Nat.mod_eq_of_lt (by omega), IntKind.wrap_i64]
  omega

theorem rbit_walk (a i : Nat) (ha : a < 256) : (wrap64 ((a : Int) / 2 ^ (i % 8))).tmod 2 = ((rbit a i : Nat) : Int) := by
  have h2 : (a : Int) / 2 ^ (i % 8) = ((a / 2 ^ (i % 8) : Nat) : Int) := by simp
  have h3 : a / 2 ^ (i % 8) ≤ a := Nat.div_le_self _ _
  rw [h2]
  unfold rbit
  generalize a / 2 ^ (i % 8) = q at h3
  rw [IntWalk.wrap64_in (q : Int) (by omega), Int.tmod_eq_emod_of_nonneg (by omega)]
  omega
theorem rbit_lt (a i : Nat) : rbit a i < 2 := Nat.mod_lt _ (by omega)

theorem rmulA_lt (a b : Nat) (ha : a < 256) : ∀ i, i ≤ 8 → rmulA a b i < 32768
  | 0, _ => by simp [rmulA]
  | i + 1, hi => by
    have h1 := rmulA_lt a b ha i (by omega)
    have h2 : a * 2 ^ i < 32768 := by
      have : (2 : Nat) ^ i ≤ 2 ^ 7 := Nat.pow_le_pow_right (by omega) (by omega)
      calc a * 2 ^ i ≤ 255 * 2 ^ 7 := Nat.mul_le_mul (by omega) this
        _ < 32768 := by decide
    simp only [rmulA]
    split
    · exact Nat.xor_lt_two_pow (n := 15) h1 h2
    · exact h1
theorem rmulB_lt (p : Nat) (hp : p < 32768) : ∀ k, k ≤ 7 → rmulB p k < 32768
  | 0, _ => hp
  | k + 1, hk => by
    have h1 := rmulB_lt p hp k (by omega)
    have h2 : 283 * 2 ^ (6 - k) < 32768 := by
      have : (2 : Nat) ^ (6 - k) ≤ 2 ^ 6 := Nat.pow_le_pow_right (by omega) (by omega)
      calc 283 * 2 ^ (6 - k) ≤ 283 * 2 ^ 6 := Nat.mul_le_mul (by omega) this
        _ < 32768 := by decide
    simp only [rmulB]
    split
    · exact Nat.xor_lt_two_pow (n := 15) h1 h2
    · exact h1
theorem rmul_lt (a b : Nat) : rmul a b < 256 := Nat.mod_lt _ (by omega)

/-- a search: what it has come to -/
theorem findGo_start (p : Nat → Bool) (n : Nat) (h : findGo p n 0 = findGo p n 0) : True := trivial
theorem findGo_yes (p : Nat → Bool) {f i : Nat} (h : p i = true) : findGo p (f + 1) i = i := by simp [findGo, h]
theorem findGo_no (p : Nat → Bool) {f i : Nat} (h : p i = false) : findGo p (f + 1) i = findGo p f (i + 1) := by simp [findGo, h]
theorem findGo_lt (p : Nat → Bool) : ∀ f i, i + f ≤ 256 → findGo p f i < 256
  | 0, i, _ => by simp [findGo]
  | f + 1, i, h => by
    simp only [findGo]
    split
    · omega
    · exact findGo_lt p f (i + 1) (by omega)

theorem rpowGo_lt (a : Nat) : ∀ k, rpowGo a k < 256
  | 0 => by simp [rpowGo]
  | k + 1 => rmul_lt _ _

theorem rsubGo_lt (b : Nat) : ∀ k, k ≤ 8 → rsubGo b k < 2 ^ k
  | 0, _ => by simp [rsubGo]
  | k + 1, hk => by
    have h1 := rsubGo_lt b k (by omega)
    simp only [rsubGo]
    have h2 : 2 ^ (k + 1) = 2 * 2 ^ k := by rw [Nat.pow_succ]; omega
    generalize rbit b (7 - k) + rbit b (7 - k + 4) + rbit b (7 - k + 5) + rbit b (7 - k + 6) + rbit b (7 - k + 7) + rbit 99 (7 - k) = q
    omega

end Go.Proofs.Ytobjdhpdljiijaa
