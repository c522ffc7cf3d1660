/-
  THE PLAIN SPECIFICATION: the field of 256, the box, the columns: functions on natural numbers; what the program's and the reference's ways have in common, by the kernel's reckoning over all bytes.
-/
import Derived.Test.YthcjemcimfbnhaaRows
namespace Go.Proofs.Ythcjemcimfbnhaa

/-! the program's way -/
def dbl (a : Nat) : Nat := if a < 128 then 2 * a else (2 * a - 256) ^^^ 27
def mulGo : Nat → Nat → Nat → Nat → Nat
  | 0, _, _, c => c
  | f + 1, a, b, c => if b = 0 then c else mulGo f (dbl a) (b / 2) (if b % 2 = 1 then c ^^^ a else c)
def gmul (a b : Nat) : Nat := mulGo 8 a b 0
def powGo : Nat → Nat → Nat → Nat → Nat
  | 0, _, _, c => c
  | f + 1, a, n, c => if n = 0 then c else powGo f (gmul a a) (n / 2) (if n % 2 = 1 then gmul c a else c)
def gpow (a n : Nat) : Nat := powGo 32 a n 1
def ginv (a : Nat) : Nat := gpow a 254
def rot (a n : Nat) : Nat := (a * 2 ^ n % 256) ||| (a / 2 ^ (8 - n))
def gsub (a : Nat) : Nat := ginv a ^^^ rot (ginv a) 1 ^^^ rot (ginv a) 2 ^^^ rot (ginv a) 3 ^^^ rot (ginv a) 4 ^^^ 99

/-! the reference's way -/
def rbit (a i : Nat) : Nat := a / 2 ^ (i % 8) % 2
def rmulA (a b : Nat) : Nat → Nat
  | 0 => 0
  | i + 1 => if rbit b i = 1 then rmulA a b i ^^^ (a * 2 ^ i) else rmulA a b i
/-- the rest: k steps from 14 down -/
def rmulB (p : Nat) : Nat → Nat
  | 0 => p
  | k + 1 => if rmulB p k / 2 ^ (14 - k) % 2 = 1 then rmulB p k ^^^ (283 * 2 ^ (6 - k)) else rmulB p k
def rmul (a b : Nat) : Nat := rmulB (rmulA a b 8) 7 % 256
/-- the first i from i on that answers yes; 0: there is none -/
def findGo (p : Nat → Bool) : Nat → Nat → Nat
  | 0, _ => 0
  | f + 1, i => if p i then i else findGo p f (i + 1)
def rinv (a : Nat) : Nat := findGo (fun i => rmul a i == 1) 256 0
def rpowGo (a : Nat) : Nat → Nat
  | 0 => 1
  | k + 1 => rmul (rpowGo a k) a
def rpow (a n : Nat) : Nat := if n = 0 then 1 else if a = 0 then 0 else rpowGo a (n % 255)
/-- k bits from the highest down -/
def rsubGo (b : Nat) : Nat → Nat
  | 0 => 0
  | k + 1 => 2 * rsubGo b k + (rbit b (7 - k) + rbit b (7 - k + 4) + rbit b (7 - k + 5) + rbit b (7 - k + 6) + rbit b (7 - k + 7) + rbit 99 (7 - k)) % 2
def rsub (a : Nat) : Nat := rsubGo (rinv a) 8

/-! what is common -/
def sboxL : List Nat := [99, 124, 119, 123, 242, 107, 111, 197, 48, 1, 103, 43, 254, 215, 171, 118, 202, 130, 201, 125, 250, 89, 71, 240, 173, 212, 162, 175, 156, 164, 114, 192, 183, 253, 147, 38, 54, 63, 247, 204, 52, 165, 229, 241, 113, 216, 49, 21, 4, 199, 35, 195, 24, 150, 5, 154, 7, 18, 128, 226, 235, 39, 178, 117, 9, 131, 44, 26, 27, 110, 90, 160, 82, 59, 214, 179, 41, 227, 47, 132, 83, 209, 0, 237, 32, 252, 177, 91, 106, 203, 190, 57, 74, 76, 88, 207, 208, 239, 170, 251, 67, 77, 51, 133, 69, 249, 2, 127, 80, 60, 159, 168, 81, 163, 64, 143, 146, 157, 56, 245, 188, 182, 218, 33, 16, 255, 243, 210, 205, 12, 19, 236, 95, 151, 68, 23, 196, 167, 126, 61, 100, 93, 25, 115, 96, 129, 79, 220, 34, 42, 144, 136, 70, 238, 184, 20, 222, 94, 11, 219, 224, 50, 58, 10, 73, 6, 36, 92, 194, 211, 172, 98, 145, 149, 228, 121, 231, 200, 55, 109, 141, 213, 78, 169, 108, 86, 244, 234, 101, 122, 174, 8, 186, 120, 37, 46, 28, 166, 180, 198, 232, 221, 116, 31, 75, 189, 139, 138, 112, 62, 181, 102, 72, 3, 246, 14, 97, 53, 87, 185, 134, 193, 29, 158, 225, 248, 152, 17, 105, 217, 142, 148, 155, 30, 135, 233, 206, 85, 40, 223, 140, 161, 137, 13, 191, 230, 66, 104, 65, 153, 45, 15, 176, 84, 187, 22]
def sbox (a : Nat) : Nat := sboxL.getD a 0
def sinv (a : Nat) : Nat := findGo (fun i => sbox i == a) 256 0

theorem gsub_sbox : ∀ a, a < 256 → gsub a = sbox a := by decide +kernel
theorem sbox_lt : ∀ a, a < 256 → sbox a < 256 := by decide +kernel
theorem sinv_sbox : ∀ a, a < 256 → sinv (sbox a) = a := by decide +kernel
theorem sbox_sinv : ∀ a, a < 256 → sbox (sinv a) = a := by decide +kernel
theorem sinv_lt : ∀ a, a < 256 → sinv a < 256 := by decide +kernel
theorem rsub_sbox : ∀ a, a < 256 → rsub a = sbox a := by decide +kernel
theorem rmul_gmul : ∀ a, a < 16 → ∀ b, b < 256 → rmul a b = gmul a b := by decide +kernel
theorem rpow_gpow : ∀ n, n < 16 → rpow 2 n = gpow 2 n := by decide +kernel
theorem gpow_lt : ∀ n, n < 16 → gpow 2 n < 256 := by decide +kernel

end Go.Proofs.Ythcjemcimfbnhaa
