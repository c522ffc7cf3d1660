/-
  WALKS: (element).times.
-/
import Derived.Test.YtobjdhpdljiijaaGhA
import Derived.BigRegion
namespace Go.Proofs.Ytobjdhpdljiijaa
open Go.RowKit
set_option linter.unusedVariables false

section
variable {w w' : World} {g h l : Nat}
end
theorem and_one (m : Nat) (hm : m < 18446744073709551616) : bits .and .u64 (m : Int) 1 = ((m % 2 : Nat) : Int) := by
  show IntKind.u64.wrap ((BitVec.ofInt 64 (m : Int) &&& BitVec.ofInt 64 1).toNat : Int) = _
  rw [BitVec.toNat_and, BitVec.ofInt_natCast, BitVec.toNat_ofNat, Nat.mod_eq_of_lt (by omega)]
  have e : (BitVec.ofInt 64 1).toNat = 1 := rfl
  rw [e, Nat.and_one_is_mod]
  exact wrap_u64' (n := 2) (by decide) _ (by omega) (by omega)
theorem xor_u64 (a b : Nat) (ha : a < 18446744073709551616) (hb : b < 18446744073709551616) : bits .xor .u64 (a : Int) (b : Int) = ((a ^^^ b : Nat) : Int) := by
  have h : a ^^^ b < 2 ^ 64 := Nat.xor_lt_two_pow ha hb
  show IntKind.u64.wrap ((BitVec.ofInt 64 (a : Int) ^^^ BitVec.ofInt 64 (b : Int)).toNat : Int) = _
  rw [BitVec.toNat_xor, BitVec.ofInt_natCast, BitVec.ofInt_natCast, BitVec.toNat_ofNat, BitVec.toNat_ofNat, Nat.mod_eq_of_lt (by omega), Nat.mod_eq_of_lt (by omega)]
  exact wrap_u64' h _ (Int.natCast_nonneg _) (Int.le_refl _)

theorem bit_test (m s : Nat) (hm : m < 18446744073709551616) : (bits .and .u64 ((m : Int) / 2 ^ s) 1 != 0) = m.testBit s := by
  have e : (m : Int) / 2 ^ s = ((m / 2 ^ s : Nat) : Int) := by simp
  have hl : m / 2 ^ s ≤ m := Nat.div_le_self _ _
  rw [e, and_one _ (by omega), Nat.testBit, Nat.shiftRight_eq_div_pow, Nat.one_and_eq_mod_two]
  rcases Nat.mod_two_eq_zero_or_one (m / 2 ^ s) with h | h <;> rw [h] <;> rfl
theorem odd_test (m : Nat) (hm : m < 18446744073709551616) : (bits .and .u64 (m : Int) 1 != 0) = decide (m % 2 = 1) := by
  rw [and_one _ hm]
  rcases Nat.mod_two_eq_zero_or_one m with h | h <;> rw [h] <;> rfl
theorem low_word (a b : Nat) (ha : a < 18446744073709551616) (hb : b < 18446744073709551616) : bits .or .u64 ((b / 2 : Nat) : Int) (IntKind.u64.wrap ((a : Int) * 9223372036854775808)) = ((b / 2 + a % 2 * 2 ^ 63 : Nat) : Int) := by
  have e : IntKind.u64.wrap ((a : Int) * 9223372036854775808) = ((a % 2 * 2 ^ 63 : Nat) : Int) := by
    show ((a : Int) * 9223372036854775808) % 18446744073709551616 = _
    omega
  rw [e, or_u64 _ _ (by omega) (by omega)]
  have := Nat.shiftLeft_add_eq_or_of_lt (a := a % 2) (b := b / 2) (i := 63) (by omega)
  rw [Nat.shiftLeft_eq] at this
  rw [Nat.or_comm, ← this, Nat.add_comm]
theorem gW_eq : gW = 16212958658533785600 := by decide +kernel
theorem high_word (a : Nat) (ha : a < 18446744073709551616) : bits .xor .u64 ((a / 2 : Nat) : Int) 16212958658533785600 = ((a / 2 ^^^ gW : Nat) : Int) := by
  have := xor_u64 (a / 2) gW (by omega) (by rw [gW_eq]; decide)
  rw [← this, gW_eq]
  rfl
section
variable {B xh xl a b c d : Nat} {w0 w : World}
end
theorem xor_lt64 {a b : Nat} (ha : a < 18446744073709551616) (hb : b < 18446744073709551616) : a ^^^ b < 18446744073709551616 := Nat.xor_lt_two_pow (n := 64) ha hb
theorem tm_odd {a b i Y : Nat} (hb : b < 18446744073709551616) (h : N2 a b = pw i Y) (ho : b % 2 = 1) : N2 (a / 2 ^^^ gW) (b / 2 + a % 2 * 2 ^ 63) = pw (i + 1) Y := by
  have := N2_mulX a b hb
  rw [if_pos ho, h] at this
  exact this
theorem tm_even {a b i Y : Nat} (hb : b < 18446744073709551616) (h : N2 a b = pw i Y) (ho : ¬ b % 2 = 1) : N2 (a / 2) (b / 2 + a % 2 * 2 ^ 63) = pw (i + 1) Y := by
  have := N2_mulX a b hb
  rw [if_neg ho, h, Nat.xor_zero] at this
  exact this
theorem tm_in {a b c d i X Y : Nat} (hb : b < 18446744073709551616) (hd : d < 18446744073709551616) (h : N2 a b = pw i Y) (hz : N2 c d = mid X Y i) (hx : bitX X i = true) : N2 (c ^^^ a) (d ^^^ b) = mid X Y (i + 1) := by
  rw [N2_xor hd hb, h, hz, mid_step, hx]
  rfl
theorem tm_out {c d i X Y : Nat} (hz : N2 c d = mid X Y i) (hx : bitX X i = false) : N2 c d = mid X Y (i + 1) := by
  rw [hz, mid_step, hx]
  exact (Nat.xor_zero _).symm
end Go.Proofs.Ytobjdhpdljiijaa
