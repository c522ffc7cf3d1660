/-
  WALKS: octet.Xor and octet.Same; the reference's Bit and Add (ref04).
-/
import Derived.Test.YtobjdhpdljiijaaGhT
import Derived.Test.YtobjdhpdljiijaaGcP
import Derived.Test.YtobjdhpdljiijaaCtF
namespace Go.Proofs.Ytobjdhpdljiijaa
open Go.RowKit
set_option linter.unusedVariables false

theorem xor_zero_iff (a b : Nat) : a ^^^ b = 0 ↔ a = b := by
  constructor
  · intro h
    have := xor_cancel a b
    rw [h, Nat.zero_xor] at this
    exact this.symm
  · intro h; rw [h, Nat.xor_self]
def offB (la lb : List Nat) : Nat → Nat
  | 0 => 0
  | i + 1 => offB la lb i ||| (at' la i ^^^ at' lb i)
theorem offB_lt {la lb : List Nat} (ha : Byt la) (hb : Byt lb) (i : Nat) : offB la lb i < 256 := by
  induction i with
  | zero => exact (by decide : 0 < 256)
  | succ i ih => exact Nat.or_lt_two_pow (n := 8) ih (Nat.xor_lt_two_pow (n := 8) (ha.at' i) (hb.at' i))
theorem offB_zero {la lb : List Nat} (n : Nat) : offB la lb n = 0 ↔ ∀ i, i < n → at' la i = at' lb i := by
  induction n with
  | zero => simp [offB]
  | succ n ih =>
    rw [offB, Nat.or_eq_zero_iff, ih, xor_zero_iff]
    constructor
    · intro ⟨h1, h2⟩ i hi
      by_cases e : i = n
      · rw [e]; exact h2
      · exact h1 i (by omega)
    · intro h
      exact ⟨fun i hi => h i (by omega), h n (by omega)⟩
end Go.Proofs.Ytobjdhpdljiijaa
