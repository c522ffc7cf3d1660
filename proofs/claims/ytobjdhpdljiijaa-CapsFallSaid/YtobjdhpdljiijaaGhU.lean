/-
  WALKS: ghash.Sum.
  WALKS: ghash.Sum.
-/
import Derived.Test.YtobjdhpdljiijaaGhT
import Derived.Test.YtobjdhpdljiijaaGcB
import Derived.Test.YtobjdhpdljiijaaCtL
import Derived.Test.YtobjdhpdljiijaaGcP
namespace Go.Proofs.Ytobjdhpdljiijaa
open Go.RowKit
set_option linter.unusedVariables false

theorem el_e2 (n : Nat) : el n = e2 (n / 18446744073709551616) (n % 18446744073709551616) := rfl
section
variable {w w' : World} {g n : Nat}
end
/-- s[m:] of bytes: Go keeps the old address where nothing is left of the capacity -/
def dropA (A : Option Addr) (c m : Nat) : Option Addr := if c = m then A else A.map (·.add m)
theorem isB_drop {w : World} {A : Option Addr} {n c : Nat} {l : List Nat} (h : IsB w A n c l) {m : Nat} (hm : m ≤ n) : IsB w (dropA A c m) (n - m) (c - m) (l.drop m) := by
  have := h.1.drop hm
  rw [← List.map_drop] at this
  exact ⟨this, byt_drop h.2 m⟩
end Go.Proofs.Ytobjdhpdljiijaa

namespace Go.Proofs.Ytobjdhpdljiijaa
open Go.RowKit
set_option linter.unusedVariables false

theorem e2_one (p q : Nat) : (e2 p q).all (·.oneCell') = true := by simp [e2, Value.oneCell']
section
variable {w w' : World} {g h l : Nat}
end
section
variable {B g : Nat} {w0 w w' : World} {xh xl sh sl : Nat} {sA tA : Value}
end
theorem blk16 {l : List Nat} {n m : Nat} (hl : l.length = n) (hm : m = Nat.min n 16) : z16.take 0 ++ (l.take m ++ z16.drop (0 + m)) = pad16 (l.take 16) := by
  have e : Nat.min n 16 = min n 16 := rfl
  have h1 : l.take m = l.take 16 := by
    rcases Nat.lt_or_ge n 16 with h | h
    · rw [List.take_of_length_le (by omega), List.take_of_length_le (by omega)]
    · rw [show m = 16 by omega]
  have h2 : z16 = zeros 16 := rfl
  rw [h1, h2, pad16, List.take_zero, List.nil_append, Nat.zero_add]
  congr 1
  unfold zeros
  rw [List.drop_replicate, List.length_take]
  congr 1
  omega
/-- two words of a number -/
theorem el_parts (X : Nat) (hX : X < 2 ^ 128) : ∃ h l : Nat, h < 18446744073709551616 ∧ l < 18446744073709551616 ∧ N2 h l = X ∧ el X = #[.int .u64 (h : Int), .int .u64 (l : Int)] :=
  ⟨X / 18446744073709551616, X % 18446744073709551616, by omega, by omega, by unfold N2; omega, rfl⟩
/-- the sum behind i texts -/
def gS (X : Nat) (aad text : List Nat) : Nat → Nat
  | 0 => 0
  | 1 => absorb X 0 aad
  | _ => absorb X (absorb X 0 aad) text
theorem mul8_wrap (n : Nat) (h : n ≤ 281474976710656) : IntKind.u64.wrap (n : Int) = (n : Int) ∧ IntKind.u64.wrap (8 * (n : Int)) = 8 * (n : Int) :=
  ⟨wrap_u64' (n := n) (by omega) _ (by omega) (by omega), wrap_u64' (n := 8 * n) (by omega) _ (by omega) (by omega)⟩
theorem xor_len (s n : Nat) (hs : s < 18446744073709551616) (h : n ≤ 281474976710656) : bits .xor .u64 (s : Int) (8 * (n : Int)) = ((s ^^^ (8 * n) : Nat) : Int) := by
  have := xor_u64 s (8 * n) hs (by omega)
  rw [← this]
  rfl
end Go.Proofs.Ytobjdhpdljiijaa
