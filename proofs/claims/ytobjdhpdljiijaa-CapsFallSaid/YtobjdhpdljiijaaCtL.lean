/-
  FOR THE LAWS of layer 5: the refusals; what is known.
  CtrCrypts: the walk.
  CtrBlocks and CtrBack: the walks.
  CtrBack: the walk.
-/
import Derived.Test.YtobjdhpdljiijaaCtH
import Derived.Test.YtobjdhpdljiijaaCtC
import Derived.Test.YtobjdhpdljiijaaWid3
namespace Go.Proofs.Ytobjdhpdljiijaa
open Go.RowKit
set_option linter.unusedVariables false

def ctC : List Nat := [0x03, 0x88, 0xda, 0xce, 0x60, 0xb6, 0xa3, 0x92, 0xf3, 0x28, 0xc2, 0xb9, 0x71, 0xb2, 0xfe, 0x78]
theorem ct_known : cryptA (zeros 16) (zeros 12) (zeros 16) = ctC := by decide +kernel

theorem ct_str : ((strOf ctC).toList == [3, 136, 218, 206, 96, 182, 163, 146, 243, 40, 194, 185, 113, 178, 254, 120]) = true := by decide +kernel
/-- the bytes of an error, and what has been handed back -/
theorem OutB.form {w w' : World} {l : List Nat} {err : Nat} {e : Ending} (h : OutB w l err e w') : ∃ A c, e = .returned (.tuple #[.slice A l.length c, .int .i64 (err : Int)]) ∧ IsB w' A l.length c l ∧ Below w.heap.size w w' := by
  obtain ⟨v, rfl, ho, hb⟩ := h
  obtain ⟨A, c, rfl, h1, h2⟩ := ho.shape
  exact ⟨A, c, rfl, ho.isB rfl, hb⟩

/-! the refusals -/
end Go.Proofs.Ytobjdhpdljiijaa

namespace Go.Proofs.Ytobjdhpdljiijaa
open Go.RowKit
set_option linter.unusedVariables false

end Go.Proofs.Ytobjdhpdljiijaa

namespace Go.Proofs.Ytobjdhpdljiijaa
open Go.RowKit
set_option linter.unusedVariables false

end Go.Proofs.Ytobjdhpdljiijaa

namespace Go.Proofs.Ytobjdhpdljiijaa
open Go.RowKit
set_option linter.unusedVariables false

theorem IsB.take {w : World} {A : Option Addr} {n c : Nat} {l : List Nat} (h : IsB w A n c l) {m : Nat} (hm : m ≤ n) : IsB w A m c (l.take m) := by
  have := h.1.take hm
  rw [← List.map_take] at this
  exact ⟨this, byt_take h.2 m⟩
end Go.Proofs.Ytobjdhpdljiijaa
