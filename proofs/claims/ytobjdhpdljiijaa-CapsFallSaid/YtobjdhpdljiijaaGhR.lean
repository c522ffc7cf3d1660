/-
  WALKS: the reference's Mul (ref04).
-/
import Derived.Test.YtobjdhpdljiijaaGcB
namespace Go.Proofs.Ytobjdhpdljiijaa
open Go.RowKit
set_option linter.unusedVariables false

/-- integers as cells -/
def its (l : List Nat) : Array Value := (l.map (fun n : Nat => Value.int .i64 (n : Int))).toArray
section
variable {w w' : World} {b : Nat} {l : List Nat}
theorem its_get (l : List Nat) (k : Nat) (h : k < l.length) : (its l)[k]? = some (.int .i64 (at' l k : Nat)) := by simp [its, at', List.getElem?_eq_getElem h]
theorem its_set (l : List Nat) (k n : Nat) : (its l).setIfInBounds k (.int .i64 (n : Int)) = its (l.set k n) := by simp [its, List.map_set]
end
theorem bits_xor_i64' (a b : Nat) (ha : a ≤ 1) (hb : b ≤ 1) : bits .xor .i64 (a : Int) (b : Int) = ((a ^^^ b : Nat) : Int) := bits_xor_i64 a b (by omega) (by omega)
section
variable {B : Nat} {w0 w w' : World} {x y l : List Nat}
end
end Go.Proofs.Ytobjdhpdljiijaa
