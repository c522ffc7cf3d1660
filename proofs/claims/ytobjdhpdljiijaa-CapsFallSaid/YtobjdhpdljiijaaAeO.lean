/-
  WALKS: the reference's words of a key.
-/
import Derived.Test.YtobjdhpdljiijaaCtC
import Derived.Test.YtobjdhpdljiijaaAeN
import Derived.Deep.DeepCutAuto
namespace Go.Proofs.Ytobjdhpdljiijaa
open Go.RowKit
set_option linter.unusedVariables false

theorem take_at' {l : List Nat} {p : Nat} (h : p < l.length) : l.take (p + 1) = l.take p ++ [at' l p] := by
  rw [List.take_succ_eq_append_getElem h]
  simp [at', List.getElem?_eq_getElem h]
theorem at'_take {l : List Nat} {n i : Nat} (h : i < n) : at' (l.take n) i = at' l i := by
  simp [at', h]
theorem four_eq {l : List Nat} {a b c d : Nat} (h : l.length = 4) (h0 : at' l 0 = a) (h1 : at' l 1 = b) (h2 : at' l 2 = c) (h3 : at' l 3 = d) : l = [a, b, c, d] := by
  apply List.ext_getElem (by simp [h])
  intro i i1 i2
  have hi : i < 4 := by simpa using i2
  have e : l[i] = at' l i := by simp [at', List.getElem?_eq_getElem i1]
  rw [e]
  match i, hi with
  | 0, _ => exact h0
  | 1, _ => exact h1
  | 2, _ => exact h2
  | 3, _ => exact h3
theorem byt4 {a b c d : Nat} (h0 : a < 256) (h1 : b < 256) (h2 : c < 256) (h3 : d < 256) : Byt [a, b, c, d] := by
  intro x hx
  simp only [List.mem_cons, List.not_mem_nil, or_false] at hx
  rcases hx with rfl | rfl | rfl | rfl <;> assumption
theorem Byt.take {l : List Nat} (h : Byt l) (n : Nat) : Byt (l.take n) := fun x hx => h x (List.mem_of_mem_take hx)
/-- behind i words of the key's -/
structure WordsSt (B : Nat) (w0 w : World) (v : Value) (E : List Nat) (m : Nat) : Prop where
  own : OwB w B v (E.take m)
  below : Below B w0 w

end Go.Proofs.Ytobjdhpdljiijaa
