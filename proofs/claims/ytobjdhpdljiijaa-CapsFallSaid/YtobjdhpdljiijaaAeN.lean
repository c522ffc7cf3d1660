/-
  WALKS: the reference's steps: add, moved, column.
-/
import Derived.Test.YtobjdhpdljiijaaAeL
import Derived.Deep.DeepCutAuto
namespace Go.Proofs.Ytobjdhpdljiijaa
open Go.RowKit
set_option linter.unusedVariables false

/-- bytes from a block's head on -/
structure Rw (w : World) (g : Nat) (W : List Nat) : Prop where
  lt : g < w.heap.size
  cell : ∀ i, i < W.length → w.cell? ⟨g, i, none⟩ = some (.int .u8 (at' W i : Nat))
theorem Rw.below {w w' : World} {g B : Nat} {W : List Nat} (h : Rw w g W) (hb : Below B w w') (hB : g < B) (hs : w.heap.size ≤ w'.heap.size := by exact Below.size (by assumption)) : Rw w' g W :=
  ⟨Nat.lt_of_lt_of_le h.lt hs, fun i hi => (hb.cell (p := ⟨g, i, none⟩) hB).trans (h.cell i hi)⟩
theorem Rw.ab {w w' : World} {g : Nat} {W : List Nat} (h : Rw w g W) (hb : Below w.heap.size w w') : Rw w' g W :=
  ⟨Nat.lt_of_lt_of_le h.lt hb.size, fun i hi => (hb.cell (p := ⟨g, i, none⟩) h.lt).trans (h.cell i hi)⟩

/-- p rows are moved, and q of the next -/
def movL (F : Nat → Nat) (p q : Nat) : List Nat := (List.range 16).map fun i => if i % 4 < p ∨ i % 4 = p ∧ i / 4 < q then F i else 0
theorem movL_len (F : Nat → Nat) (p q : Nat) : (movL F p q).length = 16 := by simp [movL]
theorem movL_zero (F : Nat → Nat) : movL F 0 0 = z16 := rfl
theorem movL_step (F : Nat → Nat) (p q : Nat) (hp : p < 4) (hq : q < 4) : (movL F p q).set (4 * q + p) (F (4 * q + p)) = movL F p (q + 1) := by
  apply List.ext_getElem (by simp [movL])
  intro i h1 h2
  rw [List.getElem_set]
  simp only [movL, List.getElem_map, List.getElem_range]
  have hi : i < 16 := by rw [movL_len] at h2; exact h2
  by_cases h : 4 * q + p = i
  · rw [if_pos h, if_pos (by omega), h]
  · rw [if_neg h]
    have e : (i % 4 < p ∨ i % 4 = p ∧ i / 4 < q + 1) ↔ (i % 4 < p ∨ i % 4 = p ∧ i / 4 < q) := by omega
    simp only [e]
theorem movL_next (F : Nat → Nat) (p : Nat) : movL F p 4 = movL F (p + 1) 0 := by
  apply List.ext_getElem (by simp [movL])
  intro i h1 h2
  simp only [movL, List.getElem_map, List.getElem_range]
  have hi : i < 16 := by rw [movL_len] at h2; exact h2
  have e : (i % 4 < p ∨ i % 4 = p ∧ i / 4 < 4) ↔ (i % 4 < p + 1 ∨ i % 4 = p + 1 ∧ i / 4 < 0) := by omega
  simp only [e]
theorem movL_all (F : Nat → Nat) : movL F 4 0 = (List.range 16).map F := by
  unfold movL
  refine List.map_congr_left fun i hi => ?_
  have : i < 16 := by simpa using hi
  rw [if_pos (by omega)]
end Go.Proofs.Ytobjdhpdljiijaa
