/-
  THE REFERENCE's CAPS: all handles that ever were, in memory; At, Alive: walks.
  THE REFERENCE's CAPS: make1, Attach, Give, Check, Clear: walks.
  THE REFERENCE's CAPS: Clear, Below: walks.
  THE REFERENCE's CAPS: Revoke: walk.
-/
import Derived.Test.YtobjdhpdljiijaaCaF
namespace Go.Proofs.Ytobjdhpdljiijaa
open Go.RowKit
set_option linter.unusedVariables false

def hc1 (x : Hdl) : List Value := [.int .u8 (x.r : Int), .int .u64 (x.up : Int), .bool x.on]
def hcs : HL → List Value
  | [] => []
  | x :: r => hc1 x ++ hcs r
theorem hcs_len : ∀ A : HL, (hcs A).length = A.length * 3
  | [] => rfl
  | x :: r => by
    simp only [hcs, hc1, List.length_append, List.length_cons, List.length_nil, hcs_len r]
    omega
theorem hcs_app : ∀ (A C : HL), hcs (A ++ C) = hcs A ++ hcs C
  | [], C => rfl
  | x :: r, C => by simp only [List.cons_append, hcs, hcs_app r C, List.append_assoc]
theorem hcs_at : ∀ (A : HL) (i : Nat) (x : Hdl), A[i]? = some x → ∀ j u, (hc1 x)[j]? = some u → (hcs A)[i * 3 + j]? = some u
  | [], i, x, h, _, _, _ => by simp at h
  | y :: r, 0, x, h, j, u, hj => by
    simp only [List.getElem?_cons_zero, Option.some.injEq] at h
    subst h
    have hl : j < (hc1 y).length := (List.getElem?_eq_some_iff.1 hj).1
    simp only [hcs, Nat.zero_mul, Nat.zero_add]
    rw [List.getElem?_append_left hl]
    exact hj
  | y :: r, i + 1, x, h, j, u, hj => by
    have e : (i + 1) * 3 + j = (hc1 y).length + (i * 3 + j) := by simp only [hc1, List.length_cons, List.length_nil]; omega
    simp only [hcs]
    rw [e, List.getElem?_append_right (by omega), Nat.add_sub_cancel_left]
    exact hcs_at r i x (by simpa using h) j u hj
section
variable {w w' : World} {B g : Nat} {v : Value} {A : HL}
end
def hagg (x : Hdl) : Value := .agg #[.int .u8 (x.r : Int), .int .u64 (x.up : Int), .bool x.on]
def atP (A : HL) (h : Nat) : Hdl × Bool := match atH A h with | some x => (x, true) | none => (⟨0, 0, false⟩, false)
def AtR (w : World) (x : Hdl × Bool) (e : Ending) (w' : World) : Prop := e = .returned (.tuple #[hagg x.1, .bool x.2]) ∧ Below w.heap.size w w'
end Go.Proofs.Ytobjdhpdljiijaa

namespace Go.Proofs.Ytobjdhpdljiijaa
open Go.RowKit
set_option linter.unusedVariables false

end Go.Proofs.Ytobjdhpdljiijaa

namespace Go.Proofs.Ytobjdhpdljiijaa
open Go.RowKit
set_option linter.unusedVariables false

/-- some of them taken back -/
def offL (A : HL) (L : List Nat) : HL := A.mapIdx fun j x => ⟨x.r, x.up, x.on && !decide (j + 1 ∈ L)⟩
theorem offL_len (A : HL) (L : List Nat) : (offL A L).length = A.length := by simp [offL]
theorem offL_at (A : HL) (L : List Nat) (i : Nat) : (offL A L)[i]? = (A[i]?).map fun x => ⟨x.r, x.up, x.on && !decide (i + 1 ∈ L)⟩ := by
  unfold offL
  rw [List.getElem?_mapIdx]
theorem offL_nil (A : HL) : offL A [] = A := by
  apply List.ext_getElem?
  intro i
  rw [offL_at]
  cases A[i]? <;> simp
theorem offL_snoc {A : HL} {L : List Nat} {i : Nat} {x : Hdl} (h : A[i]? = some x) : (offL A L).set i ⟨x.r, x.up, false⟩ = offL A (L ++ [i + 1]) := by
  have hi : i < A.length := (List.getElem?_eq_some_iff.1 h).1
  apply List.ext_getElem?
  intro j
  rw [List.getElem?_set, offL_len]
  by_cases e : i = j
  · subst e
    rw [if_pos rfl, if_pos hi, offL_at, h]
    simp
  · rw [if_neg e, offL_at, offL_at]
    cases A[j]? with
    | none => rfl
    | some y =>
      have : (j + 1 ∈ L ++ [i + 1]) ↔ j + 1 ∈ L := by
        rw [List.mem_append, List.mem_singleton]
        constructor
        · rintro (h | h)
          · exact h
          · omega
        · exact .inl
      simp [this]
theorem offL_clear {A : HL} {L : List Nat} (h : ∀ i, i < A.length → i + 1 ∈ L) : offL A L = clearH A := by
  apply List.ext_getElem?
  intro j
  rw [offL_at]
  unfold clearH
  rw [List.getElem?_map]
  cases hj : A[j]? with
  | none => rfl
  | some y => simp [h j (List.getElem?_eq_some_iff.1 hj).1]
theorem offL_kill {A : HL} {L : List Nat} {v : Nat} (h : ∀ i, i < A.length → (i + 1 ∈ L ↔ klH A v (i + 1) = true)) : offL A L = killH A v := by
  apply List.ext_getElem?
  intro j
  rw [offL_at, killH_at]
  cases hj : A[j]? with
  | none => rfl
  | some y =>
    have h1 := h j (List.getElem?_eq_some_iff.1 hj).1
    unfold klH at h1
    have h2 : decide (j + 1 ∈ L) = (decide (j + 1 = v) || belowH A v (j + 1)) := by
      rw [Bool.eq_iff_iff, decide_eq_true_eq]
      exact h1
    simp only [Option.map_some]
    rw [h2]
theorem hcs_set : ∀ {A : HL} {i : Nat} {x : Hdl}, A[i]? = some x → hcs (A.set i ⟨x.r, x.up, false⟩) = (hcs A).set (i * 3 + 2) (.bool false)
  | [], i, x, h => by simp at h
  | y :: r, 0, x, h => by
    simp only [List.getElem?_cons_zero, Option.some.injEq] at h
    subst h
    simp [hcs, hc1]
  | y :: r, i + 1, x, h => by
    have ih := hcs_set (A := r) (i := i) (x := x) (by simpa using h)
    have e : (i + 1) * 3 + 2 = (hc1 y).length + (i * 3 + 2) := by simp only [hc1, List.length_cons, List.length_nil]; omega
    rw [List.set_cons_succ]
    simp only [hcs]
    rw [ih, e, List.set_append, if_neg (by omega), Nat.add_sub_cancel_left]
theorem row_set {w : World} {B n s g c k : Nat} {e : TypeId} {xs : List Value} (h : w.ownsRow B e s (.slice (some ⟨g, 0, none⟩) n c) n xs) (hk : k < n * s) (u : Value) : (w.setCell ⟨g, k, none⟩ u).ownsRow B e s (.slice (some ⟨g, 0, none⟩) n c) n (xs.set k u) := by
  obtain ⟨hl, h2⟩ := h
  refine ⟨by rw [List.length_set]; exact hl, ?_⟩
  rcases h2 with ⟨h3, _⟩ | ⟨g', cap, cur, h3, hB, hb, hn, hc, hs, ht⟩
  · cases h3
  · injection h3 with h3 _ h4
    injection h3 with h3
    injection h3 with h3
    subst h3 h4
    refine .inr ⟨g, c, cur.setIfInBounds k u, rfl, hB, heap_setCell_same w g k _ _ u hb, hn, hc, by simpa using hs, ?_⟩
    rw [Array.toList_setIfInBounds, List.take_set, ht]
theorem belowF_none {A : HL} {h k : Nat} (ha : atH A k = none) : ∀ n, belowF n A h k = false
  | 0 => rfl
  | n + 1 => by simp [belowF, upH, ha]
end Go.Proofs.Ytobjdhpdljiijaa

namespace Go.Proofs.Ytobjdhpdljiijaa
open Go.RowKit
set_option linter.unusedVariables false

/-- which numbers are to be taken back -/
def gonL (A : HL) (v i : Nat) : List Nat := ((List.range i).map (· + 1)).filter (klH A v)
theorem gonL_succ (A : HL) (v i : Nat) : gonL A v (i + 1) = gonL A v i ++ (bif klH A v (i + 1) then [i + 1] else []) := by
  unfold gonL
  rw [List.range_succ, List.map_append, List.filter_append]
  cases h : klH A v (i + 1) <;> simp [h]
theorem gonL_len (A : HL) (v i : Nat) : (gonL A v i).length ≤ i := by
  unfold gonL
  exact Nat.le_trans (List.length_filter_le _ _) (by simp)
theorem gonL_mem (A : HL) (v i j : Nat) : j + 1 ∈ gonL A v i ↔ j < i ∧ klH A v (j + 1) = true := by
  unfold gonL
  rw [List.mem_filter, List.mem_map]
  constructor
  · rintro ⟨⟨q, h1, h2⟩, h3⟩
    have h4 := List.mem_range.1 h1
    exact ⟨by omega, h3⟩
  · rintro ⟨h1, h2⟩
    exact ⟨⟨j, List.mem_range.2 h1, rfl⟩, h2⟩
theorem gonL_in {A : HL} {v x : Nat} (h : x ∈ gonL A v A.length) : ∃ j, x = j + 1 ∧ j < A.length := by
  unfold gonL at h
  rw [List.mem_filter, List.mem_map] at h
  obtain ⟨⟨q, h1, h2⟩, _⟩ := h
  exact ⟨q, h2.symm, List.mem_range.1 h1⟩
end Go.Proofs.Ytobjdhpdljiijaa
