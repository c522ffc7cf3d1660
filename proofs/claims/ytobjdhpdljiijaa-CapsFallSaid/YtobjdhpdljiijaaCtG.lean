/-
  WALKS: the reference's First and Next (ref05).
-/
import Derived.Test.YtobjdhpdljiijaaCtF
import Derived.Test.YtobjdhpdljiijaaGhA
namespace Go.Proofs.Ytobjdhpdljiijaa
open Go.RowKit
set_option linter.unusedVariables false

theorem upd_same (f : Nat → Nat) (s : List Nat) (k : Nat) (h : ∀ i, i < k → i < s.length → f i = at' s i) : upd f s k = s := by
  refine at'_ext (upd_len f s k) fun i hi => ?_
  rw [upd_len] at hi
  show (upd f s k)[i]?.getD 0 = _
  rw [upd_get f s k i hi]
  by_cases hk : i < k
  · rw [if_pos hk]; exact h i hk hi
  · rw [if_neg hk]; rfl
theorem at_right (l m : List Nat) {j : Nat} (h : l.length ≤ j) : at' (l ++ m) j = at' m (j - l.length) := by simp [at', List.getElem?_append_right h]
theorem firstC_at {l : List Nat} (hl : l.length = 12) {i : Nat} (hi : i < 12) : at' (firstC l) i = at' l i := by simp [firstC, at', List.getElem?_append_left (show i < l.length by omega)]
theorem first_upd {l : List Nat} (hl : l.length = 12) : (upd (at' l) z16 12).set 15 1 = firstC l := by
  refine at'_ext (by rw [List.length_set, upd_len, firstC_len hl]; rfl) fun i hi => ?_
  rw [List.length_set, upd_len] at hi
  have hi : i < 16 := hi
  have e1 : at' ((upd (at' l) z16 12).set 15 1) i = if i = 15 then 1 else at' (upd (at' l) z16 12) i := at_set _ _ _ _ (by rw [upd_len]; decide)
  rw [e1]
  have e2 : at' (upd (at' l) z16 12) i = if i < 12 then at' l i else at' z16 i := upd_get (at' l) z16 12 i hi
  by_cases h15 : i = 15
  · subst h15
    rw [if_pos rfl, firstC, at_right l _ (by omega), hl]
    rfl
  · rw [if_neg h15, e2]
    by_cases h12 : i < 12
    · rw [if_pos h12, firstC_at hl h12]
    · rw [if_neg h12]
      have : i = 12 ∨ i = 13 ∨ i = 14 := by omega
      rcases this with rfl | rfl | rfl <;> (rw [firstC, at_right l _ (by omega), hl]; rfl)

theorem nextC_at_lo {c : List Nat} (lc : c.length = 16) {i : Nat} (hi : i < 12) : at' (nextC c) i = at' c i := by
  have : at' (c.take 12 ++ digB ((numB (c.drop 12) + 1) % 4294967296) 4) i = at' (c.take 12) i := by simp [at', List.getElem?_append_left (show i < (c.take 12).length by simp; omega)]
  rw [nextC, this]
  simp [at', hi]
theorem nextC_at_hi {c : List Nat} (lc : c.length = 16) {i : Nat} : at' (nextC c) (12 + i) = at' (digB ((numB (c.drop 12) + 1) % 4294967296) 4) i := by
  rw [nextC, at_right _ _ (by simp; omega)]
  simp [lc]
end Go.Proofs.Ytobjdhpdljiijaa
