/-
  WALKS: aes.New.
-/
import Derived.Test.YtobjdhpdljiijaaAeJ
namespace Go.Proofs.Ytobjdhpdljiijaa
open Go.RowKit
set_option linter.unusedVariables false

/-- a cipher's cells, behind i rounds -/
def cipL (i : Nat) : List Nat := (List.range 512).map fun k => if k < 256 then (if k < i then sbox k else 0) else (if sinv (k - 256) < i then sinv (k - 256) else 0)
def cipC (v : Value) (i : Nat) : Array Value := #[v] ++ bts (cipL i)
theorem cipL_len (i : Nat) : (cipL i).length = 512 := by simp [cipL]
theorem cipL_at (i k : Nat) (h : k < 512) : at' (cipL i) k = if k < 256 then (if k < i then sbox k else 0) else (if sinv (k - 256) < i then sinv (k - 256) else 0) := by
  simp [at', cipL, h]
set_option maxRecDepth 100000 in
theorem cipL_zero : cipL 0 = zeros 512 := by
  show (List.range 512).map _ = List.replicate 512 0
  rw [List.eq_replicate_iff]
  refine ⟨by rw [List.length_map, List.length_range], fun b hb => ?_⟩
  obtain ⟨k, _, rfl⟩ := List.mem_map.1 hb
  split <;> rfl
theorem cipL_step (i : Nat) (hi : i < 256) : ((cipL i).set i (sbox i)).set (256 + sbox i) i = cipL (i + 1) := by
  apply List.ext_getElem (by simp [cipL])
  intro k h1 h2
  have hk : k < 512 := by rw [cipL_len] at h2; exact h2
  have e : ∀ j (h : k < (cipL j).length), (cipL j)[k] = at' (cipL j) k := fun j h => by simp [at', List.getElem?_eq_getElem h]
  have hs := sbox_lt i hi
  rw [List.getElem_set, List.getElem_set]
  rw [e (i + 1) h2, e i (by rw [cipL_len]; exact hk), cipL_at _ _ hk, cipL_at _ _ hk]
  by_cases h1 : 256 + sbox i = k
  · rw [if_pos h1, if_neg (by omega), show k - 256 = sbox i from by omega, sinv_sbox i hi, if_pos (by omega)]
  · rw [if_neg h1]
    by_cases h2 : i = k
    · subst h2
      rw [if_pos rfl, if_pos hi, if_pos (by omega)]
    · rw [if_neg h2]
      by_cases h3 : k < 256
      · rw [if_pos h3, if_pos h3]
        have : (k < i + 1) ↔ k < i := by omega
        simp [this]
      · rw [if_neg h3, if_neg h3]
        have hne : sinv (k - 256) ≠ i := by
          intro e
          have := sbox_sinv (k - 256) (by omega)
          rw [e] at this
          omega
        have : (sinv (k - 256) < i + 1) ↔ sinv (k - 256) < i := by omega
        simp [this]
theorem cipC_get (v : Value) (i k : Nat) (hk : k < 512) : (cipC v i)[k + 1]? = some (.int .u8 (at' (cipL i) k : Nat)) := by
  have := bts_get (cipL i) k (by rw [cipL_len]; exact hk)
  rw [cipC, Array.getElem?_append_right (by simp)]
  simpa [at'] using this
theorem cipC_zero (v : Value) (i : Nat) : (cipC v i)[0]? = some v := by
  rw [cipC, Array.getElem?_append_left (by simp)]
  rfl
theorem cipC_set (v : Value) (l : List Nat) (k x : Nat) : (#[v] ++ bts l).setIfInBounds (k + 1) (.int .u8 (x : Int)) = #[v] ++ bts (l.set k x) := by
  apply Array.toList_inj.1
  simp [bts, List.map_set]
end Go.Proofs.Ytobjdhpdljiijaa
