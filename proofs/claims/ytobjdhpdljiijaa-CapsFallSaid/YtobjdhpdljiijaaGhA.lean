/-
  WALKS: ghash.of, (element).bytes: sixteen bytes and two words.
-/
import Derived.Test.YtobjdhpdljiijaaCtC
import Derived.Test.YtobjdhpdljiijaaLaC
import Derived.Test.YtobjdhpdljiijaaGhP
namespace Go.Proofs.Ytobjdhpdljiijaa
open Go.RowKit
set_option linter.unusedVariables false

/-- two words as cells -/
def el (n : Nat) : Array Value := #[.int .u64 ((n / 18446744073709551616 : Nat) : Int), .int .u64 ((n % 18446744073709551616 : Nat) : Int)]
def e2 (h l : Nat) : Array Value := #[.int .u64 (h : Int), .int .u64 (l : Int)]
theorem el_N2 {h l : Nat} (hl : l < 18446744073709551616) : el (N2 h l) = e2 h l := by
  unfold el e2 N2
  rw [show (2 ^ 64 * h + l) / 18446744073709551616 = h by omega, show (2 ^ 64 * h + l) % 18446744073709551616 = l by omega]
theorem numB_two {l : List Nat} (hl : l.length = 16) : numB l = N2 (numB (l.take 8)) (numB (l.drop 8)) := by
  have := numB_app (l.take 8) (l.drop 8)
  rw [List.take_append_drop] at this
  rw [this, show (l.drop 8).length = 8 by simp [hl]]
  rfl
theorem numB_lt8 {l : List Nat} (hb : Byt l) (hl : l.length = 8) : numB l < 18446744073709551616 := by
  have := numB_lt hb
  rw [hl] at this
  exact this
theorem byt_take {l : List Nat} (h : Byt l) (n : Nat) : Byt (l.take n) := fun x hx => h x (List.mem_of_mem_take hx)
theorem byt_drop {l : List Nat} (h : Byt l) (n : Nat) : Byt (l.drop n) := fun x hx => h x (List.mem_of_mem_drop hx)
theorem digB_two {h l : Nat} (hh : h < 18446744073709551616) (hl : l < 18446744073709551616) : digB (N2 h l) 16 = digB h 8 ++ digB l 8 := by
  have h1 := digB_numB (digB h 8 ++ digB l 8) (byt_app (digB_byt h 8) (digB_byt l 8))
  rw [numB_app, digB_len, numB_digB h 8 hh, numB_digB l 8 hl, List.length_append, digB_len, digB_len] at h1
  exact h1
theorem at'_take8 {l : List Nat} {n i : Nat} (h : i < n) : at' (l.take n) i = at' l i := by simp [at', h]
theorem at'_drop (l : List Nat) (n i : Nat) : at' (l.drop n) i = at' l (n + i) := by simp [at', List.getElem?_drop]

/-- a whole block as a slice -/
theorem isB_whole {w : World} {g n : Nat} {t : TypeId} {l : List Nat} (h : Bk w g t l) (hb : Byt l) (hl : l.length = n) (hm : n ≤ 9223372036854775807) : IsB w (some ⟨g, 0, none⟩) n n l := by
  have := h.isB hb n n (by omega) (Nat.le_refl _) hm
  rwa [List.take_of_length_le (by omega)] at this
theorem isB_rowFar {w : World} {A : Option Addr} {n c : Nat} {l : List Nat} (h : IsB w A n c l) {c' : Nat} (hc : ∀ x, A = some x → x.block ≠ c') (cs : Array Value) : IsB (w.setRow c' cs) A n c l :=
  ⟨h.1.keep (by simp) fun x i e hi => World.cell?_of_block (by rw [add_block]; exact setRow_other w c' _ cs (hc x e)), h.2⟩
theorem isB_cellFar {w : World} {A : Option Addr} {n c : Nat} {l : List Nat} (h : IsB w A n c l) {c' j : Nat} (hc : ∀ x, A = some x → x.block ≠ c') (u : Value) : IsB (w.setCell ⟨c', j, none⟩ u) A n c l :=
  ⟨h.1.keep (by simp [World.setCell]) fun x i e hi => World.cell?_of_block (by rw [add_block]; exact Below.heap_setCell w ⟨c', j, none⟩ u _ (hc x e)), h.2⟩
theorem bytes_splice {h l : Nat} (hh : h < 18446744073709551616) (hl : l < 18446744073709551616) :
    z16.take 0 ++ (digB h 8 ++ z16.drop (0 + 8)) = digB h 8 ++ zeros 8 ∧ (digB h 8 ++ zeros 8).take 8 ++ (digB l 8 ++ (digB h 8 ++ zeros 8).drop (8 + 8)) = digB (N2 h l) 16 := by
  refine ⟨rfl, ?_⟩
  rw [digB_two hh hl, List.take_append_of_le_length (by rw [digB_len]; exact Nat.le_refl _), List.take_of_length_le (by rw [digB_len]; exact Nat.le_refl _), List.drop_of_length_le (by simp [digB_len, zeros]), List.append_nil]
end Go.Proofs.Ytobjdhpdljiijaa
