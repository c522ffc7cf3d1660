/-
  WALKS: the reference's Sum (ref04).
-/
import Derived.Test.YtobjdhpdljiijaaGhR
import Derived.Test.YtobjdhpdljiijaaGcP
import Derived.Test.YtobjdhpdljiijaaWid3
namespace Go.Proofs.Ytobjdhpdljiijaa
open Go.RowKit
set_option linter.unusedVariables false

theorem eval_get (a : Act) (t : Nat) : a.tmps[t]?.getD undef = a.eval (.tmp t) := by simp [Act.eval]
/-- all that is absorbed -/
def allB (aad text : List Nat) : List Nat := full aad ++ full text ++ digB (8 * aad.length) 8 ++ digB (8 * text.length) 8
theorem allB_len (aad text : List Nat) : ∃ M, (allB aad text).length = 16 * M := by
  obtain ⟨n, hn⟩ := full_len aad
  obtain ⟨m, hm⟩ := full_len text
  exact ⟨n + m + 1, by simp only [allB, List.length_append, digB_len, hn, hm]; omega⟩
theorem full_le (l : List Nat) : (full l).length ≤ l.length + 16 := by simp [full, zeros_len]; omega
theorem allB_le (aad text : List Nat) : (allB aad text).length ≤ aad.length + text.length + 48 := by
  have := full_le aad
  have := full_le text
  simp only [allB, List.length_append, digB_len]
  omega
theorem allB_byt {aad text : List Nat} (ha : Byt aad) (ht : Byt text) : Byt (allB aad text) := byt_app (byt_app (byt_app (full_byt ha) (full_byt ht)) (digB_byt _ _)) (digB_byt _ _)
theorem allB_sum (X : Nat) {aad text : List Nat} (ha : 8 * aad.length < 2 ^ 64) (ht : 8 * text.length < 2 ^ 64) : hsum X aad text = absorb X 0 (allB aad text) := by
  rw [hsum_ref X aad text ha ht, allB, List.append_assoc]
  simp only [List.append_assoc]
section
variable {B gs : Nat} {w0 w w' : World} {H : List Nat} {A : Option Addr} {N c : Nat} {L S : List Nat}
end
/-- the sum behind q blocks -/
def qS (X : Nat) (L : List Nat) (q : Nat) : Nat := absorb X 0 (L.take (16 * q))
def qB (L : List Nat) (q : Nat) : List Nat := (L.drop (16 * q)).take 16
theorem qB_len {L : List Nat} {q : Nat} (h : 16 * (q + 1) ≤ L.length) : (qB L q).length = 16 := by simp [qB]; omega
theorem qB_byt {L : List Nat} (h : Byt L) (q : Nat) : Byt (qB L q) := byt_take (byt_drop h _) _
theorem qB_at {L : List Nat} {q k : Nat} (h : k < 16) : at' (qB L q) k = at' L (16 * q + k) := by rw [qB, at'_take8 h, at'_drop]
theorem qS_lt {X : Nat} (hX : X < 2 ^ 128) (L : List Nat) (q : Nat) : qS X L q < 2 ^ 128 := absorb_lt hX _ 0 _ (Nat.le_refl _) (by decide)
theorem qS_step (X : Nat) {L : List Nat} {q : Nat} (h : 16 * (q + 1) ≤ L.length) : qS X L (q + 1) = hmul (qS X L q ^^^ numB (qB L q)) X := by
  unfold qS
  rw [show 16 * (q + 1) = 16 * q + 16 by omega, List.take_add]
  show absorb X 0 (L.take (16 * q) ++ qB L q) = _
  rw [absorb_snoc X 0 q (by simp; omega) (qB_len h)]
theorem digB_num (X : Nat) (h : X < 2 ^ 128) : numB (digB X 16) = X := numB_digB X 16 (by rw [show (256 : Nat) ^ 16 = 2 ^ 128 by decide]; exact h)
theorem qS_bytes {X : Nat} (hX : X < 2 ^ 128) {L : List Nat} (hL : Byt L) {q : Nat} (h : 16 * (q + 1) ≤ L.length) : digB (hmul (numB (xorL (digB (qS X L q) 16) (qB L q))) X) 16 = digB (qS X L (q + 1)) 16 := by
  rw [numB_xorL (digB_byt _ _) (qB_byt hL q) (by rw [digB_len, qB_len h]), digB_num _ (qS_lt hX L q), qS_step X h]
end Go.Proofs.Ytobjdhpdljiijaa
