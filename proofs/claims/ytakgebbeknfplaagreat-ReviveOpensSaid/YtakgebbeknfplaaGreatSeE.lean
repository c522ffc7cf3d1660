/-
  FOR THE LAWS of layer 10: there and back; what is known.
-/
import Derived.Test.YtakgebbeknfplaaGreatSeB
namespace Go.Proofs.YtakgebbeknfplaaGreat
open Go.RowKit
set_option linter.unusedVariables false

theorem lsealA_len (key : List Nat) (l : Lb) {text : List Nat} (h : text.length = 224) : (headL l ++ sealA key (nonceL l) (aadL l) text).length = 256 := by rw [List.length_append, headL_len, sealA_len, h]
theorem lseal_take (l : Lb) (X : List Nat) : (headL l ++ X).take 16 = headL l := by
  have := headL_len l
  rw [List.take_append_of_le_length (by omega), List.take_of_length_le (by omega)]
theorem lseal_drop (l : Lb) (X : List Nat) : (headL l ++ X).drop 16 = X := by
  have := headL_len l
  rw [List.drop_append_of_le_length (by omega), List.drop_of_length_le (by omega), List.nil_append]
theorem openP_seal {key text : List Nat} {l : Lb} (h : SOk key l) (ht : text.length = 224) : openP key l (headL l ++ sealA key (nonceL l) (aadL l) text) = (text, 0) := by
  unfold openP
  rw [if_pos ⟨h, lsealA_len key l ht⟩, lseal_take, if_pos rfl, lseal_drop]
  exact open_seal ⟨h.1, nonceL_len l⟩ (by rw [aadL_len]; decide) (by omega)
theorem openP_other {key text : List Nat} {l m : Lb} (h : SOk key m) (ht : text.length = 224) (hne : headL l ≠ headL m) : openP key m (headL l ++ sealA key (nonceL l) (aadL l) text) = ([], 100) := by
  unfold openP
  rw [if_pos ⟨h, lsealA_len key l ht⟩, lseal_take, if_neg hne]
theorem sealP_ok {key text : List Nat} {l : Lb} (h : SOk key l) (ht : text.length = 224) : sealP key l text = (headL l ++ sealA key (nonceL l) (aadL l) text, 0) := by
  unfold sealP
  rw [if_pos ⟨h, ht⟩]
def kl0 : Lb := ⟨5, 1, 0, 7, 9, 2⟩
def kl1 : Lb := ⟨5, 1, 0, 7, 8, 2⟩
theorem kl0_ok : kl0.Ok := ⟨by decide, by decide, by decide, by decide, by decide, by decide⟩
theorem kl1_ok : kl1.Ok := ⟨by decide, by decide, by decide, by decide, by decide, by decide⟩
theorem kl0_s : SOk (zeros 16) kl0 := ⟨.inl rfl, by decide, by decide⟩
theorem kl1_s : SOk (zeros 16) kl1 := ⟨.inl rfl, by decide, by decide⟩
theorem kl_ne : headL kl0 ≠ headL kl1 := by decide
theorem kl_take (X : List Nat) : (headL kl0 ++ X).take 8 = [67, 72, 84, 49, 1, 0, 0, 2] := by
  rw [List.take_append_of_le_length (by rw [headL_len]; decide)]
  decide
theorem kl_str : ((strOf [67, 72, 84, 49, 1, 0, 0, 2]).toList == [67, 72, 84, 49, 1, 0, 0, 2]) = true := by decide +kernel
theorem kl_str2 : (strOf [67, 72, 84, 49, 1, 0, 0, 2]) = { data := #[67, 72, 84, 49, 1, 0, 0, 2] } := by decide +kernel
/-- a block of six cells -/
def LbR (w : World) (B : Nat) (cs : Array Value) : Prop := w.heap[B]? = some (.cells cs 149 (0, 0))
section
variable {w w' : World} {B : Nat} {cs : Array Value}
theorem LbR.lt (k : LbR w B cs) : B < w.heap.size := lt_of_block k
theorem LbR.ab (k : LbR w B cs) (hb : Below w.heap.size w w') : LbR w' B cs := (hb.block B k.lt).trans k
theorem LbR.far (k : LbR w B cs) {c j : Nat} (hne : B ≠ c) (u : Value) : LbR (w.setCell ⟨c, j, none⟩ u) B cs := (Below.heap_setCell w ⟨c, j, none⟩ u B hne).trans k
theorem LbR.cells {c0 c1 c2 c3 c4 c5 : Value} (k : LbR w B #[c0, c1, c2, c3, c4, c5]) : w.cell? ⟨B, 0, none⟩ = some c0 ∧ w.cell? ⟨B, 1, none⟩ = some c1 ∧ w.cell? ⟨B, 2, none⟩ = some c2 ∧ w.cell? ⟨B, 3, none⟩ = some c3 ∧ w.cell? ⟨B, 4, none⟩ = some c4 ∧ w.cell? ⟨B, 5, none⟩ = some c5 := by
  refine ⟨?_, ?_, ?_, ?_, ?_, ?_⟩ <;> (rw [cell_of_row w B _ _ _ (0, 0) k]; rfl)
end
theorem exec_move {P : Program} {r : Operand → Value} {o : Oper} (x : Operand) (h : o.op = .move x) (w : World) : (execOp r o).run P w = .ok (.value (r x)) w := by
  unfold execOp
  simp only [h, Sem.run_pure]
end Go.Proofs.YtakgebbeknfplaaGreat
