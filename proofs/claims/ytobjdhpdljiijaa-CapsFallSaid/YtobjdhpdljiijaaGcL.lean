/-
  WALKS: the reference's May, TagOf, Seal and Open (ref06).
  FOR THE LAWS of layer 6: what is known; few; GcmSeals, GcmOpens: the walks.
-/
import Derived.Test.YtobjdhpdljiijaaGhV
import Derived.Test.YtobjdhpdljiijaaCtL
import Derived.Test.YtobjdhpdljiijaaGcT
import Derived.Test.YtobjdhpdljiijaaWid3
namespace Go.Proofs.Ytobjdhpdljiijaa
open Go.RowKit
set_option linter.unusedVariables false

end Go.Proofs.Ytobjdhpdljiijaa

namespace Go.Proofs.Ytobjdhpdljiijaa
open Go.RowKit
set_option linter.unusedVariables false

def gm16 : List Nat := [0x58, 0xe2, 0xfc, 0xce, 0xfa, 0x7e, 0x30, 0x61, 0x36, 0x7f, 0x1d, 0x57, 0xa4, 0xe7, 0x45, 0x5a]
theorem sumB_nil (h : List Nat) : sumB h [] [] = digB (hmul 0 (numB h)) 16 := by
  rw [sumB, hsum, absorb_nil, absorb_nil]
  rfl
theorem gm_known : sealA (zeros 16) (zeros 12) [] [] = gm16 := by
  have hc : cryptA (zeros 16) (zeros 12) [] = [] := rfl
  rw [sealA, hc, tagA, sumB_nil]
  decide +kernel
theorem gm_gok : GOk (zeros 16) (zeros 12) := ⟨.inl rfl, rfl⟩
theorem gm_seal : sealS (zeros 16) (zeros 12) [] [] = (gm16, 0) := by
  unfold sealS
  rw [if_pos gm_gok, if_neg (by decide), gm_known]
theorem gm_open : openS (zeros 16) (zeros 12) [] gm16 = ([], 0) := by
  rw [← gm_known]
  exact open_seal gm_gok (by decide) (by decide)
theorem gm_str : ((strOf gm16).toList == [88, 226, 252, 206, 250, 126, 48, 97, 54, 127, 29, 87, 164, 231, 69, 90]) = true := by decide +kernel
theorem isB_nil (w : World) : IsB w none 0 0 [] := ⟨⟨rfl, Nat.le_refl _, Nat.zero_le _, fun z hz => by simp at hz, .inl ⟨rfl, rfl⟩⟩, fun x hx => by cases hx⟩
theorem exec_assign {P : Program} {r : Operand → Value} {o : Oper} (x : Operand) (h : o.op = .assign x) (w : World) : (execOp r o).run P w = .ok (.value (r x)) w := by
  unfold execOp
  simp only [h, Sem.run_pure]
end Go.Proofs.Ytobjdhpdljiijaa
