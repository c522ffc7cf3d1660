/-
  SealBack: the walk.
  SealApart: the walk.
-/
import Derived.Test.YtakgebbeknfplaaGreatSeG
namespace Go.Proofs.YtakgebbeknfplaaGreat
open Go.RowKit
set_option linter.unusedVariables false

theorem headL_same {a b : Lb} (h1 : a.k = b.k) (h2 : a.lv = b.lv) (h3 : a.gn = b.gn) (h4 : a.cm = b.cm) : headL a = headL b := by
  unfold headL headN
  rw [h1, h2, h3, h4]
theorem openS_err {key nonce aad s : List Nat} (hG : GOk key nonce) (ha : aad.length ≤ 65536) (hs : 16 ≤ s.length) (hs2 : s.length ≤ 65552) : (openS key nonce aad s).2 = 60 ∨ (openS key nonce aad s).2 = 0 := by
  unfold openS
  rw [if_pos hG, if_neg (by omega), if_neg (by omega)]
  split
  · exact .inr rfl
  · exact .inl rfl
end Go.Proofs.YtakgebbeknfplaaGreat

namespace Go.Proofs.YtakgebbeknfplaaGreat
open Go.RowKit
set_option linter.unusedVariables false

end Go.Proofs.YtakgebbeknfplaaGreat
