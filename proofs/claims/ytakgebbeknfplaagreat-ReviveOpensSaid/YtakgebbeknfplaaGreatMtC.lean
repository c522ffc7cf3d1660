/-
  KIT OF OURS: append of noughts, as Go's compiler makes of append(b, make([]byte, n)...), onto bytes of the call's own.
  META PAGES: the payload: walk of Encode.
  META PAGES: the reference's payload: walks of RefBytes and Bytes.
-/
import Derived.Test.YtakgebbeknfplaaGreatCtC
import Derived.Lib.AppendZeros
import Derived.Lib.AppendZerosOnto
import Derived.Test.YtakgebbeknfplaaGreatMtA
namespace Go.Proofs.YtakgebbeknfplaaGreat
open Go.RowKit
set_option linter.unusedVariables false

section
variable {P : Program} (w : World)
end
end Go.Proofs.YtakgebbeknfplaaGreat

namespace Go.Proofs.YtakgebbeknfplaaGreat
open Go.RowKit
set_option linter.unusedVariables false

def rowF (ps : List (Nat × Nat)) : Array Value := (ps.flatMap fun p => [Value.int .u64 (p.1 : Int), Value.int .i64 (p.2 : Int)]).toArray
theorem rowF_at : ∀ (ps : List (Nat × Nat)) (j : Nat) (p : Nat × Nat), ps[j]? = some p → (ps.flatMap fun p => [Value.int .u64 (p.1 : Int), Value.int .i64 (p.2 : Int)])[j * 2]? = some (.int .u64 (p.1 : Int)) ∧ (ps.flatMap fun p => [Value.int .u64 (p.1 : Int), Value.int .i64 (p.2 : Int)])[j * 2 + 1]? = some (.int .i64 (p.2 : Int))
  | [], j, p, h => by simp at h
  | q :: ps, 0, p, h => by
    simp only [List.getElem?_cons_zero, Option.some.injEq] at h
    subst h
    exact ⟨rfl, rfl⟩
  | q :: ps, j + 1, p, h => by
    have := rowF_at ps j p (by simpa using h)
    rw [show (j + 1) * 2 = j * 2 + 1 + 1 by omega]
    exact this
def FldB (w : World) (g : Nat) (ps : List (Nat × Nat)) : Prop := w.heap[g]? = some (.cells (rowF ps) 341 (0, 0))
theorem FldB.lt {w : World} {g : Nat} {ps : List (Nat × Nat)} (h : FldB w g ps) : g < w.heap.size := lt_of_block h
theorem FldB.low {w w' : World} {g C : Nat} {ps : List (Nat × Nat)} (h : FldB w g ps) (hb : Below C w w') (hC : g < C) : FldB w' g ps := (hb.block g hC).trans h
theorem FldB.at {w : World} {g : Nat} {ps : List (Nat × Nat)} (h : FldB w g ps) {j : Nat} {p : Nat × Nat} (hj : ps[j]? = some p) : w.cell? ⟨g, j * 2, none⟩ = some (.int .u64 (p.1 : Int)) ∧ w.cell? ⟨g, j * 2 + 1, none⟩ = some (.int .i64 (p.2 : Int)) := by
  have := rowF_at ps j p hj
  rw [cell_of_row w g _ _ _ (0, 0) h, cell_of_row w g _ _ _ (0, 0) h]
  simpa [rowF] using this
end Go.Proofs.YtakgebbeknfplaaGreat

namespace Go.Proofs.YtakgebbeknfplaaGreat
open Go.RowKit
set_option linter.unusedVariables false

end Go.Proofs.YtakgebbeknfplaaGreat
