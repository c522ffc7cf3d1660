/-
  META PAGES: the walk of known.
  META PAGES: MetaEncodes, MetaDecodes, MetaOnly: the walks.
-/
import Derived.Test.YtakgebbeknfplaaGreatMtP
import Derived.Test.YtakgebbeknfplaaGreatWid6
namespace Go.Proofs.YtakgebbeknfplaaGreat
open Go.RowKit
set_option linter.unusedVariables false

set_option maxRecDepth 100000 in
set_option maxHeartbeats 4000000 in
theorem eq_mp (a b : Mp) (W : World) : (Op.equalIn 10000 63 (.agg #[.int .u64 (a.cm : Int), .int .u32 (a.pg : Int), .int .u64 (a.rc : Int), .int .u16 (a.rg : Int), .int .u8 (a.lv : Int), .int .u16 (a.gn : Int), .int .u32 (a.tn : Int)]) (.agg #[.int .u64 (b.cm : Int), .int .u32 (b.pg : Int), .int .u64 (b.rc : Int), .int .u16 (b.rg : Int), .int .u8 (b.lv : Int), .int .u16 (b.gn : Int), .int .u32 (b.tn : Int)])).run Tryz.prog W = .ok (decide (a = b)) W := by
  obtain ⟨a1, a2, a3, a4, a5, a6, a7⟩ := a
  obtain ⟨b1, b2, b3, b4, b5, b6, b7⟩ := b
  have hd : decide ((⟨a1, a2, a3, a4, a5, a6, a7⟩ : Mp) = ⟨b1, b2, b3, b4, b5, b6, b7⟩) = (decide (a1 = b1) && decide (a2 = b2) && decide (a3 = b3) && decide (a4 = b4) && decide (a5 = b5) && decide (a6 = b6) && decide (a7 = b7)) := by
    rw [← Bool.decide_and, ← Bool.decide_and, ← Bool.decide_and, ← Bool.decide_and, ← Bool.decide_and, ← Bool.decide_and, decide_eq_decide]
    simp [and_assoc]
  rw [hd]
  go_simp
  by_cases h1 : a1 = b1
  · by_cases h2 : a2 = b2
    · by_cases h3 : a3 = b3
      · by_cases h4 : a4 = b4
        · by_cases h5 : a5 = b5
          · by_cases h6 : a6 = b6
            · by_cases h7 : a7 = b7
              · simp [h1, h2, h3, h4, h5, h6, h7]
              · simp [h1, h2, h3, h4, h5, h6, h7]
                omega
            · simp [h1, h2, h3, h4, h5, h6]
              omega
          · simp [h1, h2, h3, h4, h5]
            omega
        · simp [h1, h2, h3, h4]
          omega
      · simp [h1, h2, h3]
        omega
    · simp [h1, h2]
      omega
  · simp [h1]
    omega
/-- a fresh log -/
def NewG (w0 : World) (v : Value) (W : World) : Prop := ∃ g, v = .pointer (some ⟨g, 0, none⟩) ∧ CbB W g 215 #[.slice none 0 0] ∧ w0.heap.size ≤ g
theorem NewG.mono (w0 : World) : Mono (NewG w0) := fun v W W' ⟨g, h1, h2, h3⟩ hb => ⟨g, h1, h2.ab hb, h3⟩
end Go.Proofs.YtakgebbeknfplaaGreat

namespace Go.Proofs.YtakgebbeknfplaaGreat
open Go.RowKit
set_option linter.unusedVariables false

theorem mpv_lit (m : Mp) : mpv m = #[.int .u64 (m.cm : Int), .int .u32 (m.pg : Int), .int .u64 (m.rc : Int), .int .u16 (m.rg : Int), .int .u8 (m.lv : Int), .int .u16 (m.gn : Int), .int .u32 (m.tn : Int)] := rfl
end Go.Proofs.YtakgebbeknfplaaGreat
