/-
  OPENING: structs that came in, with slices of bytes and integers as fields.
-/
import Derived.Test.YtakgebbeknfplaaGreatLaC
import Derived.ChangeSame
import Derived.ChangeSlices
namespace Go.Proofs.YtakgebbeknfplaaGreat
open Go.RowKit Go.ChangeShapes
set_option linter.unusedVariables false

section
variable {H : Type} {enc : TypeId × Value → H} {P : Program} {W : World}
theorem trod_struct6 {t : TypeId} {f0 f1 f2 f3 f4 f5 : Field} {base : Nat} {spare : Nat → Bool} {held : Bool} {fuel : Nat} {cs : List Value} {x : DataW H × List MemPlace} (ht : P.underlying t = some (.struct #[f0, f1, f2, f3, f4, f5])) (h : DataW.trod enc P W base spare held fuel t cs = some x) :
    ∃ y0 y1 y2 y3 y4 y5 n, x = (.agg [y0.1, y1.1, y2.1, y3.1, y4.1, y5.1], y0.2 ++ (y1.2 ++ (y2.2 ++ (y3.2 ++ (y4.2 ++ y5.2))))) ∧ cs.length = P.cellsOf t ∧ DataW.trod enc P W base spare held n f0.type ((cs.drop f0.offset).take (P.cellsOf f0.type)) = some y0 ∧
      DataW.trod enc P W base spare held n f1.type ((cs.drop f1.offset).take (P.cellsOf f1.type)) = some y1 ∧ DataW.trod enc P W base spare held n f2.type ((cs.drop f2.offset).take (P.cellsOf f2.type)) = some y2 ∧
      DataW.trod enc P W base spare held n f3.type ((cs.drop f3.offset).take (P.cellsOf f3.type)) = some y3 ∧ DataW.trod enc P W base spare held n f4.type ((cs.drop f4.offset).take (P.cellsOf f4.type)) = some y4 ∧
      DataW.trod enc P W base spare held n f5.type ((cs.drop f5.offset).take (P.cellsOf f5.type)) = some y5 := by
  obtain ⟨xs, n, _, rfl, hl, hlen, hf⟩ := DataW.trod_struct ht h
  match xs, hlen with
  | [y0, y1, y2, y3, y4, y5], _ => exact ⟨y0, y1, y2, y3, y4, y5, n, by simp, hl, by simpa using hf 0 f0 rfl, by simpa using hf 1 f1 rfl, by simpa using hf 2 f2 rfl, by simpa using hf 3 f3 rfl, by simpa using hf 4 f4 rfl, by simpa using hf 5 f5 rfl⟩
/-- a slice of bytes in a field -/
theorem isB_trod {t e : TypeId} {fuel : Nat} {cs : List Value} {x : DataW H × List MemPlace} (ht : P.underlying t = some (.slice e)) (he : P.underlying e = some (.int .u8)) (hc : P.cellsOf e = 1)
    (h : DataW.trod enc P W 0 (fun _ => true) true fuel t cs = some x) (hlt : ∀ q ∈ x.2, q.block < W.heap.size) : ∃ A n c l, cs = [.slice A n c] ∧ IsB W A n c l := by
  rcases open_ints ht he hc h with ⟨rfl, rfl⟩ | ⟨a, len, cap, zs, rfl, _, hl, hm, hz, rfl, hcell, hwz⟩
  · exact ⟨none, 0, 0, [], rfl, ⟨rfl, Nat.le_refl _, Nat.zero_le _, fun z hz => by simp at hz, .inl ⟨rfl, rfl⟩⟩, fun x hx => by cases hx⟩
  · have hz' : zs.length = cap := by simpa using hz
    have hrow : IsRow .u8 W (some a) len cap (zs.take len) := ⟨by simp [hz']; omega, hl, hm, fun z hzm => hwz z (List.mem_of_mem_take hzm), .inr ⟨a, rfl, fun h0 => by
      have h1 : MemPlace.cell a.block a.off ∈ MemPlace.row a zs.length := by
        rw [hz']
        exact List.mem_map.2 ⟨0, List.mem_range.2 h0, by simp⟩
      exact hlt _ h1, fun i hi => by
        rw [hcell i (by omega)]
        simp [List.getD_eq_getElem?_getD, hi]⟩⟩
    obtain ⟨l, e, hb⟩ := byt_of_row hrow
    rw [e] at hrow
    exact ⟨some a, len, cap, l, rfl, hrow, hb⟩
theorem int_trod {t : TypeId} {k : IntKind} {fuel : Nat} {cs : List Value} {x : DataW H × List MemPlace} (ht : P.underlying t = some (.int k))
    (h : DataW.trod enc P W 0 (fun _ => true) true fuel t cs = some x) : ∃ z, cs = [.int k z] ∧ (Lit.int k z).wf = true := by
  cases fuel with
  | zero => simp [DataW.trod] at h
  | succ fuel =>
    unfold DataW.trod at h
    rw [ht] at h
    match cs, h with
    | [.int k' n], h =>
      simp only at h
      split at h
      · rename_i hk
        exact ⟨n, by rw [hk.1], hk.2⟩
      · cases h
end
end Go.Proofs.YtakgebbeknfplaaGreat
