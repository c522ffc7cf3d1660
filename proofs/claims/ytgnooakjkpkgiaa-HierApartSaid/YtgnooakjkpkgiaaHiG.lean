/-
  HierWraps, HierUnwraps: the walks.
-/
import Derived.Test.YtgnooakjkpkgiaaHiC
namespace Go.Proofs.Ytgnooakjkpkgiaa
open Go.RowKit Go.ChangeShapes Go.WideShapes
set_option linter.unusedVariables false

section
variable {H : Type} {enc : TypeId × Value → H} {P : Program} {W : World}
theorem trod_struct3 {t : TypeId} {f0 f1 f2 : Field} {base : Nat} {spare : Nat → Bool} {held : Bool} {fuel : Nat} {cs : List Value} {x : DataW H × List MemPlace} (ht : P.underlying t = some (.struct #[f0, f1, f2])) (h : DataW.trod enc P W base spare held fuel t cs = some x) :
    ∃ y0 y1 y2 n, x = (.agg [y0.1, y1.1, y2.1], y0.2 ++ (y1.2 ++ y2.2)) ∧ cs.length = P.cellsOf t ∧ DataW.trod enc P W base spare held n f0.type ((cs.drop f0.offset).take (P.cellsOf f0.type)) = some y0 ∧
      DataW.trod enc P W base spare held n f1.type ((cs.drop f1.offset).take (P.cellsOf f1.type)) = some y1 ∧ DataW.trod enc P W base spare held n f2.type ((cs.drop f2.offset).take (P.cellsOf f2.type)) = some y2 := by
  obtain ⟨xs, n, _, rfl, hl, hlen, hf⟩ := DataW.trod_struct ht h
  match xs, hlen with
  | [y0, y1, y2], _ => exact ⟨y0, y1, y2, n, by simp, hl, by simpa using hf 0 f0 rfl, by simpa using hf 1 f1 rfl, by simpa using hf 2 f2 rfl⟩
end
theorem array3 {α : Type} {cs : Array α} (h : cs.size = 3) : ∃ c0 c1 c2, cs = #[c0, c1, c2] := by
  obtain ⟨l⟩ := cs
  match l, h with
  | [c0, c1, c2], _ => exact ⟨c0, c1, c2, rfl⟩
theorem nat_wf16 {z : Int} (h : (Lit.int .u16 z).wf = true) : ∃ n : Nat, z = (n : Int) ∧ n < 65536 := by
  simp only [Lit.wf, Bool.and_eq_true, decide_eq_true_eq] at h
  have m1 : IntKind.u16.min = 0 := rfl
  have m2 : IntKind.u16.max = 65535 := rfl
  exact ⟨z.toNat, by omega, by omega⟩
theorem nat_wf32 {z : Int} (h : (Lit.int .u32 z).wf = true) : ∃ n : Nat, z = (n : Int) ∧ n < 4294967296 := by
  simp only [Lit.wf, Bool.and_eq_true, decide_eq_true_eq] at h
  have m1 : IntKind.u32.min = 0 := rfl
  have m2 : IntKind.u32.max = 4294967295 := rfl
  exact ⟨z.toNat, by omega, by omega⟩
theorem nat_wf64 {z : Int} (h : (Lit.int .u64 z).wf = true) : ∃ n : Nat, z = (n : Int) ∧ n < 18446744073709551616 := by
  simp only [Lit.wf, Bool.and_eq_true, decide_eq_true_eq] at h
  have m1 : IntKind.u64.min = 0 := rfl
  have m2 : IntKind.u64.max = 18446744073709551615 := rfl
  exact ⟨z.toNat, by omega, by omega⟩
set_option maxRecDepth 100000 in
theorem open_held {H : Type} {enc : TypeId × Value → H} {W : World} {base : Nat} {v : Value} {d : DataW H} {p : List MemPlace} (hk : Value.okWide Try.prog W .any base 32 v)
    (h : DataW.Trod enc Try.prog W 0 (fun _ => true) true 32 v d p) (hlt : ∀ x ∈ p, x.block < W.heap.size) :
    ∃ (gn cm : Nat) (sA : Option Addr) (sn sc : Nat) (s : List Nat), v = .agg #[.int .u16 (gn : Int), .int .u64 (cm : Int), .slice sA sn sc] ∧ IsB W sA sn sc s ∧ gn < 65536 ∧ cm < 18446744073709551616 := by
  obtain ⟨cs, rfl, hs⟩ := okWide_struct Try.underlying32 hk
  have hc3 : Try.prog.cellsOf 32 = 3 := by kernel_rfl
  rw [hc3] at hs
  obtain ⟨c0, c1, c2, rfl⟩ := array3 hs
  obtain ⟨fuel, hf⟩ := h
  obtain ⟨y0, y1, y2, n, hx, -, h0, h1, h2⟩ := trod_struct3 Try.underlying32 hf
  have cb : Try.prog.cellsOf 27 = 1 := by kernel_rfl
  have c16 : Try.prog.cellsOf 23 = 1 := by kernel_rfl
  have c64 : Try.prog.cellsOf 25 = 1 := by kernel_rfl
  have c8 : Try.prog.cellsOf 5 = 1 := by kernel_rfl
  have hp : p = y0.2 ++ (y1.2 ++ y2.2) := by simpa using congrArg (·.2) hx
  simp only [Value.cells, cb, c16, c64] at h0 h1 h2
  obtain ⟨z, e0, w0⟩ := int_trod Try.underlying23 h0
  obtain ⟨y, e1, w1⟩ := int_trod Try.underlying25 h1
  obtain ⟨sA, sn, sc, s, e2, i2⟩ := isB_trod Try.underlying27 Try.underlying5 c8 h2 (fun q hq => hlt q (by rw [hp]; simp [hq]))
  simp at e0 e1 e2
  subst e0 e1 e2
  obtain ⟨gn, rfl, hg⟩ := nat_wf16 w0
  obtain ⟨cm, rfl, hc⟩ := nat_wf64 w1
  exact ⟨gn, cm, sA, sn, sc, s, rfl, i2, hg, hc⟩
/-- a fresh wrapped key of noughts -/
def NewH (w0 : World) (v : Value) (W : World) : Prop := ∃ g, v = .pointer (some ⟨g, 0, none⟩) ∧ HdB W g #[.int .u16 0, .int .u64 0, .slice none 0 0] ∧ w0.heap.size ≤ g
theorem NewH.mono (w0 : World) : Mono (NewH w0) := fun v W W' ⟨g, h1, h2, h3⟩ hb => ⟨g, h1, h2.ab hb, h3⟩
theorem yields_newH {o : Oper} {a : Act} {W w0 : World} (hr : (execOp a.eval o).run Try.prog W = .ok (.value (.pointer (some ⟨W.heap.size, 0, none⟩))) (W.alloc (.cells #[.int .u16 0, .int .u64 0, .slice none 0 0] 32))) (hb : Below w0.heap.size w0 W) : Yields Try.prog o a W false (NewH w0) :=
  .inl ⟨_, _, hr, ⟨W.heap.size, rfl, heap_alloc_new W _, hb.size⟩, (Below.refl _ _).alloc (Nat.le_refl _) _, fresh_no _ _ _⟩
/-- a wrapped key whose bytes are the call's own -/
def AggO (B gn cm : Nat) (l : List Nat) (v : Value) (W : World) : Prop := ∃ v0, v = .agg #[.int .u16 (gn : Int), .int .u64 (cm : Int), v0] ∧ OwB W B v0 l
theorem AggO.mono (B gn cm : Nat) (l : List Nat) : Mono (AggO B gn cm l) := fun v W W' ⟨v0, h1, h2⟩ hb => ⟨v0, h1, h2.ab hb⟩
def LentR (n : Nat) (l : List Nat) (v : Value) (W : World) : Prop := ∃ g d, v = .slice (some ⟨g, 0, none⟩) n d ∧ LentB W g n d l
theorem LentR.mono (n : Nat) (l : List Nat) : Mono (LentR n l) := fun v W W' ⟨g, d, h1, h2⟩ hb => ⟨g, d, h1, h2.ab hb⟩
def AggL (gn cm n : Nat) (l : List Nat) (v : Value) (W : World) : Prop := ∃ g d, v = .agg #[.int .u16 (gn : Int), .int .u64 (cm : Int), .slice (some ⟨g, 0, none⟩) n d] ∧ LentB W g n d l
theorem AggL.mono (gn cm n : Nat) (l : List Nat) : Mono (AggL gn cm n l) := fun v W W' ⟨g, d, h1, h2⟩ hb => ⟨g, d, h1, h2.ab hb⟩
theorem boxH (w : World) (x : Array Value) : HdB (w.alloc (.cells x 32)) w.heap.size x := heap_alloc_new w _
theorem boxB (w : World) (x : Array Value) : Below w.heap.size w (w.alloc (.cells x 32)) := (Below.refl _ _).alloc (Nat.le_refl _) _
theorem lent_ne {w : World} {g g7 n d : Nat} {l : List Nat} {cs : Array Value} (h : LentB w g n d l) (k : HdB w g7 cs) : g ≠ g7 := by
  intro e
  subst e
  obtain ⟨c0, h⟩ := h.row
  have := h.symm.trans k
  simp at this
end Go.Proofs.Ytgnooakjkpkgiaa
