/-
  THE MAPS OF Twice: keys of a pair of numbers.
-/
import Derived.Test.YtmeakfocppooiaaTwP
import Derived.Test.YtmeakfocppooiaaLgE
namespace Go.Proofs.Ytmeakfocppooiaa
open Go.RowKit
set_option linter.unusedVariables false

def noV (p : Nat × Nat) : Value := .agg #[.int .u32 (p.1 : Int), .int .u64 (p.2 : Int)]
def noOk (p : Nat × Nat) : Prop := p.1 < 4294967296 ∧ p.2 < 18446744073709551616
theorem no_row : (139 : TypeId) < Try.prog.types.size := of_decide_eq_true (by kernel_rfl)
theorem no_law : WideMaps.KeyLaw Try.prog 139 := deep_law_laid Try.laidOut (m := 2) (by omega) no_row (by kernel_rfl) (by rw [Try.underlying139])
theorem no_wf {p : Nat × Nat} (h : noOk p) : (Lit.int .u32 (p.1 : Int)).wf = true ∧ (Lit.int .u64 (p.2 : Int)).wf = true := by
  obtain ⟨h1, h2⟩ := h
  have e1 : IntKind.u32.min = 0 := rfl
  have e2 : IntKind.u32.max = 4294967295 := rfl
  have e3 : IntKind.u64.min = 0 := rfl
  have e4 : IntKind.u64.max = 18446744073709551615 := rfl
  simp only [Lit.wf, Bool.and_eq_true, decide_eq_true_eq]
  omega
theorem no_lits (n : Nat) {p : Nat × Nat} (h : noOk p) : Try.prog.keyLits (n + 1 + 1) 139 [.int .u32 (p.1 : Int), .int .u64 (p.2 : Int)] = some [.int .u32 (p.1 : Int), .int .u64 (p.2 : Int)] := by
  obtain ⟨h1, h2⟩ := no_wf h
  have c1 : Try.prog.cellsOf 29 = 1 := by kernel_rfl
  have c2 : Try.prog.cellsOf 30 = 1 := by kernel_rfl
  have c3 : Try.prog.cellsOf 139 = 2 := by kernel_rfl
  simp [Program.keyLits, Try.underlying139, Try.underlying29, Try.underlying30, c1, c2, c3, h1, h2]
theorem no_key {p : Nat × Nat} (h : noOk p) : ∃ l, keyOf Try.prog 139 (noV p) = some l := by
  have hex : ∀ m : Nat, 139 < m → ∃ n, m = n + 1 := fun m hm => ⟨m - 1, by omega⟩
  obtain ⟨n, hn⟩ := hex _ no_row
  have hk : Try.prog.keyType 139 = true := by kernel_rfl
  have hf : (noV p).formed Try.prog 139 = true := by
    have c3 : Try.prog.cellsOf 139 = 2 := by kernel_rfl
    simp [Value.formed, noV, Try.underlying139, c3]
  have hl := no_lits n h
  unfold keyOf
  rw [Try.underlying139]
  simp only [hk, hf, Bool.and_self, if_true]
  rw [hn, show (noV p).cells.toList = [.int .u32 (p.1 : Int), .int .u64 (p.2 : Int)] from rfl, hl]
  exact ⟨_, rfl⟩
theorem no_K : KeyK Try.prog 139 noV noOk where
  keyed := Maps.Keyed.of_law no_law
  of := no_key
  inj := fun {x y} h => by
    have h1 := congrArg (fun v : Value => match v with | .agg cs => cs | _ => #[]) h
    simp only [noV] at h1
    simp at h1
    exact Prod.ext (by omega) (by omega)
end Go.Proofs.Ytmeakfocppooiaa
