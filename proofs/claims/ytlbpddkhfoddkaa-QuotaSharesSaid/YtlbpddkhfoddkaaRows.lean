/-
  No cell of these rows narrows 'for every input' (looked for: loops, veiled, ifaces, maps, wideKeys, modest, calm, conditions, laid).
  DERIVED. THE GIVEN ROWS OF THIS SEAT. 6 by the template 'for every input the law returns true; each argument reads behind the call as it read before'; 0 by the template 'total and deterministic' (their statements: YtlbpddkhfoddkaaTotals.lean).
  GIVEN WITH THE SEED: the statements are not yours to turn. If you find one false, say at which input.
  Laid BY PROGRAM, IN A SANDBOX (cutbox-rows.mjs): the forced cells as the released guide's own fill.sh prints them over the translation 2d1af049820a3208… (all of the seat's roots in one cut). By AI agents, Wed Nov 11 2026. No macro, syntax, notation, axiom, sorry.
-/
import Derived.Test.YtlbpddkhfoddkaaChecked
import GoSem.Claim
import GoSem.ClaimJoined
import GoSem.ClaimMapViews
import Derived.JoinedTies
import Derived.KernelRfl
namespace Go.Proofs.Ytlbpddkhfoddkaa
/- THE CELL 'sum', in the pinned program and in every row, IS THE sha256 OF THE DUMP (.gsa) THAT YtlbpddkhfoddkaaProg.lean LOADS. Nothing in Lean hashes anything: it is a label: what it is worth is what the hold of that sum in a sandbox is worth. -/
noncomputable def Try.pinned : Pinned := { name := "ytlbpddkhfoddkaa", sum := "2d1af049820a320822743efcc8d0ac62cc80e1d1b6319781b44fbb6992598146", checked := Try.checked }
namespace Rows
def none {H : Type} : Left H := { results := [], args := [] }

/-- 'donjonlaw24.QuotaShares': WHATEVER THE INPUT: true; the input reads as it did. -/
def quotaSharesSpec : ChangeSpec := { name := "quotaShares", fn := fun _ => fun
  | [d1, d2] => { results := [.lit (.bool true)], args := [d1, d2] }
  | _ => none }
def quotaSharesRow : OpenClaim := { program := "ytlbpddkhfoddkaa", sum := "2d1af049820a320822743efcc8d0ac62cc80e1d1b6319781b44fbb6992598146", func := "donjon/donjonlaw24.QuotaShares", spec := "quotaShares", inPlace := ["math.Float64bits"], apart := false }
def QuotaSharesSaid : Prop := quotaSharesRow.holds Try.pinned (OpenSpec.ofChange quotaSharesSpec)

/-- ITS FALSE NEIGHBOUR: 'it returns false'. Refute it at one input. -/
def quotaSharesWrong : ChangeSpec := { name := "quotaShares", fn := fun _ => fun
  | [d1, d2] => { results := [.lit (.bool false)], args := [d1, d2] }
  | _ => none }
def QuotaSharesWrongFalsely : Prop := quotaSharesRow.holds Try.pinned (OpenSpec.ofChange quotaSharesWrong)

/-- 'donjonlaw24.QuotaEnough': WHATEVER THE INPUT: true; the input reads as it did. -/
def quotaEnoughSpec : ChangeSpec := { name := "quotaEnough", fn := fun _ => fun
  | [d1, d2, d3] => { results := [.lit (.bool true)], args := [d1, d2, d3] }
  | _ => none }
def quotaEnoughRow : OpenClaim := { program := "ytlbpddkhfoddkaa", sum := "2d1af049820a320822743efcc8d0ac62cc80e1d1b6319781b44fbb6992598146", func := "donjon/donjonlaw24.QuotaEnough", spec := "quotaEnough", apart := false }
def QuotaEnoughSaid : Prop := quotaEnoughRow.holds Try.pinned (OpenSpec.ofChange quotaEnoughSpec)

/-- ITS FALSE NEIGHBOUR: 'it returns false'. Refute it at one input. -/
def quotaEnoughWrong : ChangeSpec := { name := "quotaEnough", fn := fun _ => fun
  | [d1, d2, d3] => { results := [.lit (.bool false)], args := [d1, d2, d3] }
  | _ => none }
def QuotaEnoughWrongFalsely : Prop := quotaEnoughRow.holds Try.pinned (OpenSpec.ofChange quotaEnoughWrong)

/-- 'donjonlaw24.QuotaCosts': WHATEVER THE INPUT: true; the input reads as it did. -/
def quotaCostsSpec : ChangeSpec := { name := "quotaCosts", fn := fun _ => fun
  | [d1, d2, d3, d4] => { results := [.lit (.bool true)], args := [d1, d2, d3, d4] }
  | _ => none }
def quotaCostsRow : OpenClaim := { program := "ytlbpddkhfoddkaa", sum := "2d1af049820a320822743efcc8d0ac62cc80e1d1b6319781b44fbb6992598146", func := "donjon/donjonlaw24.QuotaCosts", spec := "quotaCosts", unfollowed := true, recurses := true, apart := false }
def QuotaCostsSaid : Prop := quotaCostsRow.holds Try.pinned (OpenSpec.ofChange quotaCostsSpec)

/-- ITS FALSE NEIGHBOUR: 'it returns false'. Refute it at one input. -/
def quotaCostsWrong : ChangeSpec := { name := "quotaCosts", fn := fun _ => fun
  | [d1, d2, d3, d4] => { results := [.lit (.bool false)], args := [d1, d2, d3, d4] }
  | _ => none }
def QuotaCostsWrongFalsely : Prop := quotaCostsRow.holds Try.pinned (OpenSpec.ofChange quotaCostsWrong)

/-- 'donjonlaw24.QuotaOver': WHATEVER THE INPUT: true; the input reads as it did. -/
def quotaOverSpec : ChangeSpec := { name := "quotaOver", fn := fun _ => fun
  | [d1, d2, d3] => { results := [.lit (.bool true)], args := [d1, d2, d3] }
  | _ => none }
def quotaOverRow : OpenClaim := { program := "ytlbpddkhfoddkaa", sum := "2d1af049820a320822743efcc8d0ac62cc80e1d1b6319781b44fbb6992598146", func := "donjon/donjonlaw24.QuotaOver", spec := "quotaOver", unfollowed := true, recurses := true, apart := false }
def QuotaOverSaid : Prop := quotaOverRow.holds Try.pinned (OpenSpec.ofChange quotaOverSpec)

/-- ITS FALSE NEIGHBOUR: 'it returns false'. Refute it at one input. -/
def quotaOverWrong : ChangeSpec := { name := "quotaOver", fn := fun _ => fun
  | [d1, d2, d3] => { results := [.lit (.bool false)], args := [d1, d2, d3] }
  | _ => none }
def QuotaOverWrongFalsely : Prop := quotaOverRow.holds Try.pinned (OpenSpec.ofChange quotaOverWrong)

/-- 'donjonlaw24.QuotaFits': WHATEVER THE INPUT: true; the input reads as it did. -/
def quotaFitsSpec : ChangeSpec := { name := "quotaFits", fn := fun _ => fun
  | [d1, d2] => { results := [.lit (.bool true)], args := [d1, d2] }
  | _ => none }
def quotaFitsRow : OpenClaim := { program := "ytlbpddkhfoddkaa", sum := "2d1af049820a320822743efcc8d0ac62cc80e1d1b6319781b44fbb6992598146", func := "donjon/donjonlaw24.QuotaFits", spec := "quotaFits", unfollowed := true, recurses := true, apart := false }
def QuotaFitsSaid : Prop := quotaFitsRow.holds Try.pinned (OpenSpec.ofChange quotaFitsSpec)

/-- ITS FALSE NEIGHBOUR: 'it returns false'. Refute it at one input. -/
def quotaFitsWrong : ChangeSpec := { name := "quotaFits", fn := fun _ => fun
  | [d1, d2] => { results := [.lit (.bool false)], args := [d1, d2] }
  | _ => none }
def QuotaFitsWrongFalsely : Prop := quotaFitsRow.holds Try.pinned (OpenSpec.ofChange quotaFitsWrong)

/-- 'donjonlaw24.QuotaLess': WHATEVER THE INPUT: true; the input reads as it did. -/
def quotaLessSpec : ChangeSpec := { name := "quotaLess", fn := fun _ => fun
  | [d1, d2] => { results := [.lit (.bool true)], args := [d1, d2] }
  | _ => none }
def quotaLessRow : OpenClaim := { program := "ytlbpddkhfoddkaa", sum := "2d1af049820a320822743efcc8d0ac62cc80e1d1b6319781b44fbb6992598146", func := "donjon/donjonlaw24.QuotaLess", spec := "quotaLess", unfollowed := true, recurses := true, apart := false }
def QuotaLessSaid : Prop := quotaLessRow.holds Try.pinned (OpenSpec.ofChange quotaLessSpec)

/-- ITS FALSE NEIGHBOUR: 'it returns false'. Refute it at one input. -/
def quotaLessWrong : ChangeSpec := { name := "quotaLess", fn := fun _ => fun
  | [d1, d2] => { results := [.lit (.bool false)], args := [d1, d2] }
  | _ => none }
def QuotaLessWrongFalsely : Prop := quotaLessRow.holds Try.pinned (OpenSpec.ofChange quotaLessWrong)

/- THE SECOND FORM. 'bulk': how many values and letters a reading holds, each counted each time it is reached (what is shared counts as often as it is met; a slice's spare places count too). A statement '..UptoSaid' is the law's where the arguments, and the package variables that the reading takes, are together of bulk at most 1048576: NARROWER than '..Said'. Prove '..Said' where nothing that the law and all that it calls make is longer than what came in: it says more and counts as full. Else prove '..UptoSaid'. A law counts once. -/
mutual
def uptoBulk {H : Type} : DataW H → Nat
  | .lit (.string bytes) => bytes.length + 1
  | .lit _ => 1
  | .nil => 1
  | .ptr d => uptoBulk d + 1
  | .slice elems spare => uptoBulkAll elems + uptoBulkAll spare + 1
  | .agg parts => uptoBulkAll parts + 1
  | .iface _ d => uptoBulk d + 1
  | .map entries => uptoBulkEntries entries + 1
  | .held _ => 1
def uptoBulkAll {H : Type} : List (DataW H) → Nat
  | [] => 0
  | d :: r => uptoBulk d + uptoBulkAll r
def uptoBulkEntries {H : Type} : List (Lit × DataW H) → Nat
  | [] => 0
  | x :: r => uptoBulkEntry x + uptoBulkEntries r
def uptoBulkEntry {H : Type} : Lit × DataW H → Nat
  | (.string bytes, d) => bytes.length + uptoBulk d + 1
  | (_, d) => uptoBulk d + 1
 end
def uptoSmall : (H : Type) → List (DataW H) → Bool := fun _ ds => decide (uptoBulkAll ds ≤ 1048576)
def OpenSpec.upto (s : _root_.Go.ChangeSpec) : _root_.Go.OpenSpec := { _root_.Go.OpenSpec.ofChange s with cond := some uptoSmall }

/-- 'donjonlaw24.QuotaShares', WHERE WHAT IT READS IS OF BULK AT MOST 1048576: true; the input reads as it did. -/
def quotaSharesUptoRow : OpenClaim := { program := "ytlbpddkhfoddkaa", sum := "2d1af049820a320822743efcc8d0ac62cc80e1d1b6319781b44fbb6992598146", func := "donjon/donjonlaw24.QuotaShares", spec := "quotaShares", inPlace := ["math.Float64bits"], apart := false, narrowed := true }
def QuotaSharesUptoSaid : Prop := quotaSharesUptoRow.holds Try.pinned (OpenSpec.upto quotaSharesSpec)

/-- 'donjonlaw24.QuotaEnough', WHERE WHAT IT READS IS OF BULK AT MOST 1048576: true; the input reads as it did. -/
def quotaEnoughUptoRow : OpenClaim := { program := "ytlbpddkhfoddkaa", sum := "2d1af049820a320822743efcc8d0ac62cc80e1d1b6319781b44fbb6992598146", func := "donjon/donjonlaw24.QuotaEnough", spec := "quotaEnough", apart := false, narrowed := true }
def QuotaEnoughUptoSaid : Prop := quotaEnoughUptoRow.holds Try.pinned (OpenSpec.upto quotaEnoughSpec)

/-- 'donjonlaw24.QuotaCosts', WHERE WHAT IT READS IS OF BULK AT MOST 1048576: true; the input reads as it did. -/
def quotaCostsUptoRow : OpenClaim := { program := "ytlbpddkhfoddkaa", sum := "2d1af049820a320822743efcc8d0ac62cc80e1d1b6319781b44fbb6992598146", func := "donjon/donjonlaw24.QuotaCosts", spec := "quotaCosts", unfollowed := true, recurses := true, apart := false, narrowed := true }
def QuotaCostsUptoSaid : Prop := quotaCostsUptoRow.holds Try.pinned (OpenSpec.upto quotaCostsSpec)

/-- 'donjonlaw24.QuotaOver', WHERE WHAT IT READS IS OF BULK AT MOST 1048576: true; the input reads as it did. -/
def quotaOverUptoRow : OpenClaim := { program := "ytlbpddkhfoddkaa", sum := "2d1af049820a320822743efcc8d0ac62cc80e1d1b6319781b44fbb6992598146", func := "donjon/donjonlaw24.QuotaOver", spec := "quotaOver", unfollowed := true, recurses := true, apart := false, narrowed := true }
def QuotaOverUptoSaid : Prop := quotaOverUptoRow.holds Try.pinned (OpenSpec.upto quotaOverSpec)

/-- 'donjonlaw24.QuotaFits', WHERE WHAT IT READS IS OF BULK AT MOST 1048576: true; the input reads as it did. -/
def quotaFitsUptoRow : OpenClaim := { program := "ytlbpddkhfoddkaa", sum := "2d1af049820a320822743efcc8d0ac62cc80e1d1b6319781b44fbb6992598146", func := "donjon/donjonlaw24.QuotaFits", spec := "quotaFits", unfollowed := true, recurses := true, apart := false, narrowed := true }
def QuotaFitsUptoSaid : Prop := quotaFitsUptoRow.holds Try.pinned (OpenSpec.upto quotaFitsSpec)

/-- 'donjonlaw24.QuotaLess', WHERE WHAT IT READS IS OF BULK AT MOST 1048576: true; the input reads as it did. -/
def quotaLessUptoRow : OpenClaim := { program := "ytlbpddkhfoddkaa", sum := "2d1af049820a320822743efcc8d0ac62cc80e1d1b6319781b44fbb6992598146", func := "donjon/donjonlaw24.QuotaLess", spec := "quotaLess", unfollowed := true, recurses := true, apart := false, narrowed := true }
def QuotaLessUptoSaid : Prop := quotaLessUptoRow.holds Try.pinned (OpenSpec.upto quotaLessSpec)

end Rows
end Go.Proofs.Ytlbpddkhfoddkaa
