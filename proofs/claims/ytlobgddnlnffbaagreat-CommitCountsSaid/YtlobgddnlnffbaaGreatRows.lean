/-
  No cell of these rows narrows 'for every input' (looked for: loops, veiled, ifaces, maps, wideKeys, modest, calm, conditions, laid).
  DERIVED. THE GIVEN ROWS OF THIS SEAT. 5 by the template 'for every input the law returns true; each argument reads behind the call as it read before'; 0 by the template 'total and deterministic' (their statements: YtlobgddnlnffbaaGreatTotals.lean).
  GIVEN WITH THE SEED: the statements are not yours to turn. If you find one false, say at which input.
  Laid BY PROGRAM, IN A SANDBOX (cutbox-rows.mjs): the forced cells as the released guide's own fill.sh prints them over the translation 485c48e3f6a7373d… (all of the seat's roots in one cut). By AI agents, Wed Nov 11 2026. No macro, syntax, notation, axiom, sorry.
-/
import Derived.Test.YtlobgddnlnffbaaGreatChecked
import GoSem.Claim
import GoSem.ClaimJoined
import GoSem.ClaimMapViews
import Derived.JoinedTies
import Derived.KernelRfl
namespace Go.Proofs.YtlobgddnlnffbaaGreat
/- THE CELL 'sum', in the pinned program and in every row, IS THE sha256 OF THE DUMP (.gsa) THAT YtlobgddnlnffbaaGreatProg.lean LOADS. Nothing in Lean hashes anything: it is a label: what it is worth is what the hold of that sum in a sandbox is worth. -/
noncomputable def Tryz.pinned : Pinned := { name := "ytlobgddnlnffbaagreat", sum := "485c48e3f6a7373db4b7185c23f6894db0edd03d87868dc48a843eb46685d421", checked := Tryz.checked }
namespace Rows
def none {H : Type} : Left H := { results := [], args := [] }

/-- 'donjonlaw20.CommitPlays': WHATEVER THE INPUT: true; the input reads as it did. -/
def commitPlaysSpec : ChangeSpec := { name := "commitPlays", fn := fun _ => fun
  | [d1, d2, d3, d4] => { results := [.lit (.bool true)], args := [d1, d2, d3, d4] }
  | _ => none }
def commitPlaysRow : OpenClaim := { program := "ytlobgddnlnffbaagreat", sum := "485c48e3f6a7373db4b7185c23f6894db0edd03d87868dc48a843eb46685d421", func := "donjon/donjonlaw20.CommitPlays", spec := "commitPlays", unfollowed := true, recurses := true, plainKeys := false, apart := false }
def CommitPlaysSaid : Prop := commitPlaysRow.holds Tryz.pinned (OpenSpec.ofChange commitPlaysSpec)

/-- ITS FALSE NEIGHBOUR: 'it returns false'. Refute it at one input. -/
def commitPlaysWrong : ChangeSpec := { name := "commitPlays", fn := fun _ => fun
  | [d1, d2, d3, d4] => { results := [.lit (.bool false)], args := [d1, d2, d3, d4] }
  | _ => none }
def CommitPlaysWrongFalsely : Prop := commitPlaysRow.holds Tryz.pinned (OpenSpec.ofChange commitPlaysWrong)

/-- 'donjonlaw20.CommitNumbers': WHATEVER THE INPUT: true; the input reads as it did. -/
def commitNumbersSpec : ChangeSpec := { name := "commitNumbers", fn := fun _ => fun
  | [d1, d2, d3, d4] => { results := [.lit (.bool true)], args := [d1, d2, d3, d4] }
  | _ => none }
def commitNumbersRow : OpenClaim := { program := "ytlobgddnlnffbaagreat", sum := "485c48e3f6a7373db4b7185c23f6894db0edd03d87868dc48a843eb46685d421", func := "donjon/donjonlaw20.CommitNumbers", spec := "commitNumbers", unfollowed := true, recurses := true, plainKeys := false, apart := false }
def CommitNumbersSaid : Prop := commitNumbersRow.holds Tryz.pinned (OpenSpec.ofChange commitNumbersSpec)

/-- ITS FALSE NEIGHBOUR: 'it returns false'. Refute it at one input. -/
def commitNumbersWrong : ChangeSpec := { name := "commitNumbers", fn := fun _ => fun
  | [d1, d2, d3, d4] => { results := [.lit (.bool false)], args := [d1, d2, d3, d4] }
  | _ => none }
def CommitNumbersWrongFalsely : Prop := commitNumbersRow.holds Tryz.pinned (OpenSpec.ofChange commitNumbersWrong)

/-- 'donjonlaw20.CommitCounts': WHATEVER THE INPUT: true; the input reads as it did. -/
def commitCountsSpec : ChangeSpec := { name := "commitCounts", fn := fun _ => fun
  | [d1, d2, d3, d4] => { results := [.lit (.bool true)], args := [d1, d2, d3, d4] }
  | _ => none }
def commitCountsRow : OpenClaim := { program := "ytlobgddnlnffbaagreat", sum := "485c48e3f6a7373db4b7185c23f6894db0edd03d87868dc48a843eb46685d421", func := "donjon/donjonlaw20.CommitCounts", spec := "commitCounts", unfollowed := true, recurses := true, plainKeys := false, apart := false }
def CommitCountsSaid : Prop := commitCountsRow.holds Tryz.pinned (OpenSpec.ofChange commitCountsSpec)

/-- ITS FALSE NEIGHBOUR: 'it returns false'. Refute it at one input. -/
def commitCountsWrong : ChangeSpec := { name := "commitCounts", fn := fun _ => fun
  | [d1, d2, d3, d4] => { results := [.lit (.bool false)], args := [d1, d2, d3, d4] }
  | _ => none }
def CommitCountsWrongFalsely : Prop := commitCountsRow.holds Tryz.pinned (OpenSpec.ofChange commitCountsWrong)

/-- 'donjonlaw19.PagerSealed': WHATEVER THE INPUT: true; the input reads as it did. -/
def pagerSealedSpec : ChangeSpec := { name := "pagerSealed", fn := fun _ => fun
  | [d1, d2, d3, d4] => { results := [.lit (.bool true)], args := [d1, d2, d3, d4] }
  | _ => none }
def pagerSealedRow : OpenClaim := { program := "ytlobgddnlnffbaagreat", sum := "485c48e3f6a7373db4b7185c23f6894db0edd03d87868dc48a843eb46685d421", func := "donjon/donjonlaw19.PagerSealed", spec := "pagerSealed", unfollowed := true, recurses := true, plainKeys := false, apart := false }
def PagerSealedSaid : Prop := pagerSealedRow.holds Tryz.pinned (OpenSpec.ofChange pagerSealedSpec)

/-- ITS FALSE NEIGHBOUR: 'it returns false'. Refute it at one input. -/
def pagerSealedWrong : ChangeSpec := { name := "pagerSealed", fn := fun _ => fun
  | [d1, d2, d3, d4] => { results := [.lit (.bool false)], args := [d1, d2, d3, d4] }
  | _ => none }
def PagerSealedWrongFalsely : Prop := pagerSealedRow.holds Tryz.pinned (OpenSpec.ofChange pagerSealedWrong)

/-- 'donjonlaw19.PagerNonces': WHATEVER THE INPUT: true; the input reads as it did. -/
def pagerNoncesSpec : ChangeSpec := { name := "pagerNonces", fn := fun _ => fun
  | [d1, d2, d3, d4] => { results := [.lit (.bool true)], args := [d1, d2, d3, d4] }
  | _ => none }
def pagerNoncesRow : OpenClaim := { program := "ytlobgddnlnffbaagreat", sum := "485c48e3f6a7373db4b7185c23f6894db0edd03d87868dc48a843eb46685d421", func := "donjon/donjonlaw19.PagerNonces", spec := "pagerNonces", unfollowed := true, recurses := true, plainKeys := false, apart := false }
def PagerNoncesSaid : Prop := pagerNoncesRow.holds Tryz.pinned (OpenSpec.ofChange pagerNoncesSpec)

/-- ITS FALSE NEIGHBOUR: 'it returns false'. Refute it at one input. -/
def pagerNoncesWrong : ChangeSpec := { name := "pagerNonces", fn := fun _ => fun
  | [d1, d2, d3, d4] => { results := [.lit (.bool false)], args := [d1, d2, d3, d4] }
  | _ => none }
def PagerNoncesWrongFalsely : Prop := pagerNoncesRow.holds Tryz.pinned (OpenSpec.ofChange pagerNoncesWrong)

/- THE SECOND FORM. 'bulk': how many values and letters a reading holds, each counted each time it is reached (what is shared counts as often as it is met; a slice's spare places count too). A statement '..UptoSaid' is the law's where the arguments, and the package variables that the reading takes, are together of bulk at most 1048576: NARROWER than '..Said'. Prove '..Said' where nothing that the law and all that it calls make is longer than what came in: it says more and counts as full. Else prove '..UptoSaid'. A law counts once. -/
mutual
def uptoBulk {H : Type} : DataW H → Nat
  | .lit (.string bytes) => bytes.length + 1
  | .lit _ => 1
  | .nil => 1
  | .ptr d => uptoBulk d + 1
  | .slice elems spare => uptoBulkAll elems + uptoBulkAll spare + 1
  | .agg parts => uptoBulkAll parts + 1
  | .iface _ d => uptoBulk d + 1
  | .map entries => uptoBulkEntries entries + 1
  | .held _ => 1
def uptoBulkAll {H : Type} : List (DataW H) → Nat
  | [] => 0
  | d :: r => uptoBulk d + uptoBulkAll r
def uptoBulkEntries {H : Type} : List (Lit × DataW H) → Nat
  | [] => 0
  | x :: r => uptoBulkEntry x + uptoBulkEntries r
def uptoBulkEntry {H : Type} : Lit × DataW H → Nat
  | (.string bytes, d) => bytes.length + uptoBulk d + 1
  | (_, d) => uptoBulk d + 1
 end
def uptoSmall : (H : Type) → List (DataW H) → Bool := fun _ ds => decide (uptoBulkAll ds ≤ 1048576)
def OpenSpec.upto (s : _root_.Go.ChangeSpec) : _root_.Go.OpenSpec := { _root_.Go.OpenSpec.ofChange s with cond := some uptoSmall }

/-- 'donjonlaw20.CommitPlays', WHERE WHAT IT READS IS OF BULK AT MOST 1048576: true; the input reads as it did. -/
def commitPlaysUptoRow : OpenClaim := { program := "ytlobgddnlnffbaagreat", sum := "485c48e3f6a7373db4b7185c23f6894db0edd03d87868dc48a843eb46685d421", func := "donjon/donjonlaw20.CommitPlays", spec := "commitPlays", unfollowed := true, recurses := true, plainKeys := false, apart := false, narrowed := true }
def CommitPlaysUptoSaid : Prop := commitPlaysUptoRow.holds Tryz.pinned (OpenSpec.upto commitPlaysSpec)

/-- 'donjonlaw20.CommitNumbers', WHERE WHAT IT READS IS OF BULK AT MOST 1048576: true; the input reads as it did. -/
def commitNumbersUptoRow : OpenClaim := { program := "ytlobgddnlnffbaagreat", sum := "485c48e3f6a7373db4b7185c23f6894db0edd03d87868dc48a843eb46685d421", func := "donjon/donjonlaw20.CommitNumbers", spec := "commitNumbers", unfollowed := true, recurses := true, plainKeys := false, apart := false, narrowed := true }
def CommitNumbersUptoSaid : Prop := commitNumbersUptoRow.holds Tryz.pinned (OpenSpec.upto commitNumbersSpec)

/-- 'donjonlaw20.CommitCounts', WHERE WHAT IT READS IS OF BULK AT MOST 1048576: true; the input reads as it did. -/
def commitCountsUptoRow : OpenClaim := { program := "ytlobgddnlnffbaagreat", sum := "485c48e3f6a7373db4b7185c23f6894db0edd03d87868dc48a843eb46685d421", func := "donjon/donjonlaw20.CommitCounts", spec := "commitCounts", unfollowed := true, recurses := true, plainKeys := false, apart := false, narrowed := true }
def CommitCountsUptoSaid : Prop := commitCountsUptoRow.holds Tryz.pinned (OpenSpec.upto commitCountsSpec)

/-- 'donjonlaw19.PagerSealed', WHERE WHAT IT READS IS OF BULK AT MOST 1048576: true; the input reads as it did. -/
def pagerSealedUptoRow : OpenClaim := { program := "ytlobgddnlnffbaagreat", sum := "485c48e3f6a7373db4b7185c23f6894db0edd03d87868dc48a843eb46685d421", func := "donjon/donjonlaw19.PagerSealed", spec := "pagerSealed", unfollowed := true, recurses := true, plainKeys := false, apart := false, narrowed := true }
def PagerSealedUptoSaid : Prop := pagerSealedUptoRow.holds Tryz.pinned (OpenSpec.upto pagerSealedSpec)

/-- 'donjonlaw19.PagerNonces', WHERE WHAT IT READS IS OF BULK AT MOST 1048576: true; the input reads as it did. -/
def pagerNoncesUptoRow : OpenClaim := { program := "ytlobgddnlnffbaagreat", sum := "485c48e3f6a7373db4b7185c23f6894db0edd03d87868dc48a843eb46685d421", func := "donjon/donjonlaw19.PagerNonces", spec := "pagerNonces", unfollowed := true, recurses := true, plainKeys := false, apart := false, narrowed := true }
def PagerNoncesUptoSaid : Prop := pagerNoncesUptoRow.holds Tryz.pinned (OpenSpec.upto pagerNoncesSpec)

end Rows
end Go.Proofs.YtlobgddnlnffbaaGreat
