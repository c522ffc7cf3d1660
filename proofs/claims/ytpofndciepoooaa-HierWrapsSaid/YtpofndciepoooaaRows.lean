/-
  No cell of these rows narrows 'for every input' (looked for: loops, veiled, ifaces, maps, wideKeys, modest, calm, conditions, laid).
  DERIVED. THE GIVEN ROWS OF THIS SEAT. 18 by the template 'for every input the law returns true; each argument reads behind the call as it read before'; 0 by the template 'total and deterministic' (their statements: YtpofndciepoooaaTotals.lean).
  GIVEN WITH THE SEED: the statements are not yours to turn. If you find one false, say at which input.
  Laid BY PROGRAM, IN A SANDBOX (cutbox-rows.mjs): the forced cells as the released guide's own fill.sh prints them over the translation 2692e815e9a97507… (all of the seat's roots in one cut). By AI agents, Wed Nov 11 2026. No macro, syntax, notation, axiom, sorry.
-/
import Derived.Test.YtpofndciepoooaaChecked
import GoSem.Claim
import GoSem.ClaimJoined
import GoSem.ClaimMapViews
import Derived.JoinedTies
import Derived.KernelRfl
namespace Go.Proofs.Ytpofndciepoooaa
/- THE CELL 'sum', in the pinned program and in every row, IS THE sha256 OF THE DUMP (.gsa) THAT YtpofndciepoooaaProg.lean LOADS. Nothing in Lean hashes anything: it is a label: what it is worth is what the hold of that sum in a sandbox is worth. -/
noncomputable def Try.pinned : Pinned := { name := "ytpofndciepoooaa", sum := "2692e815e9a9750708d3560de3efb47880e2da21d4c1813bea48e50bfbebc97f", checked := Try.checked }
namespace Rows
def none {H : Type} : Left H := { results := [], args := [] }

/-- 'donjonlaw05.CtrBlocks': WHATEVER THE INPUT: true; the input reads as it did. -/
def ctrBlocksSpec : ChangeSpec := { name := "ctrBlocks", fn := fun _ => fun
  | [d1, d2] => { results := [.lit (.bool true)], args := [d1, d2] }
  | _ => none }
def ctrBlocksRow : OpenClaim := { program := "ytpofndciepoooaa", sum := "2692e815e9a9750708d3560de3efb47880e2da21d4c1813bea48e50bfbebc97f", func := "donjon/donjonlaw05.CtrBlocks", spec := "ctrBlocks", unfollowed := true, recurses := true, apart := false }
def CtrBlocksSaid : Prop := ctrBlocksRow.holds Try.pinned (OpenSpec.ofChange ctrBlocksSpec)

/-- ITS FALSE NEIGHBOUR: 'it returns false'. Refute it at one input. -/
def ctrBlocksWrong : ChangeSpec := { name := "ctrBlocks", fn := fun _ => fun
  | [d1, d2] => { results := [.lit (.bool false)], args := [d1, d2] }
  | _ => none }
def CtrBlocksWrongFalsely : Prop := ctrBlocksRow.holds Try.pinned (OpenSpec.ofChange ctrBlocksWrong)

/-- 'donjonlaw05.CtrCrypts': WHATEVER THE INPUT: true; the input reads as it did. -/
def ctrCryptsSpec : ChangeSpec := { name := "ctrCrypts", fn := fun _ => fun
  | [d1, d2, d3] => { results := [.lit (.bool true)], args := [d1, d2, d3] }
  | _ => none }
def ctrCryptsRow : OpenClaim := { program := "ytpofndciepoooaa", sum := "2692e815e9a9750708d3560de3efb47880e2da21d4c1813bea48e50bfbebc97f", func := "donjon/donjonlaw05.CtrCrypts", spec := "ctrCrypts", unfollowed := true, recurses := true, apart := false }
def CtrCryptsSaid : Prop := ctrCryptsRow.holds Try.pinned (OpenSpec.ofChange ctrCryptsSpec)

/-- ITS FALSE NEIGHBOUR: 'it returns false'. Refute it at one input. -/
def ctrCryptsWrong : ChangeSpec := { name := "ctrCrypts", fn := fun _ => fun
  | [d1, d2, d3] => { results := [.lit (.bool false)], args := [d1, d2, d3] }
  | _ => none }
def CtrCryptsWrongFalsely : Prop := ctrCryptsRow.holds Try.pinned (OpenSpec.ofChange ctrCryptsWrong)

/-- 'donjonlaw05.CtrBack': WHATEVER THE INPUT: true; the input reads as it did. -/
def ctrBackSpec : ChangeSpec := { name := "ctrBack", fn := fun _ => fun
  | [d1, d2, d3, d4] => { results := [.lit (.bool true)], args := [d1, d2, d3, d4] }
  | _ => none }
def ctrBackRow : OpenClaim := { program := "ytpofndciepoooaa", sum := "2692e815e9a9750708d3560de3efb47880e2da21d4c1813bea48e50bfbebc97f", func := "donjon/donjonlaw05.CtrBack", spec := "ctrBack", unfollowed := true, recurses := true, apart := false }
def CtrBackSaid : Prop := ctrBackRow.holds Try.pinned (OpenSpec.ofChange ctrBackSpec)

/-- ITS FALSE NEIGHBOUR: 'it returns false'. Refute it at one input. -/
def ctrBackWrong : ChangeSpec := { name := "ctrBack", fn := fun _ => fun
  | [d1, d2, d3, d4] => { results := [.lit (.bool false)], args := [d1, d2, d3, d4] }
  | _ => none }
def CtrBackWrongFalsely : Prop := ctrBackRow.holds Try.pinned (OpenSpec.ofChange ctrBackWrong)

/-- 'donjonlaw05.CtrRound': WHATEVER THE INPUT: true; the input reads as it did. -/
def ctrRoundSpec : ChangeSpec := { name := "ctrRound", fn := fun _ => fun
  | [d1, d2] => { results := [.lit (.bool true)], args := [d1, d2] }
  | _ => none }
def ctrRoundRow : OpenClaim := { program := "ytpofndciepoooaa", sum := "2692e815e9a9750708d3560de3efb47880e2da21d4c1813bea48e50bfbebc97f", func := "donjon/donjonlaw05.CtrRound", spec := "ctrRound", unfollowed := true, recurses := true, apart := false }
def CtrRoundSaid : Prop := ctrRoundRow.holds Try.pinned (OpenSpec.ofChange ctrRoundSpec)

/-- ITS FALSE NEIGHBOUR: 'it returns false'. Refute it at one input. -/
def ctrRoundWrong : ChangeSpec := { name := "ctrRound", fn := fun _ => fun
  | [d1, d2] => { results := [.lit (.bool false)], args := [d1, d2] }
  | _ => none }
def CtrRoundWrongFalsely : Prop := ctrRoundRow.holds Try.pinned (OpenSpec.ofChange ctrRoundWrong)

/-- 'donjonlaw06.GcmSeals': WHATEVER THE INPUT: true; the input reads as it did. -/
def gcmSealsSpec : ChangeSpec := { name := "gcmSeals", fn := fun _ => fun
  | [d1, d2, d3, d4] => { results := [.lit (.bool true)], args := [d1, d2, d3, d4] }
  | _ => none }
def gcmSealsRow : OpenClaim := { program := "ytpofndciepoooaa", sum := "2692e815e9a9750708d3560de3efb47880e2da21d4c1813bea48e50bfbebc97f", func := "donjon/donjonlaw06.GcmSeals", spec := "gcmSeals", unfollowed := true, recurses := true, apart := false }
def GcmSealsSaid : Prop := gcmSealsRow.holds Try.pinned (OpenSpec.ofChange gcmSealsSpec)

/-- ITS FALSE NEIGHBOUR: 'it returns false'. Refute it at one input. -/
def gcmSealsWrong : ChangeSpec := { name := "gcmSeals", fn := fun _ => fun
  | [d1, d2, d3, d4] => { results := [.lit (.bool false)], args := [d1, d2, d3, d4] }
  | _ => none }
def GcmSealsWrongFalsely : Prop := gcmSealsRow.holds Try.pinned (OpenSpec.ofChange gcmSealsWrong)

/-- 'donjonlaw06.GcmOpens': WHATEVER THE INPUT: true; the input reads as it did. -/
def gcmOpensSpec : ChangeSpec := { name := "gcmOpens", fn := fun _ => fun
  | [d1, d2, d3, d4] => { results := [.lit (.bool true)], args := [d1, d2, d3, d4] }
  | _ => none }
def gcmOpensRow : OpenClaim := { program := "ytpofndciepoooaa", sum := "2692e815e9a9750708d3560de3efb47880e2da21d4c1813bea48e50bfbebc97f", func := "donjon/donjonlaw06.GcmOpens", spec := "gcmOpens", unfollowed := true, recurses := true, apart := false }
def GcmOpensSaid : Prop := gcmOpensRow.holds Try.pinned (OpenSpec.ofChange gcmOpensSpec)

/-- ITS FALSE NEIGHBOUR: 'it returns false'. Refute it at one input. -/
def gcmOpensWrong : ChangeSpec := { name := "gcmOpens", fn := fun _ => fun
  | [d1, d2, d3, d4] => { results := [.lit (.bool false)], args := [d1, d2, d3, d4] }
  | _ => none }
def GcmOpensWrongFalsely : Prop := gcmOpensRow.holds Try.pinned (OpenSpec.ofChange gcmOpensWrong)

/-- 'donjonlaw06.GcmTurned': WHATEVER THE INPUT: true; the input reads as it did. -/
def gcmTurnedSpec : ChangeSpec := { name := "gcmTurned", fn := fun _ => fun
  | [d] => { results := [.lit (.bool true)], args := [d] }
  | _ => none }
def gcmTurnedRow : OpenClaim := { program := "ytpofndciepoooaa", sum := "2692e815e9a9750708d3560de3efb47880e2da21d4c1813bea48e50bfbebc97f", func := "donjon/donjonlaw06.GcmTurned", spec := "gcmTurned", unfollowed := true, recurses := true, apart := false }
def GcmTurnedSaid : Prop := gcmTurnedRow.holds Try.pinned (OpenSpec.ofChange gcmTurnedSpec)

/-- ITS FALSE NEIGHBOUR: 'it returns false'. Refute it at one input. -/
def gcmTurnedWrong : ChangeSpec := { name := "gcmTurned", fn := fun _ => fun
  | [d] => { results := [.lit (.bool false)], args := [d] }
  | _ => none }
def GcmTurnedWrongFalsely : Prop := gcmTurnedRow.holds Try.pinned (OpenSpec.ofChange gcmTurnedWrong)

/-- 'donjonlaw06.GcmApart': WHATEVER THE INPUT: true; the input reads as it did. -/
def gcmApartSpec : ChangeSpec := { name := "gcmApart", fn := fun _ => fun
  | [d1, d2, d3, d4, d5] => { results := [.lit (.bool true)], args := [d1, d2, d3, d4, d5] }
  | _ => none }
def gcmApartRow : OpenClaim := { program := "ytpofndciepoooaa", sum := "2692e815e9a9750708d3560de3efb47880e2da21d4c1813bea48e50bfbebc97f", func := "donjon/donjonlaw06.GcmApart", spec := "gcmApart", unfollowed := true, recurses := true, apart := false }
def GcmApartSaid : Prop := gcmApartRow.holds Try.pinned (OpenSpec.ofChange gcmApartSpec)

/-- ITS FALSE NEIGHBOUR: 'it returns false'. Refute it at one input. -/
def gcmApartWrong : ChangeSpec := { name := "gcmApart", fn := fun _ => fun
  | [d1, d2, d3, d4, d5] => { results := [.lit (.bool false)], args := [d1, d2, d3, d4, d5] }
  | _ => none }
def GcmApartWrongFalsely : Prop := gcmApartRow.holds Try.pinned (OpenSpec.ofChange gcmApartWrong)

/-- 'donjonlaw06.GcmStandard': WHATEVER THE INPUT: true; the input reads as it did. -/
def gcmStandardSpec : ChangeSpec := { name := "gcmStandard", fn := fun _ => fun
  | [] => { results := [.lit (.bool true)], args := [] }
  | _ => none }
def gcmStandardRow : OpenClaim := { program := "ytpofndciepoooaa", sum := "2692e815e9a9750708d3560de3efb47880e2da21d4c1813bea48e50bfbebc97f", func := "donjon/donjonlaw06.GcmStandard", spec := "gcmStandard", unfollowed := true, recurses := true, apart := false }
def GcmStandardSaid : Prop := gcmStandardRow.holds Try.pinned (OpenSpec.ofChange gcmStandardSpec)

/-- ITS FALSE NEIGHBOUR: 'it returns false'. Refute it at one input. -/
def gcmStandardWrong : ChangeSpec := { name := "gcmStandard", fn := fun _ => fun
  | [] => { results := [.lit (.bool false)], args := [] }
  | _ => none }
def GcmStandardWrongFalsely : Prop := gcmStandardRow.holds Try.pinned (OpenSpec.ofChange gcmStandardWrong)

/-- 'donjonlaw10.SealWords': WHATEVER THE INPUT: true; the input reads as it did. -/
def sealWordsSpec : ChangeSpec := { name := "sealWords", fn := fun _ => fun
  | [d] => { results := [.lit (.bool true)], args := [d] }
  | _ => none }
def sealWordsRow : OpenClaim := { program := "ytpofndciepoooaa", sum := "2692e815e9a9750708d3560de3efb47880e2da21d4c1813bea48e50bfbebc97f", func := "donjon/donjonlaw10.SealWords", spec := "sealWords", unfollowed := true, recurses := true, apart := false }
def SealWordsSaid : Prop := sealWordsRow.holds Try.pinned (OpenSpec.ofChange sealWordsSpec)

/-- ITS FALSE NEIGHBOUR: 'it returns false'. Refute it at one input. -/
def sealWordsWrong : ChangeSpec := { name := "sealWords", fn := fun _ => fun
  | [d] => { results := [.lit (.bool false)], args := [d] }
  | _ => none }
def SealWordsWrongFalsely : Prop := sealWordsRow.holds Try.pinned (OpenSpec.ofChange sealWordsWrong)

/-- 'donjonlaw10.SealSeals': WHATEVER THE INPUT: true; the input reads as it did. -/
def sealSealsSpec : ChangeSpec := { name := "sealSeals", fn := fun _ => fun
  | [d1, d2, d3] => { results := [.lit (.bool true)], args := [d1, d2, d3] }
  | _ => none }
def sealSealsRow : OpenClaim := { program := "ytpofndciepoooaa", sum := "2692e815e9a9750708d3560de3efb47880e2da21d4c1813bea48e50bfbebc97f", func := "donjon/donjonlaw10.SealSeals", spec := "sealSeals", unfollowed := true, recurses := true, apart := false }
def SealSealsSaid : Prop := sealSealsRow.holds Try.pinned (OpenSpec.ofChange sealSealsSpec)

/-- ITS FALSE NEIGHBOUR: 'it returns false'. Refute it at one input. -/
def sealSealsWrong : ChangeSpec := { name := "sealSeals", fn := fun _ => fun
  | [d1, d2, d3] => { results := [.lit (.bool false)], args := [d1, d2, d3] }
  | _ => none }
def SealSealsWrongFalsely : Prop := sealSealsRow.holds Try.pinned (OpenSpec.ofChange sealSealsWrong)

/-- 'donjonlaw10.SealApart': WHATEVER THE INPUT: true; the input reads as it did. -/
def sealApartSpec : ChangeSpec := { name := "sealApart", fn := fun _ => fun
  | [d1, d2] => { results := [.lit (.bool true)], args := [d1, d2] }
  | _ => none }
def sealApartRow : OpenClaim := { program := "ytpofndciepoooaa", sum := "2692e815e9a9750708d3560de3efb47880e2da21d4c1813bea48e50bfbebc97f", func := "donjon/donjonlaw10.SealApart", spec := "sealApart", unfollowed := true, recurses := true, apart := false }
def SealApartSaid : Prop := sealApartRow.holds Try.pinned (OpenSpec.ofChange sealApartSpec)

/-- ITS FALSE NEIGHBOUR: 'it returns false'. Refute it at one input. -/
def sealApartWrong : ChangeSpec := { name := "sealApart", fn := fun _ => fun
  | [d1, d2] => { results := [.lit (.bool false)], args := [d1, d2] }
  | _ => none }
def SealApartWrongFalsely : Prop := sealApartRow.holds Try.pinned (OpenSpec.ofChange sealApartWrong)

/-- 'donjonlaw10.SealOpens': WHATEVER THE INPUT: true; the input reads as it did. -/
def sealOpensSpec : ChangeSpec := { name := "sealOpens", fn := fun _ => fun
  | [d1, d2, d3] => { results := [.lit (.bool true)], args := [d1, d2, d3] }
  | _ => none }
def sealOpensRow : OpenClaim := { program := "ytpofndciepoooaa", sum := "2692e815e9a9750708d3560de3efb47880e2da21d4c1813bea48e50bfbebc97f", func := "donjon/donjonlaw10.SealOpens", spec := "sealOpens", unfollowed := true, recurses := true, apart := false }
def SealOpensSaid : Prop := sealOpensRow.holds Try.pinned (OpenSpec.ofChange sealOpensSpec)

/-- ITS FALSE NEIGHBOUR: 'it returns false'. Refute it at one input. -/
def sealOpensWrong : ChangeSpec := { name := "sealOpens", fn := fun _ => fun
  | [d1, d2, d3] => { results := [.lit (.bool false)], args := [d1, d2, d3] }
  | _ => none }
def SealOpensWrongFalsely : Prop := sealOpensRow.holds Try.pinned (OpenSpec.ofChange sealOpensWrong)

/-- 'donjonlaw10.SealBack': WHATEVER THE INPUT: true; the input reads as it did. -/
def sealBackSpec : ChangeSpec := { name := "sealBack", fn := fun _ => fun
  | [d1, d2, d3, d4] => { results := [.lit (.bool true)], args := [d1, d2, d3, d4] }
  | _ => none }
def sealBackRow : OpenClaim := { program := "ytpofndciepoooaa", sum := "2692e815e9a9750708d3560de3efb47880e2da21d4c1813bea48e50bfbebc97f", func := "donjon/donjonlaw10.SealBack", spec := "sealBack", unfollowed := true, recurses := true, apart := false }
def SealBackSaid : Prop := sealBackRow.holds Try.pinned (OpenSpec.ofChange sealBackSpec)

/-- ITS FALSE NEIGHBOUR: 'it returns false'. Refute it at one input. -/
def sealBackWrong : ChangeSpec := { name := "sealBack", fn := fun _ => fun
  | [d1, d2, d3, d4] => { results := [.lit (.bool false)], args := [d1, d2, d3, d4] }
  | _ => none }
def SealBackWrongFalsely : Prop := sealBackRow.holds Try.pinned (OpenSpec.ofChange sealBackWrong)

/-- 'donjonlaw22.HierWraps': WHATEVER THE INPUT: true; the input reads as it did. -/
def hierWrapsSpec : ChangeSpec := { name := "hierWraps", fn := fun _ => fun
  | [d1, d2, d3, d4] => { results := [.lit (.bool true)], args := [d1, d2, d3, d4] }
  | _ => none }
def hierWrapsRow : OpenClaim := { program := "ytpofndciepoooaa", sum := "2692e815e9a9750708d3560de3efb47880e2da21d4c1813bea48e50bfbebc97f", func := "donjon/donjonlaw22.HierWraps", spec := "hierWraps", unfollowed := true, recurses := true, apart := false }
def HierWrapsSaid : Prop := hierWrapsRow.holds Try.pinned (OpenSpec.ofChange hierWrapsSpec)

/-- ITS FALSE NEIGHBOUR: 'it returns false'. Refute it at one input. -/
def hierWrapsWrong : ChangeSpec := { name := "hierWraps", fn := fun _ => fun
  | [d1, d2, d3, d4] => { results := [.lit (.bool false)], args := [d1, d2, d3, d4] }
  | _ => none }
def HierWrapsWrongFalsely : Prop := hierWrapsRow.holds Try.pinned (OpenSpec.ofChange hierWrapsWrong)

/-- 'donjonlaw22.HierUnwraps': WHATEVER THE INPUT: true; the input reads as it did. -/
def hierUnwrapsSpec : ChangeSpec := { name := "hierUnwraps", fn := fun _ => fun
  | [d1, d2, d3] => { results := [.lit (.bool true)], args := [d1, d2, d3] }
  | _ => none }
def hierUnwrapsRow : OpenClaim := { program := "ytpofndciepoooaa", sum := "2692e815e9a9750708d3560de3efb47880e2da21d4c1813bea48e50bfbebc97f", func := "donjon/donjonlaw22.HierUnwraps", spec := "hierUnwraps", unfollowed := true, recurses := true, apart := false }
def HierUnwrapsSaid : Prop := hierUnwrapsRow.holds Try.pinned (OpenSpec.ofChange hierUnwrapsSpec)

/-- ITS FALSE NEIGHBOUR: 'it returns false'. Refute it at one input. -/
def hierUnwrapsWrong : ChangeSpec := { name := "hierUnwraps", fn := fun _ => fun
  | [d1, d2, d3] => { results := [.lit (.bool false)], args := [d1, d2, d3] }
  | _ => none }
def HierUnwrapsWrongFalsely : Prop := hierUnwrapsRow.holds Try.pinned (OpenSpec.ofChange hierUnwrapsWrong)

/-- 'donjonlaw22.HierDraws': WHATEVER THE INPUT: true; the input reads as it did. -/
def hierDrawsSpec : ChangeSpec := { name := "hierDraws", fn := fun _ => fun
  | [d1, d2, d3] => { results := [.lit (.bool true)], args := [d1, d2, d3] }
  | _ => none }
def hierDrawsRow : OpenClaim := { program := "ytpofndciepoooaa", sum := "2692e815e9a9750708d3560de3efb47880e2da21d4c1813bea48e50bfbebc97f", func := "donjon/donjonlaw22.HierDraws", spec := "hierDraws", unfollowed := true, recurses := true, apart := false }
def HierDrawsSaid : Prop := hierDrawsRow.holds Try.pinned (OpenSpec.ofChange hierDrawsSpec)

/-- ITS FALSE NEIGHBOUR: 'it returns false'. Refute it at one input. -/
def hierDrawsWrong : ChangeSpec := { name := "hierDraws", fn := fun _ => fun
  | [d1, d2, d3] => { results := [.lit (.bool false)], args := [d1, d2, d3] }
  | _ => none }
def HierDrawsWrongFalsely : Prop := hierDrawsRow.holds Try.pinned (OpenSpec.ofChange hierDrawsWrong)

/-- 'donjonlaw22.HierApart': WHATEVER THE INPUT: true; the input reads as it did. -/
def hierApartSpec : ChangeSpec := { name := "hierApart", fn := fun _ => fun
  | [d1, d2, d3, d4, d5, d6, d7] => { results := [.lit (.bool true)], args := [d1, d2, d3, d4, d5, d6, d7] }
  | _ => none }
def hierApartRow : OpenClaim := { program := "ytpofndciepoooaa", sum := "2692e815e9a9750708d3560de3efb47880e2da21d4c1813bea48e50bfbebc97f", func := "donjon/donjonlaw22.HierApart", spec := "hierApart", unfollowed := true, recurses := true, apart := false }
def HierApartSaid : Prop := hierApartRow.holds Try.pinned (OpenSpec.ofChange hierApartSpec)

/-- ITS FALSE NEIGHBOUR: 'it returns false'. Refute it at one input. -/
def hierApartWrong : ChangeSpec := { name := "hierApart", fn := fun _ => fun
  | [d1, d2, d3, d4, d5, d6, d7] => { results := [.lit (.bool false)], args := [d1, d2, d3, d4, d5, d6, d7] }
  | _ => none }
def HierApartWrongFalsely : Prop := hierApartRow.holds Try.pinned (OpenSpec.ofChange hierApartWrong)

/- THE SECOND FORM. 'bulk': how many values and letters a reading holds, each counted each time it is reached (what is shared counts as often as it is met; a slice's spare places count too). A statement '..UptoSaid' is the law's where the arguments, and the package variables that the reading takes, are together of bulk at most 1048576: NARROWER than '..Said'. Prove '..Said' where nothing that the law and all that it calls make is longer than what came in: it says more and counts as full. Else prove '..UptoSaid'. A law counts once. -/
mutual
def uptoBulk {H : Type} : DataW H → Nat
  | .lit (.string bytes) => bytes.length + 1
  | .lit _ => 1
  | .nil => 1
  | .ptr d => uptoBulk d + 1
  | .slice elems spare => uptoBulkAll elems + uptoBulkAll spare + 1
  | .agg parts => uptoBulkAll parts + 1
  | .iface _ d => uptoBulk d + 1
  | .map entries => uptoBulkEntries entries + 1
  | .held _ => 1
def uptoBulkAll {H : Type} : List (DataW H) → Nat
  | [] => 0
  | d :: r => uptoBulk d + uptoBulkAll r
def uptoBulkEntries {H : Type} : List (Lit × DataW H) → Nat
  | [] => 0
  | x :: r => uptoBulkEntry x + uptoBulkEntries r
def uptoBulkEntry {H : Type} : Lit × DataW H → Nat
  | (.string bytes, d) => bytes.length + uptoBulk d + 1
  | (_, d) => uptoBulk d + 1
 end
def uptoSmall : (H : Type) → List (DataW H) → Bool := fun _ ds => decide (uptoBulkAll ds ≤ 1048576)
def OpenSpec.upto (s : _root_.Go.ChangeSpec) : _root_.Go.OpenSpec := { _root_.Go.OpenSpec.ofChange s with cond := some uptoSmall }

/-- 'donjonlaw05.CtrBlocks', WHERE WHAT IT READS IS OF BULK AT MOST 1048576: true; the input reads as it did. -/
def ctrBlocksUptoRow : OpenClaim := { program := "ytpofndciepoooaa", sum := "2692e815e9a9750708d3560de3efb47880e2da21d4c1813bea48e50bfbebc97f", func := "donjon/donjonlaw05.CtrBlocks", spec := "ctrBlocks", unfollowed := true, recurses := true, apart := false, narrowed := true }
def CtrBlocksUptoSaid : Prop := ctrBlocksUptoRow.holds Try.pinned (OpenSpec.upto ctrBlocksSpec)

/-- 'donjonlaw05.CtrCrypts', WHERE WHAT IT READS IS OF BULK AT MOST 1048576: true; the input reads as it did. -/
def ctrCryptsUptoRow : OpenClaim := { program := "ytpofndciepoooaa", sum := "2692e815e9a9750708d3560de3efb47880e2da21d4c1813bea48e50bfbebc97f", func := "donjon/donjonlaw05.CtrCrypts", spec := "ctrCrypts", unfollowed := true, recurses := true, apart := false, narrowed := true }
def CtrCryptsUptoSaid : Prop := ctrCryptsUptoRow.holds Try.pinned (OpenSpec.upto ctrCryptsSpec)

/-- 'donjonlaw05.CtrBack', WHERE WHAT IT READS IS OF BULK AT MOST 1048576: true; the input reads as it did. -/
def ctrBackUptoRow : OpenClaim := { program := "ytpofndciepoooaa", sum := "2692e815e9a9750708d3560de3efb47880e2da21d4c1813bea48e50bfbebc97f", func := "donjon/donjonlaw05.CtrBack", spec := "ctrBack", unfollowed := true, recurses := true, apart := false, narrowed := true }
def CtrBackUptoSaid : Prop := ctrBackUptoRow.holds Try.pinned (OpenSpec.upto ctrBackSpec)

/-- 'donjonlaw05.CtrRound', WHERE WHAT IT READS IS OF BULK AT MOST 1048576: true; the input reads as it did. -/
def ctrRoundUptoRow : OpenClaim := { program := "ytpofndciepoooaa", sum := "2692e815e9a9750708d3560de3efb47880e2da21d4c1813bea48e50bfbebc97f", func := "donjon/donjonlaw05.CtrRound", spec := "ctrRound", unfollowed := true, recurses := true, apart := false, narrowed := true }
def CtrRoundUptoSaid : Prop := ctrRoundUptoRow.holds Try.pinned (OpenSpec.upto ctrRoundSpec)

/-- 'donjonlaw06.GcmSeals', WHERE WHAT IT READS IS OF BULK AT MOST 1048576: true; the input reads as it did. -/
def gcmSealsUptoRow : OpenClaim := { program := "ytpofndciepoooaa", sum := "2692e815e9a9750708d3560de3efb47880e2da21d4c1813bea48e50bfbebc97f", func := "donjon/donjonlaw06.GcmSeals", spec := "gcmSeals", unfollowed := true, recurses := true, apart := false, narrowed := true }
def GcmSealsUptoSaid : Prop := gcmSealsUptoRow.holds Try.pinned (OpenSpec.upto gcmSealsSpec)

/-- 'donjonlaw06.GcmOpens', WHERE WHAT IT READS IS OF BULK AT MOST 1048576: true; the input reads as it did. -/
def gcmOpensUptoRow : OpenClaim := { program := "ytpofndciepoooaa", sum := "2692e815e9a9750708d3560de3efb47880e2da21d4c1813bea48e50bfbebc97f", func := "donjon/donjonlaw06.GcmOpens", spec := "gcmOpens", unfollowed := true, recurses := true, apart := false, narrowed := true }
def GcmOpensUptoSaid : Prop := gcmOpensUptoRow.holds Try.pinned (OpenSpec.upto gcmOpensSpec)

/-- 'donjonlaw06.GcmTurned', WHERE WHAT IT READS IS OF BULK AT MOST 1048576: true; the input reads as it did. -/
def gcmTurnedUptoRow : OpenClaim := { program := "ytpofndciepoooaa", sum := "2692e815e9a9750708d3560de3efb47880e2da21d4c1813bea48e50bfbebc97f", func := "donjon/donjonlaw06.GcmTurned", spec := "gcmTurned", unfollowed := true, recurses := true, apart := false, narrowed := true }
def GcmTurnedUptoSaid : Prop := gcmTurnedUptoRow.holds Try.pinned (OpenSpec.upto gcmTurnedSpec)

/-- 'donjonlaw06.GcmApart', WHERE WHAT IT READS IS OF BULK AT MOST 1048576: true; the input reads as it did. -/
def gcmApartUptoRow : OpenClaim := { program := "ytpofndciepoooaa", sum := "2692e815e9a9750708d3560de3efb47880e2da21d4c1813bea48e50bfbebc97f", func := "donjon/donjonlaw06.GcmApart", spec := "gcmApart", unfollowed := true, recurses := true, apart := false, narrowed := true }
def GcmApartUptoSaid : Prop := gcmApartUptoRow.holds Try.pinned (OpenSpec.upto gcmApartSpec)

/-- 'donjonlaw06.GcmStandard', WHERE WHAT IT READS IS OF BULK AT MOST 1048576: true; the input reads as it did. -/
def gcmStandardUptoRow : OpenClaim := { program := "ytpofndciepoooaa", sum := "2692e815e9a9750708d3560de3efb47880e2da21d4c1813bea48e50bfbebc97f", func := "donjon/donjonlaw06.GcmStandard", spec := "gcmStandard", unfollowed := true, recurses := true, apart := false, narrowed := true }
def GcmStandardUptoSaid : Prop := gcmStandardUptoRow.holds Try.pinned (OpenSpec.upto gcmStandardSpec)

/-- 'donjonlaw10.SealWords', WHERE WHAT IT READS IS OF BULK AT MOST 1048576: true; the input reads as it did. -/
def sealWordsUptoRow : OpenClaim := { program := "ytpofndciepoooaa", sum := "2692e815e9a9750708d3560de3efb47880e2da21d4c1813bea48e50bfbebc97f", func := "donjon/donjonlaw10.SealWords", spec := "sealWords", unfollowed := true, recurses := true, apart := false, narrowed := true }
def SealWordsUptoSaid : Prop := sealWordsUptoRow.holds Try.pinned (OpenSpec.upto sealWordsSpec)

/-- 'donjonlaw10.SealSeals', WHERE WHAT IT READS IS OF BULK AT MOST 1048576: true; the input reads as it did. -/
def sealSealsUptoRow : OpenClaim := { program := "ytpofndciepoooaa", sum := "2692e815e9a9750708d3560de3efb47880e2da21d4c1813bea48e50bfbebc97f", func := "donjon/donjonlaw10.SealSeals", spec := "sealSeals", unfollowed := true, recurses := true, apart := false, narrowed := true }
def SealSealsUptoSaid : Prop := sealSealsUptoRow.holds Try.pinned (OpenSpec.upto sealSealsSpec)

/-- 'donjonlaw10.SealApart', WHERE WHAT IT READS IS OF BULK AT MOST 1048576: true; the input reads as it did. -/
def sealApartUptoRow : OpenClaim := { program := "ytpofndciepoooaa", sum := "2692e815e9a9750708d3560de3efb47880e2da21d4c1813bea48e50bfbebc97f", func := "donjon/donjonlaw10.SealApart", spec := "sealApart", unfollowed := true, recurses := true, apart := false, narrowed := true }
def SealApartUptoSaid : Prop := sealApartUptoRow.holds Try.pinned (OpenSpec.upto sealApartSpec)

/-- 'donjonlaw10.SealOpens', WHERE WHAT IT READS IS OF BULK AT MOST 1048576: true; the input reads as it did. -/
def sealOpensUptoRow : OpenClaim := { program := "ytpofndciepoooaa", sum := "2692e815e9a9750708d3560de3efb47880e2da21d4c1813bea48e50bfbebc97f", func := "donjon/donjonlaw10.SealOpens", spec := "sealOpens", unfollowed := true, recurses := true, apart := false, narrowed := true }
def SealOpensUptoSaid : Prop := sealOpensUptoRow.holds Try.pinned (OpenSpec.upto sealOpensSpec)

/-- 'donjonlaw10.SealBack', WHERE WHAT IT READS IS OF BULK AT MOST 1048576: true; the input reads as it did. -/
def sealBackUptoRow : OpenClaim := { program := "ytpofndciepoooaa", sum := "2692e815e9a9750708d3560de3efb47880e2da21d4c1813bea48e50bfbebc97f", func := "donjon/donjonlaw10.SealBack", spec := "sealBack", unfollowed := true, recurses := true, apart := false, narrowed := true }
def SealBackUptoSaid : Prop := sealBackUptoRow.holds Try.pinned (OpenSpec.upto sealBackSpec)

/-- 'donjonlaw22.HierWraps', WHERE WHAT IT READS IS OF BULK AT MOST 1048576: true; the input reads as it did. -/
def hierWrapsUptoRow : OpenClaim := { program := "ytpofndciepoooaa", sum := "2692e815e9a9750708d3560de3efb47880e2da21d4c1813bea48e50bfbebc97f", func := "donjon/donjonlaw22.HierWraps", spec := "hierWraps", unfollowed := true, recurses := true, apart := false, narrowed := true }
def HierWrapsUptoSaid : Prop := hierWrapsUptoRow.holds Try.pinned (OpenSpec.upto hierWrapsSpec)

/-- 'donjonlaw22.HierUnwraps', WHERE WHAT IT READS IS OF BULK AT MOST 1048576: true; the input reads as it did. -/
def hierUnwrapsUptoRow : OpenClaim := { program := "ytpofndciepoooaa", sum := "2692e815e9a9750708d3560de3efb47880e2da21d4c1813bea48e50bfbebc97f", func := "donjon/donjonlaw22.HierUnwraps", spec := "hierUnwraps", unfollowed := true, recurses := true, apart := false, narrowed := true }
def HierUnwrapsUptoSaid : Prop := hierUnwrapsUptoRow.holds Try.pinned (OpenSpec.upto hierUnwrapsSpec)

/-- 'donjonlaw22.HierDraws', WHERE WHAT IT READS IS OF BULK AT MOST 1048576: true; the input reads as it did. -/
def hierDrawsUptoRow : OpenClaim := { program := "ytpofndciepoooaa", sum := "2692e815e9a9750708d3560de3efb47880e2da21d4c1813bea48e50bfbebc97f", func := "donjon/donjonlaw22.HierDraws", spec := "hierDraws", unfollowed := true, recurses := true, apart := false, narrowed := true }
def HierDrawsUptoSaid : Prop := hierDrawsUptoRow.holds Try.pinned (OpenSpec.upto hierDrawsSpec)

/-- 'donjonlaw22.HierApart', WHERE WHAT IT READS IS OF BULK AT MOST 1048576: true; the input reads as it did. -/
def hierApartUptoRow : OpenClaim := { program := "ytpofndciepoooaa", sum := "2692e815e9a9750708d3560de3efb47880e2da21d4c1813bea48e50bfbebc97f", func := "donjon/donjonlaw22.HierApart", spec := "hierApart", unfollowed := true, recurses := true, apart := false, narrowed := true }
def HierApartUptoSaid : Prop := hierApartUptoRow.holds Try.pinned (OpenSpec.upto hierApartSpec)

end Rows
end Go.Proofs.Ytpofndciepoooaa
