/-
  No cell of these rows narrows 'for every input' (looked for: loops, veiled, ifaces, maps, wideKeys, modest, calm, conditions, laid).
  DERIVED. THE GIVEN ROWS OF THIS SEAT. 15 by the template 'for every input the law returns true; each argument reads behind the call as it read before'; 0 by the template 'total and deterministic' (their statements: YtgnooakjkpkgiaaTotals.lean).
  GIVEN WITH THE SEED: the statements are not yours to turn. If you find one false, say at which input.
  Laid BY PROGRAM, IN A SANDBOX (cutbox-rows.mjs): the forced cells as the released guide's own fill.sh prints them over the translation 8b7e602bb8c52390… (all of the seat's roots in one cut). By AI agents, Wed Nov 11 2026. No macro, syntax, notation, axiom, sorry.
-/
import Derived.Test.YtgnooakjkpkgiaaChecked
import GoSem.Claim
import GoSem.ClaimJoined
import GoSem.ClaimMapViews
import Derived.JoinedTies
import Derived.KernelRfl
namespace Go.Proofs.Ytgnooakjkpkgiaa
/- THE CELL 'sum', in the pinned program and in every row, IS THE sha256 OF THE DUMP (.gsa) THAT YtgnooakjkpkgiaaProg.lean LOADS. Nothing in Lean hashes anything: it is a label: what it is worth is what the hold of that sum in a sandbox is worth. -/
noncomputable def Try.pinned : Pinned := { name := "ytgnooakjkpkgiaa", sum := "8b7e602bb8c5239029a4c93bbb0d27a283305d55685b6008f9b398b3b92d3f6c", checked := Try.checked }
namespace Rows
def none {H : Type} : Left H := { results := [], args := [] }

/-- 'donjonlaw22.HierApart': WHATEVER THE INPUT: true; the input reads as it did. -/
def hierApartSpec : ChangeSpec := { name := "hierApart", fn := fun _ => fun
  | [d1, d2, d3, d4, d5, d6, d7] => { results := [.lit (.bool true)], args := [d1, d2, d3, d4, d5, d6, d7] }
  | _ => none }
def hierApartRow : OpenClaim := { program := "ytgnooakjkpkgiaa", sum := "8b7e602bb8c5239029a4c93bbb0d27a283305d55685b6008f9b398b3b92d3f6c", func := "donjon/donjonlaw22.HierApart", spec := "hierApart", unfollowed := true, recurses := true, plainKeys := false, apart := false }
def HierApartSaid : Prop := hierApartRow.holds Try.pinned (OpenSpec.ofChange hierApartSpec)

/-- ITS FALSE NEIGHBOUR: 'it returns false'. Refute it at one input. -/
def hierApartWrong : ChangeSpec := { name := "hierApart", fn := fun _ => fun
  | [d1, d2, d3, d4, d5, d6, d7] => { results := [.lit (.bool false)], args := [d1, d2, d3, d4, d5, d6, d7] }
  | _ => none }
def HierApartWrongFalsely : Prop := hierApartRow.holds Try.pinned (OpenSpec.ofChange hierApartWrong)

/-- 'donjonlaw10.SealLogs': WHATEVER THE INPUT: true; the input reads as it did. -/
def sealLogsSpec : ChangeSpec := { name := "sealLogs", fn := fun _ => fun
  | [d] => { results := [.lit (.bool true)], args := [d] }
  | _ => none }
def sealLogsRow : OpenClaim := { program := "ytgnooakjkpkgiaa", sum := "8b7e602bb8c5239029a4c93bbb0d27a283305d55685b6008f9b398b3b92d3f6c", func := "donjon/donjonlaw10.SealLogs", spec := "sealLogs", unfollowed := true, recurses := true, plainKeys := false, apart := false }
def SealLogsSaid : Prop := sealLogsRow.holds Try.pinned (OpenSpec.ofChange sealLogsSpec)

/-- ITS FALSE NEIGHBOUR: 'it returns false'. Refute it at one input. -/
def sealLogsWrong : ChangeSpec := { name := "sealLogs", fn := fun _ => fun
  | [d] => { results := [.lit (.bool false)], args := [d] }
  | _ => none }
def SealLogsWrongFalsely : Prop := sealLogsRow.holds Try.pinned (OpenSpec.ofChange sealLogsWrong)

/-- 'donjonlaw25.CapsFew': WHATEVER THE INPUT: true; the input reads as it did. -/
def capsFewSpec : ChangeSpec := { name := "capsFew", fn := fun _ => fun
  | [d1, d2] => { results := [.lit (.bool true)], args := [d1, d2] }
  | _ => none }
def capsFewRow : OpenClaim := { program := "ytgnooakjkpkgiaa", sum := "8b7e602bb8c5239029a4c93bbb0d27a283305d55685b6008f9b398b3b92d3f6c", func := "donjon/donjonlaw25.CapsFew", spec := "capsFew", inPlace := ["maps.clone"], unfollowed := true, recurses := true, plainKeys := false, apart := false }
def CapsFewSaid : Prop := capsFewRow.holds Try.pinned (OpenSpec.ofChange capsFewSpec)

/-- ITS FALSE NEIGHBOUR: 'it returns false'. Refute it at one input. -/
def capsFewWrong : ChangeSpec := { name := "capsFew", fn := fun _ => fun
  | [d1, d2] => { results := [.lit (.bool false)], args := [d1, d2] }
  | _ => none }
def CapsFewWrongFalsely : Prop := capsFewRow.holds Try.pinned (OpenSpec.ofChange capsFewWrong)

/-- 'donjonlaw25.CapsFall': WHATEVER THE INPUT: true; the input reads as it did. -/
def capsFallSpec : ChangeSpec := { name := "capsFall", fn := fun _ => fun
  | [d] => { results := [.lit (.bool true)], args := [d] }
  | _ => none }
def capsFallRow : OpenClaim := { program := "ytgnooakjkpkgiaa", sum := "8b7e602bb8c5239029a4c93bbb0d27a283305d55685b6008f9b398b3b92d3f6c", func := "donjon/donjonlaw25.CapsFall", spec := "capsFall", inPlace := ["maps.clone"], unfollowed := true, recurses := true, plainKeys := false, apart := false }
def CapsFallSaid : Prop := capsFallRow.holds Try.pinned (OpenSpec.ofChange capsFallSpec)

/-- ITS FALSE NEIGHBOUR: 'it returns false'. Refute it at one input. -/
def capsFallWrong : ChangeSpec := { name := "capsFall", fn := fun _ => fun
  | [d] => { results := [.lit (.bool false)], args := [d] }
  | _ => none }
def CapsFallWrongFalsely : Prop := capsFallRow.holds Try.pinned (OpenSpec.ofChange capsFallWrong)

/-- 'donjonlaw25.CapsPlays': WHATEVER THE INPUT: true; the input reads as it did. -/
def capsPlaysSpec : ChangeSpec := { name := "capsPlays", fn := fun _ => fun
  | [d] => { results := [.lit (.bool true)], args := [d] }
  | _ => none }
def capsPlaysRow : OpenClaim := { program := "ytgnooakjkpkgiaa", sum := "8b7e602bb8c5239029a4c93bbb0d27a283305d55685b6008f9b398b3b92d3f6c", func := "donjon/donjonlaw25.CapsPlays", spec := "capsPlays", inPlace := ["maps.clone"], unfollowed := true, recurses := true, plainKeys := false, apart := false }
def CapsPlaysSaid : Prop := capsPlaysRow.holds Try.pinned (OpenSpec.ofChange capsPlaysSpec)

/-- ITS FALSE NEIGHBOUR: 'it returns false'. Refute it at one input. -/
def capsPlaysWrong : ChangeSpec := { name := "capsPlays", fn := fun _ => fun
  | [d] => { results := [.lit (.bool false)], args := [d] }
  | _ => none }
def CapsPlaysWrongFalsely : Prop := capsPlaysRow.holds Try.pinned (OpenSpec.ofChange capsPlaysWrong)

/-- 'donjonlaw25.CapsNone': WHATEVER THE INPUT: true; the input reads as it did. -/
def capsNoneSpec : ChangeSpec := { name := "capsNone", fn := fun _ => fun
  | [d1, d2, d3] => { results := [.lit (.bool true)], args := [d1, d2, d3] }
  | _ => none }
def capsNoneRow : OpenClaim := { program := "ytgnooakjkpkgiaa", sum := "8b7e602bb8c5239029a4c93bbb0d27a283305d55685b6008f9b398b3b92d3f6c", func := "donjon/donjonlaw25.CapsNone", spec := "capsNone", inPlace := ["maps.clone"], unfollowed := true, recurses := true, plainKeys := false, apart := false }
def CapsNoneSaid : Prop := capsNoneRow.holds Try.pinned (OpenSpec.ofChange capsNoneSpec)

/-- ITS FALSE NEIGHBOUR: 'it returns false'. Refute it at one input. -/
def capsNoneWrong : ChangeSpec := { name := "capsNone", fn := fun _ => fun
  | [d1, d2, d3] => { results := [.lit (.bool false)], args := [d1, d2, d3] }
  | _ => none }
def CapsNoneWrongFalsely : Prop := capsNoneRow.holds Try.pinned (OpenSpec.ofChange capsNoneWrong)

/-- 'donjonlaw18.MetaEncodes': WHATEVER THE INPUT: true; the input reads as it did. -/
def metaEncodesSpec : ChangeSpec := { name := "metaEncodes", fn := fun _ => fun
  | [d] => { results := [.lit (.bool true)], args := [d] }
  | _ => none }
def metaEncodesRow : OpenClaim := { program := "ytgnooakjkpkgiaa", sum := "8b7e602bb8c5239029a4c93bbb0d27a283305d55685b6008f9b398b3b92d3f6c", func := "donjon/donjonlaw18.MetaEncodes", spec := "metaEncodes", unfollowed := true, recurses := true, plainKeys := false, apart := false }
def MetaEncodesSaid : Prop := metaEncodesRow.holds Try.pinned (OpenSpec.ofChange metaEncodesSpec)

/-- ITS FALSE NEIGHBOUR: 'it returns false'. Refute it at one input. -/
def metaEncodesWrong : ChangeSpec := { name := "metaEncodes", fn := fun _ => fun
  | [d] => { results := [.lit (.bool false)], args := [d] }
  | _ => none }
def MetaEncodesWrongFalsely : Prop := metaEncodesRow.holds Try.pinned (OpenSpec.ofChange metaEncodesWrong)

/-- 'donjonlaw18.MetaDecodes': WHATEVER THE INPUT: true; the input reads as it did. -/
def metaDecodesSpec : ChangeSpec := { name := "metaDecodes", fn := fun _ => fun
  | [d] => { results := [.lit (.bool true)], args := [d] }
  | _ => none }
def metaDecodesRow : OpenClaim := { program := "ytgnooakjkpkgiaa", sum := "8b7e602bb8c5239029a4c93bbb0d27a283305d55685b6008f9b398b3b92d3f6c", func := "donjon/donjonlaw18.MetaDecodes", spec := "metaDecodes", unfollowed := true, recurses := true, plainKeys := false, apart := false }
def MetaDecodesSaid : Prop := metaDecodesRow.holds Try.pinned (OpenSpec.ofChange metaDecodesSpec)

/-- ITS FALSE NEIGHBOUR: 'it returns false'. Refute it at one input. -/
def metaDecodesWrong : ChangeSpec := { name := "metaDecodes", fn := fun _ => fun
  | [d] => { results := [.lit (.bool false)], args := [d] }
  | _ => none }
def MetaDecodesWrongFalsely : Prop := metaDecodesRow.holds Try.pinned (OpenSpec.ofChange metaDecodesWrong)

/-- 'donjonlaw18.MetaOpens': WHATEVER THE INPUT: true; the input reads as it did. -/
def metaOpensSpec : ChangeSpec := { name := "metaOpens", fn := fun _ => fun
  | [d1, d2, d3] => { results := [.lit (.bool true)], args := [d1, d2, d3] }
  | _ => none }
def metaOpensRow : OpenClaim := { program := "ytgnooakjkpkgiaa", sum := "8b7e602bb8c5239029a4c93bbb0d27a283305d55685b6008f9b398b3b92d3f6c", func := "donjon/donjonlaw18.MetaOpens", spec := "metaOpens", unfollowed := true, recurses := true, plainKeys := false, apart := false }
def MetaOpensSaid : Prop := metaOpensRow.holds Try.pinned (OpenSpec.ofChange metaOpensSpec)

/-- ITS FALSE NEIGHBOUR: 'it returns false'. Refute it at one input. -/
def metaOpensWrong : ChangeSpec := { name := "metaOpens", fn := fun _ => fun
  | [d1, d2, d3] => { results := [.lit (.bool false)], args := [d1, d2, d3] }
  | _ => none }
def MetaOpensWrongFalsely : Prop := metaOpensRow.holds Try.pinned (OpenSpec.ofChange metaOpensWrong)

/-- 'donjonlaw18.MetaNone': WHATEVER THE INPUT: true; the input reads as it did. -/
def metaNoneSpec : ChangeSpec := { name := "metaNone", fn := fun _ => fun
  | [d1, d2, d3] => { results := [.lit (.bool true)], args := [d1, d2, d3] }
  | _ => none }
def metaNoneRow : OpenClaim := { program := "ytgnooakjkpkgiaa", sum := "8b7e602bb8c5239029a4c93bbb0d27a283305d55685b6008f9b398b3b92d3f6c", func := "donjon/donjonlaw18.MetaNone", spec := "metaNone", unfollowed := true, recurses := true, plainKeys := false, apart := false }
def MetaNoneSaid : Prop := metaNoneRow.holds Try.pinned (OpenSpec.ofChange metaNoneSpec)

/-- ITS FALSE NEIGHBOUR: 'it returns false'. Refute it at one input. -/
def metaNoneWrong : ChangeSpec := { name := "metaNone", fn := fun _ => fun
  | [d1, d2, d3] => { results := [.lit (.bool false)], args := [d1, d2, d3] }
  | _ => none }
def MetaNoneWrongFalsely : Prop := metaNoneRow.holds Try.pinned (OpenSpec.ofChange metaNoneWrong)

/-- 'donjonlaw18.MetaBack': WHATEVER THE INPUT: true; the input reads as it did. -/
def metaBackSpec : ChangeSpec := { name := "metaBack", fn := fun _ => fun
  | [d1, d2] => { results := [.lit (.bool true)], args := [d1, d2] }
  | _ => none }
def metaBackRow : OpenClaim := { program := "ytgnooakjkpkgiaa", sum := "8b7e602bb8c5239029a4c93bbb0d27a283305d55685b6008f9b398b3b92d3f6c", func := "donjon/donjonlaw18.MetaBack", spec := "metaBack", unfollowed := true, recurses := true, plainKeys := false, apart := false }
def MetaBackSaid : Prop := metaBackRow.holds Try.pinned (OpenSpec.ofChange metaBackSpec)

/-- ITS FALSE NEIGHBOUR: 'it returns false'. Refute it at one input. -/
def metaBackWrong : ChangeSpec := { name := "metaBack", fn := fun _ => fun
  | [d1, d2] => { results := [.lit (.bool false)], args := [d1, d2] }
  | _ => none }
def MetaBackWrongFalsely : Prop := metaBackRow.holds Try.pinned (OpenSpec.ofChange metaBackWrong)

/-- 'donjonlaw18.MetaOnly': WHATEVER THE INPUT: true; the input reads as it did. -/
def metaOnlySpec : ChangeSpec := { name := "metaOnly", fn := fun _ => fun
  | [d] => { results := [.lit (.bool true)], args := [d] }
  | _ => none }
def metaOnlyRow : OpenClaim := { program := "ytgnooakjkpkgiaa", sum := "8b7e602bb8c5239029a4c93bbb0d27a283305d55685b6008f9b398b3b92d3f6c", func := "donjon/donjonlaw18.MetaOnly", spec := "metaOnly", unfollowed := true, recurses := true, plainKeys := false, apart := false }
def MetaOnlySaid : Prop := metaOnlyRow.holds Try.pinned (OpenSpec.ofChange metaOnlySpec)

/-- ITS FALSE NEIGHBOUR: 'it returns false'. Refute it at one input. -/
def metaOnlyWrong : ChangeSpec := { name := "metaOnly", fn := fun _ => fun
  | [d] => { results := [.lit (.bool false)], args := [d] }
  | _ => none }
def MetaOnlyWrongFalsely : Prop := metaOnlyRow.holds Try.pinned (OpenSpec.ofChange metaOnlyWrong)

/-- 'donjonlaw21.ReviveFree': WHATEVER THE INPUT: true; the input reads as it did. -/
def reviveFreeSpec : ChangeSpec := { name := "reviveFree", fn := fun _ => fun
  | [d1, d2] => { results := [.lit (.bool true)], args := [d1, d2] }
  | _ => none }
def reviveFreeRow : OpenClaim := { program := "ytgnooakjkpkgiaa", sum := "8b7e602bb8c5239029a4c93bbb0d27a283305d55685b6008f9b398b3b92d3f6c", func := "donjon/donjonlaw21.ReviveFree", spec := "reviveFree", unfollowed := true, recurses := true, plainKeys := false, apart := false }
def ReviveFreeSaid : Prop := reviveFreeRow.holds Try.pinned (OpenSpec.ofChange reviveFreeSpec)

/-- ITS FALSE NEIGHBOUR: 'it returns false'. Refute it at one input. -/
def reviveFreeWrong : ChangeSpec := { name := "reviveFree", fn := fun _ => fun
  | [d1, d2] => { results := [.lit (.bool false)], args := [d1, d2] }
  | _ => none }
def ReviveFreeWrongFalsely : Prop := reviveFreeRow.holds Try.pinned (OpenSpec.ofChange reviveFreeWrong)

/-- 'donjonlaw21.ReviveNone': WHATEVER THE INPUT: true; the input reads as it did. -/
def reviveNoneSpec : ChangeSpec := { name := "reviveNone", fn := fun _ => fun
  | [d] => { results := [.lit (.bool true)], args := [d] }
  | _ => none }
def reviveNoneRow : OpenClaim := { program := "ytgnooakjkpkgiaa", sum := "8b7e602bb8c5239029a4c93bbb0d27a283305d55685b6008f9b398b3b92d3f6c", func := "donjon/donjonlaw21.ReviveNone", spec := "reviveNone", unfollowed := true, recurses := true, plainKeys := false, apart := false }
def ReviveNoneSaid : Prop := reviveNoneRow.holds Try.pinned (OpenSpec.ofChange reviveNoneSpec)

/-- ITS FALSE NEIGHBOUR: 'it returns false'. Refute it at one input. -/
def reviveNoneWrong : ChangeSpec := { name := "reviveNone", fn := fun _ => fun
  | [d] => { results := [.lit (.bool false)], args := [d] }
  | _ => none }
def ReviveNoneWrongFalsely : Prop := reviveNoneRow.holds Try.pinned (OpenSpec.ofChange reviveNoneWrong)

/-- 'donjonlaw21.ReviveApart': WHATEVER THE INPUT: true; the input reads as it did. -/
def reviveApartSpec : ChangeSpec := { name := "reviveApart", fn := fun _ => fun
  | [d1, d2, d3] => { results := [.lit (.bool true)], args := [d1, d2, d3] }
  | _ => none }
def reviveApartRow : OpenClaim := { program := "ytgnooakjkpkgiaa", sum := "8b7e602bb8c5239029a4c93bbb0d27a283305d55685b6008f9b398b3b92d3f6c", func := "donjon/donjonlaw21.ReviveApart", spec := "reviveApart", unfollowed := true, recurses := true, plainKeys := false, apart := false }
def ReviveApartSaid : Prop := reviveApartRow.holds Try.pinned (OpenSpec.ofChange reviveApartSpec)

/-- ITS FALSE NEIGHBOUR: 'it returns false'. Refute it at one input. -/
def reviveApartWrong : ChangeSpec := { name := "reviveApart", fn := fun _ => fun
  | [d1, d2, d3] => { results := [.lit (.bool false)], args := [d1, d2, d3] }
  | _ => none }
def ReviveApartWrongFalsely : Prop := reviveApartRow.holds Try.pinned (OpenSpec.ofChange reviveApartWrong)

/- THE SECOND FORM. 'bulk': how many values and letters a reading holds, each counted each time it is reached (what is shared counts as often as it is met; a slice's spare places count too). A statement '..UptoSaid' is the law's where the arguments, and the package variables that the reading takes, are together of bulk at most 1048576: NARROWER than '..Said'. Prove '..Said' where nothing that the law and all that it calls make is longer than what came in: it says more and counts as full. Else prove '..UptoSaid'. A law counts once. -/
mutual
def uptoBulk {H : Type} : DataW H → Nat
  | .lit (.string bytes) => bytes.length + 1
  | .lit _ => 1
  | .nil => 1
  | .ptr d => uptoBulk d + 1
  | .slice elems spare => uptoBulkAll elems + uptoBulkAll spare + 1
  | .agg parts => uptoBulkAll parts + 1
  | .iface _ d => uptoBulk d + 1
  | .map entries => uptoBulkEntries entries + 1
  | .held _ => 1
def uptoBulkAll {H : Type} : List (DataW H) → Nat
  | [] => 0
  | d :: r => uptoBulk d + uptoBulkAll r
def uptoBulkEntries {H : Type} : List (Lit × DataW H) → Nat
  | [] => 0
  | x :: r => uptoBulkEntry x + uptoBulkEntries r
def uptoBulkEntry {H : Type} : Lit × DataW H → Nat
  | (.string bytes, d) => bytes.length + uptoBulk d + 1
  | (_, d) => uptoBulk d + 1
 end
def uptoSmall : (H : Type) → List (DataW H) → Bool := fun _ ds => decide (uptoBulkAll ds ≤ 1048576)
def OpenSpec.upto (s : _root_.Go.ChangeSpec) : _root_.Go.OpenSpec := { _root_.Go.OpenSpec.ofChange s with cond := some uptoSmall }

/-- 'donjonlaw22.HierApart', WHERE WHAT IT READS IS OF BULK AT MOST 1048576: true; the input reads as it did. -/
def hierApartUptoRow : OpenClaim := { program := "ytgnooakjkpkgiaa", sum := "8b7e602bb8c5239029a4c93bbb0d27a283305d55685b6008f9b398b3b92d3f6c", func := "donjon/donjonlaw22.HierApart", spec := "hierApart", unfollowed := true, recurses := true, plainKeys := false, apart := false, narrowed := true }
def HierApartUptoSaid : Prop := hierApartUptoRow.holds Try.pinned (OpenSpec.upto hierApartSpec)

/-- 'donjonlaw10.SealLogs', WHERE WHAT IT READS IS OF BULK AT MOST 1048576: true; the input reads as it did. -/
def sealLogsUptoRow : OpenClaim := { program := "ytgnooakjkpkgiaa", sum := "8b7e602bb8c5239029a4c93bbb0d27a283305d55685b6008f9b398b3b92d3f6c", func := "donjon/donjonlaw10.SealLogs", spec := "sealLogs", unfollowed := true, recurses := true, plainKeys := false, apart := false, narrowed := true }
def SealLogsUptoSaid : Prop := sealLogsUptoRow.holds Try.pinned (OpenSpec.upto sealLogsSpec)

/-- 'donjonlaw25.CapsFew', WHERE WHAT IT READS IS OF BULK AT MOST 1048576: true; the input reads as it did. -/
def capsFewUptoRow : OpenClaim := { program := "ytgnooakjkpkgiaa", sum := "8b7e602bb8c5239029a4c93bbb0d27a283305d55685b6008f9b398b3b92d3f6c", func := "donjon/donjonlaw25.CapsFew", spec := "capsFew", inPlace := ["maps.clone"], unfollowed := true, recurses := true, plainKeys := false, apart := false, narrowed := true }
def CapsFewUptoSaid : Prop := capsFewUptoRow.holds Try.pinned (OpenSpec.upto capsFewSpec)

/-- 'donjonlaw25.CapsFall', WHERE WHAT IT READS IS OF BULK AT MOST 1048576: true; the input reads as it did. -/
def capsFallUptoRow : OpenClaim := { program := "ytgnooakjkpkgiaa", sum := "8b7e602bb8c5239029a4c93bbb0d27a283305d55685b6008f9b398b3b92d3f6c", func := "donjon/donjonlaw25.CapsFall", spec := "capsFall", inPlace := ["maps.clone"], unfollowed := true, recurses := true, plainKeys := false, apart := false, narrowed := true }
def CapsFallUptoSaid : Prop := capsFallUptoRow.holds Try.pinned (OpenSpec.upto capsFallSpec)

/-- 'donjonlaw25.CapsPlays', WHERE WHAT IT READS IS OF BULK AT MOST 1048576: true; the input reads as it did. -/
def capsPlaysUptoRow : OpenClaim := { program := "ytgnooakjkpkgiaa", sum := "8b7e602bb8c5239029a4c93bbb0d27a283305d55685b6008f9b398b3b92d3f6c", func := "donjon/donjonlaw25.CapsPlays", spec := "capsPlays", inPlace := ["maps.clone"], unfollowed := true, recurses := true, plainKeys := false, apart := false, narrowed := true }
def CapsPlaysUptoSaid : Prop := capsPlaysUptoRow.holds Try.pinned (OpenSpec.upto capsPlaysSpec)

/-- 'donjonlaw25.CapsNone', WHERE WHAT IT READS IS OF BULK AT MOST 1048576: true; the input reads as it did. -/
def capsNoneUptoRow : OpenClaim := { program := "ytgnooakjkpkgiaa", sum := "8b7e602bb8c5239029a4c93bbb0d27a283305d55685b6008f9b398b3b92d3f6c", func := "donjon/donjonlaw25.CapsNone", spec := "capsNone", inPlace := ["maps.clone"], unfollowed := true, recurses := true, plainKeys := false, apart := false, narrowed := true }
def CapsNoneUptoSaid : Prop := capsNoneUptoRow.holds Try.pinned (OpenSpec.upto capsNoneSpec)

/-- 'donjonlaw18.MetaEncodes', WHERE WHAT IT READS IS OF BULK AT MOST 1048576: true; the input reads as it did. -/
def metaEncodesUptoRow : OpenClaim := { program := "ytgnooakjkpkgiaa", sum := "8b7e602bb8c5239029a4c93bbb0d27a283305d55685b6008f9b398b3b92d3f6c", func := "donjon/donjonlaw18.MetaEncodes", spec := "metaEncodes", unfollowed := true, recurses := true, plainKeys := false, apart := false, narrowed := true }
def MetaEncodesUptoSaid : Prop := metaEncodesUptoRow.holds Try.pinned (OpenSpec.upto metaEncodesSpec)

/-- 'donjonlaw18.MetaDecodes', WHERE WHAT IT READS IS OF BULK AT MOST 1048576: true; the input reads as it did. -/
def metaDecodesUptoRow : OpenClaim := { program := "ytgnooakjkpkgiaa", sum := "8b7e602bb8c5239029a4c93bbb0d27a283305d55685b6008f9b398b3b92d3f6c", func := "donjon/donjonlaw18.MetaDecodes", spec := "metaDecodes", unfollowed := true, recurses := true, plainKeys := false, apart := false, narrowed := true }
def MetaDecodesUptoSaid : Prop := metaDecodesUptoRow.holds Try.pinned (OpenSpec.upto metaDecodesSpec)

/-- 'donjonlaw18.MetaOpens', WHERE WHAT IT READS IS OF BULK AT MOST 1048576: true; the input reads as it did. -/
def metaOpensUptoRow : OpenClaim := { program := "ytgnooakjkpkgiaa", sum := "8b7e602bb8c5239029a4c93bbb0d27a283305d55685b6008f9b398b3b92d3f6c", func := "donjon/donjonlaw18.MetaOpens", spec := "metaOpens", unfollowed := true, recurses := true, plainKeys := false, apart := false, narrowed := true }
def MetaOpensUptoSaid : Prop := metaOpensUptoRow.holds Try.pinned (OpenSpec.upto metaOpensSpec)

/-- 'donjonlaw18.MetaNone', WHERE WHAT IT READS IS OF BULK AT MOST 1048576: true; the input reads as it did. -/
def metaNoneUptoRow : OpenClaim := { program := "ytgnooakjkpkgiaa", sum := "8b7e602bb8c5239029a4c93bbb0d27a283305d55685b6008f9b398b3b92d3f6c", func := "donjon/donjonlaw18.MetaNone", spec := "metaNone", unfollowed := true, recurses := true, plainKeys := false, apart := false, narrowed := true }
def MetaNoneUptoSaid : Prop := metaNoneUptoRow.holds Try.pinned (OpenSpec.upto metaNoneSpec)

/-- 'donjonlaw18.MetaBack', WHERE WHAT IT READS IS OF BULK AT MOST 1048576: true; the input reads as it did. -/
def metaBackUptoRow : OpenClaim := { program := "ytgnooakjkpkgiaa", sum := "8b7e602bb8c5239029a4c93bbb0d27a283305d55685b6008f9b398b3b92d3f6c", func := "donjon/donjonlaw18.MetaBack", spec := "metaBack", unfollowed := true, recurses := true, plainKeys := false, apart := false, narrowed := true }
def MetaBackUptoSaid : Prop := metaBackUptoRow.holds Try.pinned (OpenSpec.upto metaBackSpec)

/-- 'donjonlaw18.MetaOnly', WHERE WHAT IT READS IS OF BULK AT MOST 1048576: true; the input reads as it did. -/
def metaOnlyUptoRow : OpenClaim := { program := "ytgnooakjkpkgiaa", sum := "8b7e602bb8c5239029a4c93bbb0d27a283305d55685b6008f9b398b3b92d3f6c", func := "donjon/donjonlaw18.MetaOnly", spec := "metaOnly", unfollowed := true, recurses := true, plainKeys := false, apart := false, narrowed := true }
def MetaOnlyUptoSaid : Prop := metaOnlyUptoRow.holds Try.pinned (OpenSpec.upto metaOnlySpec)

/-- 'donjonlaw21.ReviveFree', WHERE WHAT IT READS IS OF BULK AT MOST 1048576: true; the input reads as it did. -/
def reviveFreeUptoRow : OpenClaim := { program := "ytgnooakjkpkgiaa", sum := "8b7e602bb8c5239029a4c93bbb0d27a283305d55685b6008f9b398b3b92d3f6c", func := "donjon/donjonlaw21.ReviveFree", spec := "reviveFree", unfollowed := true, recurses := true, plainKeys := false, apart := false, narrowed := true }
def ReviveFreeUptoSaid : Prop := reviveFreeUptoRow.holds Try.pinned (OpenSpec.upto reviveFreeSpec)

/-- 'donjonlaw21.ReviveNone', WHERE WHAT IT READS IS OF BULK AT MOST 1048576: true; the input reads as it did. -/
def reviveNoneUptoRow : OpenClaim := { program := "ytgnooakjkpkgiaa", sum := "8b7e602bb8c5239029a4c93bbb0d27a283305d55685b6008f9b398b3b92d3f6c", func := "donjon/donjonlaw21.ReviveNone", spec := "reviveNone", unfollowed := true, recurses := true, plainKeys := false, apart := false, narrowed := true }
def ReviveNoneUptoSaid : Prop := reviveNoneUptoRow.holds Try.pinned (OpenSpec.upto reviveNoneSpec)

/-- 'donjonlaw21.ReviveApart', WHERE WHAT IT READS IS OF BULK AT MOST 1048576: true; the input reads as it did. -/
def reviveApartUptoRow : OpenClaim := { program := "ytgnooakjkpkgiaa", sum := "8b7e602bb8c5239029a4c93bbb0d27a283305d55685b6008f9b398b3b92d3f6c", func := "donjon/donjonlaw21.ReviveApart", spec := "reviveApart", unfollowed := true, recurses := true, plainKeys := false, apart := false, narrowed := true }
def ReviveApartUptoSaid : Prop := reviveApartUptoRow.holds Try.pinned (OpenSpec.upto reviveApartSpec)

end Rows
end Go.Proofs.Ytgnooakjkpkgiaa
