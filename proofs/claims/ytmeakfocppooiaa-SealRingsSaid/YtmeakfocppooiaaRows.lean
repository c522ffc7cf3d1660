/-
  No cell of these rows narrows 'for every input' (looked for: loops, veiled, ifaces, maps, wideKeys, modest, calm, conditions, laid).
  DERIVED. THE GIVEN ROWS OF THIS SEAT. 10 by the template 'for every input the law returns true; each argument reads behind the call as it read before'; 0 by the template 'total and deterministic' (their statements: YtmeakfocppooiaaTotals.lean).
  GIVEN WITH THE SEED: the statements are not yours to turn. If you find one false, say at which input.
  Laid BY PROGRAM, IN A SANDBOX (cutbox-rows.mjs): the forced cells as the released guide's own fill.sh prints them over the translation d0d6dba463f7ba87… (all of the seat's roots in one cut). By AI agents, Wed Nov 11 2026. No macro, syntax, notation, axiom, sorry.
-/
import Derived.Test.YtmeakfocppooiaaChecked
import GoSem.Claim
import GoSem.ClaimJoined
import GoSem.ClaimMapViews
import Derived.JoinedTies
import Derived.KernelRfl
namespace Go.Proofs.Ytmeakfocppooiaa
/- THE CELL 'sum', in the pinned program and in every row, IS THE sha256 OF THE DUMP (.gsa) THAT YtmeakfocppooiaaProg.lean LOADS. Nothing in Lean hashes anything: it is a label: what it is worth is what the hold of that sum in a sandbox is worth. -/
noncomputable def Try.pinned : Pinned := { name := "ytmeakfocppooiaa", sum := "d0d6dba463f7ba8744268aa86b5d34988a8bc841ce14b799a82b5db95d18a5b3", checked := Try.checked }
namespace Rows
def none {H : Type} : Left H := { results := [], args := [] }

/-- 'donjonlaw10.SealLogs': WHATEVER THE INPUT: true; the input reads as it did. -/
def sealLogsSpec : ChangeSpec := { name := "sealLogs", fn := fun _ => fun
  | [d] => { results := [.lit (.bool true)], args := [d] }
  | _ => none }
def sealLogsRow : OpenClaim := { program := "ytmeakfocppooiaa", sum := "d0d6dba463f7ba8744268aa86b5d34988a8bc841ce14b799a82b5db95d18a5b3", func := "donjon/donjonlaw10.SealLogs", spec := "sealLogs", unfollowed := true, recurses := true, plainKeys := false, apart := false }
def SealLogsSaid : Prop := sealLogsRow.holds Try.pinned (OpenSpec.ofChange sealLogsSpec)

/-- ITS FALSE NEIGHBOUR: 'it returns false'. Refute it at one input. -/
def sealLogsWrong : ChangeSpec := { name := "sealLogs", fn := fun _ => fun
  | [d] => { results := [.lit (.bool false)], args := [d] }
  | _ => none }
def SealLogsWrongFalsely : Prop := sealLogsRow.holds Try.pinned (OpenSpec.ofChange sealLogsWrong)

/-- 'donjonlaw25.CapsFew': WHATEVER THE INPUT: true; the input reads as it did. -/
def capsFewSpec : ChangeSpec := { name := "capsFew", fn := fun _ => fun
  | [d1, d2] => { results := [.lit (.bool true)], args := [d1, d2] }
  | _ => none }
def capsFewRow : OpenClaim := { program := "ytmeakfocppooiaa", sum := "d0d6dba463f7ba8744268aa86b5d34988a8bc841ce14b799a82b5db95d18a5b3", func := "donjon/donjonlaw25.CapsFew", spec := "capsFew", inPlace := ["maps.clone"], unfollowed := true, recurses := true, plainKeys := false, apart := false }
def CapsFewSaid : Prop := capsFewRow.holds Try.pinned (OpenSpec.ofChange capsFewSpec)

/-- ITS FALSE NEIGHBOUR: 'it returns false'. Refute it at one input. -/
def capsFewWrong : ChangeSpec := { name := "capsFew", fn := fun _ => fun
  | [d1, d2] => { results := [.lit (.bool false)], args := [d1, d2] }
  | _ => none }
def CapsFewWrongFalsely : Prop := capsFewRow.holds Try.pinned (OpenSpec.ofChange capsFewWrong)

/-- 'donjonlaw25.CapsFall': WHATEVER THE INPUT: true; the input reads as it did. -/
def capsFallSpec : ChangeSpec := { name := "capsFall", fn := fun _ => fun
  | [d] => { results := [.lit (.bool true)], args := [d] }
  | _ => none }
def capsFallRow : OpenClaim := { program := "ytmeakfocppooiaa", sum := "d0d6dba463f7ba8744268aa86b5d34988a8bc841ce14b799a82b5db95d18a5b3", func := "donjon/donjonlaw25.CapsFall", spec := "capsFall", inPlace := ["maps.clone"], unfollowed := true, recurses := true, plainKeys := false, apart := false }
def CapsFallSaid : Prop := capsFallRow.holds Try.pinned (OpenSpec.ofChange capsFallSpec)

/-- ITS FALSE NEIGHBOUR: 'it returns false'. Refute it at one input. -/
def capsFallWrong : ChangeSpec := { name := "capsFall", fn := fun _ => fun
  | [d] => { results := [.lit (.bool false)], args := [d] }
  | _ => none }
def CapsFallWrongFalsely : Prop := capsFallRow.holds Try.pinned (OpenSpec.ofChange capsFallWrong)

/-- 'donjonlaw25.CapsPlays': WHATEVER THE INPUT: true; the input reads as it did. -/
def capsPlaysSpec : ChangeSpec := { name := "capsPlays", fn := fun _ => fun
  | [d] => { results := [.lit (.bool true)], args := [d] }
  | _ => none }
def capsPlaysRow : OpenClaim := { program := "ytmeakfocppooiaa", sum := "d0d6dba463f7ba8744268aa86b5d34988a8bc841ce14b799a82b5db95d18a5b3", func := "donjon/donjonlaw25.CapsPlays", spec := "capsPlays", inPlace := ["maps.clone"], unfollowed := true, recurses := true, plainKeys := false, apart := false }
def CapsPlaysSaid : Prop := capsPlaysRow.holds Try.pinned (OpenSpec.ofChange capsPlaysSpec)

/-- ITS FALSE NEIGHBOUR: 'it returns false'. Refute it at one input. -/
def capsPlaysWrong : ChangeSpec := { name := "capsPlays", fn := fun _ => fun
  | [d] => { results := [.lit (.bool false)], args := [d] }
  | _ => none }
def CapsPlaysWrongFalsely : Prop := capsPlaysRow.holds Try.pinned (OpenSpec.ofChange capsPlaysWrong)

/-- 'donjonlaw25.CapsNone': WHATEVER THE INPUT: true; the input reads as it did. -/
def capsNoneSpec : ChangeSpec := { name := "capsNone", fn := fun _ => fun
  | [d1, d2, d3] => { results := [.lit (.bool true)], args := [d1, d2, d3] }
  | _ => none }
def capsNoneRow : OpenClaim := { program := "ytmeakfocppooiaa", sum := "d0d6dba463f7ba8744268aa86b5d34988a8bc841ce14b799a82b5db95d18a5b3", func := "donjon/donjonlaw25.CapsNone", spec := "capsNone", inPlace := ["maps.clone"], unfollowed := true, recurses := true, plainKeys := false, apart := false }
def CapsNoneSaid : Prop := capsNoneRow.holds Try.pinned (OpenSpec.ofChange capsNoneSpec)

/-- ITS FALSE NEIGHBOUR: 'it returns false'. Refute it at one input. -/
def capsNoneWrong : ChangeSpec := { name := "capsNone", fn := fun _ => fun
  | [d1, d2, d3] => { results := [.lit (.bool false)], args := [d1, d2, d3] }
  | _ => none }
def CapsNoneWrongFalsely : Prop := capsNoneRow.holds Try.pinned (OpenSpec.ofChange capsNoneWrong)

/-- 'donjonlaw21.ReviveFree': WHATEVER THE INPUT: true; the input reads as it did. -/
def reviveFreeSpec : ChangeSpec := { name := "reviveFree", fn := fun _ => fun
  | [d1, d2] => { results := [.lit (.bool true)], args := [d1, d2] }
  | _ => none }
def reviveFreeRow : OpenClaim := { program := "ytmeakfocppooiaa", sum := "d0d6dba463f7ba8744268aa86b5d34988a8bc841ce14b799a82b5db95d18a5b3", func := "donjon/donjonlaw21.ReviveFree", spec := "reviveFree", unfollowed := true, recurses := true, plainKeys := false, apart := false }
def ReviveFreeSaid : Prop := reviveFreeRow.holds Try.pinned (OpenSpec.ofChange reviveFreeSpec)

/-- ITS FALSE NEIGHBOUR: 'it returns false'. Refute it at one input. -/
def reviveFreeWrong : ChangeSpec := { name := "reviveFree", fn := fun _ => fun
  | [d1, d2] => { results := [.lit (.bool false)], args := [d1, d2] }
  | _ => none }
def ReviveFreeWrongFalsely : Prop := reviveFreeRow.holds Try.pinned (OpenSpec.ofChange reviveFreeWrong)

/-- 'donjonlaw21.ReviveNone': WHATEVER THE INPUT: true; the input reads as it did. -/
def reviveNoneSpec : ChangeSpec := { name := "reviveNone", fn := fun _ => fun
  | [d] => { results := [.lit (.bool true)], args := [d] }
  | _ => none }
def reviveNoneRow : OpenClaim := { program := "ytmeakfocppooiaa", sum := "d0d6dba463f7ba8744268aa86b5d34988a8bc841ce14b799a82b5db95d18a5b3", func := "donjon/donjonlaw21.ReviveNone", spec := "reviveNone", unfollowed := true, recurses := true, plainKeys := false, apart := false }
def ReviveNoneSaid : Prop := reviveNoneRow.holds Try.pinned (OpenSpec.ofChange reviveNoneSpec)

/-- ITS FALSE NEIGHBOUR: 'it returns false'. Refute it at one input. -/
def reviveNoneWrong : ChangeSpec := { name := "reviveNone", fn := fun _ => fun
  | [d] => { results := [.lit (.bool false)], args := [d] }
  | _ => none }
def ReviveNoneWrongFalsely : Prop := reviveNoneRow.holds Try.pinned (OpenSpec.ofChange reviveNoneWrong)

/-- 'donjonlaw21.ReviveApart': WHATEVER THE INPUT: true; the input reads as it did. -/
def reviveApartSpec : ChangeSpec := { name := "reviveApart", fn := fun _ => fun
  | [d1, d2, d3] => { results := [.lit (.bool true)], args := [d1, d2, d3] }
  | _ => none }
def reviveApartRow : OpenClaim := { program := "ytmeakfocppooiaa", sum := "d0d6dba463f7ba8744268aa86b5d34988a8bc841ce14b799a82b5db95d18a5b3", func := "donjon/donjonlaw21.ReviveApart", spec := "reviveApart", unfollowed := true, recurses := true, plainKeys := false, apart := false }
def ReviveApartSaid : Prop := reviveApartRow.holds Try.pinned (OpenSpec.ofChange reviveApartSpec)

/-- ITS FALSE NEIGHBOUR: 'it returns false'. Refute it at one input. -/
def reviveApartWrong : ChangeSpec := { name := "reviveApart", fn := fun _ => fun
  | [d1, d2, d3] => { results := [.lit (.bool false)], args := [d1, d2, d3] }
  | _ => none }
def ReviveApartWrongFalsely : Prop := reviveApartRow.holds Try.pinned (OpenSpec.ofChange reviveApartWrong)

/-- 'donjonlaw10.SealRings': WHATEVER THE INPUT: true; the input reads as it did. -/
def sealRingsSpec : ChangeSpec := { name := "sealRings", fn := fun _ => fun
  | [d] => { results := [.lit (.bool true)], args := [d] }
  | _ => none }
def sealRingsRow : OpenClaim := { program := "ytmeakfocppooiaa", sum := "d0d6dba463f7ba8744268aa86b5d34988a8bc841ce14b799a82b5db95d18a5b3", func := "donjon/donjonlaw10.SealRings", spec := "sealRings", unfollowed := true, recurses := true, plainKeys := false, apart := false }
def SealRingsSaid : Prop := sealRingsRow.holds Try.pinned (OpenSpec.ofChange sealRingsSpec)

/-- ITS FALSE NEIGHBOUR: 'it returns false'. Refute it at one input. -/
def sealRingsWrong : ChangeSpec := { name := "sealRings", fn := fun _ => fun
  | [d] => { results := [.lit (.bool false)], args := [d] }
  | _ => none }
def SealRingsWrongFalsely : Prop := sealRingsRow.holds Try.pinned (OpenSpec.ofChange sealRingsWrong)

/-- 'donjonlaw10.SealNone': WHATEVER THE INPUT: true; the input reads as it did. -/
def sealNoneSpec : ChangeSpec := { name := "sealNone", fn := fun _ => fun
  | [d1, d2] => { results := [.lit (.bool true)], args := [d1, d2] }
  | _ => none }
def sealNoneRow : OpenClaim := { program := "ytmeakfocppooiaa", sum := "d0d6dba463f7ba8744268aa86b5d34988a8bc841ce14b799a82b5db95d18a5b3", func := "donjon/donjonlaw10.SealNone", spec := "sealNone", unfollowed := true, recurses := true, plainKeys := false, apart := false }
def SealNoneSaid : Prop := sealNoneRow.holds Try.pinned (OpenSpec.ofChange sealNoneSpec)

/-- ITS FALSE NEIGHBOUR: 'it returns false'. Refute it at one input. -/
def sealNoneWrong : ChangeSpec := { name := "sealNone", fn := fun _ => fun
  | [d1, d2] => { results := [.lit (.bool false)], args := [d1, d2] }
  | _ => none }
def SealNoneWrongFalsely : Prop := sealNoneRow.holds Try.pinned (OpenSpec.ofChange sealNoneWrong)

/- THE SECOND FORM. 'bulk': how many values and letters a reading holds, each counted each time it is reached (what is shared counts as often as it is met; a slice's spare places count too). A statement '..UptoSaid' is the law's where the arguments, and the package variables that the reading takes, are together of bulk at most 1048576: NARROWER than '..Said'. Prove '..Said' where nothing that the law and all that it calls make is longer than what came in: it says more and counts as full. Else prove '..UptoSaid'. A law counts once. -/
mutual
def uptoBulk {H : Type} : DataW H → Nat
  | .lit (.string bytes) => bytes.length + 1
  | .lit _ => 1
  | .nil => 1
  | .ptr d => uptoBulk d + 1
  | .slice elems spare => uptoBulkAll elems + uptoBulkAll spare + 1
  | .agg parts => uptoBulkAll parts + 1
  | .iface _ d => uptoBulk d + 1
  | .map entries => uptoBulkEntries entries + 1
  | .held _ => 1
def uptoBulkAll {H : Type} : List (DataW H) → Nat
  | [] => 0
  | d :: r => uptoBulk d + uptoBulkAll r
def uptoBulkEntries {H : Type} : List (Lit × DataW H) → Nat
  | [] => 0
  | x :: r => uptoBulkEntry x + uptoBulkEntries r
def uptoBulkEntry {H : Type} : Lit × DataW H → Nat
  | (.string bytes, d) => bytes.length + uptoBulk d + 1
  | (_, d) => uptoBulk d + 1
 end
def uptoSmall : (H : Type) → List (DataW H) → Bool := fun _ ds => decide (uptoBulkAll ds ≤ 1048576)
def OpenSpec.upto (s : _root_.Go.ChangeSpec) : _root_.Go.OpenSpec := { _root_.Go.OpenSpec.ofChange s with cond := some uptoSmall }

/-- 'donjonlaw10.SealLogs', WHERE WHAT IT READS IS OF BULK AT MOST 1048576: true; the input reads as it did. -/
def sealLogsUptoRow : OpenClaim := { program := "ytmeakfocppooiaa", sum := "d0d6dba463f7ba8744268aa86b5d34988a8bc841ce14b799a82b5db95d18a5b3", func := "donjon/donjonlaw10.SealLogs", spec := "sealLogs", unfollowed := true, recurses := true, plainKeys := false, apart := false, narrowed := true }
def SealLogsUptoSaid : Prop := sealLogsUptoRow.holds Try.pinned (OpenSpec.upto sealLogsSpec)

/-- 'donjonlaw25.CapsFew', WHERE WHAT IT READS IS OF BULK AT MOST 1048576: true; the input reads as it did. -/
def capsFewUptoRow : OpenClaim := { program := "ytmeakfocppooiaa", sum := "d0d6dba463f7ba8744268aa86b5d34988a8bc841ce14b799a82b5db95d18a5b3", func := "donjon/donjonlaw25.CapsFew", spec := "capsFew", inPlace := ["maps.clone"], unfollowed := true, recurses := true, plainKeys := false, apart := false, narrowed := true }
def CapsFewUptoSaid : Prop := capsFewUptoRow.holds Try.pinned (OpenSpec.upto capsFewSpec)

/-- 'donjonlaw25.CapsFall', WHERE WHAT IT READS IS OF BULK AT MOST 1048576: true; the input reads as it did. -/
def capsFallUptoRow : OpenClaim := { program := "ytmeakfocppooiaa", sum := "d0d6dba463f7ba8744268aa86b5d34988a8bc841ce14b799a82b5db95d18a5b3", func := "donjon/donjonlaw25.CapsFall", spec := "capsFall", inPlace := ["maps.clone"], unfollowed := true, recurses := true, plainKeys := false, apart := false, narrowed := true }
def CapsFallUptoSaid : Prop := capsFallUptoRow.holds Try.pinned (OpenSpec.upto capsFallSpec)

/-- 'donjonlaw25.CapsPlays', WHERE WHAT IT READS IS OF BULK AT MOST 1048576: true; the input reads as it did. -/
def capsPlaysUptoRow : OpenClaim := { program := "ytmeakfocppooiaa", sum := "d0d6dba463f7ba8744268aa86b5d34988a8bc841ce14b799a82b5db95d18a5b3", func := "donjon/donjonlaw25.CapsPlays", spec := "capsPlays", inPlace := ["maps.clone"], unfollowed := true, recurses := true, plainKeys := false, apart := false, narrowed := true }
def CapsPlaysUptoSaid : Prop := capsPlaysUptoRow.holds Try.pinned (OpenSpec.upto capsPlaysSpec)

/-- 'donjonlaw25.CapsNone', WHERE WHAT IT READS IS OF BULK AT MOST 1048576: true; the input reads as it did. -/
def capsNoneUptoRow : OpenClaim := { program := "ytmeakfocppooiaa", sum := "d0d6dba463f7ba8744268aa86b5d34988a8bc841ce14b799a82b5db95d18a5b3", func := "donjon/donjonlaw25.CapsNone", spec := "capsNone", inPlace := ["maps.clone"], unfollowed := true, recurses := true, plainKeys := false, apart := false, narrowed := true }
def CapsNoneUptoSaid : Prop := capsNoneUptoRow.holds Try.pinned (OpenSpec.upto capsNoneSpec)

/-- 'donjonlaw21.ReviveFree', WHERE WHAT IT READS IS OF BULK AT MOST 1048576: true; the input reads as it did. -/
def reviveFreeUptoRow : OpenClaim := { program := "ytmeakfocppooiaa", sum := "d0d6dba463f7ba8744268aa86b5d34988a8bc841ce14b799a82b5db95d18a5b3", func := "donjon/donjonlaw21.ReviveFree", spec := "reviveFree", unfollowed := true, recurses := true, plainKeys := false, apart := false, narrowed := true }
def ReviveFreeUptoSaid : Prop := reviveFreeUptoRow.holds Try.pinned (OpenSpec.upto reviveFreeSpec)

/-- 'donjonlaw21.ReviveNone', WHERE WHAT IT READS IS OF BULK AT MOST 1048576: true; the input reads as it did. -/
def reviveNoneUptoRow : OpenClaim := { program := "ytmeakfocppooiaa", sum := "d0d6dba463f7ba8744268aa86b5d34988a8bc841ce14b799a82b5db95d18a5b3", func := "donjon/donjonlaw21.ReviveNone", spec := "reviveNone", unfollowed := true, recurses := true, plainKeys := false, apart := false, narrowed := true }
def ReviveNoneUptoSaid : Prop := reviveNoneUptoRow.holds Try.pinned (OpenSpec.upto reviveNoneSpec)

/-- 'donjonlaw21.ReviveApart', WHERE WHAT IT READS IS OF BULK AT MOST 1048576: true; the input reads as it did. -/
def reviveApartUptoRow : OpenClaim := { program := "ytmeakfocppooiaa", sum := "d0d6dba463f7ba8744268aa86b5d34988a8bc841ce14b799a82b5db95d18a5b3", func := "donjon/donjonlaw21.ReviveApart", spec := "reviveApart", unfollowed := true, recurses := true, plainKeys := false, apart := false, narrowed := true }
def ReviveApartUptoSaid : Prop := reviveApartUptoRow.holds Try.pinned (OpenSpec.upto reviveApartSpec)

/-- 'donjonlaw10.SealRings', WHERE WHAT IT READS IS OF BULK AT MOST 1048576: true; the input reads as it did. -/
def sealRingsUptoRow : OpenClaim := { program := "ytmeakfocppooiaa", sum := "d0d6dba463f7ba8744268aa86b5d34988a8bc841ce14b799a82b5db95d18a5b3", func := "donjon/donjonlaw10.SealRings", spec := "sealRings", unfollowed := true, recurses := true, plainKeys := false, apart := false, narrowed := true }
def SealRingsUptoSaid : Prop := sealRingsUptoRow.holds Try.pinned (OpenSpec.upto sealRingsSpec)

/-- 'donjonlaw10.SealNone', WHERE WHAT IT READS IS OF BULK AT MOST 1048576: true; the input reads as it did. -/
def sealNoneUptoRow : OpenClaim := { program := "ytmeakfocppooiaa", sum := "d0d6dba463f7ba8744268aa86b5d34988a8bc841ce14b799a82b5db95d18a5b3", func := "donjon/donjonlaw10.SealNone", spec := "sealNone", unfollowed := true, recurses := true, plainKeys := false, apart := false, narrowed := true }
def SealNoneUptoSaid : Prop := sealNoneUptoRow.holds Try.pinned (OpenSpec.upto sealNoneSpec)

end Rows
end Go.Proofs.Ytmeakfocppooiaa
