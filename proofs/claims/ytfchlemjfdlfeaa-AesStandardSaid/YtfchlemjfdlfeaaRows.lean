/-
  No cell of these rows narrows 'for every input' (looked for: loops, veiled, ifaces, maps, wideKeys, modest, calm, conditions, laid).
  DERIVED. THE GIVEN ROWS OF THIS SEAT. 15 by the template 'for every input the law returns true; each argument reads behind the call as it read before'; 0 by the template 'total and deterministic' (their statements: YtfchlemjfdlfeaaTotals.lean).
  GIVEN WITH THE SEED: the statements are not yours to turn. If you find one false, say at which input.
  Laid BY PROGRAM, IN A SANDBOX (cutbox-rows.mjs): the forced cells as the released guide's own fill.sh prints them over the translation 59aaf8a1fafea1ce… (all of the seat's roots in one cut). By AI agents, Wed Nov 11 2026. No macro, syntax, notation, axiom, sorry.
-/
import Derived.Test.YtfchlemjfdlfeaaChecked
import GoSem.Claim
import GoSem.ClaimJoined
import GoSem.ClaimMapViews
import Derived.JoinedTies
import Derived.KernelRfl
namespace Go.Proofs.Ytfchlemjfdlfeaa
/- THE CELL 'sum', in the pinned program and in every row, IS THE sha256 OF THE DUMP (.gsa) THAT YtfchlemjfdlfeaaProg.lean LOADS. Nothing in Lean hashes anything: it is a label: what it is worth is what the hold of that sum in a sandbox is worth. -/
noncomputable def Try.pinned : Pinned := { name := "ytfchlemjfdlfeaa", sum := "59aaf8a1fafea1cef592abbdbeca19d1a3fde1fc4c69713ef326f16243690d81", checked := Try.checked }
namespace Rows
def none {H : Type} : Left H := { results := [], args := [] }

/-- 'donjonlaw03.AesWords': WHATEVER THE INPUT: true; the input reads as it did. -/
def aesWordsSpec : ChangeSpec := { name := "aesWords", fn := fun _ => fun
  | [d] => { results := [.lit (.bool true)], args := [d] }
  | _ => none }
def aesWordsRow : OpenClaim := { program := "ytfchlemjfdlfeaa", sum := "59aaf8a1fafea1cef592abbdbeca19d1a3fde1fc4c69713ef326f16243690d81", func := "donjon/donjonlaw03.AesWords", spec := "aesWords", unfollowed := true, recurses := true, apart := false }
def AesWordsSaid : Prop := aesWordsRow.holds Try.pinned (OpenSpec.ofChange aesWordsSpec)

/-- ITS FALSE NEIGHBOUR: 'it returns false'. Refute it at one input. -/
def aesWordsWrong : ChangeSpec := { name := "aesWords", fn := fun _ => fun
  | [d] => { results := [.lit (.bool false)], args := [d] }
  | _ => none }
def AesWordsWrongFalsely : Prop := aesWordsRow.holds Try.pinned (OpenSpec.ofChange aesWordsWrong)

/-- 'donjonlaw03.AesEncrypts': WHATEVER THE INPUT: true; the input reads as it did. -/
def aesEncryptsSpec : ChangeSpec := { name := "aesEncrypts", fn := fun _ => fun
  | [d1, d2] => { results := [.lit (.bool true)], args := [d1, d2] }
  | _ => none }
def aesEncryptsRow : OpenClaim := { program := "ytfchlemjfdlfeaa", sum := "59aaf8a1fafea1cef592abbdbeca19d1a3fde1fc4c69713ef326f16243690d81", func := "donjon/donjonlaw03.AesEncrypts", spec := "aesEncrypts", unfollowed := true, recurses := true, apart := false }
def AesEncryptsSaid : Prop := aesEncryptsRow.holds Try.pinned (OpenSpec.ofChange aesEncryptsSpec)

/-- ITS FALSE NEIGHBOUR: 'it returns false'. Refute it at one input. -/
def aesEncryptsWrong : ChangeSpec := { name := "aesEncrypts", fn := fun _ => fun
  | [d1, d2] => { results := [.lit (.bool false)], args := [d1, d2] }
  | _ => none }
def AesEncryptsWrongFalsely : Prop := aesEncryptsRow.holds Try.pinned (OpenSpec.ofChange aesEncryptsWrong)

/-- 'donjonlaw03.AesDecrypts': WHATEVER THE INPUT: true; the input reads as it did. -/
def aesDecryptsSpec : ChangeSpec := { name := "aesDecrypts", fn := fun _ => fun
  | [d1, d2] => { results := [.lit (.bool true)], args := [d1, d2] }
  | _ => none }
def aesDecryptsRow : OpenClaim := { program := "ytfchlemjfdlfeaa", sum := "59aaf8a1fafea1cef592abbdbeca19d1a3fde1fc4c69713ef326f16243690d81", func := "donjon/donjonlaw03.AesDecrypts", spec := "aesDecrypts", unfollowed := true, recurses := true, apart := false }
def AesDecryptsSaid : Prop := aesDecryptsRow.holds Try.pinned (OpenSpec.ofChange aesDecryptsSpec)

/-- ITS FALSE NEIGHBOUR: 'it returns false'. Refute it at one input. -/
def aesDecryptsWrong : ChangeSpec := { name := "aesDecrypts", fn := fun _ => fun
  | [d1, d2] => { results := [.lit (.bool false)], args := [d1, d2] }
  | _ => none }
def AesDecryptsWrongFalsely : Prop := aesDecryptsRow.holds Try.pinned (OpenSpec.ofChange aesDecryptsWrong)

/-- 'donjonlaw03.AesNone': WHATEVER THE INPUT: true; the input reads as it did. -/
def aesNoneSpec : ChangeSpec := { name := "aesNone", fn := fun _ => fun
  | [d] => { results := [.lit (.bool true)], args := [d] }
  | _ => none }
def aesNoneRow : OpenClaim := { program := "ytfchlemjfdlfeaa", sum := "59aaf8a1fafea1cef592abbdbeca19d1a3fde1fc4c69713ef326f16243690d81", func := "donjon/donjonlaw03.AesNone", spec := "aesNone", unfollowed := true, recurses := true, apart := false }
def AesNoneSaid : Prop := aesNoneRow.holds Try.pinned (OpenSpec.ofChange aesNoneSpec)

/-- ITS FALSE NEIGHBOUR: 'it returns false'. Refute it at one input. -/
def aesNoneWrong : ChangeSpec := { name := "aesNone", fn := fun _ => fun
  | [d] => { results := [.lit (.bool false)], args := [d] }
  | _ => none }
def AesNoneWrongFalsely : Prop := aesNoneRow.holds Try.pinned (OpenSpec.ofChange aesNoneWrong)

/-- 'donjonlaw03.AesBack': WHATEVER THE INPUT: true; the input reads as it did. -/
def aesBackSpec : ChangeSpec := { name := "aesBack", fn := fun _ => fun
  | [d1, d2, d3] => { results := [.lit (.bool true)], args := [d1, d2, d3] }
  | _ => none }
def aesBackRow : OpenClaim := { program := "ytfchlemjfdlfeaa", sum := "59aaf8a1fafea1cef592abbdbeca19d1a3fde1fc4c69713ef326f16243690d81", func := "donjon/donjonlaw03.AesBack", spec := "aesBack", unfollowed := true, recurses := true, apart := false }
def AesBackSaid : Prop := aesBackRow.holds Try.pinned (OpenSpec.ofChange aesBackSpec)

/-- ITS FALSE NEIGHBOUR: 'it returns false'. Refute it at one input. -/
def aesBackWrong : ChangeSpec := { name := "aesBack", fn := fun _ => fun
  | [d1, d2, d3] => { results := [.lit (.bool false)], args := [d1, d2, d3] }
  | _ => none }
def AesBackWrongFalsely : Prop := aesBackRow.holds Try.pinned (OpenSpec.ofChange aesBackWrong)

/-- 'donjonlaw03.AesStandard': WHATEVER THE INPUT: true; the input reads as it did. -/
def aesStandardSpec : ChangeSpec := { name := "aesStandard", fn := fun _ => fun
  | [] => { results := [.lit (.bool true)], args := [] }
  | _ => none }
def aesStandardRow : OpenClaim := { program := "ytfchlemjfdlfeaa", sum := "59aaf8a1fafea1cef592abbdbeca19d1a3fde1fc4c69713ef326f16243690d81", func := "donjon/donjonlaw03.AesStandard", spec := "aesStandard", unfollowed := true, recurses := true, apart := false }
def AesStandardSaid : Prop := aesStandardRow.holds Try.pinned (OpenSpec.ofChange aesStandardSpec)

/-- ITS FALSE NEIGHBOUR: 'it returns false'. Refute it at one input. -/
def aesStandardWrong : ChangeSpec := { name := "aesStandard", fn := fun _ => fun
  | [] => { results := [.lit (.bool false)], args := [] }
  | _ => none }
def AesStandardWrongFalsely : Prop := aesStandardRow.holds Try.pinned (OpenSpec.ofChange aesStandardWrong)

/-- 'donjonlaw05.CtrBlocks': WHATEVER THE INPUT: true; the input reads as it did. -/
def ctrBlocksSpec : ChangeSpec := { name := "ctrBlocks", fn := fun _ => fun
  | [d1, d2] => { results := [.lit (.bool true)], args := [d1, d2] }
  | _ => none }
def ctrBlocksRow : OpenClaim := { program := "ytfchlemjfdlfeaa", sum := "59aaf8a1fafea1cef592abbdbeca19d1a3fde1fc4c69713ef326f16243690d81", func := "donjon/donjonlaw05.CtrBlocks", spec := "ctrBlocks", unfollowed := true, recurses := true, apart := false }
def CtrBlocksSaid : Prop := ctrBlocksRow.holds Try.pinned (OpenSpec.ofChange ctrBlocksSpec)

/-- ITS FALSE NEIGHBOUR: 'it returns false'. Refute it at one input. -/
def ctrBlocksWrong : ChangeSpec := { name := "ctrBlocks", fn := fun _ => fun
  | [d1, d2] => { results := [.lit (.bool false)], args := [d1, d2] }
  | _ => none }
def CtrBlocksWrongFalsely : Prop := ctrBlocksRow.holds Try.pinned (OpenSpec.ofChange ctrBlocksWrong)

/-- 'donjonlaw05.CtrCrypts': WHATEVER THE INPUT: true; the input reads as it did. -/
def ctrCryptsSpec : ChangeSpec := { name := "ctrCrypts", fn := fun _ => fun
  | [d1, d2, d3] => { results := [.lit (.bool true)], args := [d1, d2, d3] }
  | _ => none }
def ctrCryptsRow : OpenClaim := { program := "ytfchlemjfdlfeaa", sum := "59aaf8a1fafea1cef592abbdbeca19d1a3fde1fc4c69713ef326f16243690d81", func := "donjon/donjonlaw05.CtrCrypts", spec := "ctrCrypts", unfollowed := true, recurses := true, apart := false }
def CtrCryptsSaid : Prop := ctrCryptsRow.holds Try.pinned (OpenSpec.ofChange ctrCryptsSpec)

/-- ITS FALSE NEIGHBOUR: 'it returns false'. Refute it at one input. -/
def ctrCryptsWrong : ChangeSpec := { name := "ctrCrypts", fn := fun _ => fun
  | [d1, d2, d3] => { results := [.lit (.bool false)], args := [d1, d2, d3] }
  | _ => none }
def CtrCryptsWrongFalsely : Prop := ctrCryptsRow.holds Try.pinned (OpenSpec.ofChange ctrCryptsWrong)

/-- 'donjonlaw05.CtrBack': WHATEVER THE INPUT: true; the input reads as it did. -/
def ctrBackSpec : ChangeSpec := { name := "ctrBack", fn := fun _ => fun
  | [d1, d2, d3, d4] => { results := [.lit (.bool true)], args := [d1, d2, d3, d4] }
  | _ => none }
def ctrBackRow : OpenClaim := { program := "ytfchlemjfdlfeaa", sum := "59aaf8a1fafea1cef592abbdbeca19d1a3fde1fc4c69713ef326f16243690d81", func := "donjon/donjonlaw05.CtrBack", spec := "ctrBack", unfollowed := true, recurses := true, apart := false }
def CtrBackSaid : Prop := ctrBackRow.holds Try.pinned (OpenSpec.ofChange ctrBackSpec)

/-- ITS FALSE NEIGHBOUR: 'it returns false'. Refute it at one input. -/
def ctrBackWrong : ChangeSpec := { name := "ctrBack", fn := fun _ => fun
  | [d1, d2, d3, d4] => { results := [.lit (.bool false)], args := [d1, d2, d3, d4] }
  | _ => none }
def CtrBackWrongFalsely : Prop := ctrBackRow.holds Try.pinned (OpenSpec.ofChange ctrBackWrong)

/-- 'donjonlaw05.CtrRound': WHATEVER THE INPUT: true; the input reads as it did. -/
def ctrRoundSpec : ChangeSpec := { name := "ctrRound", fn := fun _ => fun
  | [d1, d2] => { results := [.lit (.bool true)], args := [d1, d2] }
  | _ => none }
def ctrRoundRow : OpenClaim := { program := "ytfchlemjfdlfeaa", sum := "59aaf8a1fafea1cef592abbdbeca19d1a3fde1fc4c69713ef326f16243690d81", func := "donjon/donjonlaw05.CtrRound", spec := "ctrRound", unfollowed := true, recurses := true, apart := false }
def CtrRoundSaid : Prop := ctrRoundRow.holds Try.pinned (OpenSpec.ofChange ctrRoundSpec)

/-- ITS FALSE NEIGHBOUR: 'it returns false'. Refute it at one input. -/
def ctrRoundWrong : ChangeSpec := { name := "ctrRound", fn := fun _ => fun
  | [d1, d2] => { results := [.lit (.bool false)], args := [d1, d2] }
  | _ => none }
def CtrRoundWrongFalsely : Prop := ctrRoundRow.holds Try.pinned (OpenSpec.ofChange ctrRoundWrong)

/-- 'donjonlaw06.GcmSeals': WHATEVER THE INPUT: true; the input reads as it did. -/
def gcmSealsSpec : ChangeSpec := { name := "gcmSeals", fn := fun _ => fun
  | [d1, d2, d3, d4] => { results := [.lit (.bool true)], args := [d1, d2, d3, d4] }
  | _ => none }
def gcmSealsRow : OpenClaim := { program := "ytfchlemjfdlfeaa", sum := "59aaf8a1fafea1cef592abbdbeca19d1a3fde1fc4c69713ef326f16243690d81", func := "donjon/donjonlaw06.GcmSeals", spec := "gcmSeals", unfollowed := true, recurses := true, apart := false }
def GcmSealsSaid : Prop := gcmSealsRow.holds Try.pinned (OpenSpec.ofChange gcmSealsSpec)

/-- ITS FALSE NEIGHBOUR: 'it returns false'. Refute it at one input. -/
def gcmSealsWrong : ChangeSpec := { name := "gcmSeals", fn := fun _ => fun
  | [d1, d2, d3, d4] => { results := [.lit (.bool false)], args := [d1, d2, d3, d4] }
  | _ => none }
def GcmSealsWrongFalsely : Prop := gcmSealsRow.holds Try.pinned (OpenSpec.ofChange gcmSealsWrong)

/-- 'donjonlaw06.GcmOpens': WHATEVER THE INPUT: true; the input reads as it did. -/
def gcmOpensSpec : ChangeSpec := { name := "gcmOpens", fn := fun _ => fun
  | [d1, d2, d3, d4] => { results := [.lit (.bool true)], args := [d1, d2, d3, d4] }
  | _ => none }
def gcmOpensRow : OpenClaim := { program := "ytfchlemjfdlfeaa", sum := "59aaf8a1fafea1cef592abbdbeca19d1a3fde1fc4c69713ef326f16243690d81", func := "donjon/donjonlaw06.GcmOpens", spec := "gcmOpens", unfollowed := true, recurses := true, apart := false }
def GcmOpensSaid : Prop := gcmOpensRow.holds Try.pinned (OpenSpec.ofChange gcmOpensSpec)

/-- ITS FALSE NEIGHBOUR: 'it returns false'. Refute it at one input. -/
def gcmOpensWrong : ChangeSpec := { name := "gcmOpens", fn := fun _ => fun
  | [d1, d2, d3, d4] => { results := [.lit (.bool false)], args := [d1, d2, d3, d4] }
  | _ => none }
def GcmOpensWrongFalsely : Prop := gcmOpensRow.holds Try.pinned (OpenSpec.ofChange gcmOpensWrong)

/-- 'donjonlaw06.GcmTurned': WHATEVER THE INPUT: true; the input reads as it did. -/
def gcmTurnedSpec : ChangeSpec := { name := "gcmTurned", fn := fun _ => fun
  | [d] => { results := [.lit (.bool true)], args := [d] }
  | _ => none }
def gcmTurnedRow : OpenClaim := { program := "ytfchlemjfdlfeaa", sum := "59aaf8a1fafea1cef592abbdbeca19d1a3fde1fc4c69713ef326f16243690d81", func := "donjon/donjonlaw06.GcmTurned", spec := "gcmTurned", unfollowed := true, recurses := true, apart := false }
def GcmTurnedSaid : Prop := gcmTurnedRow.holds Try.pinned (OpenSpec.ofChange gcmTurnedSpec)

/-- ITS FALSE NEIGHBOUR: 'it returns false'. Refute it at one input. -/
def gcmTurnedWrong : ChangeSpec := { name := "gcmTurned", fn := fun _ => fun
  | [d] => { results := [.lit (.bool false)], args := [d] }
  | _ => none }
def GcmTurnedWrongFalsely : Prop := gcmTurnedRow.holds Try.pinned (OpenSpec.ofChange gcmTurnedWrong)

/-- 'donjonlaw06.GcmApart': WHATEVER THE INPUT: true; the input reads as it did. -/
def gcmApartSpec : ChangeSpec := { name := "gcmApart", fn := fun _ => fun
  | [d1, d2, d3, d4, d5] => { results := [.lit (.bool true)], args := [d1, d2, d3, d4, d5] }
  | _ => none }
def gcmApartRow : OpenClaim := { program := "ytfchlemjfdlfeaa", sum := "59aaf8a1fafea1cef592abbdbeca19d1a3fde1fc4c69713ef326f16243690d81", func := "donjon/donjonlaw06.GcmApart", spec := "gcmApart", unfollowed := true, recurses := true, apart := false }
def GcmApartSaid : Prop := gcmApartRow.holds Try.pinned (OpenSpec.ofChange gcmApartSpec)

/-- ITS FALSE NEIGHBOUR: 'it returns false'. Refute it at one input. -/
def gcmApartWrong : ChangeSpec := { name := "gcmApart", fn := fun _ => fun
  | [d1, d2, d3, d4, d5] => { results := [.lit (.bool false)], args := [d1, d2, d3, d4, d5] }
  | _ => none }
def GcmApartWrongFalsely : Prop := gcmApartRow.holds Try.pinned (OpenSpec.ofChange gcmApartWrong)

/-- 'donjonlaw06.GcmStandard': WHATEVER THE INPUT: true; the input reads as it did. -/
def gcmStandardSpec : ChangeSpec := { name := "gcmStandard", fn := fun _ => fun
  | [] => { results := [.lit (.bool true)], args := [] }
  | _ => none }
def gcmStandardRow : OpenClaim := { program := "ytfchlemjfdlfeaa", sum := "59aaf8a1fafea1cef592abbdbeca19d1a3fde1fc4c69713ef326f16243690d81", func := "donjon/donjonlaw06.GcmStandard", spec := "gcmStandard", unfollowed := true, recurses := true, apart := false }
def GcmStandardSaid : Prop := gcmStandardRow.holds Try.pinned (OpenSpec.ofChange gcmStandardSpec)

/-- ITS FALSE NEIGHBOUR: 'it returns false'. Refute it at one input. -/
def gcmStandardWrong : ChangeSpec := { name := "gcmStandard", fn := fun _ => fun
  | [] => { results := [.lit (.bool false)], args := [] }
  | _ => none }
def GcmStandardWrongFalsely : Prop := gcmStandardRow.holds Try.pinned (OpenSpec.ofChange gcmStandardWrong)

/- THE SECOND FORM. 'bulk': how many values and letters a reading holds, each counted each time it is reached (what is shared counts as often as it is met; a slice's spare places count too). A statement '..UptoSaid' is the law's where the arguments, and the package variables that the reading takes, are together of bulk at most 1048576: NARROWER than '..Said'. Prove '..Said' where nothing that the law and all that it calls make is longer than what came in: it says more and counts as full. Else prove '..UptoSaid'. A law counts once. -/
mutual
def uptoBulk {H : Type} : DataW H → Nat
  | .lit (.string bytes) => bytes.length + 1
  | .lit _ => 1
  | .nil => 1
  | .ptr d => uptoBulk d + 1
  | .slice elems spare => uptoBulkAll elems + uptoBulkAll spare + 1
  | .agg parts => uptoBulkAll parts + 1
  | .iface _ d => uptoBulk d + 1
  | .map entries => uptoBulkEntries entries + 1
  | .held _ => 1
def uptoBulkAll {H : Type} : List (DataW H) → Nat
  | [] => 0
  | d :: r => uptoBulk d + uptoBulkAll r
def uptoBulkEntries {H : Type} : List (Lit × DataW H) → Nat
  | [] => 0
  | x :: r => uptoBulkEntry x + uptoBulkEntries r
def uptoBulkEntry {H : Type} : Lit × DataW H → Nat
  | (.string bytes, d) => bytes.length + uptoBulk d + 1
  | (_, d) => uptoBulk d + 1
 end
def uptoSmall : (H : Type) → List (DataW H) → Bool := fun _ ds => decide (uptoBulkAll ds ≤ 1048576)
def OpenSpec.upto (s : _root_.Go.ChangeSpec) : _root_.Go.OpenSpec := { _root_.Go.OpenSpec.ofChange s with cond := some uptoSmall }

/-- 'donjonlaw03.AesWords', WHERE WHAT IT READS IS OF BULK AT MOST 1048576: true; the input reads as it did. -/
def aesWordsUptoRow : OpenClaim := { program := "ytfchlemjfdlfeaa", sum := "59aaf8a1fafea1cef592abbdbeca19d1a3fde1fc4c69713ef326f16243690d81", func := "donjon/donjonlaw03.AesWords", spec := "aesWords", unfollowed := true, recurses := true, apart := false, narrowed := true }
def AesWordsUptoSaid : Prop := aesWordsUptoRow.holds Try.pinned (OpenSpec.upto aesWordsSpec)

/-- 'donjonlaw03.AesEncrypts', WHERE WHAT IT READS IS OF BULK AT MOST 1048576: true; the input reads as it did. -/
def aesEncryptsUptoRow : OpenClaim := { program := "ytfchlemjfdlfeaa", sum := "59aaf8a1fafea1cef592abbdbeca19d1a3fde1fc4c69713ef326f16243690d81", func := "donjon/donjonlaw03.AesEncrypts", spec := "aesEncrypts", unfollowed := true, recurses := true, apart := false, narrowed := true }
def AesEncryptsUptoSaid : Prop := aesEncryptsUptoRow.holds Try.pinned (OpenSpec.upto aesEncryptsSpec)

/-- 'donjonlaw03.AesDecrypts', WHERE WHAT IT READS IS OF BULK AT MOST 1048576: true; the input reads as it did. -/
def aesDecryptsUptoRow : OpenClaim := { program := "ytfchlemjfdlfeaa", sum := "59aaf8a1fafea1cef592abbdbeca19d1a3fde1fc4c69713ef326f16243690d81", func := "donjon/donjonlaw03.AesDecrypts", spec := "aesDecrypts", unfollowed := true, recurses := true, apart := false, narrowed := true }
def AesDecryptsUptoSaid : Prop := aesDecryptsUptoRow.holds Try.pinned (OpenSpec.upto aesDecryptsSpec)

/-- 'donjonlaw03.AesNone', WHERE WHAT IT READS IS OF BULK AT MOST 1048576: true; the input reads as it did. -/
def aesNoneUptoRow : OpenClaim := { program := "ytfchlemjfdlfeaa", sum := "59aaf8a1fafea1cef592abbdbeca19d1a3fde1fc4c69713ef326f16243690d81", func := "donjon/donjonlaw03.AesNone", spec := "aesNone", unfollowed := true, recurses := true, apart := false, narrowed := true }
def AesNoneUptoSaid : Prop := aesNoneUptoRow.holds Try.pinned (OpenSpec.upto aesNoneSpec)

/-- 'donjonlaw03.AesBack', WHERE WHAT IT READS IS OF BULK AT MOST 1048576: true; the input reads as it did. -/
def aesBackUptoRow : OpenClaim := { program := "ytfchlemjfdlfeaa", sum := "59aaf8a1fafea1cef592abbdbeca19d1a3fde1fc4c69713ef326f16243690d81", func := "donjon/donjonlaw03.AesBack", spec := "aesBack", unfollowed := true, recurses := true, apart := false, narrowed := true }
def AesBackUptoSaid : Prop := aesBackUptoRow.holds Try.pinned (OpenSpec.upto aesBackSpec)

/-- 'donjonlaw03.AesStandard', WHERE WHAT IT READS IS OF BULK AT MOST 1048576: true; the input reads as it did. -/
def aesStandardUptoRow : OpenClaim := { program := "ytfchlemjfdlfeaa", sum := "59aaf8a1fafea1cef592abbdbeca19d1a3fde1fc4c69713ef326f16243690d81", func := "donjon/donjonlaw03.AesStandard", spec := "aesStandard", unfollowed := true, recurses := true, apart := false, narrowed := true }
def AesStandardUptoSaid : Prop := aesStandardUptoRow.holds Try.pinned (OpenSpec.upto aesStandardSpec)

/-- 'donjonlaw05.CtrBlocks', WHERE WHAT IT READS IS OF BULK AT MOST 1048576: true; the input reads as it did. -/
def ctrBlocksUptoRow : OpenClaim := { program := "ytfchlemjfdlfeaa", sum := "59aaf8a1fafea1cef592abbdbeca19d1a3fde1fc4c69713ef326f16243690d81", func := "donjon/donjonlaw05.CtrBlocks", spec := "ctrBlocks", unfollowed := true, recurses := true, apart := false, narrowed := true }
def CtrBlocksUptoSaid : Prop := ctrBlocksUptoRow.holds Try.pinned (OpenSpec.upto ctrBlocksSpec)

/-- 'donjonlaw05.CtrCrypts', WHERE WHAT IT READS IS OF BULK AT MOST 1048576: true; the input reads as it did. -/
def ctrCryptsUptoRow : OpenClaim := { program := "ytfchlemjfdlfeaa", sum := "59aaf8a1fafea1cef592abbdbeca19d1a3fde1fc4c69713ef326f16243690d81", func := "donjon/donjonlaw05.CtrCrypts", spec := "ctrCrypts", unfollowed := true, recurses := true, apart := false, narrowed := true }
def CtrCryptsUptoSaid : Prop := ctrCryptsUptoRow.holds Try.pinned (OpenSpec.upto ctrCryptsSpec)

/-- 'donjonlaw05.CtrBack', WHERE WHAT IT READS IS OF BULK AT MOST 1048576: true; the input reads as it did. -/
def ctrBackUptoRow : OpenClaim := { program := "ytfchlemjfdlfeaa", sum := "59aaf8a1fafea1cef592abbdbeca19d1a3fde1fc4c69713ef326f16243690d81", func := "donjon/donjonlaw05.CtrBack", spec := "ctrBack", unfollowed := true, recurses := true, apart := false, narrowed := true }
def CtrBackUptoSaid : Prop := ctrBackUptoRow.holds Try.pinned (OpenSpec.upto ctrBackSpec)

/-- 'donjonlaw05.CtrRound', WHERE WHAT IT READS IS OF BULK AT MOST 1048576: true; the input reads as it did. -/
def ctrRoundUptoRow : OpenClaim := { program := "ytfchlemjfdlfeaa", sum := "59aaf8a1fafea1cef592abbdbeca19d1a3fde1fc4c69713ef326f16243690d81", func := "donjon/donjonlaw05.CtrRound", spec := "ctrRound", unfollowed := true, recurses := true, apart := false, narrowed := true }
def CtrRoundUptoSaid : Prop := ctrRoundUptoRow.holds Try.pinned (OpenSpec.upto ctrRoundSpec)

/-- 'donjonlaw06.GcmSeals', WHERE WHAT IT READS IS OF BULK AT MOST 1048576: true; the input reads as it did. -/
def gcmSealsUptoRow : OpenClaim := { program := "ytfchlemjfdlfeaa", sum := "59aaf8a1fafea1cef592abbdbeca19d1a3fde1fc4c69713ef326f16243690d81", func := "donjon/donjonlaw06.GcmSeals", spec := "gcmSeals", unfollowed := true, recurses := true, apart := false, narrowed := true }
def GcmSealsUptoSaid : Prop := gcmSealsUptoRow.holds Try.pinned (OpenSpec.upto gcmSealsSpec)

/-- 'donjonlaw06.GcmOpens', WHERE WHAT IT READS IS OF BULK AT MOST 1048576: true; the input reads as it did. -/
def gcmOpensUptoRow : OpenClaim := { program := "ytfchlemjfdlfeaa", sum := "59aaf8a1fafea1cef592abbdbeca19d1a3fde1fc4c69713ef326f16243690d81", func := "donjon/donjonlaw06.GcmOpens", spec := "gcmOpens", unfollowed := true, recurses := true, apart := false, narrowed := true }
def GcmOpensUptoSaid : Prop := gcmOpensUptoRow.holds Try.pinned (OpenSpec.upto gcmOpensSpec)

/-- 'donjonlaw06.GcmTurned', WHERE WHAT IT READS IS OF BULK AT MOST 1048576: true; the input reads as it did. -/
def gcmTurnedUptoRow : OpenClaim := { program := "ytfchlemjfdlfeaa", sum := "59aaf8a1fafea1cef592abbdbeca19d1a3fde1fc4c69713ef326f16243690d81", func := "donjon/donjonlaw06.GcmTurned", spec := "gcmTurned", unfollowed := true, recurses := true, apart := false, narrowed := true }
def GcmTurnedUptoSaid : Prop := gcmTurnedUptoRow.holds Try.pinned (OpenSpec.upto gcmTurnedSpec)

/-- 'donjonlaw06.GcmApart', WHERE WHAT IT READS IS OF BULK AT MOST 1048576: true; the input reads as it did. -/
def gcmApartUptoRow : OpenClaim := { program := "ytfchlemjfdlfeaa", sum := "59aaf8a1fafea1cef592abbdbeca19d1a3fde1fc4c69713ef326f16243690d81", func := "donjon/donjonlaw06.GcmApart", spec := "gcmApart", unfollowed := true, recurses := true, apart := false, narrowed := true }
def GcmApartUptoSaid : Prop := gcmApartUptoRow.holds Try.pinned (OpenSpec.upto gcmApartSpec)

/-- 'donjonlaw06.GcmStandard', WHERE WHAT IT READS IS OF BULK AT MOST 1048576: true; the input reads as it did. -/
def gcmStandardUptoRow : OpenClaim := { program := "ytfchlemjfdlfeaa", sum := "59aaf8a1fafea1cef592abbdbeca19d1a3fde1fc4c69713ef326f16243690d81", func := "donjon/donjonlaw06.GcmStandard", spec := "gcmStandard", unfollowed := true, recurses := true, apart := false, narrowed := true }
def GcmStandardUptoSaid : Prop := gcmStandardUptoRow.holds Try.pinned (OpenSpec.upto gcmStandardSpec)

end Rows
end Go.Proofs.Ytfchlemjfdlfeaa
