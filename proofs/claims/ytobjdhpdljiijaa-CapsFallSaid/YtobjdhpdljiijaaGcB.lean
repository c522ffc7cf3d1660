/-
  WALKS: the reference's Bit, Add and Full (ref04).
-/
import Derived.Test.YtobjdhpdljiijaaGcA
import Derived.Test.YtobjdhpdljiijaaCtG
namespace Go.Proofs.Ytobjdhpdljiijaa
open Go.RowKit
set_option linter.unusedVariables false

def lenV : Value → Nat
  | .slice _ n _ => n
  | _ => 0
theorem zeros_succ (k : Nat) : zeros (k + 1) = zeros k ++ [0] := List.replicate_succ'
end Go.Proofs.Ytobjdhpdljiijaa
