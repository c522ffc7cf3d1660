/-
  META PAGES: MetaOpens: the walk.
-/
import Derived.Test.YtakgebbeknfplaaGreatMlA
import Derived.Test.YtakgebbeknfplaaGreatKyB
import Derived.Test.YtakgebbeknfplaaGreatKyC
namespace Go.Proofs.YtakgebbeknfplaaGreat
open Go.RowKit Go.ChangeShapes Go.WideShapes
set_option linter.unusedVariables false

end Go.Proofs.YtakgebbeknfplaaGreat
