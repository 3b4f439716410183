/-
  What a law is given, as typed values.
-/
import Derived.Test.YtefiemaoacmdkaaB
import Derived.Test.YtefiemaoacmdkaaPm10
namespace Go.Proofs.Ytefiemaoacmdkaa
open Go.Am Go.ChangeShapes Go.WideShapes
set_option linter.unusedVariables false
set_option linter.unusedSimpArgs false
set_option maxRecDepth 20000
end Go.Proofs.Ytefiemaoacmdkaa
