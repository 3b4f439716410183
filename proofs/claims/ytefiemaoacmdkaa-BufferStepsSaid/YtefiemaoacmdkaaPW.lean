/-
  Numbers that fit their kind.
-/
import Derived.Test.YtefiemaoacmdkaaPm10
namespace Go.Am
set_option linter.unusedVariables false
end Go.Am
