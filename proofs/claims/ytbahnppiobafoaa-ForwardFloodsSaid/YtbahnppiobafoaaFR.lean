/-
  Forward: the reference's checks and bytes.
-/
import Derived.Test.YtbahnppiobafoaaFA
namespace Go.Proofs.Ytbahnppiobafoaa
open Go.Am
set_option linter.unusedVariables false
set_option linter.unusedSimpArgs false
end Go.Proofs.Ytbahnppiobafoaa
