/-
  ForwardNames: the law's value, computed.
-/
import Derived.Test.YtbahnppiobafoaaY9
import Derived.Test.YtbahnppiobafoaaO9
namespace Go.Proofs.Ytbahnppiobafoaa
open Go.Am
theorem law9 : F9 = some true := by kernel_rfl
end Go.Proofs.Ytbahnppiobafoaa
