/-
  TriggerNames: the law over what it is given.
-/
import Derived.Test.YtnclkplbeenmdaaN10
import Derived.Test.YtnclkplbeenmdaaO10
namespace Go.Proofs.Ytnclkplbeenmdaa
open Go.Am
theorem law10r : F10 = some true := law10
end Go.Proofs.Ytnclkplbeenmdaa
