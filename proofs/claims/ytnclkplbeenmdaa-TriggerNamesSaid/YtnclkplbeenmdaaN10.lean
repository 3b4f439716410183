/-
  TriggerNames: the law's value, computed.
-/
import Derived.Test.YtnclkplbeenmdaaY10
namespace Go.Proofs.Ytnclkplbeenmdaa
open Go.Am
theorem law10 : F10 = some true := by kernel_rfl
end Go.Proofs.Ytnclkplbeenmdaa
