/-
  WakeNames: the law's value, computed.
-/
import Derived.Test.YtpgcekjnpieibaaY10
import Derived.Test.YtpgcekjnpieibaaO
namespace Go.Proofs.Ytpgcekjnpieibaa
open Go.Am
theorem law10 : F10 = some true := by kernel_rfl
end Go.Proofs.Ytpgcekjnpieibaa
