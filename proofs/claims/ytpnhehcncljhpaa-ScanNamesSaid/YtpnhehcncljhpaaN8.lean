/-
  ScanNames: the law's value, computed.
-/
import Derived.Test.YtpnhehcncljhpaaY8
namespace Go.Proofs.Ytpnhehcncljhpaa
open Go.Am
theorem law8 : F8 = some true := by kernel_rfl
end Go.Proofs.Ytpnhehcncljhpaa
