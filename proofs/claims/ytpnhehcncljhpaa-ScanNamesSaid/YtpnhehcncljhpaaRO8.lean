/-
  ScanNames: the law over what it is given.
-/
import Derived.Test.YtpnhehcncljhpaaN8
import Derived.Test.YtpnhehcncljhpaaO8
namespace Go.Proofs.Ytpnhehcncljhpaa
open Go.Am
theorem law8r : F8 = some true := law8
end Go.Proofs.Ytpnhehcncljhpaa
