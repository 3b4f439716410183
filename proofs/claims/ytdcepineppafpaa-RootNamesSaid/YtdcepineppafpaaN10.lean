/-
  RootNames: the law's value, computed.
-/
import Derived.Test.YtdcepineppafpaaY10
import Derived.Test.YtdcepineppafpaaO10
namespace Go.Proofs.Ytdcepineppafpaa
open Go.Am
theorem law10 : F10 = some true := by kernel_rfl
end Go.Proofs.Ytdcepineppafpaa
