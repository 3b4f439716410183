/-
  RootWire: the law over what it is given.
-/
import Derived.Test.YtdcepineppafpaaW2
import Derived.Test.YtdcepineppafpaaO9
namespace Go.Proofs.Ytdcepineppafpaa
open Go.Am
theorem law9r (w : TRootWord) (b : List Int) (hw : rg_TRootWord w) (hb : b.length ≤ maxLen ∧ ∀ q ∈ b, (0 ≤ q ∧ q ≤ 255)) : F9 w b = some true := law9 w b hw.1 hb.2
end Go.Proofs.Ytdcepineppafpaa
