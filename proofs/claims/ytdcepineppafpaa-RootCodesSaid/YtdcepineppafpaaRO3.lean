/-
  RootCodes: the law over what it is given.
-/
import Derived.Test.YtdcepineppafpaaW3
import Derived.Test.YtdcepineppafpaaO3
namespace Go.Proofs.Ytdcepineppafpaa
open Go.Am
theorem law3r (w : TRootWord) (b : List Int) (hw : rg_TRootWord w) (hb : b.length ≤ maxLen ∧ ∀ q ∈ b, (0 ≤ q ∧ q ≤ 255)) : F3 w b = some true := law3 w b hb.2
end Go.Proofs.Ytdcepineppafpaa
