/-
  RegulateCodes: the law over what it is given.
-/
import Derived.Test.YtjhkehdbjnhplaaC3
import Derived.Test.YtjhkehdbjnhplaaO3
namespace Go.Proofs.Ytjhkehdbjnhplaa
open Go.Am
theorem law3r (w : TRegulateWord) (b : List Int) (hw : rg_TRegulateWord w) (hb : b.length ≤ maxLen ∧ ∀ q ∈ b, (0 ≤ q ∧ q ≤ 255)) : F3 w b = some true := law3 w b hw.1 hb.2
end Go.Proofs.Ytjhkehdbjnhplaa
