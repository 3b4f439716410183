/-
  RegulateQuiet: the law over what it is given.
-/
import Derived.Test.YtjhkehdbjnhplaaQ8T
import Derived.Test.YtjhkehdbjnhplaaO8
namespace Go.Proofs.Ytjhkehdbjnhplaa
open Go.Am
theorem law8r (p : Int) (l : List TEvent) (hp : -9223372036854775808 <= p /\ p <= 9223372036854775807) (hl : l.length <= maxLen /\ ∀ q ∈ l, rg_TEvent q) : F8 p l = some true := law8 p l
end Go.Proofs.Ytjhkehdbjnhplaa
