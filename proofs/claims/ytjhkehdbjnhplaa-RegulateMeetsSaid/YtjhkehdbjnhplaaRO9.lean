/-
  RegulateMeets: the law over what it is given.
-/
import Derived.Test.YtjhkehdbjnhplaaQ9Y
import Derived.Test.YtjhkehdbjnhplaaO9
namespace Go.Proofs.Ytjhkehdbjnhplaa
open Go.Am
theorem law9r (p : Int) (l : List TEvent) (hp : -9223372036854775808 <= p /\ p <= 9223372036854775807) (hl : l.length <= maxLen /\ ∀ q ∈ l, rg_TEvent q) : F9 p l = some true := law9 p l
end Go.Proofs.Ytjhkehdbjnhplaa
