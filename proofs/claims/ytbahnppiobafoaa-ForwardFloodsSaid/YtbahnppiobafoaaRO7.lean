/-
  ForwardFloods: the law over what it is given.
-/
import Derived.Test.YtbahnppiobafoaaFV
import Derived.Test.YtbahnppiobafoaaO7
namespace Go.Proofs.Ytbahnppiobafoaa
open Go.Am
theorem law7r (l : List Bool) (f : Int) (o : List Int) (hl : l.length <= maxLen /\ ∀ (q : Bool), q ∈ l -> True) (hf : 0 <= f /\ f <= 255) (ho : o.length <= maxLen /\ ∀ q ∈ o, (-9223372036854775808 <= q /\ q <= 9223372036854775807)) : F7 l f o = some true := law7 l f o hf
end Go.Proofs.Ytbahnppiobafoaa
