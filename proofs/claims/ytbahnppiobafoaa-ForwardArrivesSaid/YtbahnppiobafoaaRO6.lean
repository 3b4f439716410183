/-
  ForwardArrives: the law over what it is given.
-/
import Derived.Test.YtbahnppiobafoaaFS
import Derived.Test.YtbahnppiobafoaaO6
namespace Go.Proofs.Ytbahnppiobafoaa
open Go.Am
theorem law6r (p : List Int) (f d : Int) (D : List Int) (hp : p.length <= maxLen /\ ∀ q ∈ p, (0 <= q /\ q <= 255)) (hf : 0 <= f /\ f <= 255) (hd : 0 <= d /\ d <= 255) (hD : D.length <= maxLen /\ ∀ q ∈ D, (0 <= q /\ q <= 255)) : F6 p f d D = some true := law6 p f d D hp.2 hf hd hD.2
end Go.Proofs.Ytbahnppiobafoaa
