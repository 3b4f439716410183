/-
  ScanVisits: the law over what it is given.
-/
import Derived.Test.YtpnhehcncljhpaaP6
import Derived.Test.YtpnhehcncljhpaaO
namespace Go.Proofs.Ytpnhehcncljhpaa
theorem law6r (c : List Int) (s d : Int) (_ : c.length ≤ maxLen ∧ ∀ q ∈ c, (-9223372036854775808 ≤ q ∧ q ≤ 9223372036854775807)) (_ : -9223372036854775808 ≤ s ∧ s ≤ 9223372036854775807) (_ : -9223372036854775808 ≤ d ∧ d ≤ 9223372036854775807) : F6 c s d = some true := law6 c s d
end Go.Proofs.Ytpnhehcncljhpaa
