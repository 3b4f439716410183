/-
  ScanPlans: the law over what it is given.
-/
import Derived.Test.YtpnhehcncljhpaaP3
import Derived.Test.YtpnhehcncljhpaaO
namespace Go.Proofs.Ytpnhehcncljhpaa
open Go.Am
theorem law3r (c : List Int) (s d : Int) (a : Bool) (l : List TElement) (nm : ByteArray) (_ : c.length ≤ maxLen ∧ ∀ q ∈ c, (-9223372036854775808 ≤ q ∧ q ≤ 9223372036854775807)) (_ : -9223372036854775808 ≤ s ∧ s ≤ 9223372036854775807) (_ : -9223372036854775808 ≤ d ∧ d ≤ 9223372036854775807) (_ : True) (hl : l.length ≤ maxLen ∧ ∀ q ∈ l, rg_TElement q) (_ : nm.size ≤ maxLen) : F3 c s d a l nm = some true :=
  law3 c s d a l nm fun x hx q hq => ((hl.2 x hx).2.2.1.2 q hq)
end Go.Proofs.Ytpnhehcncljhpaa
