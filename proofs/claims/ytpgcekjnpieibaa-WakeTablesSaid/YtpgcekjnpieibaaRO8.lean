/-
  WakeTables: the law over what it is given.
-/
import Derived.Test.YtpgcekjnpieibaaU4
import Derived.Test.YtpgcekjnpieibaaO
namespace Go.Proofs.Ytpgcekjnpieibaa
theorem law8r (t : TWakeTable) (r : TWakeRule) (id now : Int) (_ : rg_TWakeTable t) (hr : rg_TWakeRule r) (hid : -9223372036854775808 ≤ id ∧ id ≤ 9223372036854775807) (hn : -9223372036854775808 ≤ now ∧ now ≤ 9223372036854775807) : F8 t r id now = some true := law8 t r id now hr.1 hid hn
end Go.Proofs.Ytpgcekjnpieibaa
