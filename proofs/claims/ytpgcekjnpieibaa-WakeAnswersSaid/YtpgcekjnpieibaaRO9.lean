/-
  WakeAnswers: the law over what it is given.
-/
import Derived.Test.YtpgcekjnpieibaaV2
import Derived.Test.YtpgcekjnpieibaaO9
namespace Go.Proofs.Ytpgcekjnpieibaa
theorem law9r (t : TWakeTable) (r : TWakeRule) (_ : rg_TWakeTable t) (_ : rg_TWakeRule r) : F9 t r = some true := law9 t r
end Go.Proofs.Ytpgcekjnpieibaa
