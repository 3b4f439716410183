/-
  WakeOverlaps: the law over typed values.
-/
import Derived.Test.YtpgcekjnpieibaaR2
import Derived.Test.YtpgcekjnpieibaaO
namespace Go.Proofs.Ytpgcekjnpieibaa
theorem law7r (t : TWakeTable) (a b : TWakeRule) (_ : rg_TWakeTable t) (_ : rg_TWakeRule a) (_ : rg_TWakeRule b) : F7 t a b = some true := law7 t a b
end Go.Proofs.Ytpgcekjnpieibaa
