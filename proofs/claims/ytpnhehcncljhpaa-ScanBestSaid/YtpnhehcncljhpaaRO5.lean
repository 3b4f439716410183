/-
  ScanBest: the law over what it is given.
-/
import Derived.Test.YtpnhehcncljhpaaS3
import Derived.Test.YtpnhehcncljhpaaO5
namespace Go.Proofs.Ytpnhehcncljhpaa
open Go.Am
theorem law5r (t : TCandidates) (w : TWanted) (now : Int) (h : rg_TCandidates t) (_ : rg_TWanted w) (_ : -9223372036854775808 ≤ now ∧ now ≤ 9223372036854775807) : F5 t w now = some true :=
  law5 t w now fun i hi => (h.2 _ (gd_mem hi)).1
end Go.Proofs.Ytpnhehcncljhpaa
