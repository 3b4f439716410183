/-
  TopSleep: the law over what it is given.
-/
import Derived.Test.YtooepgpfaaddbaaSG
import Derived.Test.YtooepgpfaaddbaaO3
namespace Go.Proofs.Ytooepgpfaaddbaa
open Go.Am
theorem law3r (p:TWakeRule) (a b:Int) (l:List TComing) (hp:rg_TWakeRule p) (ha : -9223372036854775808 <= a/\a <= 9223372036854775807) (hb : -9223372036854775808 <= b/\b <= 9223372036854775807) (hl:l.length <= maxLen/\∀ q ∈ l,rg_TComing q):F3 p a b l=some true:=law3 p a b l fun q hq=>(hl.2 q hq).2.1
end Go.Proofs.Ytooepgpfaaddbaa
