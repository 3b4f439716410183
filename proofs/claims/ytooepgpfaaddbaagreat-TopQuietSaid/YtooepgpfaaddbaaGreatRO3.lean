/-
  TopQuiet: the law over what it is given.
-/
import Derived.Test.YtooepgpfaaddbaaGreatTJ
import Derived.Test.YtooepgpfaaddbaaGreatO3
namespace Go.Proofs.YtooepgpfaaddbaaGreat
open Go.Am
theorem law3r (p:List TRegulateChannel) (l:List TMove) (hp:p.length <= maxLen/\∀ q ∈ p,uG q) (hl:l.length <= maxLen/\∀ q ∈ l,rg_TMove q):F3 p l=some true:=law3 p l
end Go.Proofs.YtooepgpfaaddbaaGreat
