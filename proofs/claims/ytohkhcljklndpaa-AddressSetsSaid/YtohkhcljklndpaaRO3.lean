/-
  AddressSets: the law over what it is given.
-/
import Derived.Test.YtohkhcljklndpaaSC
import Derived.Test.YtohkhcljklndpaaO3
namespace Go.Proofs.Ytohkhcljklndpaa
open Go.Am
theorem law3r (s t : List A6u8) (a : A6u8) (hs : s.length ≤ maxLen ∧ ∀ q ∈ s, rg_A6u8 q) (ht : t.length ≤ maxLen ∧ ∀ q ∈ t, rg_A6u8 q) (ha : rg_A6u8 a) : F3 s t a = some true := law3 s t a hs.2 ht.2 ha
end Go.Proofs.Ytohkhcljklndpaa
