/-
  ForwardBack: the law over what it is given.
-/
import Derived.Test.YtbahnppiobafoaaFD
import Derived.Test.YtbahnppiobafoaaO8
namespace Go.Proofs.Ytbahnppiobafoaa
open Go.Am
theorem law8r (m : TMeshFrame) (b : List Int) (hm : rg_TMeshFrame m) (hb : b.length ≤ maxLen ∧ ∀ q ∈ b, (0 ≤ q ∧ q ≤ 255)) : F8 m b = some true := by
  obtain ⟨h1, h2, h3, h4, h5, h6, h7, h8, h9⟩ := hm
  exact law8 m b ⟨h1, h2, h3, h4, h5, h6, h9.2⟩ hb.2
end Go.Proofs.Ytbahnppiobafoaa
