/-
  ForwardOnce: the law over what it is given.
-/
import Derived.Test.YtbahnppiobafoaaFK
import Derived.Test.YtbahnppiobafoaaO5
namespace Go.Proofs.Ytbahnppiobafoaa
open Go.Am
theorem law5r (s : TForward) (l : List TMeshFrame) (hs : rg_TForward s) (hl : l.length ≤ maxLen ∧ ∀ q ∈ l, rg_TMeshFrame q) : F5 s l = some true := by
  obtain ⟨s1, s2, s3, s4⟩ := hs
  exact law5 s l ⟨s1, fun q hq => (s3.2 q hq).1, fun q hq => s4.2 q hq⟩ fun q hq => by
    obtain ⟨h1, h2, h3, h4, h5, h6, h7, h8, h9⟩ := hl.2 q hq
    exact ⟨h1, h2, h3, h4, h5, h6, h9.2⟩
end Go.Proofs.Ytbahnppiobafoaa
