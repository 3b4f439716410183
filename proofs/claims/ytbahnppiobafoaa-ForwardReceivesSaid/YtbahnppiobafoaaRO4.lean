/-
  ForwardReceives: the law over what it is given.
-/
import Derived.Test.YtbahnppiobafoaaFJ
import Derived.Test.YtbahnppiobafoaaO4
namespace Go.Proofs.Ytbahnppiobafoaa
open Go.Am
theorem law4r (s : TForward) (m o : TMeshFrame) (hs : rg_TForward s) (hm : rg_TMeshFrame m) (ho : rg_TMeshFrame o) : F4 s m o = some true := by
  obtain ⟨s1, s2, s3, s4⟩ := hs
  obtain ⟨h1, h2, h3, h4, h5, h6, h7, h8, h9⟩ := hm
  obtain ⟨o1, o2, o3, o4, o5, o6, o7, o8, o9⟩ := ho
  exact law4 s m o ⟨s1, fun q hq => (s3.2 q hq).1, fun q hq => s4.2 q hq⟩ ⟨h1, h2, h3, h4, h5, h6, h9.2⟩ ⟨o1, o2, o3, o4, o5, o6, o9.2⟩
end Go.Proofs.Ytbahnppiobafoaa
