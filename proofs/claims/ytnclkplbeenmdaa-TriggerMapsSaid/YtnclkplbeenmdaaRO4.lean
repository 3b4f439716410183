/-
  TriggerMaps: the law over what it is given.
-/
import Derived.Test.YtnclkplbeenmdaaL4
import Derived.Test.YtnclkplbeenmdaaO
namespace Go.Proofs.Ytnclkplbeenmdaa
open Go.Am
theorem Cb_of {l : List TStored} (h : ∀ q ∈ l, rg_TStored q) : Cb l := fun i hi => (h _ (gd_mem hi)).1
theorem Cb_bf {b : TBuffer} (h : rg_TBuffer b) : Cb b.Group ∧ ∀ i : Nat, i < b.List.length → Cb (gd b.List i).Held :=
  ⟨Cb_of h.2.2.2.2, fun i hi => Cb_of (h.2.2.1.2 _ (gd_mem hi)).2.2.2⟩
theorem law4r (b : TBuffer) (ps : List TTriggerPlan) (h : rg_TBuffer b) (hp : ps.length ≤ maxLen ∧ ∀ q ∈ ps, rg_TTriggerPlan q) : F4 b ps = some true :=
  law4 b ps (Cb_bf h) fun i hi => ⟨(hp.2 _ (gd_mem hi)).1.1, (hp.2 _ (gd_mem hi)).2.1.1⟩
end Go.Proofs.Ytnclkplbeenmdaa
