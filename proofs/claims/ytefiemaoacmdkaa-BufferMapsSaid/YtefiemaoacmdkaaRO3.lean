/-
  BufferMaps: the law over what it is given.
-/
import Derived.Test.YtefiemaoacmdkaaL3
import Derived.Test.YtefiemaoacmdkaaO
namespace Go.Proofs.Ytefiemaoacmdkaa
open Go.Am
theorem Cb_of {l : List TStored} (h : ∀ q ∈ l, rg_TStored q) : Cb l := fun i hi => (h _ (gd_mem hi)).1
theorem Cb_bf {b : TBuffer} (h : rg_TBuffer b) : Cb b.Group ∧ ∀ i : Nat, i < b.List.length → Cb (gd b.List i).Held :=
  ⟨Cb_of h.2.2.2.2, fun i hi => Cb_of (h.2.2.1.2 _ (gd_mem hi)).2.2.2⟩
theorem law3r (x y : Int) (b : TBuffer) (_ : -9223372036854775808 ≤ x ∧ x ≤ 9223372036854775807) (_ : -9223372036854775808 ≤ y ∧ y ≤ 9223372036854775807) (h : rg_TBuffer b) : F3 x y b = some true := law3 x y b (Cb_bf h)
end Go.Proofs.Ytefiemaoacmdkaa
