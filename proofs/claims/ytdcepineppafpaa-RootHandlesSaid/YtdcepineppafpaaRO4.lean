/-
  RootHandles: the law over what it is given.
-/
import Derived.Test.YtdcepineppafpaaV9
import Derived.Test.YtdcepineppafpaaO4
namespace Go.Proofs.Ytdcepineppafpaa
open Go.Am
theorem Abr_of (r : TRoots) (h : rg_TRoots r) : Abr r := by
  obtain ⟨h1, h2, h3, h4, h5, h6⟩ := h
  refine ⟨h1, fun i hi => ?_, fun i hi => ?_⟩
  · have q := h5.2 _ (gd_mem hi)
    exact ⟨q.1, q.2.1⟩
  · have q := h6.2 _ (gd_mem hi)
    exact ⟨q.1, q.2.1⟩
theorem law4r (r : TRoots) (w : TRootWord) (fr : A6u8) (cost now : Int) (hr : rg_TRoots r) (hw : rg_TRootWord w) (hf : rg_A6u8 fr) (hc : -9223372036854775808 ≤ cost ∧ cost ≤ 9223372036854775807) (hn : -9223372036854775808 ≤ now ∧ now ≤ 9223372036854775807) : F4 r w fr cost now = some true := law4 r w fr cost now (Abr_of r hr) hw.1
end Go.Proofs.Ytdcepineppafpaa
