/-
  RootKnows: the law over what it is given.
-/
import Derived.Test.YtdcepineppafpaaW7
import Derived.Test.YtdcepineppafpaaO5
namespace Go.Proofs.Ytdcepineppafpaa
open Go.Am
theorem Abr_of (r : TRoots) (h : rg_TRoots r) : Abr r := by
  obtain ⟨h1, h2, h3, h4, h5, h6⟩ := h
  refine ⟨h1, fun i hi => ?_, fun i hi => ?_⟩
  · have q := h5.2 _ (gd_mem hi)
    exact ⟨q.1, q.2.1⟩
  · have q := h6.2 _ (gd_mem hi)
    exact ⟨q.1, q.2.1⟩
theorem law5r (r : TRoots) (out via : A6u8) (now : Int) (gate : Bool) (hr : rg_TRoots r) (ho : rg_A6u8 out) (hv : rg_A6u8 via) (hn : -9223372036854775808 ≤ now ∧ now ≤ 9223372036854775807) (hg : True) : F5 r out via now gate = some true := law5 r out via now gate (Abr_of r hr) ho
end Go.Proofs.Ytdcepineppafpaa
