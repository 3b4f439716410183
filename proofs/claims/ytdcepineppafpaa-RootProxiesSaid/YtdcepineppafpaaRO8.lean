/-
  RootProxies: the law over what it is given.
-/
import Derived.Test.YtdcepineppafpaaU11
import Derived.Test.YtdcepineppafpaaO8
namespace Go.Proofs.Ytdcepineppafpaa
open Go.Am
theorem law8r (r : TRoots) (out via other : A6u8) (now : Int) (hr : rg_TRoots r) (ho : rg_A6u8 out) (hv : rg_A6u8 via) (hot : rg_A6u8 other) (hn : -9223372036854775808 ≤ now ∧ now ≤ 9223372036854775807) : F8 r out via other now = some true := by
  obtain ⟨h1, h2, h3, h4, h5, h6⟩ := hr
  refine law8 r out via other now ⟨h1, fun i hi => ?_, fun i hi => ?_⟩ ho hv hot
  · have q := h5.2 _ (gd_mem hi)
    exact ⟨q.1, q.2.1⟩
  · have q := h6.2 _ (gd_mem hi)
    exact ⟨q.1, q.2.1⟩
end Go.Proofs.Ytdcepineppafpaa
