/-
  TriggerTells: the law over what it is given.
-/
import Derived.Test.YtnclkplbeenmdaaA
import Derived.Test.YtnclkplbeenmdaaO3
namespace Go.Proofs.Ytnclkplbeenmdaa
open Go.Am
theorem law3r (p : TTriggerPlan) (f : TFrame) (x : TPeriod) (hp : rg_TTriggerPlan p) (hf : rg_TFrame f) (hx : rg_TPeriod x) : F3 p f x = some true :=
  law3 p f x hp.1.1 hp.2.1.1 fun i hi => u8A_iff.2 fun q hq => (hx.2.2 _ (gd_mem hi)).2.2 q hq
end Go.Proofs.Ytnclkplbeenmdaa
