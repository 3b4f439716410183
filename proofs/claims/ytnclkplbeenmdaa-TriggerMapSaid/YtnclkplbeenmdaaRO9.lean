/-
  TriggerMap: the law over what it is given.
-/
import Derived.Test.YtnclkplbeenmdaaL9
import Derived.Test.YtnclkplbeenmdaaO9
namespace Go.Proofs.Ytnclkplbeenmdaa
open Go.Am
theorem law9r (b : TBuffer) (p : TTriggerPlan) (x : Int) (hb : rg_TBuffer b) (hp : rg_TTriggerPlan p) (ha : -9223372036854775808 <= x /\ x <= 9223372036854775807) : F9 b p x = some true :=
  law9 b p x (fun s hs q hq => ((hb.2.2.1.2 s hs).2.2.2 q hq).1) hp.2.1.1
end Go.Proofs.Ytnclkplbeenmdaa
