/-
  TriggerBegins: the law over what it is given.
-/
import Derived.Test.YtnclkplbeenmdaaPC
import Derived.Test.YtnclkplbeenmdaaO5
namespace Go.Proofs.Ytnclkplbeenmdaa
open Go.Am
theorem law5r (b:TBuffer) (p:TTriggerPlan) (aid:Int) (x y:A6u8) (hb:rg_TBuffer b) (hp:rg_TTriggerPlan p) (ha : -9223372036854775808 <= aid/\aid <= 9223372036854775807) (hx:rg_A6u8 x) (hy:rg_A6u8 y):F5 b p aid x y=some true :=
 law5 b p aid x y ⟨fun q hq=>u8A_iff.2 (hb.2.2.2.2 q hq).2.2.2.2,fun s hs q hq=>u8A_iff.2 ((hb.2.2.1.2 s hs).2.2.2 q hq).2.2.2.2⟩ (fun q hq=>(hb.2.2.2.2 q hq).1) (fun s hs q hq=>((hb.2.2.1.2 s hs).2.2.2 q hq).1) hp.1.1 hp.2.1.1
end Go.Proofs.Ytnclkplbeenmdaa
