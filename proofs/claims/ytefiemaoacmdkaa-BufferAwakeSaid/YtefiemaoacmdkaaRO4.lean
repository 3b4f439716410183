/-
  BufferAwake: the law over what it is given.
-/
import Derived.Test.YtefiemaoacmdkaaL4
import Derived.Test.YtefiemaoacmdkaaO4
namespace Go.Proofs.Ytefiemaoacmdkaa
open Go.Am
theorem law4r (b : TBuffer) (aid : Int) (f : TFrame) (t : Int) (hb : rg_TBuffer b) (ha : -9223372036854775808 <= aid /\ aid <= 9223372036854775807) (hf : rg_TFrame f) (ht : -9223372036854775808 <= t /\ t <= 9223372036854775807) : F4 b aid f t = some true :=
  law4 b aid f t ⟨fun q hq => u8A_iff.2 (hb.2.2.2.2 q hq).2.2.2.2, fun s hs q hq => u8A_iff.2 ((hb.2.2.1.2 s hs).2.2.2 q hq).2.2.2.2⟩
end Go.Proofs.Ytefiemaoacmdkaa
