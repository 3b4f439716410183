/-
  BufferAged: the law over what it is given.
-/
import Derived.Test.YtefiemaoacmdkaaL5
import Derived.Test.YtefiemaoacmdkaaO5
namespace Go.Proofs.Ytefiemaoacmdkaa
open Go.Am
theorem law5r (b:TBuffer) (t:Int) (hb:rg_TBuffer b) (ht : -9223372036854775808 <= t/\t <= 9223372036854775807):F5 b t=some true:=law5 b t ⟨fun q hq=>u8A_iff.2 (hb.2.2.2.2 q hq).2.2.2.2,fun s hs q hq=>u8A_iff.2 ((hb.2.2.1.2 s hs).2.2.2 q hq).2.2.2.2⟩
end Go.Proofs.Ytefiemaoacmdkaa
