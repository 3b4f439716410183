/-
  BufferMap: the law over what it is given.
-/
import Derived.Test.YtefiemaoacmdkaaL6
import Derived.Test.YtefiemaoacmdkaaO6
namespace Go.Proofs.Ytefiemaoacmdkaa
open Go.Am
theorem law6r (b : TBuffer) (aid : Int) (hb : rg_TBuffer b) (ha : -9223372036854775808 <= aid /\ aid <= 9223372036854775807) : F6 b aid = some true := law6 b aid
end Go.Proofs.Ytefiemaoacmdkaa
