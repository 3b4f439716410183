/-
  BufferNames: the law over what it is given.
-/
import Derived.Test.YtefiemaoacmdkaaN10
import Derived.Test.YtefiemaoacmdkaaO10
namespace Go.Proofs.Ytefiemaoacmdkaa
open Go.Am
theorem law10r:F10=some true:=law10
end Go.Proofs.Ytefiemaoacmdkaa
