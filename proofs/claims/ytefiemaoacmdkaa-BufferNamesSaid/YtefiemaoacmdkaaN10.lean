/-
  BufferNames: the law's value, computed.
-/
import Derived.Test.YtefiemaoacmdkaaY10
namespace Go.Proofs.Ytefiemaoacmdkaa
open Go.Am
theorem law10:F10=some true:=by kernel_rfl
end Go.Proofs.Ytefiemaoacmdkaa
