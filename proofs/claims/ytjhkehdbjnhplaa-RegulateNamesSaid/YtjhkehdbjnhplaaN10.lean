/-
  RegulateNames: the law's value, computed.
-/
import Derived.Test.YtjhkehdbjnhplaaY10
import Derived.Test.YtjhkehdbjnhplaaO10
namespace Go.Proofs.Ytjhkehdbjnhplaa
open Go.Am
theorem law10 : F10 = some true := by kernel_rfl
end Go.Proofs.Ytjhkehdbjnhplaa
