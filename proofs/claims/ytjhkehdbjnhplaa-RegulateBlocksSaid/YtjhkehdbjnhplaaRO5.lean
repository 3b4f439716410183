/-
  RegulateBlocks: the law over what it is given.
-/
import Derived.Test.YtjhkehdbjnhplaaQ5E
import Derived.Test.YtjhkehdbjnhplaaO5
namespace Go.Proofs.Ytjhkehdbjnhplaa
open Go.Am
theorem law5r (s : TRegulate) (p q r : Int) (hs : rg_TRegulate s) (hp : -9223372036854775808 ≤ p ∧ p ≤ 9223372036854775807) (hq : -9223372036854775808 ≤ q ∧ q ≤ 9223372036854775807) (hr : -9223372036854775808 ≤ r ∧ r ≤ 9223372036854775807) : F5 s p q r = some true := law5 s p q r
end Go.Proofs.Ytjhkehdbjnhplaa
