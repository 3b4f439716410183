/-
  RegulateStates: the law over what it is given.
-/
import Derived.Test.YtjhkehdbjnhplaaQ6J
import Derived.Test.YtjhkehdbjnhplaaO6
namespace Go.Proofs.Ytjhkehdbjnhplaa
open Go.Am
theorem law6r (s : TRegulate) (p q r : Int) (hs : rg_TRegulate s) (hp : -9223372036854775808 <= p /\ p <= 9223372036854775807) (hq : -9223372036854775808 <= q /\ q <= 9223372036854775807) (hr : -9223372036854775808 <= r /\ r <= 9223372036854775807) : F6 s p q r = some true := law6 s p q r
end Go.Proofs.Ytjhkehdbjnhplaa
