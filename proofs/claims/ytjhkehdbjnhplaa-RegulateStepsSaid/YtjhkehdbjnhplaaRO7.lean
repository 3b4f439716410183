/-
  RegulateSteps: the law over what it is given.
-/
import Derived.Test.YtjhkehdbjnhplaaQ7K
import Derived.Test.YtjhkehdbjnhplaaO7
namespace Go.Proofs.Ytjhkehdbjnhplaa
open Go.Am
theorem law7r (s : TRegulate) (w : TRegulateWord) (p q : Int) (hs : rg_TRegulate s) (hw : rg_TRegulateWord w) (hp : -9223372036854775808 <= p /\ p <= 9223372036854775807) (hq : -9223372036854775808 <= q /\ q <= 9223372036854775807) : F7 s w p q = some true := law7 s w p q
end Go.Proofs.Ytjhkehdbjnhplaa
