/-
  RootSettled: the law over what it is given.
-/
import Derived.Test.YtdcepineppafpaaSI
import Derived.Test.YtdcepineppafpaaO7
namespace Go.Proofs.Ytdcepineppafpaa
open Go.Am
theorem law7r (l:A8A8i64) (m:Int) (p:List Int) (hl:cV l) (hm : -9223372036854775808 <= m/\m <= 9223372036854775807) (hp:p.length <= maxLen/\∀ q ∈ p,(-9223372036854775808 <= q/\q <= 9223372036854775807)):F7 l m p=some true:=law7 l m p
end Go.Proofs.Ytdcepineppafpaa
