/-
  ScanKeeps: the law over what it is given.
-/
import Derived.Test.YtpnhehcncljhpaaS12
import Derived.Test.YtpnhehcncljhpaaO4
namespace Go.Proofs.Ytpnhehcncljhpaa
open Go.Am
theorem law4r (t : TCandidates) (a : A6u8) (b : TBeacon) (ch lv now : Int) (h : rg_TCandidates t) (ha : rg_A6u8 a) (hb : rg_TBeacon b) (_ : -9223372036854775808 ≤ ch ∧ ch ≤ 9223372036854775807) (_ : -9223372036854775808 ≤ lv ∧ lv ≤ 9223372036854775807) (_ : -9223372036854775808 ≤ now ∧ now ≤ 9223372036854775807) : F4 t a b ch lv now = some true :=
  law4 t a b ch lv now (fun i hi => (h.2 _ (gd_mem hi)).1) ha (fun x hx => ((hb.2.2.2.2 x hx).2.2.1.2)) hb.2.1
end Go.Proofs.Ytpnhehcncljhpaa
