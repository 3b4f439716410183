/-
  BufferKeeps: the law over what it is given.
-/
import Derived.Test.YtefiemaoacmdkaaL9
import Derived.Test.YtefiemaoacmdkaaO9
namespace Go.Proofs.Ytefiemaoacmdkaa
open Go.Am
theorem law9r (b:TBuffer) (s:TStep) (hb:rg_TBuffer b) (hs:rg_TStep s):F9 b s=some true:=law9 b s ⟨fun q hq=>u8A_iff.2 (hb.2.2.2.2 q hq).2.2.2.2,fun s hs q hq=>u8A_iff.2 ((hb.2.2.1.2 s hs).2.2.2 q hq).2.2.2.2⟩
end Go.Proofs.Ytefiemaoacmdkaa
