/-
  BufferOnce: the law over what it is given.
-/
import Derived.Test.YtefiemaoacmdkaaL8
import Derived.Test.YtefiemaoacmdkaaO8
namespace Go.Proofs.Ytefiemaoacmdkaa
open Go.Am
theorem law8r (a c:Int) (l:List TStep) (ha : -9223372036854775808 <= a/\a <= 9223372036854775807) (hc : -9223372036854775808 <= c/\c <= 9223372036854775807) (hl:l.length <= maxLen/\∀ s ∈ l,rg_TStep s):F8 a c l=some true:=law8 a c l (fun s hs=>(hl.2 s hs).2.2.1.1)
end Go.Proofs.Ytefiemaoacmdkaa
