/-
  Numbers that fit their kind.
-/
import Derived.Test.YtnclkplbeenmdaaPm10
namespace Go.Am
set_option linter.unusedVariables false
theorem wr8_mod {x:Int} (h:0 <= x):wr .u8 x=x % 256:=by
 obtain ⟨n,rfl⟩:=Int.eq_ofNat_of_zero_le h
 show IntKind.wrap .u8 (n:Int)=_
 simp only [IntKind.wrap]
 rfl
theorem wr_u8 {x:Int} (h:0 <= x/\x <= 255):wr .u8 x=x:=by rw [wr8_mod h.1];omega
end Go.Am
