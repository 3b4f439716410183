/-
  Numbers that fit their kind.
-/
import Derived.Test.YtooepgpfaaddbaaGreatPm10
namespace Go.Am
set_option linter.unusedVariables false
theorem fQ {x:Int} (h:0 <= x):wr .u8 x=x % 256:=by
 obtain ⟨n,rfl⟩:=Int.eq_ofNat_of_zero_le h
 show IntKind.wrap .u8 (n:Int)=_
 simp only [IntKind.wrap]
 rfl
theorem wr_u64 {x:Int} (h:0 <= x/\x <= 18446744073709551615):wr .u64 x=x:=by
 obtain ⟨n,rfl⟩:=Int.eq_ofNat_of_zero_le h.1
 exact wrap_nat .u64 rfl n (by show n < 2 ^ 64;omega)
theorem wr_u8 {x:Int} (h:0 <= x/\x <= 255):wr .u8 x=x:=by rw [fQ h.1];omega
end Go.Am
