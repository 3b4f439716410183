/-
  Buffers: one station changed.
-/
import Derived.Test.YtnclkplbeenmdaaCZ
namespace Go.Proofs.Ytnclkplbeenmdaa
open Go.Am
set_option linter.unusedVariables false
set_option linter.unusedSimpArgs false
def zB:TBuffer:=TBuffer.mk 0 0 [] []
theorem del_len1 {α:Type} {l:List α} {k:Nat} (h:k < l.length):(delL l k ((k+1:Nat):Int)).length=l.length - 1:=by
 rw [del_len (n:=l.length) (by omega) rfl];omega
/-! ### One station changed -/
def stB (b:TBuffer) (a:Nat) (s:Bool) (h:List TStored):TBuffer:={b with List:=b.List.set a {(gd b.List a) with Asleep:=s,Held:=h}}
theorem st_len (b:TBuffer) (a:Nat) (s:Bool) (h:List TStored):(stB b a s h).List.length=b.List.length:=by simp [stB]
theorem st_at {b:TBuffer} {a:Nat} {s:Bool} {h:List TStored} (ha:a < b.List.length):gd (stB b a s h).List a={(gd b.List a) with Asleep:=s,Held:=h}:=gd_set_eq ha
theorem st_ne {b:TBuffer} {a i:Nat} {s:Bool} {h:List TStored} (hi:i ≠ a):gd (stB b a s h).List i=gd b.List i:=gd_set_ne (Ne.symm hi)
theorem st_ng {b:TBuffer} {a:Nat} {s:Bool} {h:List TStored} (ha:a < b.List.length) (hg:Ng b) (hh:h.length <= 70):Ng (stB b a s h):=by
 refine ⟨by rw [st_len];exact hg.1,hg.2.1,fun i hi=>?_⟩
 by_cases e:i=a
 ·subst e;rw [st_at ha];exact hh
 ·rw [st_ne e];rw [st_len] at hi;exact hg.2.2 i hi
/-! ### One thing less -/
theorem del_gd {α:Type} [Inhabited α] {l:List α} {k i:Nat} (hk:k < l.length):gd (delL l k ((k+1:Nat):Int)) i=if i < k then gd l i else gd l (i+1):=by
 unfold delL
 simp only [Int.toNat_natCast]
 split
 ·rename_i h
  rw [gd_app_lt (by simp;omega),gd_take h]
 ·rename_i h
  rw [gd_app_ge (by simp;omega),gd_drop]
  congr 1
  simp
  omega
theorem del_mem {α:Type} {l:List α} {k:Nat} {x:α} (h:x ∈ delL l k ((k+1:Nat):Int)):x ∈ l:=by
 unfold delL at h
 rcases List.mem_append.1 h with h|h
 ·exact List.mem_of_mem_take h
 ·exact List.mem_of_mem_drop h
theorem del_qu {l:List TStored} {k:Nat} {lim top:Int} (hk:k < l.length) (h:Qu l lim top):Qu (delL l k ((k+1:Nat):Int)) lim top:=by
 have hl:=del_len1 hk
 refine ⟨by rw [hl];have:=h.1;omega,fun i hi=>?_⟩
 rw [hl] at hi
 unfold Qe
 rw [del_gd hk,del_gd hk]
 by_cases h1:i < k
 ·rw [if_pos h1,if_pos (by omega)]
  exact h.2 i (by omega)
 ·rw [if_neg h1]
  obtain ⟨q1,q2,q3⟩:=h.2 (i+1) (by omega)
  refine ⟨q1,q2,fun h0=>?_⟩
  have q4:=q3 (by omega)
  rw [show i+1 - 1=i from rfl] at q4
  by_cases h2:i - 1 < k
  ·rw [if_pos h2]
   obtain rfl:i=k:=by omega
   have:=(h.2 i hk).2.2 h0
   omega
  ·rw [if_neg h2,show i - 1+1=i by omega]
   exact q4
end Go.Proofs.Ytnclkplbeenmdaa
