/-
  Buffers: valid ones again; comparison; waking; what is put for someone awake.
-/
import Derived.Test.YtefiemaoacmdkaaBP
namespace Go.Proofs.Ytefiemaoacmdkaa
open Go.Am
set_option linter.unusedVariables false
set_option linter.unusedSimpArgs false
/-! ### One station changed -/
def stB (b:TBuffer) (a:Nat) (s:Bool) (h:List TStored):TBuffer:={b with List:=b.List.set a {(gd b.List a) with Asleep:=s,Held:=h}}
theorem fV (b:TBuffer) (a:Nat) (s:Bool) (h:List TStored):(stB b a s h).List.length=b.List.length:=by simp [stB]
theorem st_at {b:TBuffer} {a:Nat} {s:Bool} {h:List TStored} (ha:a < b.List.length):gd (stB b a s h).List a={(gd b.List a) with Asleep:=s,Held:=h}:=uJ ha
theorem st_ne {b:TBuffer} {a i:Nat} {s:Bool} {h:List TStored} (hi:i ≠ a):gd (stB b a s h).List i=gd b.List i:=uK (Ne.symm hi)
theorem st_aid {b:TBuffer} {a i:Nat} {s:Bool} {h:List TStored} (ha:a < b.List.length):(gd (stB b a s h).List i).Aid=(gd b.List i).Aid:=by
 by_cases e:i=a
 ·subst e;rw [st_at ha]
 ·rw [st_ne e]
theorem st_pe {b:TBuffer} {a:Nat} {s:Bool} {h:List TStored} (ha:a < b.List.length) (hv:∀ i:Nat,i < b.List.length->Pe b i) (hh:Qu h b.Limit 3) (hs:s=true ∨ h.length=0):∀ i:Nat,i < (stB b a s h).List.length->Pe (stB b a s h) i:=by
 intro i hi
 rw [fV] at hi
 obtain ⟨h1,h2,h3,h4⟩:=hv i hi
 have hl:jF (stB b a s h) i=jF b i:=by unfold jF;rw [st_aid ha]
 refine ⟨by rw [hl,st_aid ha];exact h1,by rw [st_aid ha];exact h2,?_,?_⟩
 ·by_cases e:i=a
  ·subst e;rw [st_at ha];exact hh
  ·rw [st_ne e];exact h3
 ·by_cases e:i=a
  ·subst e;rw [st_at ha];exact hs
  ·rw [st_ne e];exact h4
theorem st_ng {b:TBuffer} {a:Nat} {s:Bool} {h:List TStored} (ha:a < b.List.length) (hg:Ng b) (hh:h.length <= 70):Ng (stB b a s h):=by
 refine ⟨by rw [fV];exact hg.1,hg.2.1,fun i hi=>?_⟩
 by_cases e:i=a
 ·subst e;rw [st_at ha];exact hh
 ·rw [st_ne e];rw [fV] at hi;exact hg.2.2 i hi
theorem st_bq {b:TBuffer} {a:Nat} {s:Bool} {h:List TStored} (ha:a < b.List.length) (hq:Bq b) (hh:Sq h):Bq (stB b a s h):=by
 refine ⟨hq.1,fun q hm=>?_⟩
 obtain ⟨i,hi,rfl⟩:=uL hm
 by_cases e:i=a
 ·subst e;rw [st_at ha];exact hh
 ·rw [st_ne e];rw [fV] at hi;exact hq.2 _ (xT hi)
/-! ### One thing less -/
theorem del_gd {α:Type} [Inhabited α] {l:List α} {k i:Nat} (hk:k < l.length):gd (kH l k ((k+1:Nat):Int)) i=if i < k then gd l i else gd l (i+1):=by
 unfold kH
 simp only [Int.toNat_natCast]
 split
 ·rename_i h
  rw [vY (by simp;omega),bX h]
 ·rename_i h
  rw [tP (by simp;omega),gd_drop]
  congr 1
  simp
  omega
theorem del_mem {α:Type} {l:List α} {k:Nat} {x:α} (h:x ∈ kH l k ((k+1:Nat):Int)):x ∈ l:=by
 unfold kH at h
 rcases List.mem_append.1 h with h|h
 ·exact List.mem_of_mem_take h
 ·exact List.mem_of_mem_drop h
theorem del_qu {l:List TStored} {k:Nat} {lim top:Int} (hk:k < l.length) (h:Qu l lim top):Qu (kH l k ((k+1:Nat):Int)) lim top:=by
 have hl:=gI hk
 refine ⟨by rw [hl];have:=h.1;omega,fun i hi=>?_⟩
 rw [hl] at hi
 unfold Qe
 rw [del_gd hk,del_gd hk]
 by_cases h1:i < k
 ·rw [if_pos h1,if_pos (by omega)]
  exact h.2 i (by omega)
 ·rw [if_neg h1]
  obtain ⟨q1,q2,q3⟩:=h.2 (i+1) (by omega)
  refine ⟨q1,q2,fun h0=>?_⟩
  have q4:=q3 (by omega)
  rw [show i+1 - 1=i from rfl] at q4
  by_cases h2:i - 1 < k
  ·rw [if_pos h2]
   obtain rfl:i=k:=by omega
   have:=(h.2 i hk).2.2 h0
   omega
  ·rw [if_neg h2,show i - 1+1=i by omega]
   exact q4
/-! ### Comparison -/
theorem cself {c b:Bool} (h:b=true):(bif c then b else true)=true:=by subst h;cases c<;>rfl
theorem fsame_ok (a:TFrame) (h:u8A a.Body=true):F36 a a=some true:=by
 have q:u8b a.Body.length (enR xM a.Body)=true:=(u8b_enR (f:=xM) (fun _=>rfl) a.Body).trans h
 unfold F36
 rw [zP (cself q),zP (cself q)]
 simp [xJ,bB_eq,sEq]
/-! ### Waking -/
def wkB (b:TBuffer) (a:Nat) (g:List TStored):TBuffer:={stB b a false [] with Group:=g}
theorem wk_good {b:TBuffer} {a:Nat} {g:List TStored} (ha:a < b.List.length) (hg:Ng b) (hq:Bq b) (hv:Vb b) (h:g=[] ∨ g=b.Group/\Asl (stB b a false [])):Ng (wkB b a g)/\Bq (wkB b a g)/\Vb (wkB b a g):=by
 have e1:=st_ng (s:=false) (h:=[]) ha hg (by simp)
 have e2:=st_bq (s:=false) (h:=[]) ha hq (fun q hq=>by cases hq)
 have l0:=hv.1.1.1
 have e3:=st_pe (s:=false) (h:=[]) ha hv.1.2 ⟨by simp;omega,fun i hi=>by simp at hi⟩ (.inr rfl)
 refine ⟨⟨e1.1,?_,e1.2.2⟩,⟨?_,e2.2⟩,⟨⟨hv.1.1.1,hv.1.1.2.1,by have:=hv.1.1.2.2;rw [← fV b a false []] at this;exact this⟩,fun i hi=>e3 i hi⟩,?_,?_⟩
 ·rcases h with rfl|⟨rfl,_⟩
  ·show ([]:List TStored).length <= 70
   simp
  ·exact hg.2.1
 ·rcases h with rfl|⟨rfl,_⟩
  ·exact fun q hq=>by cases hq
  ·exact hq.1
 ·rcases h with rfl|⟨rfl,_⟩
  ·exact ⟨by show ((0:Nat):Int) <= b.Limit;omega,fun i hi=>by simp [wkB] at hi⟩
  ·exact hv.2.1
 ·rcases h with rfl|⟨rfl,h⟩
  ·exact .inl rfl
  ·exact .inr h
/-! ### For someone awake -/
end Go.Proofs.Ytefiemaoacmdkaa
