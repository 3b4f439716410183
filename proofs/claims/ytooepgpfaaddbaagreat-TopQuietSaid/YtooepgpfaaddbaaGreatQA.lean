/-
  Regulate: channels of a table, blocked channels, clear channels: how they are found.
-/
import Derived.Test.YtooepgpfaaddbaaGreatY3
import Derived.Test.YtooepgpfaaddbaaGreatLS
namespace Go.Proofs.YtooepgpfaaddbaaGreat
open Go.Am
set_option linter.unusedVariables false
set_option linter.unusedSimpArgs false
theorem F72_ok (p n:Int):F72 p n=some (cmpI p n):=by
 unfold F72 F92 cmpI
 simp only [Option.bind_some]
 rw [yO (c:=!bEq p p) (by simp [yT]),yO (c:=!bEq n n) (by simp [yT])]
 by_cases h:p < n
 ·rw [xS (by simp [yW,h]),if_pos h]
 ·rw [yO (by simp [yW];omega),if_neg h]
  by_cases h2:n < p
  ·rw [xS (by simp [yW,h2]),if_pos h2]
  ·rw [yO (by simp [yW];omega),if_neg h2]
theorem F39_ok (q:TRegulateChannel) (n:Int):F39 q n=some (cmpI q.Number n):=by unfold F39;rw [F72_ok];rfl
theorem F52_ok (q:TRegulateBlock) (n:Int):F52 q n=some (cmpI q.Channel n):=by unfold F52;rw [F72_ok];rfl
def Rc (l:List TRegulateChannel):Prop:=l.Pairwise (fun a b=>a.Number < b.Number)
def Rb (l:List TRegulateBlock):Prop:=l.Pairwise (fun a b=>a.Channel < b.Channel)
def Ri (l:List Int):Prop:=l.Pairwise (fun a b=>a < b)
def Vt (l:List TRegulateChannel):Prop:=(2 <= l.length/\l.length <= 16)/\(∀ q ∈ l,(1 <= q.Number/\q.Number <= 255)/\0 <= q.Max/\q.Max <= 400)/\Rc l
theorem F38_ok (l:List TRegulateChannel) (n:Int) (hl:l.length <= 10000) (hp:Rc l) :
  ∃ A B,l=A ++ B/\(∀ q ∈ A,q.Number < n)/\(((∀ q ∈ B,n < q.Number)/\F38_0 l n=some ((A.length:Int),false)) ∨ ∃ b B',B=b::B'/\b.Number=n/\(∀ q ∈ B',n < q.Number)/\F38_0 l n=some ((A.length:Int),true)) :=
 bsf_gen (fun q:TRegulateChannel=>q.Number) n l hl hp (fun q=>F39 q n) (fun q=>F39_ok q n) (step:=fun s=>F38_0_L1 l n s.1 s.2) (fun s=>rfl) _ rfl
theorem F51_ok (l:List TRegulateBlock) (n:Int) (hl:l.length <= 10000) (hp:Rb l) :
  ∃ A B,l=A ++ B/\(∀ q ∈ A,q.Channel < n)/\(((∀ q ∈ B,n < q.Channel)/\F51_0 l n=some ((A.length:Int),false)) ∨ ∃ b B',B=b::B'/\b.Channel=n/\(∀ q ∈ B',n < q.Channel)/\F51_0 l n=some ((A.length:Int),true)) :=
 bsf_gen (fun q:TRegulateBlock=>q.Channel) n l hl hp (fun q=>F52 q n) (fun q=>F52_ok q n) (step:=fun s=>F51_0_L1 l n s.1 s.2) (fun s=>rfl) _ rfl
theorem F18_ok (l:List TRegulateChannel) (n:Int) (hl:l.length <= 10000) (hp:Rc l):∃ b,wX l n=some b/\(b=true ↔ ∃ q ∈ l,q.Number=n):=by
 obtain ⟨A,B,rfl,hA,h|⟨b,B',rfl,h1,h2,h3⟩⟩:=F38_ok l n hl hp
 ·refine ⟨false,by unfold wX;rw [h.2];rfl,⟨fun q=>absurd q (by decide),fun ⟨q,hq,e⟩=>?_⟩⟩
  rcases List.mem_append.1 hq with hq|hq
  ·have:=hA q hq;omega
  ·have:=h.1 q hq;omega
 ·exact ⟨true,by unfold wX;rw [h3];rfl,⟨fun _=>⟨b,by simp,h1⟩,fun _=>rfl⟩⟩
theorem F24_ok (l:List TRegulateChannel) (c:TRegulateChannel) (hl:l.length <= 10000) (hp:Rc l) (hc:c ∈ l):jB l c.Number=some c:=by
 obtain ⟨A,B,rfl,hA,h|⟨b,B',rfl,h1,h2,h3⟩⟩:=F38_ok l c.Number hl hp
 ·rcases List.mem_append.1 hc with hq|hq
  ·have:=hA _ hq;omega
  ·have:=h.1 _ hq;omega
 ·unfold jB
  have hi:A.length < (A ++ b::B').length:=by simp
  rw [h3,Option.bind_some,zD (xG hi)]
  simp only [Int.toNat_natCast]
  rw [gd_app2 (Nat.le_refl _),Nat.sub_self,key_inj (k:=fun q:TRegulateChannel=>q.Number) hp (a:=c) (b:=b) hc (by simp) h1.symm]
  rfl
theorem F53_ok (l:List Int) (n:Int) (hl:l.length <= 10000):∃ b,F53 l n=some b/\(b=true ↔ n ∈ l):=by
 unfold F53 F87
 rcases idx_gen l (fun q=>bEq n q) (fun q=>some (bEq n q)) hl (fun q _=>rfl) (step:=fun s=>F87_L1 l n s) (fun s=>rfl) with ⟨h1,h2⟩|⟨i,h1,h2,h3⟩
 ·rw [h2]
  refine ⟨false,by rfl,⟨fun h=>absurd h (by decide),fun h=>?_⟩⟩
  have:=h1 n h
  simp [yT] at this
 ·rw [h3]
  refine ⟨true,by simp only [Option.bind_some];rw [show bLe 0 (i:Int)=true from by simp [vB]],⟨fun _=>?_,fun _=>rfl⟩⟩
  simp only [yT,decide_eq_true_eq] at h2
  rw [h2]
  exact vZ h1
end Go.Proofs.YtooepgpfaaddbaaGreat
