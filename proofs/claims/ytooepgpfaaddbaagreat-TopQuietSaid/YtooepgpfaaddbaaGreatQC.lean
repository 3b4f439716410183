/-
  Regulate: free channels; May; the law of powers.
-/
import Derived.Test.YtooepgpfaaddbaaGreatQB
namespace Go.Proofs.YtooepgpfaaddbaaGreat
open Go.Am
set_option linter.unusedVariables false
set_option linter.unusedSimpArgs false
def Fr (bl:List TRegulateBlock) (cl:List Int) (c:TRegulateChannel) (t:Int):Prop:=(∀ b ∈ bl,b.Channel=c.Number->b.Until <= t)/\(c.Radar=true->c.Number ∈ cl)
theorem F25_ok (tl:List TRegulateChannel) (bl:List TRegulateBlock) (cl:List Int) (c:TRegulateChannel) (t:Int) (ht:tl.length <= 1000) (hb:bl.length <= 1000) (hl:cl.length <= 1000) (rt:Rc tl) (rb:Rb bl) (hc:c ∈ tl) :
  ∃ b,cN tl bl cl c.Number t=some b/\(b=true ↔ Fr bl cl c t):=by
 have rest:(∀ b ∈ bl,b.Channel=c.Number->b.Until <= t)->∃ b,(jB tl c.Number).bind (fun r4=>need (bif r4.Radar then ((F53 cl c.Number).isSome) else true) <| some ((!r4.Radar) || (gt (F53 cl c.Number))))=some b/\(b=true ↔ Fr bl cl c t):=by
  intro h
  obtain ⟨k,k1,k2⟩:=F53_ok cl c.Number (by omega)
  rw [F24_ok tl c (by omega) rt hc,Option.bind_some,k1]
  simp only [Option.isSome_some,Bool.cond_self,zD,zN]
  refine ⟨_,rfl,?_⟩
  unfold Fr
  rw [← k2]
  cases c.Radar<;>simp<;>first|exact h|exact fun _=>h
 obtain ⟨A,B,rfl,hA,h|⟨b,B',rfl,h1,h2,h3⟩⟩:=F51_ok bl c.Number (by omega) rb
 ·unfold cN
  rw [h.2,Option.bind_some]
  simp only [cond_false,zD,Bool.false_and]
  refine rest fun q hq e=>?_
  rcases List.mem_append.1 hq with hq|hq
  ·have:=hA q hq;omega
  ·have:=h.1 q hq;omega
 ·unfold cN
  have hi:A.length < (A ++ b::B').length:=by simp
  rw [h3,Option.bind_some]
  simp only [cond_true,Bool.true_and,Int.toNat_natCast]
  rw [zD (xG hi),gd_app2 (Nat.le_refl _),Nat.sub_self]
  by_cases hu:t < b.Until
  ·rw [xS (by simp [yW,gd];exact hu)]
   exact ⟨false,rfl,⟨fun h=>absurd h (by decide),fun h=>by have:=h.1 b (by simp) h1;omega⟩⟩
  ·rw [yO (by simp [yW,gd];omega)]
   refine rest fun q hq e=>?_
   rw [key_inj (k:=fun q:TRegulateBlock=>q.Channel) rb (a:=q) (b:=b) hq (by simp) (e.trans h1.symm)]
   omega
end Go.Proofs.YtooepgpfaaddbaaGreat
