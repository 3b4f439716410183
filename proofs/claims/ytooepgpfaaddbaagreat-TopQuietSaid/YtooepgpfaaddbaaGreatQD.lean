/-
  Regulate: usable channels, stopping, radar, ticks.
-/
import Derived.Test.YtooepgpfaaddbaaGreatQM
namespace Go.Proofs.YtooepgpfaaddbaaGreat
open Go.Am
set_option linter.unusedVariables false
set_option linter.unusedSimpArgs false
instance (bl:List TRegulateBlock) (cl:List Int) (c:TRegulateChannel) (t:Int):Decidable (Fr bl cl c t):=by unfold Fr;infer_instance
def usP (ch:Int) (bl:List TRegulateBlock) (cl:List Int) (t:Int) (c:TRegulateChannel):Bool:=decide (c.Number ≠ ch/\Fr bl cl c t)
def usL (tl:List TRegulateChannel) (ch:Int) (bl:List TRegulateBlock) (cl:List Int) (t:Int):List Int:=(tl.filter (usP ch bl cl t)).map (fun c=>c.Number)
theorem us_mem {tl:List TRegulateChannel} {ch:Int} {bl:List TRegulateBlock} {cl:List Int} {t n:Int}:n ∈ usL tl ch bl cl t ↔ ∃ c ∈ tl,c.Number=n/\n ≠ ch/\Fr bl cl c t:=by
 unfold usL usP
 simp only [List.mem_map,List.mem_filter,decide_eq_true_eq]
 constructor
 ·rintro ⟨c,⟨h1,h2,h3⟩,rfl⟩;exact ⟨c,h1,rfl,h2,h3⟩
 ·rintro ⟨c,h1,rfl,h2,h3⟩;exact ⟨c,⟨h1,h2,h3⟩,rfl⟩
theorem us_step (p:TRegulateChannel->Bool) (tl:List TRegulateChannel) {i:Nat} (hi:i < tl.length):((tl.take (i+1)).filter p).map (fun c=>c.Number)=bif p (gd tl i) then ((tl.take i).filter p).map (fun c=>c.Number) ++ [(gd tl i).Number] else ((tl.take i).filter p).map (fun c=>c.Number):=by
 rw [take_fil p tl hi]
 cases p (gd tl i)<;>simp
theorem fm_len (p:TRegulateChannel->Bool) (tl:List TRegulateChannel) (i:Nat):(((tl.take i).filter p).map (fun c=>c.Number)).length <= tl.length:=by
 rw [List.length_map]
 have h1:=List.length_filter_le p (tl.take i)
 have h2:=List.length_take_le i tl
 have h3:(tl.take i).length <= tl.length:=by simp [List.length_take];omega
 omega
theorem F50_ok (tl:List TRegulateChannel) (ch:Int) (bl:List TRegulateBlock) (cl:List Int) (t:Int) (ht:tl.length <= 1000) (hb:bl.length <= 1000) (hl:cl.length <= 1000) (rt:Rc tl) (rb:Rb bl):F50_0 tl ch bl cl t=some (usL tl ch bl cl t):=by
 unfold F50_0
 have:=run_gen (step:=fun s=>jC tl ch bl cl t s.1 s.2) tl.length (fun i=>(((tl.take i).filter (usP ch bl cl t)).map (fun c=>c.Number),(i:Int))) (usL tl ch bl cl t) (fun i hi=>by
   show jC tl ch bl cl t _ i=_
   unfold jC
   rw [xS (c:=bLt _ _) (by simp [yW];omega),zD (xG hi),Int.toNat_natCast,vA hi (by omega),us_step _ tl hi]
   obtain ⟨b,b1,b2⟩:=F25_ok tl bl cl (gd tl i) t ht hb hl rt rb (vZ hi)
   rw [b1]
   simp only [Option.isSome_some,Bool.cond_self,zD,zN]
   have hp:(!bEq (gd tl i).Number ch && b)=usP ch bl cl t (gd tl i):=by
    unfold usP
    rw [Bool.eq_iff_iff]
    simp [yT,b2]
   rw [hp]
   cases usP ch bl cl t (gd tl i) with
   | true =>
    have hl:=fm_len (usP ch bl cl t) tl i
    have hq:capb 8 ((((tl.take i).filter (usP ch bl cl t)).map (fun c=>c.Number)).length+1)=true:=by
     generalize (((tl.take i).filter (usP ch bl cl t)).map (fun c=>c.Number)).length=z at hl
     exact uT.2 (by omega)
    rw [hq];rfl
   | false=>rfl)
  (by
   show jC tl ch bl cl t _ _=_
   unfold jC
   rw [yO (by simp [yW]),List.take_length];rfl)
 have key:∀ x,x=((((tl.take 0).filter (usP ch bl cl t)).map (fun c=>c.Number)),((0:Nat):Int))->yF (fun s=>jC tl ch bl cl t s.1 s.2) x=some (.inl (usL tl ch bl cl t)):=fun x hx=>by subst hx;exact this
 exact wE (key _ (by simp))
end Go.Proofs.YtooepgpfaaddbaaGreat
