/-
  Regulate: May.
-/
import Derived.Test.YtooepgpfaaddbaaGreatQC
namespace Go.Proofs.YtooepgpfaaddbaaGreat
open Go.Am
set_option linter.unusedVariables false
set_option linter.unusedSimpArgs false
def Ma (s:TRegulate) (c:TRegulateChannel) (p t:Int):Prop:=s.Stopped=false/\p <= c.Max/\(s.Lead=true ∨ t - s.Heard <= 500000)/\Fr s.Blocked s.Clear c t
theorem F10_ok (s:TRegulate) (p t:Int) (hg:Gr s):(¬ Vs s/\F10 s p t=some (false,8)) ∨ (Vs s/\¬ Mo t/\F10 s p t=some (false,2)) ∨ (Vs s/\Mo t/\∀ c ∈ s.Table,c.Number=s.Channel->∃ b,F10 s p t=some (b,0)/\(b=true ↔ Ma s c p t)):=by
 unfold F10
 rcases F22_ok s t 0 hg with ⟨h,e⟩|⟨h,h2,e⟩|⟨h,h2,_,e⟩
 ·rw [e];exact .inl ⟨h,rfl⟩
 ·rw [e];exact .inr (.inl ⟨h,fun q=>h2 ⟨q,by decide⟩,rfl⟩)
 ·rw [e]
  refine .inr (.inr ⟨h,h2,fun c hc ec=>?_⟩)
  obtain ⟨⟨t1,t2,t3⟩,v2,v3,v4,v5,v6,v7,v8,v9,v10,v11⟩:=h
  obtain ⟨g1,g2,g3⟩:=hg
  obtain ⟨b,b1,b2⟩:=F25_ok s.Table s.Blocked s.Clear c t g1 g2 g3 t3 v8 hc
  rw [ec] at b1
  have hc51:=F24_ok s.Table c (by omega) t3 hc
  rw [ec] at hc51
  have hw:wr .i64 (t - s.Heard)=t - s.Heard:=uV (by unfold Mo at h2 v3;omega)
  simp only [Option.bind_some,Option.isSome_some,zN,cond_true]
  rw [yO (c:=!bEq (0:Int) 0) (by decide),hc51,b1,hw]
  simp only [Option.isSome_some,Bool.cond_self,zD,zN,Option.bind_some]
  unfold Ma
  by_cases hh:s.Stopped=false/\p <= c.Max/\(s.Lead=true ∨ t - s.Heard <= 500000)
  ·rw [yO (by
    simp only [Bool.or_eq_false_iff,yW,decide_eq_false_iff_not,Bool.and_eq_false_iff,Bool.not_eq_false']
    refine ⟨⟨hh.1,by omega⟩,?_⟩
    rcases hh.2.2 with q|q
    ·exact .inl q
    ·exact .inr (by omega))]
   exact ⟨b,rfl,b2.trans ⟨fun q=>⟨hh.1,hh.2.1,hh.2.2,q⟩,fun q=>q.2.2.2⟩⟩
  ·refine ⟨false,?_,⟨fun q=>absurd q (by decide),fun q=>absurd ⟨q.1,q.2.1,q.2.2.1⟩ hh⟩⟩
   rw [xS]
   cases hS:s.Stopped with
   | true=>rfl
   | false =>
    by_cases hp:p <= c.Max
    ·cases hL:s.Lead with
     | true=>exact absurd ⟨hS,hp,.inl hL⟩ hh
     | false =>
      by_cases hq:t - s.Heard <= 500000
      ·exact absurd ⟨hS,hp,.inr hq⟩ hh
      ·simp [yW];omega
    ·simp [yW];omega
end Go.Proofs.YtooepgpfaaddbaaGreat
