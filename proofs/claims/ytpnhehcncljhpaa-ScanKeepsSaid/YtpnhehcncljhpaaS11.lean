/-
  ScanKeeps: what a table keeps.
-/
import Derived.Test.YtpnhehcncljhpaaS10
import Derived.Test.YtpnhehcncljhpaaLT
namespace Go.Proofs.Ytpnhehcncljhpaa
open Go.Am
set_option linter.unusedVariables false
set_option linter.unusedSimpArgs false
theorem uq {x : TCandidates} (hv : Vt x) (hb : Abs x) {p q : TCandidate} (hp : p ∈ x.List) (hq : q ∈ x.List) (e : p.Addr = q.Addr) : p = q :=
  key_inj (k := fun q : TCandidate => nA q.Addr) (Vl_of hv hb).2.1 hp hq (by rw [e])
theorem res_facts {t x : TCandidates} {a : A6u8} {y : TCandidate} (hv : Vt t) (hb : Abs t) (hy : y.Addr = a) (h : Res t x a y) :
    Vt x ∧ Abs x ∧ ((Has t a ∧ x.List.length = t.List.length) ∨ (¬ Has t a ∧ ((t.List.length < 64 ∧ x.List.length = t.List.length + 1) ∨ (t.List.length = 64 ∧ x.List.length = 64)))) ∧
      (∀ q ∈ x.List, q.Addr = a → q = y) ∧ (y ∈ x.List ∨ t.List.length = 64) ∧
      ∃ g : A6u8, ∀ q ∈ t.List, q.Addr ≠ a → q ∈ x.List ∨ (q.Addr = g ∧ (∀ z ∈ x.List, q.Heard ≤ z.Heard) ∧ ∀ z ∈ x.List, z.Addr ≠ q.Addr) := by
  have one : Wy t x y → Vt x ∧ Abs x ∧ (∀ q ∈ x.List, q.Addr = a → q = y) ∧ y ∈ x.List ∧ ∀ q ∈ t.List, q.Addr ≠ a → q ∈ x.List := by
    rintro ⟨w1, w2, w3⟩
    refine ⟨w1, w2, fun q hq e => ?_, (w3 y).2 (.inl rfl), fun q hq e => (w3 q).2 (.inr ⟨hq, by rw [hy]; exact e⟩)⟩
    rcases (w3 q).1 hq with h | ⟨_, h⟩
    · exact h
    · exact absurd (e.trans hy.symm) h
  rcases h with ⟨h1, w, h2⟩ | ⟨h1, h2, w, h3⟩ | ⟨h1, h2, w1, w2, w3, o, o1, o2, o3⟩
  · obtain ⟨p1, p2, p3, p4, p5⟩ := one w
    exact ⟨p1, p2, .inl ⟨h1, h2⟩, p3, .inl p4, a, fun q hq e => .inl (p5 q hq e)⟩
  · obtain ⟨p1, p2, p3, p4, p5⟩ := one w
    exact ⟨p1, p2, .inr ⟨h1, .inl ⟨h2, h3⟩⟩, p3, .inl p4, a, fun q hq e => .inl (p5 q hq e)⟩
  · refine ⟨w1, w2, .inr ⟨h1, .inr ⟨h2, w3⟩⟩, fun q hq e => ?_, .inr h2, o.Addr, fun q hq e => ?_⟩
    · rcases (o3 q).1 hq with ⟨h | h, _⟩
      · exact h
      · exact absurd ⟨q, h, e⟩ h1
    · by_cases hqo : q.Addr = o.Addr
      · refine .inr ⟨hqo, fun z hz => ?_, fun z hz => by rw [hqo]; exact ((o3 z).1 hz).2⟩
        have hqe : q = o := by
          rcases o1 with h | h
          · rw [h, hy] at hqo; exact absurd hqo e
          · exact uq hv hb hq h hqo
        rw [hqe]
        exact o2 z ((o3 z).1 hz).1
      · exact .inl ((o3 q).2 ⟨.inr hq, hqo⟩)
/-- Learning again changes nothing. -/
theorem again_same {x z : TCandidates} {a : A6u8} {y : TCandidate} (hv : Vt x) (hb : Abs x) (hy : y.Addr = a) (hx : ∀ q ∈ x.List, q.Addr = a → q = y) (hin : y ∈ x.List) (h : Res x z a y) : z = x := by
  have hHas : Has x a := ⟨y, hin, hy⟩
  rcases h with ⟨_, ⟨w1, w2, w3⟩, _⟩ | ⟨h, _⟩ | ⟨h, _⟩
  · obtain ⟨zl⟩ := z
    obtain ⟨xl⟩ := x
    congr 1
    refine srtk_ext (fun q : TCandidate => nA q.Addr) (Vl_of w1 w2).2.1 (Vl_of hv hb).2.1 fun q => ?_
    rw [w3]
    constructor
    · rintro (h | ⟨h, _⟩)
      · rw [h]; exact hin
      · exact h
    · intro h
      by_cases e : q.Addr = a
      · exact .inl (hx q h e)
      · exact .inr ⟨h, by rw [hy]; exact e⟩
  · exact absurd hHas h
  · exact absurd hHas h
end Go.Proofs.Ytpnhehcncljhpaa
