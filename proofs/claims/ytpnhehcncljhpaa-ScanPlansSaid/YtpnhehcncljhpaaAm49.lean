/-
  The abstract machine, part 49: what a law is given, where a struct holds slices of itself.
-/
import Derived.Test.YtpnhehcncljhpaaAm48
namespace Go.Am
set_option linter.unusedVariables false
section
variable {H : Type} {enc : TypeId × Value → H} {P : Program} {w : World} {spare : Nat → Bool} {held : Bool} {fuel : Nat} {t : TypeId} {cs : List Value} {x : DataW H × List MemPlace}
theorem op_sliceB {α : Type} [Inhabited α] {f : α → List AV} {R : α → Prop} {e : TypeId} {z : Nat} (hz0 : 0 < z) (hu : P.underlying t = some (.slice e)) (hz : P.cellsOf e = z)
    (he : ∀ {n : Nat} {cs : List Value} {x : DataW H × List MemPlace}, n < fuel → DataW.trod enc P w 0 spare held n e cs = some x → ∃ a, Cells w (f a) z cs ∧ R a)
    (h : DataW.trod enc P w 0 spare held fuel t cs = some x) : ∃ l : List α, Cells w [.ro z l.length false (enR f l)] 1 cs ∧ l.length ≤ maxLen ∧ ∀ a ∈ l, R a := by
  subst hz
  rcases DataW.trod_slice hu h with ⟨rfl, _⟩ | ⟨a, len, cap, elems, rest, n, hfu, rfl, _, _, hl, hm, hlen, hi, _, _⟩
  · exact ⟨[], Cells_one rfl (.ro _ 0 false _ none 0 (Nat.le_refl _) (by decide) (fun h => by cases h) (fun _ => rfl) (fun _ _ => undef) (fun h => absurd h (by omega)) (fun x y hx => absurd hx (by omega)) (fun x y hx => absurd hx (by omega)) fun x y hx => absurd hx (by omega)) (by simp only [nref]), by simp, fun a ha => by simp at ha⟩
  · have key : ∀ i, i < len → ∃ (q : α) (cs : List Value), w.cells? 0 (a.add (i * P.cellsOf e)) (P.cellsOf e) = some cs ∧ Cells w (f q) (P.cellsOf e) cs ∧ R q := by
      intro i hil
      have h2 := hi i hil
      rw [List.getElem?_eq_getElem (by omega)] at h2
      obtain ⟨cs, hcs, ht⟩ := Option.bind_eq_some_iff.mp h2
      obtain ⟨q, c1, c2⟩ := he (by omega) ht
      exact ⟨q, cs, hcs, c1, c2⟩
    let g : Nat → α := fun i => if hh : i < len then (key i hh).choose else default
    have hg : ∀ i (hh : i < len), ∃ cs, w.cells? 0 (a.add (i * P.cellsOf e)) (P.cellsOf e) = some cs ∧ Cells w (f (g i)) (P.cellsOf e) cs ∧ R (g i) := by
      intro i hh
      have : g i = (key i hh).choose := dif_pos hh
      rw [this]
      exact (key i hh).choose_spec
    have hgd : ∀ i, i < len → gd ((List.range len).map g) i = g i := fun i hh => by simp [gd, hh]
    refine ⟨(List.range len).map g, ?_, by simp; omega, fun q hq => ?_⟩
    · refine Cells_one rfl ?_ (by simp only [nref])
      rw [List.length_map, List.length_range]
      by_cases h0 : len = 0
      · subst h0
        exact .ro _ 0 false _ (some a) cap hl hm (fun h => by cases h) (fun h => by cases h) (fun _ _ => undef) (fun h => absurd h (by omega)) (fun x y hx => absurd hx (by omega)) (fun x y hx => absurd hx (by omega)) fun x y hx => absurd hx (by omega)
      have hsp : a.spot = none := by
        obtain ⟨cs, c1, c2, _⟩ := hg 0 (by omega)
        obtain ⟨v, v1, _⟩ := c2.2 0 hz0
        have := (World.cells?_some c1).2.2 0 hz0
        rw [v1] at this
        have := World.cell?_spot this
        simpa [Addr.add] using this
      obtain ⟨b, o, sp⟩ := a
      simp only at hsp
      subst hsp
      have cell : ∀ x y, x < len → y < P.cellsOf e → ∃ v, w.cell? ⟨b, o + x * P.cellsOf e + y, none⟩ = some v ∧ v.oneCell' = true ∧ VR (top w) (getL (f (g x)) y) v ∧ nref (getL (f (g x)) y) := by
        intro x y hx hy
        obtain ⟨cs, c1, c2, _⟩ := hg x hx
        obtain ⟨v, v1, v2, v3, v4⟩ := c2.2 y hy
        have := (World.cells?_some c1).2.2 y hy
        rw [v1, Addr.add_lit, Addr.add_lit] at this
        exact ⟨v, this, v2, v3, v4⟩
      have hb : b < w.heap.size := by
        obtain ⟨cs, c1, _⟩ := hg 0 (by omega)
        have hbl := World.cells?_block c1 hz0
        unfold Addr.add at hbl; split at hbl <;> exact hbl
      refine .ro _ len false _ (some ⟨b, o, none⟩) cap hl hm (fun h => by cases h) (fun h => by cases h) (fun x y => (w.cell? ⟨b, o + x * P.cellsOf e + y, none⟩).getD undef) (fun _ => ⟨b, o, rfl, hb, fun x y hx hy => ?_⟩) (fun x y hx hy => ?_) (fun x y hx hy => ?_) (fun x y hx hy => ?_)
      · obtain ⟨v, h1, _⟩ := cell x y hx hy
        rw [show (top w).w = w from rfl, h1]; rfl
      · obtain ⟨v, h1, h2, _⟩ := cell x y hx hy
        rw [h1]; exact h2
      · obtain ⟨v, h1, _, h3, _⟩ := cell x y hx hy
        rw [h1]
        show VR (top w) (getL (f (gd _ x)) y) v
        rw [hgd x hx]; exact h3
      · obtain ⟨v, _, _, _, h4⟩ := cell x y hx hy
        show nref (getL (f (gd _ x)) y)
        rw [hgd x hx]; exact h4
    · rw [List.mem_map] at hq
      obtain ⟨i, hi', rfl⟩ := hq
      obtain ⟨cs, _, _, h3⟩ := hg i (List.mem_range.1 hi')
      exact h3
theorem Cells_top {f l : List AV} {z : Nat} (h : Cells w f z cs) (hl : ∀ y, y < z → getL l y = .top) : Cells w l z cs := by
  refine ⟨h.1, fun y hy => ?_⟩
  obtain ⟨v, h1, h2, _, _⟩ := h.2 y hy
  exact ⟨v, h1, h2, by rw [hl y hy]; exact .top _, by rw [hl y hy]; simp only [nref]⟩
end
end Go.Am
