/-
  Sets as lists that rise by a key: equal by their members; putting in.
-/
import Derived.Test.YtohkhcljklndpaaLS
namespace Go.Am
set_option linter.unusedVariables false
set_option linter.unusedSimpArgs false
set_option linter.unusedSectionVars false
section
variable {α : Type} [Inhabited α]
theorem srtk_ext (k : α → Int) : ∀ {l m : List α}, l.Pairwise (fun a b => k a < k b) → m.Pairwise (fun a b => k a < k b) → (∀ x, x ∈ l ↔ x ∈ m) → l = m
  | [], [], _, _, _ => rfl
  | [], b :: m, _, _, h => absurd ((h b).2 (List.mem_cons_self ..)) (by simp)
  | a :: l, [], _, _, h => absurd ((h a).1 (List.mem_cons_self ..)) (by simp)
  | a :: l, b :: m, hl, hm, h => by
    obtain ⟨l1, l2⟩ := List.pairwise_cons.1 hl
    obtain ⟨m1, m2⟩ := List.pairwise_cons.1 hm
    have p := (h a).1 (List.mem_cons_self ..)
    have q := (h b).2 (List.mem_cons_self ..)
    have e : a = b := by
      rcases List.mem_cons.1 p with p | p
      · exact p
      · rcases List.mem_cons.1 q with q | q
        · exact q.symm
        · have := m1 _ p; have := l1 _ q; omega
    subst e
    rw [srtk_ext k l2 m2 fun x => ⟨fun hx => ?_, fun hx => ?_⟩]
    · rcases List.mem_cons.1 ((h x).1 (List.mem_cons_of_mem _ hx)) with e | y
      · have := l1 _ hx; rw [e] at this; omega
      · exact y
    · rcases List.mem_cons.1 ((h x).2 (List.mem_cons_of_mem _ hx)) with e | y
      · have := m1 _ hx; rw [e] at this; omega
      · exact y
theorem wl_set (k : α → Int) (a : α) (l : List α) (hs : l.Pairwise (fun a b => k a < k b)) (hi : ∀ q ∈ l, k q = k a → q = a) :
    (wl (fun q => k q - k a) a l).Pairwise (fun a b => k a < k b) ∧ (∀ x, x ∈ wl (fun q => k q - k a) a l ↔ x = a ∨ x ∈ l) := by
  obtain ⟨A, B, e, hA, h | ⟨b, B', rfl, h1, h2⟩⟩ := srt_split k l (k a) hs
  · rw [e, wl_new _ _ A B (fun q hq => by have := hA q hq; omega) (fun q hq => by have := h q hq; omega)]
    refine ⟨pw_ins (by rw [← e]; exact hs) hA h, fun x => ?_⟩
    simp only [List.mem_append, List.mem_cons]
    constructor
    · rintro (q | q | q)
      · exact .inr (.inl q)
      · exact .inl q
      · exact .inr (.inr q)
    · rintro (q | q | q)
      · exact .inr (.inl q)
      · exact .inl q
      · exact .inr (.inr q)
  · have hb : b = a := hi b (by rw [e]; simp) h1
    subst hb
    rw [e, wl_old _ _ A B' b (fun q hq => by have := hA q hq; omega) (by omega) (fun q hq => by have := h2 q hq; omega)]
    rw [e] at hs
    refine ⟨hs, fun x => ⟨.inr, fun q => q.elim (fun e => by rw [e]; simp) id⟩⟩
end
end Go.Am
