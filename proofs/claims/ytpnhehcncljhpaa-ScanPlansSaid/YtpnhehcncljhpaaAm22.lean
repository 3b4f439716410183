/-
  The abstract machine, part 22: the rule for regions that draw their order, its proof.
-/
import Derived.Test.YtpnhehcncljhpaaAm21
namespace Go.Am
set_option linter.unusedVariables false
variable {P : Program} {E : Env} {h : List ABlk}

theorem dead_HR (H : HR E h) (k : Nat) : HR E (h ++ List.replicate k .dead) ∧ Ext E h E (h ++ List.replicate k .dead) := by
  have hget : ∀ {i : Nat} {y : ABlk}, (h ++ List.replicate k .dead)[i]? = some y → y ≠ .dead → h[i]? = some y := by
    intro i y hi hy
    rcases Nat.lt_or_ge i h.length with hl | hl
    · rwa [List.getElem?_append_left hl] at hi
    · rw [List.getElem?_append_right hl, List.getElem?_replicate] at hi
      split at hi
      · injection hi with hi; exact absurd hi.symm hy
      · cases hi
  have hown : ∀ k', Own E (h ++ List.replicate k .dead) k' → Own E h k' := by
    rintro k' ⟨b, x, o, g1, g2, g3⟩
    exact ⟨b, x, o, hget g1 g2, g2, g3⟩
  refine ⟨⟨fun b x hb => ?_, fun b b' x x' k o o' h1 h2 h3 h4 h5 h6 => H.inj b b' x x' k o o' (hget h1 h2) h2 (hget h3 h4) h4 h5 h6, fun k hk => ⟨(H.prot k hk).1, fun ho => (H.prot k hk).2 (hown k ho)⟩, fun b hb => H.fresh b (by simp at hb; omega)⟩,
    ⟨rfl, rfl, rfl, fun _ _ h => h, fun _ h => h, Nat.le_refl _, fun k cs e h => ⟨cs, h, rfl⟩, fun _ _ _ => rfl, fun k hk => .inl (hown k hk), by simp, fun _ _ => rfl, fun _ h => .inl h⟩⟩
  by_cases hd : x = .dead
  · subst hd; trivial
  · exact H.blk b x (hget hb hd)

theorem countP_lt {p q : Nat → Bool} : ∀ (l : List Nat), (∀ j ∈ l, q j = true → p j = true) → (∃ i ∈ l, p i = true ∧ q i = false) → l.countP q < l.countP p
  | [], _, h => by obtain ⟨i, hi, _⟩ := h; cases hi
  | a :: l, h1, h2 => by
    have hle : l.countP q ≤ l.countP p := List.countP_mono_left fun j hj => h1 j (List.mem_cons_of_mem _ hj)
    obtain ⟨i, hi, h3, h4⟩ := h2
    rw [List.countP_cons, List.countP_cons]
    cases hi with
    | head => rw [h3, h4]; simp; omega
    | tail _ hi =>
      have := countP_lt l (fun j hj => h1 j (List.mem_cons_of_mem _ hj)) ⟨i, hi, h3, h4⟩
      have h5 := h1 a (List.mem_cons_self ..)
      cases hq : q a <;> cases hp : p a <;> simp_all <;> omega

theorem place_mask (rs : List Nat) (s : Nat) (h : List ABlk) : place rs s (mask rs h) h = h := by
  apply List.ext_getElem?
  intro i
  rw [place_get, mask_length, Nat.sub_self, Nat.add_zero]
  cases hi : h[i]? with
  | none => rfl
  | some x =>
    simp only [Option.map_some, Option.some.injEq]
    have : (decide (s ≤ i) && decide (i < s)) = false := by
      rw [← Bool.not_eq_true, Bool.and_eq_true, decide_eq_true_eq, decide_eq_true_eq]; omega
    rw [this]
    cases hr : inL i rs with
    | false => rfl
    | true =>
      simp only [cond_true, cond_false]
      rw [geth_getD, mask_get, hi]
      simp [hr]

theorem inL_append (b : Nat) (l m : List Nat) : inL b (l ++ m) = (inL b l || inL b m) := by
  induction l with
  | nil => rfl
  | cons a l ih => simp [inL, ih, Bool.or_assoc]
theorem inL_slots (b : Nat) : ∀ k s, inL b (slotsF s k) = (decide (s ≤ b) && decide (b < s + k)) := by
  intro k
  induction k with
  | zero => intro s; simp [slotsF, inL]
  | succ k ih =>
    intro s
    simp only [slotsF, inL, ih]
    rw [Bool.eq_iff_iff]
    simp only [Bool.or_eq_true, Bool.and_eq_true, beq_iff_eq, decide_eq_true_eq]
    omega
theorem hit_of {b : Nat} {l m : List Nat} (h1 : inL b l = true) (h2 : inL b m = true) : hit l m = true := by
  induction l with
  | nil => cases h1
  | cons a l ih =>
    simp only [inL, Bool.or_eq_true, beq_iff_eq] at h1
    simp only [hit, Bool.or_eq_true]
    rcases h1 with rfl | h1
    · exact .inl h2
    · exact .inr (ih h1)
theorem inL_mem {b : Nat} {l : List Nat} : inL b l = true ↔ b ∈ l := by
  induction l with
  | nil => simp [inL]
  | cons a l ih => simp [inL, ih]

theorem hit_iff {l m : List Nat} : hit l m = true ↔ ∃ x, x ∈ l ∧ x ∈ m := by
  induction l with
  | nil => simp [hit]
  | cons a l ih => simp [hit, ih, inL_mem]
theorem hit_symm {l m : List Nat} (hm : hit l m = true) : hit m l = true := by
  rw [hit_iff] at hm ⊢
  obtain ⟨x, h1, h2⟩ := hm
  exact ⟨x, h2, h1⟩
theorem hit_nil (l : List Nat) : hit l [] = false := by
  cases hc : hit l [] with
  | false => rfl
  | true => rw [hit_iff] at hc; obtain ⟨x, _, h2⟩ := hc; cases h2
theorem getD_lt {a : Array Bool} {i : Nat} (hi : i < a.size) (x y : Bool) : a.getD i x = a.getD i y := by
  simp [Array.getD, hi]
section
variable {ops : Array Oper} {an : List (List Nat)}
structure DrawOk (ops : Array Oper) (an : List (List Nat)) : Prop where
  nosel : Region.noSelect ops = true
  anc : ∀ i o j, ops[i]? = some o → inL j (getA an i) = true → ∃ e ∈ o.after, Region.binds .any e = true ∧ e.on < i ∧ (e.on = j ∨ inL j (getA an e.on) = true)
  back : ∀ (i : Nat) o, ops[i]? = some o → ∀ e ∈ o.after, Region.binds .any e = true → e.on < i
  ord : ∀ (i j : Nat) o d, ops[i]? = some o → j ≠ i → (ops[j]?).bind (·.dst) = some d → d ∈ o.looksAt ops ∨ o.dst = some d → ordB an i j = true
theorem drawOk_of (hB : drawB ops an = true) : DrawOk ops an := by
  simp only [drawB, Bool.and_eq_true, List.all_eq_true, List.mem_range] at hB
  obtain ⟨h1, h2⟩ := hB
  have lt : ∀ {i : Nat} {o : Oper}, ops[i]? = some o → i < ops.size := fun hi => (Array.getElem?_eq_some_iff.1 hi).1
  have at' : ∀ (i : Nat) (o : Oper), ops[i]? = some o → _ := fun i o hi => by
    have := h2 i (lt hi)
    simp only [hi, Bool.and_eq_true, List.all_eq_true, List.mem_range] at this
    exact this
  refine ⟨h1, fun i o j hi hj => ?_, fun i o hi e he hb => ?_, fun i j o d hi hji hd hor => ?_⟩
  · have := (at' i o hi).1.1 j (inL_mem.1 hj)
    obtain ⟨e, he, hb⟩ := Array.any_eq_true'.1 this
    simp only [Bool.and_eq_true, decide_eq_true_eq, Bool.or_eq_true, beq_iff_eq] at hb
    exact ⟨e, he, hb.1.1, hb.1.2, hb.2⟩
  · have := Array.all_eq_true_iff_forall_mem.1 (at' i o hi).1.2 e he
    simpa [hb] using this
  · have hjl : j < ops.size := by
      rcases Nat.lt_or_ge j ops.size with h' | h'
      · exact h'
      · rw [Array.getElem?_eq_none h'] at hd; cases hd
    have := (at' i o hi).2 j hjl
    simp only [hd, Bool.or_eq_true, beq_iff_eq] at this
    rcases this with h' | h'
    · exact absurd h' hji
    · simp only [Bool.not_eq_true', Bool.or_eq_false_iff, List.contains_eq_mem, decide_eq_false_iff_not, beq_eq_false_iff_ne] at h'
      rcases h' with h' | h'
      · rcases hor with hor | hor
        · exact absurd hor h'.1
        · exact absurd hor h'.2
      · exact h'
theorem anc_closed (D : DrawOk ops an) {S : Nat → Bool} (hS : ∀ (i : Nat) o, S i = true → ops[i]? = some o → ∀ e ∈ o.after, Region.binds .any e = true → S e.on = true) :
    ∀ (i : Nat) (o : Oper) (j : Nat), ops[i]? = some o → (∀ e ∈ o.after, Region.binds .any e = true → S e.on = true) → inL j (getA an i) = true → S j = true := by
  intro i
  induction i using Nat.strongRecOn with
  | _ i ih =>
    intro o j hi hp hj
    obtain ⟨e, he, hb, hlt, hor⟩ := D.anc i o j hi hj
    rcases hor with rfl | hor
    · exact hp e he hb
    · have hle : e.on < ops.size := by have := (Array.getElem?_eq_some_iff.1 hi).1; omega
      have ho : ops[e.on]? = some ops[e.on] := Array.getElem?_eq_getElem hle
      exact ih e.on hlt _ j ho (hS _ _ (hp e he hb) ho) hor
end
end Go.Am
