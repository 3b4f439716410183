/-
  Sets: the plain laws.
-/
import Derived.Test.YtiameicjjlfimaaX
namespace Go.Proofs.Ytiameicjjlfimaa
open Go.Am
set_option linter.unusedVariables false
set_option linter.unusedSimpArgs false
def NL (L : List Ad) : List Int := L.map nA
def Srt (l : List Int) : Prop := l.Pairwise (· < ·)
theorem kp50 (x y : Bool) : kpF 50 x y = true := rfl
theorem kp51 (x y : Bool) : kpF 51 x y = (x && y) := rfl
theorem kp48 (x y : Bool) : kpF 48 x y = (x && !y) := rfl
theorem NL_nil : NL [] = [] := rfl
theorem NL_cons (a : Ad) (L : List Ad) : NL (a :: L) = nA a :: NL L := rfl
theorem NL_app (L M : List Ad) : NL (L ++ M) = NL L ++ NL M := by simp [NL]
theorem NL_opt (b : Bool) (a : Ad) (x : Int) : x ∈ NL (bif b then [a] else []) ↔ b = true ∧ x = nA a := by
  cases b <;> simp [NL]
theorem srt_cons {a : Int} {l : List Int} : Srt (a :: l) ↔ (∀ x ∈ l, a < x) ∧ Srt l := List.pairwise_cons
theorem srt_ext : ∀ (l m : List Int), Srt l → Srt m → (∀ x, x ∈ l ↔ x ∈ m) → l = m
  | [], [], _, _, _ => rfl
  | [], b :: m, _, _, h => by have := (h b).mpr List.mem_cons_self; simp at this
  | a :: l, [], _, _, h => by have := (h a).mp List.mem_cons_self; simp at this
  | a :: l, b :: m, hl, hm, h => by
    obtain ⟨hl1, hl2⟩ := srt_cons.mp hl
    obtain ⟨hm1, hm2⟩ := srt_cons.mp hm
    have hab : a = b := by
      have h1 := List.mem_cons.mp ((h a).mp List.mem_cons_self)
      have h2 := List.mem_cons.mp ((h b).mpr List.mem_cons_self)
      rcases h1 with h1 | h1
      · exact h1
      · rcases h2 with h2 | h2
        · exact h2.symm
        · have := hm1 _ h1; have := hl1 _ h2; omega
    subst hab
    congr 1
    refine srt_ext l m hl2 hm2 fun x => ⟨fun hx => ?_, fun hx => ?_⟩
    · have h1 := List.mem_cons.mp ((h x).mp (List.mem_cons_of_mem _ hx))
      rcases h1 with h1 | h1
      · have := hl1 _ hx; omega
      · exact h1
    · have h1 := List.mem_cons.mp ((h x).mpr (List.mem_cons_of_mem _ hx))
      rcases h1 with h1 | h1
      · have := hm1 _ hx; omega
      · exact h1
theorem mg_ind {motive : List Ad → List Ad → Prop} (case1 : motive [] []) (case2 : ∀ a S, motive S [] → motive (a :: S) []) (case3 : ∀ b K, motive [] K → motive [] (b :: K))
    (case4 : ∀ a S b K, motive S (b :: K) → motive (a :: S) K → motive S K → motive (a :: S) (b :: K)) (S K : List Ad) : motive S K := by
  have key : ∀ n, ∀ S K : List Ad, S.length + K.length = n → motive S K := by
    intro n
    induction n using Nat.strongRecOn with
    | ind n ih =>
      intro S K hn
      rcases S with _ | ⟨a, S⟩ <;> rcases K with _ | ⟨b, K⟩
      · exact case1
      · exact case3 b K (ih _ (by simp at hn ⊢; omega) _ _ rfl)
      · exact case2 a S (ih _ (by simp at hn ⊢; omega) _ _ rfl)
      · exact case4 a S b K (ih _ (by simp at hn ⊢; omega) _ _ rfl) (ih _ (by simp at hn ⊢; omega) _ _ rfl) (ih _ (by simp at hn ⊢; omega) _ _ rfl)
  exact key _ S K rfl
theorem mg_sub (kp : Bool → Bool → Bool) (S K : List Ad) : ∀ a ∈ mgA kp S K, a ∈ S ∨ a ∈ K := by
  induction S, K using mg_ind with
  | case1 => intro a h; simp [mgA] at h
  | case2 a S ih =>
    intro x h
    rw [mgA, List.mem_append] at h
    rcases h with h | h
    · cases hk : kp true false <;> simp [hk] at h; exact .inl (by simp [h])
    · rcases ih x h with h | h
      · exact .inl (List.mem_cons_of_mem _ h)
      · exact .inr h
  | case3 b K ih =>
    intro x h
    rw [mgA, List.mem_append] at h
    rcases h with h | h
    · cases hk : kp false true <;> simp [hk] at h; exact .inr (by simp [h])
    · rcases ih x h with h | h
      · exact .inl h
      · exact .inr (List.mem_cons_of_mem _ h)
  | case4 a S b K ih1 ih2 ih3 =>
    intro x h
    rw [mgA] at h
    cases h1 : decide (nA a < nA b) with
    | true =>
      rw [h1, cond_true, List.mem_append] at h
      rcases h with h | h
      · cases hk : kp true false <;> simp [hk] at h; exact .inl (by simp [h])
      · rcases ih1 x h with h | h
        · exact .inl (List.mem_cons_of_mem _ h)
        · exact .inr h
    | false =>
      rw [h1, cond_false] at h
      cases h2 : decide (nA b < nA a) with
      | true =>
        rw [h2, cond_true, List.mem_append] at h
        rcases h with h | h
        · cases hk : kp false true <;> simp [hk] at h; exact .inr (by simp [h])
        · rcases ih2 x h with h | h
          · exact .inl h
          · exact .inr (List.mem_cons_of_mem _ h)
      | false =>
        rw [h2, cond_false, List.mem_append] at h
        rcases h with h | h
        · cases hk : kp true true <;> simp [hk] at h; exact .inr (by simp [h])
        · rcases ih3 x h with h | h
          · exact .inl (List.mem_cons_of_mem _ h)
          · exact .inr (List.mem_cons_of_mem _ h)
theorem mg_by {kp : Bool → Bool → Bool} {S K : List Ad} (h1 : ∀ a ∈ S, byA a) (h2 : ∀ a ∈ K, byA a) : ∀ a ∈ mgA kp S K, byA a := fun a h => (mg_sub kp S K a h).elim (h1 a) (h2 a)
theorem mg_subN (kp : Bool → Bool → Bool) (S K : List Ad) (x : Int) (h : x ∈ NL (mgA kp S K)) : x ∈ NL S ∨ x ∈ NL K := by
  simp only [NL, List.mem_map] at h ⊢
  obtain ⟨a, ha, rfl⟩ := h
  exact (mg_sub kp S K a ha).imp (fun h => ⟨a, h, rfl⟩) (fun h => ⟨a, h, rfl⟩)
theorem srt_opt {b : Bool} {a : Ad} {L : List Ad} (h : Srt (NL L)) (hl : ∀ x ∈ NL L, nA a < x) : Srt (NL ((bif b then [a] else []) ++ L)) := by
  cases b with
  | false => exact h
  | true => exact srt_cons.mpr ⟨hl, h⟩
theorem mg_srt (kp : Bool → Bool → Bool) (S K : List Ad) (hS : Srt (NL S)) (hK : Srt (NL K)) : Srt (NL (mgA kp S K)) := by
  induction S, K using mg_ind with
  | case1 => rw [mgA]; exact List.Pairwise.nil
  | case2 a S ih =>
    rw [NL_cons, srt_cons] at hS
    rw [mgA]
    refine srt_opt (ih hS.2 hK) fun x hx => ?_
    rcases mg_subN _ _ _ x hx with h | h
    · exact hS.1 x h
    · simp [NL] at h
  | case3 b K ih =>
    rw [NL_cons, srt_cons] at hK
    rw [mgA]
    refine srt_opt (ih hS hK.2) fun x hx => ?_
    rcases mg_subN _ _ _ x hx with h | h
    · simp [NL] at h
    · exact hK.1 x h
  | case4 a S b K ih1 ih2 ih3 =>
    have hS' := hS
    have hK' := hK
    rw [NL_cons, srt_cons] at hS hK
    rw [mgA]
    cases h1 : decide (nA a < nA b) with
    | true =>
      rw [decide_eq_true_eq] at h1
      rw [cond_true]
      refine srt_opt (ih1 hS.2 hK') fun x hx => ?_
      rcases mg_subN _ _ _ x hx with h | h
      · exact hS.1 x h
      · rw [NL_cons, List.mem_cons] at h
        rcases h with h | h
        · omega
        · have := hK.1 x h; omega
    | false =>
      rw [decide_eq_false_iff_not] at h1
      rw [cond_false]
      cases h2 : decide (nA b < nA a) with
      | true =>
        rw [decide_eq_true_eq] at h2
        rw [cond_true]
        refine srt_opt (ih2 hS' hK.2) fun x hx => ?_
        rcases mg_subN _ _ _ x hx with h | h
        · rw [NL_cons, List.mem_cons] at h
          rcases h with h | h
          · omega
          · have := hS.1 x h; omega
        · exact hK.1 x h
      | false =>
        rw [decide_eq_false_iff_not] at h2
        rw [cond_false]
        refine srt_opt (ih3 hS.2 hK.2) fun x hx => ?_
        rcases mg_subN _ _ _ x hx with h | h
        · have := hS.1 x h; omega
        · exact hK.1 x h
def mgP (kp : Bool → Bool → Bool) (p q : Prop) : Prop := (p ∧ ¬ q ∧ kp true false = true) ∨ (¬ p ∧ q ∧ kp false true = true) ∨ (p ∧ q ∧ kp true true = true)
theorem mg_mem (kp : Bool → Bool → Bool) (S K : List Ad) (hS : Srt (NL S)) (hK : Srt (NL K)) (x : Int) : x ∈ NL (mgA kp S K) ↔ mgP kp (x ∈ NL S) (x ∈ NL K) := by
  induction S, K using mg_ind with
  | case1 => rw [mgA]; simp [NL, mgP]
  | case2 a S ih =>
    rw [NL_cons, srt_cons] at hS
    rw [mgA, NL_app, List.mem_append, NL_opt, ih hS.2 hK, NL_cons, List.mem_cons]
    have h1 : x = nA a → ¬ x ∈ NL S := fun e h => by have := hS.1 x h; omega
    have h2 : ¬ x ∈ NL [] := by simp [NL]
    unfold mgP
    by_cases e : x = nA a
    · subst e; have q := h1 rfl; simp [q, h2]
    · simp [e]
  | case3 b K ih =>
    rw [NL_cons, srt_cons] at hK
    rw [mgA, NL_app, List.mem_append, NL_opt, ih hS hK.2, NL_cons, List.mem_cons]
    have h1 : x = nA b → ¬ x ∈ NL K := fun e h => by have := hK.1 x h; omega
    have h2 : ¬ x ∈ NL [] := by simp [NL]
    unfold mgP
    by_cases e : x = nA b
    · subst e; have q := h1 rfl; have h2 : ¬ nA b ∈ NL [] := by simp [NL]
      simp [q, h2]
    · simp [e]
  | case4 a S b K ih1 ih2 ih3 =>
    have hS' := hS
    have hK' := hK
    rw [NL_cons, srt_cons] at hS hK
    have ha : x = nA a → ¬ x ∈ NL S := fun e h => by have := hS.1 x h; omega
    have hb : x = nA b → ¬ x ∈ NL K := fun e h => by have := hK.1 x h; omega
    rw [mgA]
    cases h1 : decide (nA a < nA b) with
    | true =>
      rw [decide_eq_true_eq] at h1
      rw [cond_true, NL_app, List.mem_append, NL_opt, ih1 hS.2 hK', NL_cons a S, List.mem_cons]
      have hab : x = nA a → ¬ x ∈ NL (b :: K) := fun e h => by
        rw [NL_cons, List.mem_cons] at h
        rcases h with h | h
        · omega
        · have := hK.1 x h; omega
      unfold mgP
      by_cases e : x = nA a
      · subst e; have q1 := ha rfl; have q2 := hab rfl
        simp [q1, q2]
      · simp [e]
    | false =>
      rw [decide_eq_false_iff_not] at h1
      rw [cond_false]
      cases h2 : decide (nA b < nA a) with
      | true =>
        rw [decide_eq_true_eq] at h2
        rw [cond_true, NL_app, List.mem_append, NL_opt, ih2 hS' hK.2, NL_cons b K, List.mem_cons]
        have hab : x = nA b → ¬ x ∈ NL (a :: S) := fun e h => by
          rw [NL_cons, List.mem_cons] at h
          rcases h with h | h
          · omega
          · have := hS.1 x h; omega
        unfold mgP
        by_cases e : x = nA b
        · subst e; have q1 := hb rfl; have q2 := hab rfl
          simp [q1, q2]
        · simp [e]
      | false =>
        rw [decide_eq_false_iff_not] at h2
        have hab : nA a = nA b := by omega
        rw [cond_false, NL_app, List.mem_append, NL_opt, ih3 hS.2 hK.2, NL_cons, NL_cons, List.mem_cons, List.mem_cons, hab]
        unfold mgP
        by_cases e : x = nA b
        · subst e; have q1 := hb rfl; have q2 := ha hab.symm
          simp [q1, q2]
        · simp [e]
theorem mg_len (kp : Bool → Bool → Bool) (S K : List Ad) : (mgA kp S K).length ≤ S.length + K.length := by
  have l1 : ∀ (b : Bool) (x : Ad), (bif b then [x] else []).length ≤ 1 := fun b x => by cases b <;> simp
  induction S, K using mg_ind with
  | case1 => rw [mgA]; simp
  | case2 a S ih => rw [mgA, List.length_append]; have := l1 (kp true false) a; simp only [List.length_cons] at *; omega
  | case3 b K ih => rw [mgA, List.length_append]; have := l1 (kp false true) b; simp only [List.length_cons] at *; omega
  | case4 a S b K ih1 ih2 ih3 =>
    rw [mgA]
    have q1 := l1 (kp true false) a
    have q2 := l1 (kp false true) b
    have q3 := l1 (kp true true) b
    cases decide (nA a < nA b) <;> cases decide (nA b < nA a) <;> simp only [cond_true, cond_false, List.length_append, List.length_cons] at * <;> omega
theorem mg_sum (S K : List Ad) : (mgA (kpF 50) S K).length + (mgA (kpF 51) S K).length = S.length + K.length := by
  induction S, K using mg_ind with
  | case1 => rw [mgA, mgA]
  | case2 a S ih => rw [mgA, mgA, kp50, kp51]; simp only [cond_true, cond_false, Bool.and_false, Bool.and_self, List.length_append, List.length_cons, List.length_nil] at *; omega
  | case3 b K ih => rw [mgA, mgA, kp50, kp51]; simp only [cond_true, cond_false, Bool.false_and, Bool.and_self, List.length_append, List.length_cons, List.length_nil] at *; omega
  | case4 a S b K ih1 ih2 ih3 =>
    rw [mgA, mgA]
    cases decide (nA a < nA b) <;> cases decide (nA b < nA a) <;> simp only [kp50, kp51, cond_true, cond_false, Bool.and_false, Bool.false_and, Bool.and_self, List.length_append, List.length_cons, List.length_nil] at * <;> omega
theorem lst_self (A : List Ad) : lst (adC (lf A)) A.length = A := by
  unfold lst
  apply List.ext_getElem
  · simp
  · intro i h1 h2
    simp only [List.getElem_map, List.getElem_range, adF_lf]
    unfold lf
    rw [List.getD_eq_getElem?_getD, List.getElem?_eq_getElem h2]; rfl
theorem set_srt {c : Nat → Nat → AV} {n : Nat} (h : setB c n = true) : Srt (NL (lst c n)) ∧ n ≤ 256 := by
  unfold setB at h
  rw [Bool.and_eq_true, decide_eq_true_eq, decide_eq_true_eq] at h
  refine ⟨?_, h.2⟩
  have mono : ∀ j, j < n → ∀ i, i < j → fN (adF c) i < fN (adF c) j := by
    intro j
    induction j with
    | zero => intro _ i hi; omega
    | succ j ih =>
      intro hj i hi
      have h1 := h.1 (j + 1) hj (by omega)
      rw [Nat.add_sub_cancel] at h1
      rcases Nat.lt_or_ge i j with hij | hij
      · have := ih (by omega) i hij; omega
      · obtain rfl : i = j := by omega
        exact h1
  unfold Srt NL lst
  rw [List.pairwise_map, List.pairwise_map, List.pairwise_iff_getElem]
  intro i j hi hj hij
  simp only [List.getElem_range]
  exact mono j (by simpa using hj) i hij
theorem srt_set {A : List Ad} (h : Srt (NL A)) (hl : A.length ≤ 256) : setB (adC (lf A)) A.length = true := by
  rw [setB_yes, decide_eq_true_eq]
  · exact hl
  · intro i hi h0
    have e : ∀ j, (hj : j < A.length) → fN (lf A) j = nA A[j] := fun j hj => by
      rw [fN_eq]; congr 1; unfold lf; rw [List.getD_eq_getElem?_getD, List.getElem?_eq_getElem hj]; rfl
    rw [adF_lf, e i hi, e (i - 1) (by omega)]
    unfold Srt NL at h
    rw [List.pairwise_map, List.pairwise_iff_getElem] at h
    exact h (i - 1) i (by omega) hi (by omega)
theorem same_NL {A B : List Ad} (h : NL A = NL B) : sameB (adC (lf A)) A.length (adC (lf B)) B.length = true := by
  have hl : A.length = B.length := by
    have := congrArg List.length h
    simpa [NL] using this
  refine decide_eq_true_eq.mpr ⟨hl, fun i hi => ?_⟩
  have e : ∀ (C : List Ad) (j : Nat) (hj : j < C.length), fN (lf C) j = nA C[j] := fun C j hj => by
    rw [fN_eq]; congr 1; unfold lf; rw [List.getD_eq_getElem?_getD, List.getElem?_eq_getElem hj]; rfl
  rw [adF_lf, adF_lf, e A i hi, e B i (by omega)]
  have h2 := congrArg (·[i]?) h
  simp only [NL, List.getElem?_map, List.getElem?_eq_getElem hi, List.getElem?_eq_getElem (show i < B.length by omega), Option.map_some, Option.some.injEq] at h2
  exact h2
theorem same_lst {A : List Ad} {c : Nat → Nat → AV} {n : Nat} (h : NL A = NL (lst c n)) : sameB (adC (lf A)) A.length c n = true := by
  have h1 := same_NL h
  unfold sameB at h1 ⊢
  rw [decide_eq_true_eq] at h1 ⊢
  rw [lst_len] at h1
  refine ⟨h1.1, fun i hi => ?_⟩
  rw [h1.2 i hi, adF_lf]
  simp only [fN, lst_lf (show i < n by omega)]
theorem mres_ok {kp : Bool → Bool → Bool} {c d : Nat → Nat → AV} {n m : Nat} (h1 : setB c n = true) (h2 : setB d m = true) (hl : (mgA kp (lst c n) (lst d m)).length ≤ 256) : mres kp c n d m = (mgA kp (lst c n) (lst d m), 0) := by
  rw [mres, h1, h2, decide_eq_false_iff_not.mpr (by omega)]; rfl
end Go.Proofs.Ytiameicjjlfimaa
