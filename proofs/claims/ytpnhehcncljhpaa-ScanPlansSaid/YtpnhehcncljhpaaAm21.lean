/-
  The abstract machine, part 21: the rule for regions that draw their order.
-/
import Derived.Test.YtpnhehcncljhpaaAm20
namespace Go.Am
set_option linter.unusedVariables false
variable {P : Program} {E : Env} {h : List ABlk}

def StepT (P : Program) (sh : TypeId → Option (List Leaf)) (ct : Ct) (L : Nat) (all : List Oper) (o : Oper) (t : List AV) (h : List ABlk) (s : Nat) (t' : List AV) (h' : List ABlk) (s' : Nat) (rs tg : List Nat) : Prop :=
  (tg = [] ∧ h' = h ∧ s' = s ∧ gval t all o.guard = .g false ∧ ∃ x, t' = setT t o.dst (.opt false x)) ∨
  (tg = [] ∧ h' = h ∧ s' = s ∧ rs = refsOp t o.op ∧ ∃ ob v wv, (gval t all o.guard = .none ∧ wv = v ∨ gval t all o.guard = .g true ∧ wv = .opt true v) ∧ evO P sh ct t (mask rs h) o.op = .pure ob v ∧ ob ∧ ogOp t o.op ∧ t' = setT t o.dst wv) ∨
  (rs = refsOp t o.op ∧ ∃ ob v hh wv, (gval t all o.guard = .none ∧ wv = ren L s v ∨ gval t all o.guard = .g true ∧ wv = .opt true (ren L s v)) ∧ evO P sh ct t (mask rs h) o.op = .heap ob v hh ∧ ob ∧ ogOp t o.op ∧
    (L < hh.length → nrH L hh) ∧ tg = rs ++ slotsF s (hh.length - L) ∧ h' = place rs s hh h ∧ s' = s + (hh.length - L) ∧ t' = setT t o.dst wv)
theorem okLog_mem {an : List (List Nat)} {i : Nat} {rs ts : List Nat} {log : List LogE} (hk : okLog an i rs ts log = true) : ∀ e ∈ log, pairOk an i rs ts e = true := by
  induction log with
  | nil => intro e he; cases he
  | cons a l ih =>
    simp only [okLog, Bool.and_eq_true] at hk
    intro e he
    cases he with
    | head => exact hk.1
    | tail _ he => exact ih hk.2 e he
theorem okLog_nil {an : List (List Nat)} {i : Nat} {log : List LogE} (e : LogE) : True := trivial

theorem geth_getD (g : List ABlk) (b : Nat) : geth g b = (g[b]?).getD .dead := by
  induction g generalizing b with
  | nil => simp [geth]
  | cons a l ih => cases b with
    | zero => simp [geth]
    | succ b => simp only [geth, List.getElem?_cons_succ]; exact ih b
def TraceAt (P : Program) (sh : TypeId → Option (List Leaf)) (ct : Ct) (an : List (List Nat)) (L : Nat) (all : List Oper) (K : Kt) (l : List Oper) (i : Nat) (log : List LogE) (s : Nat) (t : List AV) (h : List ABlk) : Prop :=
    ∃ (tt : Nat → List AV) (hh : Nat → List ABlk) (ss : Nat → Nat) (rs tg : Nat → List Nat), tt i = t ∧ hh i = h ∧ ss i = s ∧
      (∀ (j : Nat) (o : Oper), l[j]? = some o → StepT P sh ct L all o (tt (i + j)) (hh (i + j)) (ss (i + j)) (tt (i + j + 1)) (hh (i + j + 1)) (ss (i + j + 1)) (rs (i + j)) (tg (i + j))) ∧
      (∀ j, j < l.length → ∀ e ∈ log, tg (i + j) = [] ∧ rs (i + j) = [] ∨ pairOk an (i + j) (rs (i + j)) (tg (i + j)) e = true) ∧
      (∀ j1 j2, j1 < j2 → j2 < l.length → tg (i + j2) = [] ∧ rs (i + j2) = [] ∨ pairOk an (i + j2) (rs (i + j2)) (tg (i + j2)) (i + j1, rs (i + j1), tg (i + j1)) = true) ∧
      ss (i + l.length) ≤ L ∧ K .normal (tt (i + l.length)) (hh (i + l.length))
theorem wpD_trace {sh : TypeId → Option (List Leaf)} {ct : Ct} {an : List (List Nat)} {L : Nat} {all : List Oper} {K : Kt} (l : List Oper) :
    ∀ (i : Nat) (log : List LogE) (s : Nat) (t : List AV) (h : List ABlk), wpD P sh ct an L all K l i log s t h → TraceAt P sh ct an L all K l i log s t h := by
  induction l with
  | nil =>
    intro i log s t h hw
    exact ⟨fun _ => t, fun _ => h, fun _ => s, fun _ => [], fun _ => [], rfl, rfl, rfl, fun j o hj => by simp at hj, fun j hj => by simp at hj, fun j1 j2 _ hj => by simp at hj, hw.1, hw.2⟩
  | cons o l ih =>
    intro i log s t h hw
    have go : ∀ (t' : List AV) (h' : List ABlk) (s' : Nat) (rs0 tg0 : List Nat), StepT P sh ct L all o t h s t' h' s' rs0 tg0 → (tg0 = [] ∧ rs0 = [] ∨ okLog an i rs0 tg0 log = true) → wpD P sh ct an L all K l (i + 1) ((i, rs0, tg0) :: log) s' t' h' → TraceAt P sh ct an L all K (o :: l) i log s t h := by
      intro t' h' s' rs0 tg0 hst hlog hw'
      obtain ⟨tt, hh, ss, rs, tg, e1, e2, e3, g1, g2, g3, g4, g5⟩ := ih (i + 1) _ s' t' h' hw'
      refine ⟨fun j => if j = i then t else tt j, fun j => if j = i then h else hh j, fun j => if j = i then s else ss j, fun j => if j = i then rs0 else rs j, fun j => if j = i then tg0 else tg j, by simp, by simp, by simp, fun j o' hj => ?_, fun j hj e he => ?_, fun j1 j2 h12 hj => ?_, ?_, ?_⟩
      · cases j with
        | zero =>
          simp only [List.getElem?_cons_zero, Option.some.injEq] at hj
          subst hj
          simp only [Nat.add_zero, if_true, show ¬ (i + 1 = i) from by omega, if_false, e1, e2, e3]
          exact hst
        | succ j =>
          have := g1 j o' (by simpa using hj)
          simp only [show ¬ (i + (j + 1) = i) from by omega, show ¬ (i + (j + 1) + 1 = i) from by omega, if_false]
          rw [show i + (j + 1) = i + 1 + j from by omega]
          exact this
      · cases j with
        | zero =>
          simp only [Nat.add_zero, if_true]
          rcases hlog with hl | hl
          · exact .inl hl
          · exact .inr (okLog_mem hl e he)
        | succ j =>
          simp only [show ¬ (i + (j + 1) = i) from by omega, if_false]
          rw [show i + (j + 1) = i + 1 + j from by omega]
          exact g2 j (by simpa using hj) e (List.mem_cons_of_mem _ he)
      · cases j2 with
        | zero => omega
        | succ j2 =>
          simp only [show ¬ (i + (j2 + 1) = i) from by omega, if_false]
          rw [show i + (j2 + 1) = i + 1 + j2 from by omega]
          cases j1 with
          | zero =>
            simp only [Nat.add_zero, if_true]
            exact g2 j2 (by simpa using hj) _ (List.mem_cons_self ..)
          | succ j1 =>
            simp only [show ¬ (i + (j1 + 1) = i) from by omega, if_false]
            rw [show i + (j1 + 1) = i + 1 + j1 from by omega]
            exact g3 j1 j2 (by omega) (by simpa using hj)
      · simp only [List.length_cons, show ¬ (i + (l.length + 1) = i) from by omega, if_false]
        rw [show i + (l.length + 1) = i + 1 + l.length from by omega]; exact g4
      · simp only [List.length_cons, show ¬ (i + (l.length + 1) = i) from by omega, if_false]
        rw [show i + (l.length + 1) = i + 1 + l.length from by omega]; exact g5
    simp only [wpD] at hw
    unfold nxtD at hw
    split at hw
    · rename_i hg
      split at hw
      · rename_i ob v hr
        obtain ⟨q1, q2, q3, q4⟩ := hw
        exact go _ _ _ _ _ (.inr (.inl ⟨rfl, rfl, rfl, rfl, ob, v, v, .inl ⟨hg, rfl⟩, hr, q2, q1, rfl⟩)) (.inr q3) q4
      · rename_i ob v h' hr
        obtain ⟨q1, q2, q3, q4, q5⟩ := hw
        exact go _ _ _ _ _ (.inr (.inr ⟨rfl, ob, v, h', _, .inl ⟨hg, rfl⟩, hr, q2, q1, q4, rfl, rfl, rfl, rfl⟩)) (.inr q3) q5
      · exact hw.elim
    · rename_i b hg
      split at hw
      · rename_i ob v hr
        obtain ⟨q1, q3, q4⟩ := hw
        cases b with
        | true => exact go _ _ _ _ _ (.inr (.inl ⟨rfl, rfl, rfl, rfl, ob, v, _, .inr ⟨hg, rfl⟩, hr, (q1 rfl).2, (q1 rfl).1, rfl⟩)) (.inr q3) q4
        | false => exact go _ _ _ _ _ (.inl ⟨rfl, rfl, rfl, hg, v, rfl⟩) (.inr q3) q4
      · rename_i ob v h' hr
        obtain ⟨q1, q2⟩ := hw
        cases b with
        | true =>
          obtain ⟨r1, r2, r3, r4, r5⟩ := q1 rfl
          exact go _ _ _ _ _ (.inr (.inr ⟨rfl, ob, v, h', _, .inr ⟨hg, rfl⟩, hr, r2, r1, r4, rfl, rfl, rfl, rfl⟩)) (.inr r3) r5
        | false => exact go _ _ _ _ _ (.inl ⟨rfl, rfl, rfl, hg, .top, rfl⟩) (.inl ⟨rfl, rfl⟩) (q2 rfl)
      · obtain ⟨rfl, q3⟩ := hw
        exact go _ _ _ _ _ (.inl ⟨rfl, rfl, rfl, hg, .top, rfl⟩) (.inl ⟨rfl, rfl⟩) q3
    · exact hw.elim

/-! ### The last writer -/
def lastW (p : Nat → Bool) : Nat → Option Nat
  | 0 => none
  | n + 1 => bif p n then some n else lastW p n
def valW {α : Type} (f : Nat → α) (z : α) : Option Nat → α
  | none => z
  | some j => f j
theorem lastW_congr {p q : Nat → Bool} : ∀ n, (∀ j, j < n → p j = q j) → lastW p n = lastW q n
  | 0, _ => rfl
  | n + 1, h => by simp only [lastW, h n (by omega), lastW_congr n fun j hj => h j (by omega)]
theorem lastW_cut {p q : Nat → Bool} {i : Nat} (h1 : ∀ j, j < i → p j = q j) : ∀ m, i ≤ m → (∀ j, i ≤ j → j < m → p j = false) → lastW p m = lastW q i
  | 0, hm, _ => by have : i = 0 := by omega
                   subst this; rfl
  | m + 1, hm, h2 => by
    by_cases hi : i = m + 1
    · subst hi; exact lastW_congr _ h1
    · simp only [lastW, h2 m (by omega) (by omega), cond_false]
      exact lastW_cut h1 m (by omega) fun j a b => h2 j a (by omega)
theorem lastW_here {p : Nat → Bool} {i : Nat} (hp : p i = true) : ∀ m, i < m → (∀ j, i < j → j < m → p j = false) → lastW p m = some i
  | 0, hm, _ => by omega
  | m + 1, hm, h2 => by
    by_cases hi : i = m
    · subst hi; simp only [lastW, hp, cond_true]
    · simp only [lastW, h2 m (by omega) (by omega), cond_false]
      exact lastW_here hp m (by omega) fun j a b => h2 j a (by omega)
theorem getL_setT {t : List AV} {d : Option Nat} {v : AV} {i : Nat} : getL (setT t d v) i = if d = some i ∧ i < t.length then v else getL t i := by
  cases d with
  | none => simp [setT]
  | some d =>
    simp only [setT, Option.some.injEq]
    by_cases hi : i < t.length
    · have h1 := setL_get t d v i
      by_cases hd : i = d
      · subst hd
        rw [if_pos ⟨rfl, hi⟩] at h1 ⊢
        exact getL_eq h1
      · rw [if_neg (by rintro ⟨a, _⟩; exact hd a)] at h1
        rw [if_neg (by rintro ⟨a, _⟩; exact hd a.symm)]
        rw [getL_some hi] at h1
        exact getL_eq h1
    · rw [if_neg (by rintro ⟨_, a⟩; exact hi a), getL_none (by rw [setL_length]; omega), getL_none (by omega)]
theorem setT_length (t : List AV) (d : Option Nat) (v : AV) : (setT t d v).length = t.length := by
  cases d with
  | none => rfl
  | some d => exact setL_length ..
theorem StepT.facts {sh : TypeId → Option (List Leaf)} {ct : Ct} {L : Nat} {all : List Oper} {o : Oper} {t t' : List AV} {h h' : List ABlk} {s s' : Nat} {rs tg : List Nat} (st : StepT P sh ct L all o t h s t' h' s' rs tg) :
    (∃ x, t' = setT t o.dst x) ∧ h'.length = h.length ∧ s ≤ s' ∧ ∀ b, inL b tg = false → h.length = L → geth h' b = geth h b := by
  have gl : ∀ {h h' : List ABlk} {b : Nat}, h'[b]? = h[b]? → geth h' b = geth h b := by
    intro h h' b hb
    rw [geth_getD, geth_getD, hb]
  rcases st with ⟨rfl, rfl, rfl, _, x, rfl⟩ | ⟨rfl, rfl, rfl, _, ob, v, wv, _, _, _, _, rfl⟩ | ⟨_, ob, v, hh, wv, _, _, _, _, _, rfl, rfl, rfl, rfl⟩
  · exact ⟨⟨_, rfl⟩, rfl, Nat.le_refl _, fun _ _ _ => rfl⟩
  · exact ⟨⟨_, rfl⟩, rfl, Nat.le_refl _, fun _ _ _ => rfl⟩
  · refine ⟨⟨_, rfl⟩, place_length .., Nat.le_add_right _ _, fun b hb hL => gl ?_⟩
    have inapp : ∀ (l m : List Nat), inL b (l ++ m) = (inL b l || inL b m) := by
      intro l m
      induction l with
      | nil => rfl
      | cons a l ih => simp [inL, ih, Bool.or_assoc]
    have insl : ∀ k s, inL b (slotsF s k) = (decide (s ≤ b) && decide (b < s + k)) := by
      intro k
      induction k with
      | zero => intro s; simp [slotsF, inL]
      | succ k ih =>
        intro s
        simp only [slotsF, inL, ih]
        rw [Bool.eq_iff_iff]
        simp only [Bool.or_eq_true, Bool.and_eq_true, beq_iff_eq, decide_eq_true_eq]
        omega
    rw [inapp, insl, Bool.or_eq_false_iff] at hb
    rw [place_get]
    rw [hL, hb.2, hb.1]
    simp
end Go.Am
