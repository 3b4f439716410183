/-
  A machine that computes, part 13: calls whose results are known from earlier runs.
-/
import Derived.Test.YtiameicjjlfimaaCm12
namespace Go.Am
noncomputable section
set_option linter.unusedVariables false
set_option linter.unusedSimpArgs false
variable {P : Program}

/-! ### Equal values -/
mutual
def ceq : CV → CV → Bool
  | .bool a, .bool b => a == b
  | .int k x, .int k' y => (k == k') && (x == y)
  | .str a, .str b => a == b
  | .nilp, .nilp => true
  | .ro es nl r, .ro es' nl' r' => Nat.beq es es' && (nl == nl') && ceqR r r'
  | .sl b es i n nl, .sl b' es' i' n' nl' => Nat.beq b b' && Nat.beq es es' && Nat.beq i i' && Nat.beq n n' && (nl == nl')
  | .emp, .emp => true
  | .agg l, .agg m => ceqL l m
  | .tup l, .tup m => ceqL l m
  | .nilf, .nilf => true
  | _, _ => false
def ceqL : List CV → List CV → Bool
  | [], [] => true
  | a :: l, b :: m => match ceq a b with
    | true => ceqL l m
    | false => false
  | _, _ => false
def ceqR : List (List CV) → List (List CV) → Bool
  | [], [] => true
  | a :: l, b :: m => match ceqL a b with
    | true => ceqR l m
    | false => false
  | _, _ => false
end
mutual
theorem ceq_ok : ∀ (a b : CV), ceq a b = true → a = b
  | .bool a, b, h => by cases b <;> simp only [ceq, Bool.false_eq_true] at h; rw [beq_iff_eq] at h; rw [h]
  | .int k x, b, h => by cases b <;> simp only [ceq, Bool.false_eq_true] at h; rw [Bool.and_eq_true, beq_iff_eq, beq_iff_eq] at h; rw [h.1, h.2]
  | .str a, b, h => by cases b <;> simp only [ceq, Bool.false_eq_true] at h; rw [beq_iff_eq] at h; rw [h]
  | .nilp, b, h => by cases b <;> simp only [ceq, Bool.false_eq_true] at h; rfl
  | .ro es nl r, b, h => by
    cases b <;> simp only [ceq, Bool.false_eq_true] at h
    rw [Bool.and_eq_true, Bool.and_eq_true, nbeq_iff, beq_iff_eq] at h
    rw [h.1.1, h.1.2, ceqR_ok r _ h.2]
  | .sl b es i n nl, b2, h => by
    cases b2 <;> simp only [ceq, Bool.false_eq_true] at h
    simp only [Bool.and_eq_true, nbeq_iff, beq_iff_eq] at h
    obtain ⟨⟨⟨⟨h1, h2⟩, h3⟩, h4⟩, h5⟩ := h
    rw [h1, h2, h3, h4, h5]
  | .emp, b, h => by cases b <;> simp only [ceq, Bool.false_eq_true] at h; rfl
  | .agg l, b, h => by cases b <;> simp only [ceq, Bool.false_eq_true] at h; rw [ceqL_ok l _ h]
  | .tup l, b, h => by cases b <;> simp only [ceq, Bool.false_eq_true] at h; rw [ceqL_ok l _ h]
  | .nilf, b, h => by cases b <;> simp only [ceq, Bool.false_eq_true] at h; rfl
  | .top, b, h => by cases b <;> simp only [ceq, Bool.false_eq_true] at h
  | .ptr _ _ _ _, b, h => by cases b <;> simp only [ceq, Bool.false_eq_true] at h
  | .rptr _ _ _ _, b, h => by cases b <;> simp only [ceq, Bool.false_eq_true] at h
  | .isl _ _ _ _ _ _, b, h => by cases b <;> simp only [ceq, Bool.false_eq_true] at h
  | .fn _ _, b, h => by cases b <;> simp only [ceq, Bool.false_eq_true] at h
  | .opt _ _, b, h => by cases b <;> simp only [ceq, Bool.false_eq_true] at h
theorem ceqL_ok : ∀ (a b : List CV), ceqL a b = true → a = b
  | [], b, h => by cases b <;> simp only [ceqL, Bool.false_eq_true] at h; rfl
  | a :: l, b, h => by
    cases b with
    | nil => simp only [ceqL, Bool.false_eq_true] at h
    | cons c m =>
      simp only [ceqL] at h
      split at h
      · rename_i hc; rw [ceq_ok a c hc, ceqL_ok l m h]
      · cases h
theorem ceqR_ok : ∀ (a b : List (List CV)), ceqR a b = true → a = b
  | [], b, h => by cases b <;> simp only [ceqR, Bool.false_eq_true] at h; rfl
  | a :: l, b, h => by
    cases b with
    | nil => simp only [ceqR, Bool.false_eq_true] at h
    | cons c m =>
      simp only [ceqR] at h
      split at h
      · rename_i hc; rw [ceqL_ok a c hc, ceqR_ok l m h]
      · cases h
end
def ceqB : CB → CB → Bool
  | .dead, .dead => true
  | .lit e l, .lit e' l' => Nat.beq e e' && ceqL l l'
  | .row e es r, .row e' es' r' => Nat.beq e e' && Nat.beq es es' && ceqR r r'
  | _, _ => false
theorem ceqB_ok (a b : CB) (h : ceqB a b = true) : a = b := by
  cases a <;> cases b <;> simp only [ceqB, Bool.false_eq_true] at h <;> first | rfl | skip
  · rw [Bool.and_eq_true, nbeq_iff] at h; rw [h.1, ceqL_ok _ _ h.2]
  · rw [Bool.and_eq_true, Bool.and_eq_true, nbeq_iff, nbeq_iff] at h; rw [h.1.1, h.1.2, ceqR_ok _ _ h.2]

/-! ### Results told -/
def mkHp : List CB → Nat → Hp → Hp
  | [], _, h => h
  | b :: l, i, h => mkHp l (i + 1) (hset h i b)
def eqHp (h : Hp) : List CB → Nat → Bool
  | [], _ => true
  | b :: l, i => match ceqB (hget h i) b with
    | true => eqHp h l (i + 1)
    | false => false
/-- The result is as told. -/
def told (r : CRes) (v : CV) (bl : List CB) : Bool := match r with
  | .no => false
  | .p w => match bl with
    | [] => ceq w v
    | _ :: _ => false
  | .w w n h => ceq w v && Nat.beq n bl.length && Nat.ble n 4096 && eqHp h bl 0
theorem mkHp_get : ∀ (bl : List CB) (i : Nat) (h : Hp) (j : Nat), i + bl.length ≤ 4096 → j < 4096 → hget (mkHp bl i h) j = if i ≤ j ∧ j < i + bl.length then bl.getD (j - i) .dead else hget h j := by
  intro bl
  induction bl with
  | nil => intro i h j hi hj; simp only [mkHp]; rw [if_neg (by simp)]
  | cons b l ih =>
    intro i h j hi hj
    simp only [List.length_cons] at hi ⊢
    simp only [mkHp]
    rw [ih (i + 1) _ j (by omega) hj, hget_set (by omega) hj]
    by_cases h1 : i + 1 ≤ j ∧ j < i + 1 + l.length
    · rw [if_pos h1, if_pos (by omega), show j - i = (j - (i + 1)) + 1 from by omega]; rfl
    · rw [if_neg h1]
      by_cases h2 : i = j
      · subst h2; rw [if_pos rfl, if_pos (by omega), Nat.sub_self]; rfl
      · rw [if_neg h2, if_neg (by omega)]
theorem eqHp_get {h : Hp} : ∀ {bl : List CB} {i : Nat}, eqHp h bl i = true → ∀ j, j < bl.length → hget h (i + j) = bl.getD j .dead := by
  intro bl
  induction bl with
  | nil => intro i _ j hj; simp at hj
  | cons b l ih =>
    intro i he j hj
    simp only [eqHp] at he
    split at he
    · rename_i hb
      cases j with
      | zero => exact ceqB_ok _ _ hb
      | succ j => have := ih he j (by simpa using hj); rw [show i + (j + 1) = i + 1 + j from by omega, this]; rfl
    · cases he
theorem told_H {h : Hp} {bl : List CB} (hl : bl.length ≤ 4096) (he : eqHp h bl 0 = true) : H bl.length h = H bl.length (mkHp bl 0 .e) := by
  unfold H
  apply List.map_congr_left
  intro j hj
  rw [List.mem_range] at hj
  rw [mkHp_get bl 0 .e j (by omega) (by omega), if_pos (by omega)]
  have := eqHp_get he j hj
  rw [Nat.zero_add] at this
  rw [this]; rfl
abbrev Memo := List (FuncId × List CV × CV × List CB)
def outM (v : CV) (bl : List CB) : CRes := match bl with
  | [] => .p v
  | b :: l => .w v (b :: l).length (mkHp (b :: l) 0 .e)
def findM : Memo → FuncId → List CV → CRes
  | [], _, _ => .no
  | (k', a, v, bl) :: r, k, args => match Nat.beq k k' with
    | true => match ceqL args a with
      | true => outM v bl
      | false => findM r k args
    | false => findM r k args
def memoX (M : Memo) (xt : Cl) : Cl := fun k args n h => match Nat.beq n 0 with
  | true => match findM M k args with
    | .no => xt k args n h
    | r => r
  | false => xt k args n h
def MemoOk (P : Program) (M : Memo) : Prop := ∀ e ∈ M, match outM e.2.2.1 e.2.2.2 with
  | .no => True
  | .p v => CallsTo P e.1 e.2.1 0 .e v 0 .e
  | .w v n h => CallsTo P e.1 e.2.1 0 .e v n h
theorem memo_nil : MemoOk P [] := fun e he => by cases he
theorem CallsTo.h0 {k : FuncId} {args : List CV} {h : Hp} {v : CV} {n' : Nat} {h' : Hp} (hc : CallsTo P k args 0 .e v n' h') : CallsTo P k args 0 h v n' h' := ⟨hc.1, hc.2.1, hc.2.2⟩
theorem CallsTo.hH {k : FuncId} {args : List CV} {n : Nat} {h : Hp} {v : CV} {n' : Nat} {h' h2 : Hp} (hc : CallsTo P k args n h v n' h') (he : H n' h' = H n' h2) : CallsTo P k args n h v n' h2 := ⟨hc.1, hc.2.1, by rw [← he]; exact hc.2.2⟩
theorem memo_cons {sh : TypeId → Option (List Leaf)} (S : ShOk P sh) {xt : Cl} (Cx : ClOk P xt) (hmo : P.follows .mixedOrders = true) {md : FuncId → Bool} {d : Nat} {k : FuncId} {a : List CV} {v : CV} {bl : List CB} {M : Memo}
    (ht : told (cCall P sh xt md d k a 0 .e) v bl = true) (hM : MemoOk P M) : MemoOk P ((k, a, v, bl) :: M) := by
  intro e he
  cases he with
  | tail _ he => exact hM e he
  | head =>
    have hk := cCall_ok S Cx hmo md d k a 0 .e
    cases hr : cCall P sh xt md d k a 0 .e with
    | no => rw [hr] at ht; cases ht
    | p w =>
      rw [hr] at ht hk
      cases bl with
      | nil => simp only [told] at ht; rw [ceq_ok _ _ ht] at hk; exact hk
      | cons b l => simp only [told] at ht; cases ht
    | w w n h =>
      rw [hr] at ht hk
      simp only [told, Bool.and_eq_true, nbeq_iff, nble_iff] at ht
      obtain ⟨⟨⟨h1, h2⟩, h3⟩, h4⟩ := ht
      rw [ceq_ok _ _ h1] at hk
      subst h2
      have hk : CallsTo P k a 0 .e v bl.length h := hk
      cases bl with
      | nil =>
        show CallsTo P k a 0 .e v 0 .e
        exact hk.hH rfl
      | cons b l => exact hk.hH (told_H h3 h4)
theorem findM_ok {M : Memo} (hM : MemoOk P M) : ∀ (k : FuncId) (args : List CV), match findM M k args with
    | .no => True
    | .p v => CallsTo P k args 0 .e v 0 .e
    | .w v n h => CallsTo P k args 0 .e v n h := by
  induction M with
  | nil => intro k args; trivial
  | cons e M ih =>
    intro k args
    obtain ⟨k', a, v, bl⟩ := e
    have ih := ih fun e he => hM e (List.mem_cons_of_mem _ he)
    have h0 := hM (k', a, v, bl) (List.mem_cons_self ..)
    simp only [findM]
    cases hk : Nat.beq k k' with
    | false => exact ih k args
    | true =>
      have hk := nbeq_iff.1 hk
      subst hk
      simp only
      cases ha : ceqL args a with
      | false => exact ih k args
      | true =>
        rw [ceqL_ok _ _ ha]
        exact h0
theorem memoX_ok {M : Memo} (hM : MemoOk P M) {xt : Cl} (Cx : ClOk P xt) : ClOk P (memoX M xt) := by
  intro k args n h
  have hx := Cx k args n h
  unfold memoX
  cases hn : Nat.beq n 0 with
  | false => exact hx
  | true =>
    have hn := nbeq_iff.1 hn
    subst hn
    simp only
    have hf := findM_ok hM k args
    cases hm : findM M k args with
    | no => exact hx
    | p v => rw [hm] at hf; exact hf.h0.hH rfl
    | w v n' h' => rw [hm] at hf; exact hf.h0
end
end Go.Am
