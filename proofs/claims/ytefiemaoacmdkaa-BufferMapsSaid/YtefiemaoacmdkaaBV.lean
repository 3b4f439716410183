/-
  When a buffer is valid: both checks.
-/
import Derived.Test.YtefiemaoacmdkaaY3
namespace Go.Proofs.Ytefiemaoacmdkaa
open Go.Am
set_option linter.unusedVariables false
set_option linter.unusedSimpArgs false
theorem pre_nat {i n : Nat} (hi : i < n) (hn : n ≤ 1000) (h0 : 0 < i) : wr .i64 ((i : Int) - 1) = ((i - 1 : Nat) : Int) := by rw [wr_in (by omega)]; omega
theorem F43_ok (l : List TStored) : ∃ r, F43 l = some r ∧ (r = false → l.length ≤ 70) := by
  unfold F43
  by_cases h : l.length ≤ 70
  · rw [bif_f (by simp [bLt_eq]; omega)]
    obtain ⟨b, l1, l2⟩ := loop_for (step := fun s => F43_L1 l s) l.length (fun _ => True) (fun _ => True) trivial
      (fun i hi _ => by
        unfold F43_L1 F44
        rw [bif_t (by simp [bLt_eq]; omega), need_true (inb_nat hi), Option.bind_some]
        cases bLt 2400 (((gd l ((i : Int)).toNat).Frame).Body.length : Nat) with
        | true => exact .inl ⟨_, rfl, trivial⟩
        | false => rw [cond_false, wr_add1 hi (by omega)]; exact .inr ⟨rfl, trivial⟩)
      (fun _ => by
        unfold F43_L1
        rw [bif_f (by simp [bLt_eq])]
        exact ⟨_, rfl, trivial⟩)
    cases b with
    | inl u => exact ⟨_, lp_inl l1, fun _ => h⟩
    | inr r => exact ⟨_, lp_inr l1, fun _ => h⟩
  · rw [bif_t (by simp [bLt_eq]; omega)]
    exact ⟨_, rfl, fun h => by cases h⟩
/-- What is not great. -/
def Ng (b : TBuffer) : Prop := b.List.length ≤ 40 ∧ b.Group.length ≤ 70 ∧ ∀ i : Nat, i < b.List.length → (gd b.List i).Held.length ≤ 70
theorem F11_ok (b : TBuffer) (f : TFrame) : ∃ r, F11 b f = some r ∧ (r = false → Ng b) := by
  obtain ⟨g, g1, g2⟩ := F43_ok b.Group
  unfold F11
  rw [g1]
  unfold F44
  simp only [Option.isSome_some, gt_some, Bool.cond_self]
  rw [need_true rfl, need_true rfl]
  by_cases h : b.List.length ≤ 40
  · have e : bLt 40 (b.List.length : Nat) = false := by simp [bLt_eq]; omega
    rw [e, Bool.false_or]
    cases hc : (g || bLt 2400 (f.Body.length : Nat)) with
    | true => exact ⟨_, rfl, fun h => by cases h⟩
    | false =>
      have hg : g = false := by cases g with | true => cases hc | false => rfl
      rw [cond_false]
      obtain ⟨r, l1, l2⟩ := loop_for (step := fun s => F11_L1 b s) b.List.length (fun n => ∀ i : Nat, i < n → (gd b.List i).Held.length ≤ 70) (fun r => match r with | .inl _ => Ng b | .inr x => x = true) (fun i hi => by omega)
        (fun i hi hI => by
          unfold F11_L1
          obtain ⟨q, q1, q2⟩ := F43_ok (gd b.List i).Held
          rw [bif_t (by simp [bLt_eq]; omega), need_true (inb_nat hi), Int.toNat_natCast, q1, Option.bind_some]
          cases q with
          | true => exact .inl ⟨_, rfl, rfl⟩
          | false =>
            rw [cond_false, wr_add1 hi (by omega)]
            refine .inr ⟨rfl, fun j hj => ?_⟩
            rcases Nat.lt_or_eq_of_le (Nat.le_of_lt_succ hj) with h | rfl
            · exact hI j h
            · exact q2 rfl)
        (fun hI => by
          unfold F11_L1
          rw [bif_f (by simp [bLt_eq])]
          exact ⟨_, rfl, h, g2 hg, hI⟩)
      cases r with
      | inl u => exact ⟨_, lp_inl l1, fun _ => l2⟩
      | inr x => exact ⟨_, lp_inr l1, fun h => by rw [show x = true from l2] at h; cases h⟩
  · have e : bLt 40 (b.List.length : Nat) = true := by simp [bLt_eq]; omega
    rw [e, Bool.true_or, Bool.true_or]
    exact ⟨_, rfl, fun h => by cases h⟩
/-- A queue is in order. -/
def Qe (l : List TStored) (top : Int) (i : Nat) : Prop := (gd l i).Cat ≤ top ∧ (0 ≤ (gd l i).At ∧ (gd l i).At ≤ 1099511627776) ∧ (0 < i → (gd l (i - 1)).At ≤ (gd l i).At)
def Qu (l : List TStored) (lim top : Int) : Prop := (l.length : Int) ≤ lim ∧ ∀ i : Nat, i < l.length → Qe l top i
theorem F46_ok (l : List TStored) (lim top : Int) (hn : l.length ≤ 1000) : ∃ b, F46 l lim top = some b ∧ (b = true ↔ Qu l lim top) := by
  unfold F46
  by_cases hl : (l.length : Int) ≤ lim
  · rw [bif_f (by simp [bLt_eq]; omega)]
    obtain ⟨b, l1, l2⟩ := loop_for (step := fun s => F46_L1 l top s) l.length (fun n => ∀ i : Nat, i < n → Qe l top i)
      (fun b => match b with | .inl _ => Qu l lim top | .inr r => r = false ∧ ¬ Qu l lim top) (fun i hi => by omega)
      (fun i hi hI => by
        unfold F46_L1 F61
        rw [bif_t (by simp [bLt_eq]; omega), need_true (inb_nat hi), Int.toNat_natCast]
        simp only [Option.isSome_some, gt_some, Bool.cond_self]
        rw [need_true rfl]
        by_cases hq : Qe l top i
        · have hq' := hq
          obtain ⟨q1, ⟨q2, q3⟩, q4⟩ := hq
          have a1 : bLt top (gd l i).Cat = false := by simp [bLt_eq]; omega
          have a2 : (bLe 0 (gd l i).At && bLe (gd l i).At 1099511627776) = true := by simp [bLe_eq, q2, q3]
          have nx : ∀ j : Nat, j < i + 1 → Qe l top j := fun j hj => by
            rcases Nat.lt_or_eq_of_le (Nat.le_of_lt_succ hj) with h | rfl
            · exact hI j h
            · exact hq'
          rw [a1, a2, wr_add1 hi (by omega)]
          by_cases h0 : 0 < i
          · have a3 : bLt (gd l i).At (gd l (i - 1)).At = false := by have := q4 h0; simp [bLt_eq]; omega
            rw [pre_nat hi hn h0, Int.toNat_natCast, need_true (by rw [inb_nat (show i - 1 < l.length by omega)]; simp), a3, bif_f (by simp)]
            exact .inr ⟨rfl, nx⟩
          · have a4 : bLt 0 (i : Int) = false := by simp [bLt_eq]; omega
            rw [a4, need_true (by simp), bif_f (by simp)]
            exact .inr ⟨rfl, nx⟩
        · have no : ¬ Qu l lim top := fun h => hq (h.2 i hi)
          by_cases h0 : 0 < i
          · rw [pre_nat hi hn h0, Int.toNat_natCast, need_true (by rw [inb_nat (show i - 1 < l.length by omega)]; simp), bif_t (by
              have a4 : bLt 0 (i : Int) = true := by simp [bLt_eq]; omega
              rw [a4]
              unfold Qe at hq
              simp [bLt_eq, bLe_eq]
              omega)]
            exact .inl ⟨_, rfl, rfl, no⟩
          · have a4 : bLt 0 (i : Int) = false := by simp [bLt_eq]; omega
            rw [a4, need_true (by simp), bif_t (by
              unfold Qe at hq
              simp [bLt_eq, bLe_eq]
              omega)]
            exact .inl ⟨_, rfl, rfl, no⟩)
      (fun hI => by
        unfold F46_L1
        rw [bif_f (by simp [bLt_eq])]
        exact ⟨_, rfl, hl, hI⟩)
    cases b with
    | inl u => exact ⟨_, lp_inl l1, fun _ => l2, fun _ => rfl⟩
    | inr r => obtain ⟨rfl, h⟩ := l2; exact ⟨_, lp_inr l1, fun h => (by cases h), fun h' => absurd h' h⟩
  · rw [bif_t (by simp [bLt_eq]; omega)]
    exact ⟨_, rfl, fun h => (by cases h), fun h => absurd h.1 hl⟩
/-- The categories are bytes. -/
def Cb (l : List TStored) : Prop := ∀ i : Nat, i < l.length → 0 ≤ (gd l i).Cat ∧ (gd l i).Cat ≤ 255
theorem F48_ok (l : List TStored) (lim top : Int) (hn : l.length ≤ 1000) (hc : Cb l) : F48 l lim top = F46 l lim top := by
  unfold F48 F46
  congr 1
  have : ∀ s : Int, 0 ≤ s → F48_L1 l top s = F46_L1 l top s := fun s hs => by
    obtain ⟨i, rfl⟩ := Int.eq_ofNat_of_zero_le hs
    unfold F48_L1 F46_L1 F61 F87
    by_cases hi : i < l.length
    · have := hc i hi
      rw [Int.toNat_natCast, wr_in (x := (gd l i).Cat) (by omega), inb_nat hi]
      simp only [Option.isSome_some, Bool.cond_self, need_true]
    · have e : bLt (i : Int) (l.length : Nat) = false := by simp [bLt_eq]; omega
      rw [e]
      rfl
  have key : loopD (fun s => F48_L1 l top s) 0 = loopD (fun s => F46_L1 l top s) 0 := by
    obtain ⟨b, b1, b2⟩ := loop_for (step := fun s => F48_L1 l top s) l.length (fun n => loopD (fun s => F46_L1 l top s) (n : Int) = loopD (fun s => F46_L1 l top s) 0) (fun b => loopD (fun s => F46_L1 l top s) 0 = some b) rfl
      (fun i hi hI => by
        have e := this (i : Int) (by omega)
        have : (∃ b, F46_L1 l top (i : Int) = some (.done b)) ∨ F46_L1 l top (i : Int) = some (.next ((i + 1 : Nat) : Int)) := by
          unfold F46_L1 F61
          rw [bif_t (by simp [bLt_eq]; omega), need_true (inb_nat hi), wr_add1 hi (by omega)]
          simp only [Option.isSome_some, Bool.cond_self, need_true, gt_some]
          by_cases h0 : 0 < i
          · rw [pre_nat hi hn h0, need_true (by rw [inb_nat (show i - 1 < l.length by omega)]; simp)]
            generalize (_ || _) = c
            cases c with
            | true => exact .inl ⟨_, rfl⟩
            | false => exact .inr rfl
          · have a4 : bLt 0 (i : Int) = false := by simp [bLt_eq]; omega
            rw [a4, need_true (by simp)]
            generalize (_ || _) = c
            cases c with
            | true => exact .inl ⟨_, rfl⟩
            | false => exact .inr rfl
        rcases this with ⟨b, h⟩ | h
        · exact .inl ⟨b, e.trans h, by rw [← hI]; exact loopD_done h⟩
        · exact .inr ⟨e.trans h, by rw [← hI]; exact (loopD_next h).symm⟩)
      (fun hI => by
        have e := this (l.length : Int) (by omega)
        have h : F46_L1 l top (l.length : Int) = some (.done (.inl ())) := by
          unfold F46_L1
          rw [bif_f (by simp [bLt_eq])]
        exact ⟨_, e.trans h, by rw [← hI]; exact loopD_done h⟩)
    rw [b1, b2]
  rw [key]
end Go.Proofs.Ytefiemaoacmdkaa
