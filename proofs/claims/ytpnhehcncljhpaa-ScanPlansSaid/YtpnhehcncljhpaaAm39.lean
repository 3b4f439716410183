/-
  The abstract machine, part 39: what a run computes, as a partial function; loops as least fixed points.
-/
import Derived.Test.YtpnhehcncljhpaaAm38
namespace Go.Am
set_option linter.unusedVariables false
variable {P : Program} {E : Env} {h : List ABlk}

/-! ### Partial functions -/
def need {α : Type} (b : Bool) (k : Option α) : Option α := bif b then k else none
def gt {α : Type} [Inhabited α] (o : Option α) : α := o.getD default
def bd {α β : Type} [Inhabited α] (o : Option α) (k : α → Option β) : Option β := bif o.isSome then k (gt o) else none
theorem need_some {α : Type} {b : Bool} {k : Option α} {r : α} : need b k = some r ↔ b = true ∧ k = some r := by
  cases b <;> simp [need]
theorem bd_some {α β : Type} [Inhabited α] {o : Option α} {k : α → Option β} {r : β} : bd o k = some r ↔ o.isSome = true ∧ k (gt o) = some r := by
  cases o <;> simp [bd, gt]
theorem gt_some {α : Type} [Inhabited α] {x : α} : gt (some x) = x := rfl
theorem bd_of {α β : Type} [Inhabited α] {o : Option α} {k : α → Option β} {x : α} (h : o = some x) : bd o k = k x := by rw [h]; rfl
inductive Lp (S B : Type) where
  | next (s : S)
  | done (b : B)
def loopN {S B : Type} (step : S → Option (Lp S B)) : Nat → S → Option B
  | 0, _ => none
  | n + 1, s => match step s with
    | none => none
    | some (.next s') => loopN step n s'
    | some (.done b) => some b
/-- The same by the recursor itself (for the kernel). -/
noncomputable def loopK {S B : Type} (step : S → Option (Lp S B)) (n : Nat) : S → Option B :=
  Nat.rec (motive := fun _ => S → Option B) (fun _ => none) (fun _ ih s => Option.rec (motive := fun _ => Option B) none (fun o => Lp.rec (motive := fun _ => Option B) (fun s' => ih s') (fun b => some b) o) (step s)) n
theorem loopK_eq {S B : Type} {step : S → Option (Lp S B)} : ∀ (n : Nat) (s : S), loopK step n s = loopN step n s
  | 0, _ => rfl
  | n + 1, s => by
    show (Option.rec (motive := fun _ => Option B) none (fun o => Lp.rec (motive := fun _ => Option B) (fun s' => loopK step n s') (fun b => some b) o) (step s)) = _
    simp only [loopN]
    cases step s with
    | none => rfl
    | some o => cases o with
      | next s' => exact loopK_eq n s'
      | done b => rfl
open Classical in
noncomputable def loopX {S B : Type} (step : S → Option (Lp S B)) (s : S) : Option B := if h : ∃ n b, loopN step n s = some b then some h.choose_spec.choose else none
/-- The loop's value; where a million rounds are enough, it can be computed. -/
noncomputable def loopD {S B : Type} (step : S → Option (Lp S B)) (s : S) : Option B := Option.rec (motive := fun _ => Option B) (loopX step s) (fun b => some b) (loopK step 1000000 s)
theorem loopN_mono {S B : Type} {step : S → Option (Lp S B)} {b : B} : ∀ (n m : Nat) (s : S), n ≤ m → loopN step n s = some b → loopN step m s = some b
  | 0, _, _, _, h => by cases h
  | n + 1, 0, _, hm, _ => by omega
  | n + 1, m + 1, s, hm, h => by
    simp only [loopN] at h ⊢
    split at h
    · cases h
    · exact loopN_mono n m _ (by omega) h
    · exact h
theorem loopX_iff {S B : Type} {step : S → Option (Lp S B)} {s : S} {b : B} : loopX step s = some b ↔ ∃ n, loopN step n s = some b := by
  unfold loopX
  constructor
  · intro h
    split at h
    · rename_i hx
      injection h with h
      exact ⟨_, by rw [← h]; exact hx.choose_spec.choose_spec⟩
    · cases h
  · rintro ⟨n, h⟩
    have hx : ∃ n b, loopN step n s = some b := ⟨n, b, h⟩
    rw [dif_pos hx]
    have h1 := loopN_mono _ (max n hx.choose) s (Nat.le_max_right ..) hx.choose_spec.choose_spec
    have h2 := loopN_mono _ (max n hx.choose) s (Nat.le_max_left ..) h
    rw [h1] at h2
    exact h2
theorem loopD_iff {S B : Type} {step : S → Option (Lp S B)} {s : S} {b : B} : loopD step s = some b ↔ ∃ n, loopN step n s = some b := by
  have e : loopD step s = loopX step s := by
    unfold loopD
    rw [loopK_eq]
    cases hl : loopN step 1000000 s with
    | none => rfl
    | some b' => exact (loopX_iff.2 ⟨_, hl⟩).symm
  rw [e]; exact loopX_iff
theorem loopD_next {S B : Type} {step : S → Option (Lp S B)} {s s' : S} (h : step s = some (.next s')) : loopD step s = loopD step s' := by
  have key : ∀ b, loopD step s = some b ↔ loopD step s' = some b := by
    intro b
    rw [loopD_iff, loopD_iff]
    constructor
    · rintro ⟨n, hn⟩
      cases n with
      | zero => cases hn
      | succ n => simp only [loopN, h] at hn; exact ⟨n, hn⟩
    · rintro ⟨n, hn⟩
      exact ⟨n + 1, by simp only [loopN, h]; exact hn⟩
  cases h1 : loopD step s with
  | some b => exact ((key b).1 h1).symm
  | none =>
    cases h2 : loopD step s' with
    | none => rfl
    | some b => rw [(key b).2 h2] at h1; cases h1
theorem loopD_done {S B : Type} {step : S → Option (Lp S B)} {s : S} {b : B} (h : step s = some (.done b)) : loopD step s = some b :=
  loopD_iff.2 ⟨1, by simp only [loopN, h]⟩
def lp {A R X : Type} (o : Option (A ⊕ R)) (k : A → Option X) (j : R → Option X) : Option X := match o with
  | some (.inl e) => k e
  | some (.inr r) => j r
  | none => none

/-! ### Statements one behind the other -/
def kM (P : Program) (b : Code) (K : Kt) : Kt
  | .normal, t, h => Mean P b K t h
  | .exit id, t, h => K (.exit id) t h
  | .ret, t, h => K .ret t h
  | .goto l, t, h => K (.goto l) t h
theorem m_normal {b : Code} {K : Kt} {t : List AV} : kM P b K .normal t h = Mean P b K t h := rfl
theorem m_exit {b : Code} {K : Kt} {t : List AV} {id : Nat} : kM P b K (.exit id) t h = K (.exit id) t h := rfl
theorem m_ret {b : Code} {K : Kt} {t : List AV} : kM P b K .ret t h = K .ret t h := rfl
theorem m_goto {b : Code} {K : Kt} {t : List AV} {l : Nat} : kM P b K (.goto l) t h = K (.goto l) t h := rfl
theorem seqM {a b : Code} {K : Kt} {t : List AV} (hm : Mean P a (kM P b K) t h) : Mean P (.seq a b) K t h := by
  intro E ac Q H F hd hQ
  refine wp_seq (hm E ac _ H F hd fun e E' a' t' h' hk X H' F' hd' => ?_)
  cases e with
  | normal => exact hk E' a' Q H' F' hd' fun e2 E2 a2 t2 h2 hk2 X2 H2 F2 hd2 => hQ e2 E2 a2 t2 h2 hk2 (X.trans X2) H2 F2 hd2
  | exit id => exact hQ (.exit id) E' a' t' h' hk X H' F' hd'
  | ret => exact hQ .ret E' a' t' h' hk X H' F' hd'
  | goto l => exact hQ (.goto l) E' a' t' h' hk X H' F' hd'
theorem blkM {id : Nat} {c : Code} {K : Kt} {t : List AV} (hm : Mean P c (kBlk id K) t h) : Mean P (.block id c) K t h := by
  intro E ac Q H F hd hQ
  refine wp_block (hm E ac _ H F hd fun e E' a' t' h' hk X H' F' hd' => ?_)
  cases e with
  | normal => exact hQ .normal E' a' t' h' hk X H' F' hd'
  | exit id' =>
    simp only [kBlk] at hk
    by_cases hid : id' = id
    · subst hid
      simp only [beq_self_eq_true] at hk
      simp only [Ex.ex, Exit.inBlock, if_true]
      exact hQ .normal E' a' t' h' hk X H' F' hd'
    · rw [show (id' == id) = false from by simpa using hid] at hk
      simp only [Ex.ex, Exit.inBlock, if_neg hid]
      exact hQ (.exit id') E' a' t' h' hk X H' F' hd'
  | ret => exact hQ .ret E' a' t' h' hk X H' F' hd'
  | goto l => exact hQ (.goto l) E' a' t' h' hk X H' F' hd'
/-- The state (t2, h2) says no more than (t, h); blocks may be given up to be read only. -/
def SubF (n : Nat) (t : List AV) (h : List ABlk) (t2 : List AV) (h2 : List ABlk) : Prop := ∃ fz, (fzObL h fz t ∧ fzObH h fz h) ∧ Sub n (fzL h fz t) (fzH h fz) t2 h2
mutual
theorem fzV_nil (h : List ABlk) : ∀ a : AV, fzV h [] a = a ∧ fzOb h [] a
  | .ptr _ _ _ _ => by simp only [fzV, fzOb, inL, cond_false]; exact ⟨trivial, trivial⟩
  | .sl _ _ _ _ _ => by simp only [fzV, fzOb, inL, cond_false]; exact ⟨trivial, trivial⟩
  | .isl _ _ _ _ _ _ => by simp only [fzV, fzOb, inL, cond_false]; exact ⟨trivial, trivial⟩
  | .csl _ _ _ _ _ => by simp only [fzV, fzOb, inL, cond_false]; exact ⟨trivial, trivial⟩
  | .agg l => by simp only [fzV, fzOb]; rw [(fzL_nil h l).1]; exact ⟨rfl, (fzL_nil h l).2⟩
  | .tup l => by simp only [fzV, fzOb]; rw [(fzL_nil h l).1]; exact ⟨rfl, (fzL_nil h l).2⟩
  | .fn _ l => by simp only [fzV, fzOb]; rw [(fzL_nil h l).1]; exact ⟨rfl, (fzL_nil h l).2⟩
  | .opt _ v => by simp only [fzV, fzOb]; rw [(fzV_nil h v).1]; exact ⟨rfl, (fzV_nil h v).2⟩
  | .top => by simp only [fzV, fzOb]; exact ⟨trivial, trivial⟩
  | .bool _ => by simp only [fzV, fzOb]; exact ⟨trivial, trivial⟩
  | .int _ _ => by simp only [fzV, fzOb]; exact ⟨trivial, trivial⟩
  | .str _ => by simp only [fzV, fzOb]; exact ⟨trivial, trivial⟩
  | .nilp => by simp only [fzV, fzOb]; exact ⟨trivial, trivial⟩
  | .rptr _ _ _ _ _ => by simp only [fzV, fzOb]; exact ⟨trivial, trivial⟩
  | .ro _ _ _ _ => by simp only [fzV, fzOb]; exact ⟨trivial, trivial⟩
  | .emp => by simp only [fzV, fzOb]; exact ⟨trivial, trivial⟩
  | .nilf => by simp only [fzV, fzOb]; exact ⟨trivial, trivial⟩
  | .ub => by simp only [fzV, fzOb]; exact ⟨trivial, trivial⟩
  | .val _ => by simp only [fzV, fzOb]; exact ⟨trivial, trivial⟩
theorem fzL_nil (h : List ABlk) : ∀ l : List AV, fzL h [] l = l ∧ fzObL h [] l
  | [] => by simp only [fzL, fzObL]; exact ⟨trivial, trivial⟩
  | a :: l => by simp only [fzL, fzObL]; rw [(fzV_nil h a).1, (fzL_nil h l).1]; exact ⟨rfl, (fzV_nil h a).2, (fzL_nil h l).2⟩
end
theorem fzHF_nil (h : List ABlk) : ∀ (g : List ABlk) (b : Nat), fzHF h [] b g = g ∧ fzObH h [] g
  | [], _ => ⟨rfl, trivial⟩
  | x :: g, b => by
    obtain ⟨i1, i2⟩ := fzHF_nil h g (b + 1)
    have : fzB h [] x = x ∧ fzObB h [] x := by
      cases x with
      | lit e l => simp only [fzB, fzObB]; rw [(fzL_nil h l).1]; exact ⟨rfl, (fzL_nil h l).2⟩
      | row e es n c => exact ⟨rfl, trivial⟩
      | dead => exact ⟨rfl, trivial⟩
    simp only [fzHF, inL, cond_false, fzObH]
    rw [this.1, i1]
    exact ⟨rfl, this.2, i2⟩
theorem SubF_of {n : Nat} {t t2 : List AV} {h2 : List ABlk} (hs : Sub n t h t2 h2) : SubF n t h t2 h2 :=
  ⟨[], ⟨(fzL_nil h t).2, (fzHF_nil h h 0).2⟩, by rw [(fzL_nil h t).1, show fzH h [] = h from (fzHF_nil h h 0).1]; exact hs⟩
theorem subF_mean {c : Code} {K : Kt} {t t2 : List AV} {h2 : List ABlk} (hs : SubF h.length t h t2 h2) (hm : Mean P c K t2 h2) : Mean P c K t h := by
  obtain ⟨fz, ho, hs⟩ := hs
  refine fz_mean fz ho (sub_mean ?_ hm)
  rw [fzH_length]; exact hs
/-- What is said where the first n numbers only are looked at from outside. -/
theorem cut_mean {n : Nat} {c : Code} {K : Kt} {t t2 : List AV} {h0 h2 : List ABlk} {E0 : Env} (hn : h0.length = n) (H0 : HR E0 h0) (hs : SubF n t h t2 h2) (H : HR E h) {vs : Array Value} (F : FR E t vs) (X : Ext E0 h0 E h) :
    ∃ E', E'.w = E.w ∧ HR E' h2 ∧ FR E' t2 vs ∧ Ext E0 h0 E' h2 := by
  subst hn
  obtain ⟨fz, ho, μ, c1, c2, c3, c4⟩ := hs
  obtain ⟨H1, X1⟩ := fz_HR H ho.2
  have F1 := fz_FR H F ho.1
  exact ⟨(E.fz h fz).via μ, rfl, (via_HR H1 c2 c3).1, via_FR F1 c1, via_Ext H0 H1 (X.trans X1) c2 c3 c4⟩
def kL (P : Program) (id n : Nat) {S A R : Type} (o : Lp S (A ⊕ R)) (T : S → List AV) (Hp : S → List ABlk) (TB : A → List AV) (HB : A → List ABlk) (K : Kt) : Kt
  | .normal, t, h => ∃ s', o = .next s' ∧ SubF n t h (T s') (Hp s')
  | .exit id', t, h => bif id' == id then ∃ e, o = .done (.inl e) ∧ SubF n t h (TB e) (HB e) else K (.exit id') t h
  | .ret, t, h => K .ret t h
  | .goto l, t, h => K (.goto l) t h
theorem loop_den {S A R X : Type} {id : Nat} {c : Code} {K : Kt} {t : List AV} (T : S → List AV) (Hp : S → List ABlk) (TB : A → List AV) (HB : A → List ABlk) {step : S → Option (Lp S (A ⊕ R))} {s0 : S} {k : A → Option X} {j : R → Option X} {x : X}
    (hd : lp (loopD step s0) k j = some x) (init : SubF h.length t h (T s0) (Hp s0))
    (round : ∀ s o, step s = some o → (∀ e, o = .done (.inl e) → k e = some x) → (∀ r, o = .done (.inr r) → j r = some x) → Mean P c (kL P id h.length o T Hp TB HB K) (T s) (Hp s))
    (hrest : ∀ e, k e = some x → K .normal (TB e) (HB e)) : Mean P (.loop c) (kBlk id K) t h := by
  -- the loop's own run
  have ⟨b0, hb0, hk, hj⟩ : ∃ b0, loopD step s0 = some b0 ∧ (∀ e, b0 = .inl e → k e = some x) ∧ (∀ r, b0 = .inr r → j r = some x) := by
    cases hl : loopD step s0 with
    | none => rw [hl] at hd; cases hd
    | some b =>
      rw [hl] at hd
      refine ⟨b, rfl, ?_, ?_⟩
      · rintro e rfl; exact hd
      · rintro r rfl; exact hd
  obtain ⟨n0, hn0⟩ := loopD_iff.1 hb0
  intro E a Q H F hd hQ
  let Inv (x : S × Nat) (a' : Act) (w' : World) : Prop := loopN step x.2 x.1 = some b0 ∧ a'.defers = [] ∧ ∃ E', E'.w = w' ∧ HR E' (Hp x.1) ∧ FR E' (T x.1) a'.tmps ∧ Ext E h E' (Hp x.1)
  have hmin : ∀ a' w', ∃ m : Nat, (∃ x, Inv x a' w') → (∃ x, Inv x a' w' ∧ x.2 = m) ∧ ∀ x, Inv x a' w' → m ≤ x.2 := by
    intro a' w'
    by_cases hx : ∃ x, Inv x a' w'
    · obtain ⟨x, hx⟩ := hx
      obtain ⟨m, m1, m2⟩ := exists_min (p := fun m => ∃ x, Inv x a' w' ∧ x.2 = m) ⟨x.2, x, hx, rfl⟩
      exact ⟨m, fun _ => ⟨m1, fun y hy => m2 _ ⟨y, hy, rfl⟩⟩⟩
    · exact ⟨0, fun h => absurd h hx⟩
  have hin : ∃ x, Inv x a E.w := by
    obtain ⟨E', e1, e2, e3, e4⟩ := cut_mean (c := c) (K := K) rfl H init H F (Ext.refl _ _)
    exact ⟨(s0, n0), hn0, hd, E', e1, e2, e3, e4⟩
  refine wp_loop (fun a' w' => ∃ x, Inv x a' w') (fun a' w' => Classical.choose (hmin a' w')) hin fun a1 w1 hI => ?_
  obtain ⟨⟨⟨s, n⟩, ⟨hJ, hd1, E1, rfl, H1, F1, X1⟩, hm1⟩, hm2⟩ := Classical.choose_spec (hmin a1 w1) hI
  cases n with
  | zero => cases hJ
  | succ n =>
  simp only at hJ hm1 H1 F1 X1
  cases ho : step s with
  | none => simp only [loopN, ho] at hJ; cases hJ
  | some o =>
  have hdone : ∀ b, o = .done b → b = b0 := by
    rintro b rfl
    simp only [loopN, ho] at hJ
    injection hJ
  refine round s o ho (fun e he => hk e (hdone _ he).symm) (fun r hr => hj r (hdone _ hr).symm) E1 a1 _ H1 F1 hd1 fun e E2 a2 t2 h2 hk2 X2 H2 F2 hd2 => ?_
  cases e with
  | normal =>
    obtain ⟨s', rfl, hs⟩ := hk2
    simp only [loopN, ho] at hJ
    obtain ⟨E', e1, e2, e3, e4⟩ := cut_mean (c := c) (K := K) rfl H hs H2 F2 (X1.trans X2)
    have hI2 : Inv (s', n) a2 E2.w := ⟨hJ, hd2, E', e1, e2, e3, e4⟩
    refine ⟨⟨_, hI2⟩, ?_⟩
    have h1 := (Classical.choose_spec (hmin a2 E2.w) ⟨_, hI2⟩).2 _ hI2
    show Classical.choose (hmin a2 E2.w) < Classical.choose (hmin a1 E1.w)
    simp only at h1
    omega
  | exit id' =>
    simp only [kL] at hk2
    by_cases hid : id' = id
    · subst hid
      simp only [beq_self_eq_true, cond_true] at hk2
      obtain ⟨e, he, hs⟩ := hk2
      obtain ⟨E', e1, e2, e3, e4⟩ := cut_mean (c := c) (K := K) rfl H hs H2 F2 (X1.trans X2)
      rw [← e1]
      exact hQ (.exit id') E' a2 _ _ (by simp only [kBlk, beq_self_eq_true]; exact hrest e (hk e (hdone _ he).symm)) e4 e2 e3 hd2
    · rw [show (id' == id) = false from by simpa using hid] at hk2
      simp only [cond_false] at hk2
      exact hQ (.exit id') E2 a2 t2 h2 (by simp only [kBlk]; rw [show (id' == id) = false from by simpa using hid]; exact hk2) (X1.trans X2) H2 F2 hd2
  | ret => exact hQ .ret E2 a2 t2 h2 hk2 (X1.trans X2) H2 F2 hd2
  | goto l => exact hQ (.goto l) E2 a2 t2 h2 hk2 (X1.trans X2) H2 F2 hd2
theorem kL_normal {id n : Nat} {S A R : Type} {o : Lp S (A ⊕ R)} {T : S → List AV} {Hp : S → List ABlk} {TB : A → List AV} {HB : A → List ABlk} {K : Kt} {t : List AV} : kL P id n o T Hp TB HB K .normal t h = ∃ s', o = .next s' ∧ SubF n t h (T s') (Hp s') := rfl
theorem kL_exit {id id' n : Nat} {S A R : Type} {o : Lp S (A ⊕ R)} {T : S → List AV} {Hp : S → List ABlk} {TB : A → List AV} {HB : A → List ABlk} {K : Kt} {t : List AV} : kL P id n o T Hp TB HB K (.exit id') t h = bif id' == id then ∃ e, o = .done (.inl e) ∧ SubF n t h (TB e) (HB e) else K (.exit id') t h := rfl
theorem kL_ret {id n : Nat} {S A R : Type} {o : Lp S (A ⊕ R)} {T : S → List AV} {Hp : S → List ABlk} {TB : A → List AV} {HB : A → List ABlk} {K : Kt} {t : List AV} : kL P id n o T Hp TB HB K .ret t h = K .ret t h := rfl
def kS (P : Program) (l n : Nat) {S A R : Type} (o : Lp S (A ⊕ R)) (T : S → List AV) (Hp : S → List ABlk) (TB : A → List AV) (HB : A → List ABlk) (K : Kt) : Kt
  | .normal, t, h => ∃ e, o = .done (.inl e) ∧ SubF n t h (TB e) (HB e)
  | .exit id, t, h => K (.exit id) t h
  | .ret, t, h => K .ret t h
  | .goto l', t, h => l' = l ∧ ∃ s', o = .next s' ∧ SubF n t h (T s') (Hp s')
theorem kS_normal {l n : Nat} {S A R : Type} {o : Lp S (A ⊕ R)} {T : S → List AV} {Hp : S → List ABlk} {TB : A → List AV} {HB : A → List ABlk} {K : Kt} {t : List AV} : kS P l n o T Hp TB HB K .normal t h = ∃ e, o = .done (.inl e) ∧ SubF n t h (TB e) (HB e) := rfl
theorem kS_exit {l id n : Nat} {S A R : Type} {o : Lp S (A ⊕ R)} {T : S → List AV} {Hp : S → List ABlk} {TB : A → List AV} {HB : A → List ABlk} {K : Kt} {t : List AV} : kS P l n o T Hp TB HB K (.exit id) t h = K (.exit id) t h := rfl
theorem kS_ret {l n : Nat} {S A R : Type} {o : Lp S (A ⊕ R)} {T : S → List AV} {Hp : S → List ABlk} {TB : A → List AV} {HB : A → List ABlk} {K : Kt} {t : List AV} : kS P l n o T Hp TB HB K .ret t h = K .ret t h := rfl
theorem kS_goto {l l' n : Nat} {S A R : Type} {o : Lp S (A ⊕ R)} {T : S → List AV} {Hp : S → List ABlk} {TB : A → List AV} {HB : A → List ABlk} {K : Kt} {t : List AV} : kS P l n o T Hp TB HB K (.goto l') t h = (l' = l ∧ ∃ s', o = .next s' ∧ SubF n t h (T s') (Hp s')) := rfl
/-- A scope that begins with its label, to which the run jumps back. -/
theorem scope_den {S A R X : Type} {l : Nat} {c rest : Code} {K : Kt} {t : List AV} (T : S → List AV) (Hp : S → List ABlk) (TB : A → List AV) (HB : A → List ABlk) {step : S → Option (Lp S (A ⊕ R))} {s0 : S} {k : A → Option X} {j : R → Option X} {x : X}
    (hf : findLabel c l = some rest) (hd : lp (loopD step s0) k j = some x) (init : SubF h.length t h (T s0) (Hp s0))
    (first : ∀ o, step s0 = some o → (∀ e, o = .done (.inl e) → k e = some x) → (∀ r, o = .done (.inr r) → j r = some x) → Mean P c (kS P l h.length o T Hp TB HB K) (T s0) (Hp s0))
    (round : ∀ s o, step s = some o → (∀ e, o = .done (.inl e) → k e = some x) → (∀ r, o = .done (.inr r) → j r = some x) → Mean P rest (kS P l h.length o T Hp TB HB K) (T s) (Hp s))
    (hrest : ∀ e, k e = some x → K .normal (TB e) (HB e)) : Mean P (.scope c) K t h := by
  have ⟨b0, hb0, hk, hj⟩ : ∃ b0, loopD step s0 = some b0 ∧ (∀ e, b0 = .inl e → k e = some x) ∧ (∀ r, b0 = .inr r → j r = some x) := by
    cases hl : loopD step s0 with
    | none => rw [hl] at hd; cases hd
    | some b =>
      rw [hl] at hd
      refine ⟨b, rfl, ?_, ?_⟩
      · rintro e rfl; exact hd
      · rintro r rfl; exact hd
  obtain ⟨n0, hn0⟩ := loopD_iff.1 hb0
  intro E a Q H F hd hQ
  let Inv (x : S × Nat) (a' : Act) (w' : World) : Prop := loopN step x.2 x.1 = some b0 ∧ a'.defers = [] ∧ ∃ E', E'.w = w' ∧ HR E' (Hp x.1) ∧ FR E' (T x.1) a'.tmps ∧ Ext E h E' (Hp x.1)
  have hmin : ∀ a' w', ∃ m : Nat, (∃ x, Inv x a' w') → (∃ x, Inv x a' w' ∧ x.2 = m) ∧ ∀ x, Inv x a' w' → m ≤ x.2 := by
    intro a' w'
    by_cases hx : ∃ x, Inv x a' w'
    · obtain ⟨x, hx⟩ := hx
      obtain ⟨m, m1, m2⟩ := exists_min (p := fun m => ∃ x, Inv x a' w' ∧ x.2 = m) ⟨x.2, x, hx, rfl⟩
      exact ⟨m, fun _ => ⟨m1, fun y hy => m2 _ ⟨y, hy, rfl⟩⟩⟩
    · exact ⟨0, fun h => absurd h hx⟩
  obtain ⟨E1, e1, e2, e3, e4⟩ := cut_mean (c := c) (K := K) rfl H init H F (Ext.refl _ _)
  have behind : ∀ (s : S) (n : Nat) (o : Lp S (A ⊕ R)), loopN step (n + 1) s = some b0 → step s = some o → ∀ (e : Ex) (E2 : Env) (a2 : Act) (t2 : List AV) (h2 : List ABlk), kS P l h.length o T Hp TB HB K e t2 h2 → Ext E h E2 h2 → HR E2 h2 → FR E2 t2 a2.tmps → a2.defers = [] →
      (∃ s', o = .next s' ∧ e = .goto l ∧ Inv (s', n) a2 E2.w) ∨ (e ≠ .goto l ∧ Q e.ex a2 E2.w) := by
    intro s n o hJ ho e E2 a2 t2 h2 hk2 X2 H2 F2 hd2
    have hdone : ∀ b, o = .done b → b = b0 := by
      rintro b rfl
      simp only [loopN, ho] at hJ
      injection hJ
    cases e with
    | normal =>
      obtain ⟨e, he, hs⟩ := hk2
      obtain ⟨E', q1, q2, q3, q4⟩ := cut_mean (c := c) (K := K) rfl H hs H2 F2 X2
      refine .inr ⟨by simp, ?_⟩
      rw [← q1]
      exact hQ .normal E' a2 _ _ (hrest e (hk e (hdone _ he).symm)) q4 q2 q3 hd2
    | exit id => exact .inr ⟨by simp, hQ (.exit id) E2 a2 t2 h2 hk2 X2 H2 F2 hd2⟩
    | ret => exact .inr ⟨by simp, hQ .ret E2 a2 t2 h2 hk2 X2 H2 F2 hd2⟩
    | goto l' =>
      obtain ⟨rfl, s', rfl, hs⟩ := hk2
      simp only [loopN, ho] at hJ
      obtain ⟨E', q1, q2, q3, q4⟩ := cut_mean (c := c) (K := K) rfl H hs H2 F2 X2
      exact .inl ⟨s', rfl, rfl, hJ, hd2, E', q1, q2, q3, q4⟩
  cases n0 with
  | zero => cases hn0
  | succ n0 =>
  have ⟨o0, ho0⟩ : ∃ o, step s0 = some o := by
    cases ho : step s0 with
    | none => simp only [loopN, ho] at hn0; cases hn0
    | some o => exact ⟨o, rfl⟩
  have kd : ∀ (s : S) (n : Nat) (o : Lp S (A ⊕ R)), loopN step (n + 1) s = some b0 → step s = some o → (∀ e, o = .done (.inl e) → k e = some x) ∧ (∀ r, o = .done (.inr r) → j r = some x) := by
    intro s n o hJ ho
    have hdone : ∀ b, o = .done b → b = b0 := by
      rintro b rfl
      simp only [loopN, ho] at hJ
      injection hJ
    exact ⟨fun e he => hk e (hdone _ he).symm, fun r hr => hj r (hdone _ hr).symm⟩
  refine wp_scope_jumps l (fun a' w' => ∃ x, Inv x a' w') (fun a' w' => Classical.choose (hmin a' w')) hf ?_ fun a1 w1 hI => ?_
  · rw [← e1]
    refine first o0 ho0 (kd _ _ _ hn0 ho0).1 (kd _ _ _ hn0 ho0).2 E1 a _ e2 e3 hd fun e E2 a2 t2 h2 hk2 X2 H2 F2 hd2 => ?_
    rcases behind s0 n0 o0 hn0 ho0 e E2 a2 t2 h2 hk2 (e4.trans X2) H2 F2 hd2 with ⟨s', _, rfl, hI2⟩ | ⟨hne, hq⟩
    · exact ⟨rfl, ⟨_, hI2⟩⟩
    · cases e with
      | normal => exact hq
      | exit id => exact hq
      | ret => exact hq
      | goto l' => exact absurd (by rw [hk2.1]) hne
  · obtain ⟨⟨⟨s, n⟩, ⟨hJ, hd1, E1, rfl, H1, F1, X1⟩, hm1⟩, hm2⟩ := Classical.choose_spec (hmin a1 w1) hI
    cases n with
    | zero => cases hJ
    | succ n =>
    simp only at hJ hm1 H1 F1 X1
    cases ho : step s with
    | none => simp only [loopN, ho] at hJ; cases hJ
    | some o =>
    refine round s o ho (kd _ _ _ hJ ho).1 (kd _ _ _ hJ ho).2 E1 a1 _ H1 F1 hd1 fun e E2 a2 t2 h2 hk2 X2 H2 F2 hd2 => ?_
    rcases behind s n o hJ ho e E2 a2 t2 h2 hk2 (X1.trans X2) H2 F2 hd2 with ⟨s', _, rfl, hI2⟩ | ⟨hne, hq⟩
    · refine ⟨rfl, ⟨_, hI2⟩, ?_⟩
      have h1 := (Classical.choose_spec (hmin a2 E2.w) ⟨_, hI2⟩).2 _ hI2
      show Classical.choose (hmin a2 E2.w) < Classical.choose (hmin a1 E1.w)
      simp only at h1
      omega
    · cases e with
      | normal => exact hq
      | exit id => exact hq
      | ret => exact hq
      | goto l' => exact absurd (by rw [hk2.1]) hne
/-- A loop of at most n rounds, each told. -/
def RndM (P : Program) (c : Code) (K : Kt) : Nat → List AV → List ABlk → Prop
  | 0, _, _ => False
  | n + 1, t, h => Mean P c (kLp (RndM P c K n) K) t h
theorem rndM {c : Code} {K : Kt} {n : Nat} {t : List AV} (hm : Mean P c (kLp (RndM P c K n) K) t h) : RndM P c K (n + 1) t h := hm
theorem loop_roundsM (n : Nat) {c : Code} {K : Kt} {t : List AV} (hr : RndM P c K n t h) : Mean P (.loop c) K t h := by
  intro E a Q H F hd hQ
  refine wp_loop_rounds n ?_
  induction n generalizing t h E a with
  | zero => exact hr.elim
  | succ n ih =>
    rw [rounds_succ]
    refine hr E a _ H F hd fun e E2 a2 t2 h2 hk X2 H2 F2 hd2 => ?_
    cases e with
    | normal => exact ih hk E2 a2 H2 F2 hd2 fun e E3 a3 t3 h3 hk3 X3 H3 F3 hd3 => hQ e E3 a3 t3 h3 hk3 (X2.trans X3) H3 F3 hd3
    | exit id => exact hQ (.exit id) E2 a2 t2 h2 hk X2 H2 F2 hd2
    | ret => exact hQ .ret E2 a2 t2 h2 hk X2 H2 F2 hd2
    | goto l => exact hQ (.goto l) E2 a2 t2 h2 hk X2 H2 F2 hd2
/-- Two ways meet: what comes behind is told once. -/
def kJ (n : Nat) {α : Type} (T : α → List AV) (Hp : α → List ABlk) (J : α → Prop) (K : Kt) : Kt
  | .normal, t, h => ∃ x, J x ∧ SubF n t h (T x) (Hp x)
  | .exit id, t, h => K (.exit id) t h
  | .ret, t, h => K .ret t h
  | .goto l, t, h => K (.goto l) t h
theorem kJ_normal {n : Nat} {α : Type} {T : α → List AV} {Hp : α → List ABlk} {J : α → Prop} {K : Kt} {t : List AV} : kJ n T Hp J K .normal t h = ∃ x, J x ∧ SubF n t h (T x) (Hp x) := rfl
theorem kJ_exit {n id : Nat} {α : Type} {T : α → List AV} {Hp : α → List ABlk} {J : α → Prop} {K : Kt} {t : List AV} : kJ n T Hp J K (.exit id) t h = K (.exit id) t h := rfl
theorem kJ_ret {n : Nat} {α : Type} {T : α → List AV} {Hp : α → List ABlk} {J : α → Prop} {K : Kt} {t : List AV} : kJ n T Hp J K .ret t h = K .ret t h := rfl
theorem join_seq {α : Type} {a : Code} {K : Kt} {t : List AV} (T : α → List AV) (Hp : α → List ABlk) (J : α → Prop)
    (hm : Mean P a (kJ h.length T Hp J K) t h) (hrest : ∀ x, J x → K .normal (T x) (Hp x)) : Mean P a K t h := by
  intro E ac Q H F hd hQ
  refine hm E ac _ H F hd fun e E' a' t' h' hk X H' F' hd' => ?_
  cases e with
  | normal =>
    obtain ⟨x, hJ, hs⟩ := hk
    obtain ⟨E2, e1, e2, e3, e4⟩ := cut_mean (c := a) (K := K) rfl H hs H' F' X
    rw [← e1]
    exact hQ .normal E2 a' _ _ (hrest x hJ) e4 e2 e3 hd'
  | exit id => exact hQ (.exit id) E' a' t' h' hk X H' F' hd'
  | ret => exact hQ .ret E' a' t' h' hk X H' F' hd'
  | goto l => exact hQ (.goto l) E' a' t' h' hk X H' F' hd'
end Go.Am
