/-
  The abstract machine, part 18: a scope in which the run jumps back to one label.
-/
import Derived.Test.YtpnhehcncljhpaaAm17
import Derived.ScopeJumps
namespace Go.Am
set_option linter.unusedVariables false
variable {P : Program} {h : List ABlk}

def kSc (l : Nat) (R : List AV → List ABlk → Prop) (K : Kt) : Kt
  | .normal, t, h => K .normal t h
  | .exit id, t, h => K (.exit id) t h
  | .ret, t, h => K .ret t h
  | .goto l', t, h => l' = l ∧ R t h
theorem s_normal {l : Nat} {R : List AV → List ABlk → Prop} {K : Kt} {t : List AV} : kSc l R K .normal t h = K .normal t h := rfl
theorem s_exit {l id : Nat} {R : List AV → List ABlk → Prop} {K : Kt} {t : List AV} : kSc l R K (.exit id) t h = K (.exit id) t h := rfl
theorem s_ret {l : Nat} {R : List AV → List ABlk → Prop} {K : Kt} {t : List AV} : kSc l R K .ret t h = K .ret t h := rfl
theorem s_goto {l l' : Nat} {R : List AV → List ABlk → Prop} {K : Kt} {t : List AV} : kSc l R K (.goto l') t h = (l' = l ∧ R t h) := rfl
/-- The first jump. -/
def Back0 {α : Type} (T : α → List AV) (Hp : α → List ABlk) (J : α → Prop) (n : Nat) (t : List AV) (h : List ABlk) : Prop :=
  ∃ x', J x' ∧ Cov (T x') t ∧ (∃ g, h = Hp x' ++ g) ∧ (Hp x').length = n ∧ nrL n (T x') ∧ nrH n (Hp x')
theorem scope_rule {α : Type} {sh : TypeId → Option (List Leaf)} {ct : Ct} (S : ShOk P sh) (C : CtOk P ct) (T : α → List AV) (Hp : α → List ABlk) (J : α → Prop) (μ : α → Nat) (l : Nat)
    {c rest : Code} {K : Kt} {t : List AV} (hf : findLabel c l = some rest)
    (first : wpC P sh ct c (kSc l (Back0 T Hp J h.length) K) t h)
    (round : ∀ x, J x → wpC P sh ct rest (kSc l (Back T Hp J μ h.length x) K) (T x) (Hp x)) : Mean P (.scope c) K t h := by
  intro E a Q H F hd hQ
  let Inv (x : α) (a' : Act) (w' : World) : Prop := J x ∧ a'.defers = [] ∧ (Hp x).length = h.length ∧ ∃ E', E'.w = w' ∧ HR E' (Hp x) ∧ FR E' (T x) a'.tmps ∧ Ext E h E' (Hp x)
  have hmin : ∀ a' w', ∃ m : Nat, (∃ x, Inv x a' w') → (∃ x, Inv x a' w' ∧ μ x = m) ∧ ∀ x, Inv x a' w' → m ≤ μ x := by
    intro a' w'
    by_cases hx : ∃ x, Inv x a' w'
    · obtain ⟨x, hx⟩ := hx
      obtain ⟨m, m1, m2⟩ := exists_min (p := fun m => ∃ x, Inv x a' w' ∧ μ x = m) ⟨μ x, x, hx, rfl⟩
      exact ⟨m, fun _ => ⟨m1, fun y hy => m2 _ ⟨y, hy, rfl⟩⟩⟩
    · exact ⟨0, fun h => absurd h hx⟩
  refine wp_scope_jumps l (fun a' w' => ∃ x, Inv x a' w') (fun a' w' => Classical.choose (hmin a' w')) hf ?_ fun a1 w1 hI => ?_
  · refine wpC_sound S C c _ _ _ first E a _ H F hd fun e E2 a2 t2 h2 hk X2 H2 F2 hd2 => ?_
    cases e with
    | normal => exact hQ .normal E2 a2 t2 h2 hk X2 H2 F2 hd2
    | exit id => exact hQ (.exit id) E2 a2 t2 h2 hk X2 H2 F2 hd2
    | ret => exact hQ .ret E2 a2 t2 h2 hk X2 H2 F2 hd2
    | goto l' =>
      obtain ⟨rfl, x', hJ', hcov, ⟨g, rfl⟩, hl, hnT, hnH⟩ := hk
      rw [← hl] at hnT hnH
      exact ⟨rfl, x', hJ', hd2, hl, E2.cut (Hp x').length, rfl, H2.cut hnH, FR_cut (FR_cov hcov F2) hnT, Ext.cut H X2 (by omega)⟩
  · obtain ⟨⟨x, ⟨hJ, hd1, hl1, E1, rfl, H1, F1, X1⟩, hm1⟩, hm2⟩ := Classical.choose_spec (hmin a1 w1) hI
    refine wpC_sound S C rest _ _ _ (round x hJ) E1 a1 _ H1 F1 hd1 fun e E2 a2 t2 h2 hk X2 H2 F2 hd2 => ?_
    cases e with
    | normal => exact hQ .normal E2 a2 t2 h2 hk (X1.trans X2) H2 F2 hd2
    | exit id => exact hQ (.exit id) E2 a2 t2 h2 hk (X1.trans X2) H2 F2 hd2
    | ret => exact hQ .ret E2 a2 t2 h2 hk (X1.trans X2) H2 F2 hd2
    | goto l' =>
      obtain ⟨rfl, x', hJ', hμ, hcov, ⟨g, rfl⟩, hl, hnT, hnH⟩ := hk
      rw [← hl] at hnT hnH
      have hI2 : Inv x' a2 E2.w := ⟨hJ', hd2, hl, E2.cut (Hp x').length, rfl, H2.cut hnH, FR_cut (FR_cov hcov F2) hnT, X1.trans (Ext.cut H1 X2 (by omega))⟩
      refine ⟨rfl, ⟨x', hI2⟩, ?_⟩
      have h1 := (Classical.choose_spec (hmin a2 E2.w) ⟨x', hI2⟩).2 x' hI2
      show Classical.choose (hmin a2 E2.w) < Classical.choose (hmin a1 E1.w)
      omega
end Go.Am
